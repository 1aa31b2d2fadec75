/-
  Joined texts: Sum64 Fld Fw Fa Fs Fl Fm Mw Ml Fi Fe Fq Byt Fb Pwr Fp Fv Rdp Conv Fr Rb Owz Dig Rl Dgn Rm Rp Tml Rt Fold Rdv.
-/
import Derived.Deep.DeepCutAuto
import Derived.Test.YtdgheahbafnboaaDoorProg
import Derived.BigQuiet
import Derived.Deep.QuietTactic
import Derived.IntWalk
import Derived.Shelf.Bits.Mul64
import Derived.Shelf.Spec.BitsCarry
import Derived.Stop.BytesEq
import Derived.Laws.BytesArg
import Derived.Laws.IdiomStrings
import Derived.Laws.MakeOwn
import Derived.Laws.OwnMore
import Derived.Test.YtdgheahbafnboaaDoorJ1
/-
  Walk: sha's sum, words of 64 bits.
-/
namespace Go.Proofs.YtdgheahbafnboaaDoor.Sh
set_option linter.unusedSimpArgs false
set_option linter.unusedVariables false
open Go.RowKit
theorem u8_zero:∃ i,Tryd.prog.info? 5=some i∧i.zero=some (.int .u8 0):=by
 obtain ⟨i,hi,h0,_,_⟩:=info_parts (show (Tryd.prog.info? 5).map (fun i=>(i.zero,i.size,i.bytes))=some (some (.int .u8 0),1,1) by kernel_rfl);exact ⟨i,hi,h0⟩
theorem prep64_eq (data:List UInt8):prepS F64 data=oneZ data (zeroN F64 data.length)++List.replicate (moreN F64 data.length) 0:=by simp [prepS,oneZ]
theorem prep64_le {data:List UInt8} (h:data.length≤1000):(prepS F64 data).length≤3000:=by
 rw [prep64_eq,List.length_append,oneZ_length,List.length_replicate];have:zeroN F64 data.length<128:=Nat.mod_lt _ (by decide);have:moreN F64 data.length≤128:=by unfold moreN; split <;> simp [F64]
 omega
structure SumSt64 (w0:World) (gf:Nat) (xs:List UInt8) (v:Value) (u:World):Prop where
 bel:Below gf w0 u
 form:Blk u gf 98 f64C
 own:OwnX u (gf+1) 5 1 v xs.length (bytesV xs)
theorem SumSt64.grow {w0 u u':World} {gf:Nat} {xs ys:List UInt8} {v v':Value} (h:SumSt64 w0 gf xs v u) (hg:u.grownBy u' v.ownBlock) (ho:OwnX u' (gf+1) 5 1 v' ys.length (bytesV ys)):SumSt64 w0 gf ys v' u' :=
 ⟨h.bel.grown hg (by have:=h.form.lt; omega) (fun k hk=>by have:=(h.own.lt k hk).1; omega),h.form.grown hg (fun e=>by have:=(h.own.lt gf e.symm).1; omega),ho⟩
theorem zero64_ne (n k:Nat) (h:k<zeroN F64 n):((((n+1+k:Nat):Int)%128) != 120)=true:=by
 simp only [zeroN,F64] at h;rw [bne_iff_ne];omega
theorem zero64_eq (n:Nat):((((n+1+zeroN F64 n:Nat):Int)%128) != 120)=false:=by
 have h:zeroN F64 n=(2*64 - 8+2*64 - (n+1)%(2*64))%(2*64):=rfl;rw [bne_eq_false_iff_eq];omega
theorem pad64_blocks (data:List UInt8):(padS F64 data).length%128=0:=by
 have hz:zeroN F64 data.length=(2*64 - 8+2*64 - (data.length+1)%(2*64))%(2*64):=rfl
 have hm:moreN F64 data.length=0∨moreN F64 data.length=128:=by
  unfold moreN
  split
  ·exact .inr rfl
  ·exact .inl rfl
 simp only [padS,List.length_append,List.length_replicate,List.length_singleton,be8_length];omega
structure SumT64 (w0:World) (gf gs:Nat) (A:Option Addr) (xs:List UInt8) (cs:Array Value) (u:World):Prop where
 bel:Below gf w0 u
 form:Blk u gf 98 f64C
 rd:Rd u gs A (bytesV xs)
 s:Blk u gs 110 cs
 lg:gf<gs
theorem SumT64.next {w0 u u':World} {gf gs:Nat} {A:Option Addr} {xs:List UInt8} {cs:Array Value} (h:SumT64 w0 gf gs A xs cs u) (hb:Below u.heap.size u u'):SumT64 w0 gf gs A xs cs u' :=
 ⟨h.bel.trans (hb.mono (by have:=h.form.lt; omega)),h.form.below hb h.form.lt,h.rd.below (hb.mono (by have:=h.s.lt; omega)),h.s.below hb h.s.lt,h.lg⟩
theorem SumT64.drew {w0 u:World} {gf gs:Nat} {A:Option Addr} {xs:List UInt8} {cs:Array Value} (h:SumT64 w0 gf gs A xs cs u):SumT64 w0 gf gs A xs cs u.drew :=
 ⟨h.bel.drew,h.form,h.rd.below ((Below.refl _ _).drew),h.s,h.lg⟩
theorem SumT64.put {w0 u u':World} {gf gs:Nat} {A:Option Addr} {xs:List UInt8} {cs cs':Array Value} (h:SumT64 w0 gf gs A xs cs u) (hw:Wrote gs u u') (hb:Blk u' gs 110 cs'):SumT64 w0 gf gs A xs cs' u' :=
 ⟨hw.below h.bel (by have:=h.lg; omega) (by have:=h.form.lt; omega),hw.blk h.form (by have:=h.lg; omega),h.rd.below (hw.below (Below.refl _ _) (Nat.le_refl _) (by have:=h.s.lt; omega)),hb,h.lg⟩
structure SumO64 (w0:World) (gf gb:Nat) (xs:List UInt8) (v:Value) (u:World):Prop where
 bel:Below gf w0 u
 form:Blk u gf 98 f64C
 own:u.ownsRow gb 5 1 v xs.length (bytesV xs)
 lb:gb≤u.heap.size
theorem SumO64.grow {w0 u u':World} {gf gb:Nat} {xs ys:List UInt8} {v v':Value} (h:SumO64 w0 gf gb xs v u) (hlt:gf<gb) (hg:u.grownBy u' v.ownBlock) (ho:u'.ownsRow gb 5 1 v' ys.length (bytesV ys)):SumO64 w0 gf gb ys v' u' :=
 ⟨h.bel.grown hg (by have:=h.form.lt; omega) (fun k hk=>by have:=(own_lt h.own k hk).1; omega),h.form.grown hg (fun e=>by have:=(own_lt h.own gf e.symm).1; omega),ho,by have:=h.lb; have:=hg.size; omega⟩
def SumPost64 (data:List UInt8) (w:World) (e:Ending) (w':World):Prop :=
 ∃ A c,e=.returned (.slice A (8*8) c)∧w'.ownsRow w.heap.size 5 1 (.slice A (8*8) c) (8*8) (bytesV (digS F64 data))∧Below w.heap.size w w'
set_option maxRecDepth 100000 in
set_option maxHeartbeats 4000000 in
theorem sum64_any (data:List UInt8) (A:Option Addr) (c B:Nat) (w:World) (hr:Rd w B A (bytesV data)) (hB:B≤w.heap.size) (hl:data.length≤1000) (hc:data.length≤c) (hcm:c≤9223372036854775807) (hG:TabG w) :
  Calls Tryd.prog 74 #[.agg f64C,.slice A data.length c] w (SumPost64 data w):=by
 obtain ⟨W0,hW0⟩:∃ W0,W0=w.alloc (.cells f64C 98):=⟨_,rfl⟩;have hb0:Below w.heap.size w W0:=by rw [hW0]; exact below_new _ _
 have hf0:Blk W0 w.heap.size 98 f64C:=by rw [hW0]; exact Blk.new _ _ _
 have hs0:W0.heap.size=w.heap.size+1:=by rw [hW0]; simp
 have c0:=hf0.cell 0;simp [f64C] at c0;rw [hW0] at c0;have HB0:=zY hb0;have HF0:=zY hf0;have HS0:=zY hs0;have HR:=zY (hr.mono hB);have HW:=zY hW0;have HG:=zY hG;have hl':(data.length:Int)≤1000:=by omega
 clear hb0 hf0 hs0 hr hW0 hG;go_enter Tryd.func74,Tryd.ntmps74;go_wp2
 go_quiet (fail)
 have hb1:Below w.heap.size w ((w.alloc (.cells f64C 98)).drewN nq):=below_drewN' (below_new _ _) nq;have hf1:Blk ((w.alloc (.cells f64C 98)).drewN nq) w.heap.size 98 f64C:=Blk.new _ _ _;have hz1:((w.alloc (.cells f64C 98)).drewN nq).heap.size=w.heap.size+1:=by simp
 generalize (w.alloc (.cells f64C 98)).drewN nq=W1 at *;have hr1:=HR.out.below hb1;generalize hgf:w.heap.size=gf at *;have HGF:=zY hgf
 have hst0:SumSt64 w gf [] (.slice (some ⟨W1.heap.size,0,none⟩) 0 0) (W1.alloc (.cells #[] 5)) :=
  ⟨hb1.alloc (by omega) _,hf1.alloc _,own_empty W1 (by omega)⟩
 have hr2:Rd (W1.alloc (.cells #[] 5)) gf A (bytesV data):=hr1.below ((Below.refl _ _).alloc (by omega) _);have HST0:=zY hst0;have HR2:=zY hr2;have HZ1:=zY hz1;clear hb1 hf1 hz1 hr1 hst0 hr2 hgf c0 HB0 HF0 HS0 HW;have HOWN0:Hid (OwnX (W1.alloc (.cells #[] 5)) (gf+1) 5 1 (.slice (some ⟨W1.heap.size,0,none⟩) 0 0) 0 []):=zY HST0.out.own
 go_wp2_with (first
  | (refine wpList_append_rd (o:=⟨some 25,_,_,_,_,_⟩) sl_bytes rfl rfl HOWN0.out rfl rfl (by simp [bytesV]) HR2.out (by intro u hu; simp [bytesV,byteV] at hu; obtain ⟨_,_,rfl⟩:=hu; rfl) (by unfold maxLen; omega) (by omega) (by have:=HST0.out.form.lt; omega) ?_; intro A1 c1 w1 hown1 hg1 hn1; have HOWN1:Hid (OwnX w1 (gf+1) 5 1 (.slice A1 data.length c1) data.length (bytesV data)):=zY (by simpa using hown1); have H1281:Hid (gf+1≤w1.heap.size):=zY (by have:=hg1.size; have:=HZ1.out; simp at *; omega); have HG1:=zY hg1; clear hown1 hg1 hn1)
  | (refine wpList_append_one (o:=⟨some 28,_,_,_,_,_⟩) sl_bytes rfl rfl HOWN1.out rfl rfl rfl rfl (by unfold maxLen; omega) (by omega) H1281.out ?_; intro A2 c2 w2 hown2 hg2 hn2; have HOWN2:=zY hown2; have HG2:=zY hg2; clear hown2 hg2 hn2))
 have hst2:SumSt64 w gf (oneZ data 0) (.slice A2 (data.length+1) c2) w2 :=
  (HST0.out.grow (ys:=data) HG1.out HOWN1.out).grow HG2.out (by rw [oneZ_length,oneZ_zero,bytesV_snoc]; exact HOWN2.out)
 have hzl:zeroN F64 data.length<128:=Nat.mod_lt _ (by decide);clear HST0 HOWN0 HR2 HZ1 HOWN1 H1281 HG1 HOWN2 HG2
 go_loopw [7] (fun v wr=>∃ (k n:Nat) (A3:Option Addr) (c3:Nat),k≤zeroN F64 data.length∧n=data.length+1+k∧v=.slice A3 n c3∧SumSt64 w gf (oneZ data k) (.slice A3 n c3) wr) (fun v _=>data.length+1+zeroN F64 data.length - lenOf v)
 case atStart=>exact ⟨0,data.length+1,A2,c2,Nat.zero_le _,rfl,rfl,hst2⟩
 case round =>
  obtain ⟨k,n,A3,c3,hk,hn,rfl,hst⟩:=hrel;clear hst2;have hn2:n≤2000:=by omega
  by_cases hlt:k<zeroN F64 data.length
  ·have hne:(((n:Nat):Int)%128 != 120)=true:=by rw [hn]; exact zero64_ne _ _ hlt
   have ho:OwnX wr (gf+1) 5 1 (.slice A3 n c3) n (bytesV (oneZ data k)):=by have:=hst.own; rwa [oneZ_length,← hn] at this
   have HO:=zY ho;have HN:=zY hn;have HST:=zY hst;clear ho hn hst;go_wp2_with (refine wpList_append_one (o:=⟨some 38,_,_,_,_,_⟩) sl_bytes rfl rfl HO.out rfl rfl rfl rfl (by unfold maxLen; omega) (by omega) (by have:=HST.out.form.lt; omega) ?_; intro A4 c4 w4 hown4 hg4 hn4; have HOWN4:=zY hown4; have HG4:=zY hg4; clear hown4 hg4 hn4);exact ⟨⟨k+1,n+1,A4,c4,hlt,by rw [HN.out]; omega,rfl,HST.out.grow HG4.out (by rw [oneZ_length,oneZ_succ,bytesV_snoc,← Nat.add_assoc,← HN.out]; exact HOWN4.out)⟩,by simp only [lenOf]; have:=HN.out; omega⟩
  ·obtain rfl:k=zeroN F64 data.length:=by omega
   have hne:(((n:Nat):Int)%128 != 120)=false:=by rw [hn]; exact zero64_eq _
   have HN:=zY hn;have HST:=zY hst;clear hn hst;obtain ⟨pl,hpl⟩:∃ x,x=(prepS F64 data).length:=⟨_,rfl⟩;have hpl3:pl≤3000:=by rw [hpl]; exact prep64_le hl
   have hne2:((((n:Nat):Int)%128 != 120))=false:=hne
   go_upto_region 6 with (fail)
   go_cut [5,59] (fun s5 b wx=>∃ sz:Nat,sz=128∧s5=.int .i64 (sz:Int)∧b=.bool (decide (112≤data.length%128∧data.length%128<120))∧wx=wr)
   case first =>
    by_cases h1:112≤data.length%128
    ·have h1':(112:Int)≤(data.length:Int)%128:=by omega
     by_cases h2:data.length%128<120
     ·have h2':(data.length:Int)%128<120:=by omega
      go_wp2_with fail
      go_meet
      exact ⟨128,rfl,rfl,congrArg Value.bool (decide_eq_true ⟨h1,h2⟩).symm,rfl⟩
     ·have h2':¬ (data.length:Int)%128<120:=by omega
      go_wp2_with fail
      go_meet
      exact ⟨128,rfl,rfl,congrArg Value.bool (decide_eq_false (fun h=>h2 h.2)).symm,rfl⟩
    ·have h1':¬ (112:Int)≤(data.length:Int)%128:=by omega
     go_wp2_with fail
     go_meet
     exact ⟨128,rfl,rfl,congrArg Value.bool (decide_eq_false (fun h=>h1 h.1)).symm,rfl⟩
   case rest =>
   obtain ⟨sz,hsz,rfl,rfl,rfl⟩:=hcut;have H128:=zY hsz;clear hsz;obtain ⟨bb,hbb⟩:∃ bb,bb=decide (112≤data.length%128∧data.length%128<120):=⟨_,rfl⟩;rw [← hbb];have H64:=zY hbb;have HPL0:=zY hpl;clear hbb hpl
   go_upto_if 59 with (fail)
   go_cut [7] (fun v wx=>∃ A4 c4,v=.slice A4 pl c4∧SumSt64 w gf (prepS F64 data) (.slice A4 pl c4) wx)
   case first =>
    by_cases hbt:bb=true
    ·subst hbt;have hmore:moreN F64 data.length=128:=if_pos (show _∧_∧_ from ⟨by decide,(of_decide_eq_true H64.out.symm).1,(of_decide_eq_true H64.out.symm).2⟩);have HMORE:=zY hmore;clear hmore;have HO:Hid (OwnX wc (gf+1) 5 1 (.slice A3 n c3) n (bytesV (oneZ data (zeroN F64 data.length)))):=zY (by have:=HST.out.own; rwa [oneZ_length,← HN.out] at this);go_wp2_with (refine wpList_append_zeros (m:=sz) sl_bytes u8_zero Tryd.underlying3 rfl rfl HO.out rfl rfl (by have:=HN.out; omega) (by rw [H128.out]; decide) (by have:=H128.out; omega) (by have:=HST.out.form.lt; omega) ?_; intro A4 c4 w4 hown4 hg4 hn4; have HOWN4:=zY hown4; have HG4:=zY hg4; clear hown4 hg4 hn4)
     go_meet
     have hpe:pl=n+sz:=by rw [HPL0.out,prep64_eq,List.length_append,oneZ_length,List.length_replicate,HMORE.out,H128.out,HN.out]
     refine ⟨A4,c4,by rw [hpe],HST.out.grow HG4.out ?_⟩;rw [← HPL0.out,hpe,prep64_eq,HMORE.out,bytesV_append,← H128.out];have h:=HOWN4.out
     rwa [show List.replicate sz (Value.int .u8 0)=bytesV (List.replicate sz 0) from by simp [bytesV,byteV]] at h
    ·have hbf:bb=false:=by simpa using hbt
     subst hbf;have hmore:moreN F64 data.length=0:=if_neg (fun h=>of_decide_eq_false H64.out.symm ⟨h.2.1,h.2.2⟩);have HMORE:=zY hmore;clear hmore hbt;go_wp2_with fail
     go_meet
     have hpe:pl=n:=by rw [HPL0.out,prep64_eq,List.length_append,oneZ_length,List.length_replicate,HMORE.out,HN.out]; rfl
     refine ⟨A3,c3,by rw [hpe],?_⟩;have h:=HST.out;have e:prepS F64 data=oneZ data (zeroN F64 data.length):=by rw [prep64_eq,HMORE.out]; simp
     rw [e,hpe];exact h
   case rest =>
   obtain ⟨A3,c3,rfl,hst3⟩:=hcut;obtain rfl:sz=128:=H128.out;rw [show ((128:Nat):Int)=128 from rfl];clear HST;obtain ⟨wr,rfl⟩:∃ x,x=wc:=⟨_,rfl⟩
   have hst3':SumSt64 w gf (prepS F64 data++be8 (data.length*8) 0) (.slice A3 (pl+0) c3) wr:=by
    simp only [be8,List.append_nil];exact hst3
   clear hst3;obtain ⟨n,hn3⟩:∃ n,n=pl+0:=⟨_,rfl⟩;rw [show pl=n from hn3.symm];rw [← hn3] at hst3';have HST3:=zY hst3';have HN30:=zY hn3;clear hst3' hn3;go_wp2_with fail;have hst3:=HST3.out;have hn3:=HN30.out;have hpl:pl=(prepS F64 data).length:=HPL0.out;have hn:True:=trivial;have hn2:True:=trivial;have HPL:=zY hpl;have HN3:=zY hn3;clear hpl hn3 hn2 hn;obtain ⟨wo,rfl⟩:∃ wo:World,wo=wr:=⟨_,rfl⟩
   go_loopw [7,8] (fun v i wr=>∃ (k m:Nat) (A4:Option Addr) (c4:Nat),k≤8∧m=pl+k∧v=.slice A4 m c4∧i=.int .i64 (56 - 8*(k:Int))∧SumSt64 w gf (prepS F64 data++be8 (data.length*8) k) (.slice A4 m c4) wr) (fun _ i _=>(intOf i+8).toNat)
   case atStart=>exact ⟨0,n,A3,c3,by omega,HN3.out,rfl,rfl,hst3⟩
   case round =>
    obtain ⟨k,m,A4,c4,hk8,hm,rfl,rfl,hs4⟩:=hrel;clear hst3
    by_cases hlt8:k<8
    ·obtain ⟨sh,hsh⟩:∃ sh:Nat,(56 - 8*(k:Int))=(sh:Int):=⟨56 - 8*k,by omega⟩;rw [hsh];have hsh2:sh=56 - 8*k:=by omega
     have hsl:(sh:Int)<64:=by omega
     have HSH:=zY hsh2;have HM:=zY hm;have HS4:=zY hs4
     have ho4:OwnX wr (gf+1) 5 1 (.slice A4 m c4) m (bytesV (prepS F64 data++be8 (data.length*8) k)):=by
      have:=hs4.own
      rwa [List.length_append,be8_length,← HPL.out,← hm] at this
     have HO4:=zY ho4;have hm3:m≤4000:=by omega
     clear hsh hsh2 hm hs4 ho4;go_wp2_with (refine wpList_append_one (o:=⟨some 76,_,_,_,_,_⟩) sl_bytes rfl rfl HO4.out rfl rfl rfl rfl (by unfold maxLen; omega) (by omega) (by have:=HS4.out.form.lt; omega) ?_; intro A5 c5 w5 hown5 hg5 hn5; have HOWN5:=zY hown5; have HG5:=zY hg5; clear hown5 hg5 hn5)
     have hfin:SumSt64 w gf (prepS F64 data++be8 (data.length*8) (k+1)) (.slice A5 (m+1) c5) w5:=by
      refine HS4.out.grow HG5.out ?_;have h:=HOWN5.out;rw [be8_val _ _ _ HSH.out,← bytesV_snoc,List.append_assoc] at h;rw [List.length_append,be8_length,← HPL.out,show pl+(k+1)=m+1 by rw [HM.out]; omega];exact h
     exact ⟨⟨k+1,m+1,A5,c5,hlt8,by rw [HM.out]; omega,rfl,by have:=HSH.out; exact congrArg (Value.int .i64) (by omega),hfin⟩,by have:=HSH.out; simp [intOf]; omega⟩
    ·obtain rfl:k=8:=by omega
     have HM:=zY hm;have HS4:=zY hs4;clear hm hs4;go_wp2_with fail;obtain ⟨A128,hA128⟩:∃ x,x=padS F64 data:=⟨_,rfl⟩;have hAll:A128=prepS F64 data++be8 (data.length*8) 8:=by rw [hA128]; rfl
     have hal:A128.length=m:=by rw [hAll,List.length_append,be8_length,← HPL.out,HM.out]
     obtain ⟨gs,hgs⟩:∃ x,x=wr.heap.size:=⟨_,rfl⟩
     have hst5:SumT64 w gf gs A4 A128 (setC .u64 (startS F64) 0) (wr.alloc (.cells (s8V .u64 ⟨0,0,0,0,0,0,0,0⟩) 110)) :=
      ⟨HS4.out.bel.alloc (by have:=HS4.out.form.lt; omega) _,HS4.out.form.alloc _,by
       have ho:OwnX wr (gf+1) 5 1 (.slice A4 m c4) m (bytesV A128):=by have:=HS4.out.own; rwa [← hAll,hal] at this
       have h:=Rd.of_own ho (Nat.le_refl _);rw [← hgs] at h;exact h.below ((Below.refl _ _).alloc (by omega) _),by rw [hgs]; exact Blk.new _ _ _,by have:=HS4.out.form.lt; omega⟩
     rw [← hgs];have HOWN4:Hid (OwnX wr (gf+1) 5 1 (.slice A4 m c4) m (bytesV A128)):=zY (by have:=HS4.out.own; rwa [← hAll,hal] at this);have HA128:=zY hA128;have HAL:=zY hal;have HGS:=zY hgs;have HS5:=zY hst5;clear hA128 hAll hal hgs hst5;refine calls_then (first_any _) ?_;rintro e w6 ⟨rfl,hb6⟩;have hst6:=HS5.out.next hb6;clear HS5 hb6;go_wp2_with fail;have hu42:=Tryd.underlying110;have hst6':=hst6;clear hst6
     go_loopw [78] (fun i wr=>∃ k:Nat,k≤8∧i=.int .i64 k∧SumT64 w gf gs A4 A128 (setC .u64 (startS F64) k) wr) (fun i _=>8 - (intOf i).toNat)
     case atStart=>exact ⟨0,by omega,rfl,hst6'⟩
     case round =>
      obtain ⟨k,hk,rfl,hsk⟩:=hrel;clear hst6'
      by_cases hk8:k<8
      ·have hk8':(k:Int)<8:=by omega
       obtain ⟨x,hx⟩:∃ x,x=firstN.getD k 0:=⟨_,rfl⟩;obtain ⟨y,hy⟩:∃ y,y=(s8L (startS F64)).getD k 0:=⟨_,rfl⟩;have hxl:x<18446744073709551616:=by rw [hx]; exact firstN_lt k
       have hxl':(x:Int)<18446744073709551616:=by omega
       have hyx:y=x:=by rw [hy,hx,startS_at _ _ hk8]; show _/1%18446744073709551616=_; have:=firstN_lt k; omega
       have hix:∀ u:World,(Instr.index 110 (.agg firstV) (.int .i64 (k:Int))).run Tryd.prog u=.ok (.int .u64 (x:Int)) u:=fun u =>
        run_index_array (n:=8) (e:=36) hu42 hk8 (by rw [hx]; exact firstV_at k hk8) (by kernel_rfl) (by kernel_rfl) ⟨_,Tryd.underlying36⟩
       have f0:=hsk.form.cell 0;simp [f64C] at f0;have d0:=hsk.s.cell k;rw [setC_at _ _ _ hk8] at d0;have g0:=hsk.s.free k
       have hfin:SumT64 w gf gs A4 A128 (setC .u64 (startS F64) (k+1)) (wr.setCell ⟨gs,k,none⟩ (.int .u64 (y:Int))) :=
        hsk.put (wrote_setCell_at _ _ _ _) (by have:=blk_setCell_at (i:=k) hsk.s (.int .u64 (y:Int)); rwa [hy,setC_set _ _ _ hk8,← hy] at this)
       have HFIN:=zY hfin;have HYX:=zY hyx;have HXL:=zY hxl;clear hfin hyx hxl hx hy hsk;go_wp2_with fail
       skip
       refine calls_then (cut64_any _ _ (by have:=HXL.out; omega)) ?_;rintro e w7 ⟨rfl,rfl⟩;rw [← HYX.out];go_wp2_with fail;exact ⟨⟨k+1,hk8,by go_num,HFIN.out⟩,by simp [intOf]; omega⟩
      ·have hge:¬ (k:Int)<8:=by omega
       obtain rfl:k=8:=by omega
       rw [setC_end] at hsk;obtain ⟨nb,hnb⟩:∃ nb,m=nb*128:=⟨m/128,by have:=pad64_blocks data; rw [← HA128.out,HAL.out] at this; omega⟩;have hm4:m≤4000:=by have:=HM.out; omega
       have hcap:m≤c4∧c4≤9223372036854775807:=by
        have ho:OwnX _ (gf+1) 5 1 (.slice A4 m c4) m (bytesV A128):=HOWN4.out;exact own_cap ho
       obtain ⟨hcap1,hcap2⟩:=hcap;have hst8:SumT64 w gf gs A4 A128 (s8V .u64 (runS F64 A128 0)) wr:=hsk;have HNB:=zY hnb;have HS8:=zY hst8;clear hnb hst8 hsk hu42;obtain ⟨wo3,rfl⟩:∃ wo3:World,wo3=wr:=⟨_,rfl⟩;go_wp2_with fail
       go_loopw [12] (fun i wr=>∃ j a:Nat,j≤nb∧a=j*128∧i=.int .i64 (a:Int)∧SumT64 w gf gs A4 A128 (s8V .u64 (runS F64 A128 j)) wr) (fun i _=>m - (intOf i).toNat)
       case atStart=>exact ⟨0,0,by omega,rfl,rfl,HS8.out⟩
       case round =>
        obtain ⟨j,a,hj,ha,rfl,hsj⟩:=hrel
        by_cases hjn:j<nb
        ·have ham:a+128≤m:=by rw [HNB.out,ha]; omega
         have hlt:a<m:=by omega
         have hle1:a+128≤c4:=by omega
         obtain ⟨ad,hAd,_,_⟩:=(hsj.rd).at_ (k:=a) (by rw [bytesV_length,HAL.out]; omega);subst hAd;obtain ⟨bk,hbk⟩:∃ x,x=(A128.drop a).take 128:=⟨_,rfl⟩;have hbl:bk.length=128:=by rw [hbk]; simp; rw [HAL.out]; omega
         have HRB:Hid (∀ u,SumT64 w gf gs (some ad) A128 (s8V .u64 (runS F64 A128 j)) u→Rd u gs (some (ad.add a)) (bytesV bk)):=zY fun u hu=>by
          rw [hbk,bytesV,List.map_take,List.map_drop]; exact rd_take (rd_drop hu.rd a) 128
         obtain ⟨sj,hsj2⟩:∃ x,x=runS F64 A128 j:=⟨_,rfl⟩;obtain ⟨sn,hsn⟩:∃ x,x=mixS F64 sj bk:=⟨_,rfl⟩;have hsl:sj.Lt (2^64):=by rw [hsj2]; exact runS_lt F64 A128 j
         have hs1:runS F64 A128 (j+1)=sn:=by rw [hsn,hsj2,hbk,ha]; rfl
         rw [← hsj2] at hsj;have HRB2:Hid (∀ u,SumT64 w gf gs (some ad) A128 (s8V .u64 sj) u→Rd u gs (some (ad.add a)) (bytesV bk)):=zY (by rw [hsj2]; exact HRB.out);have HBL:=zY hbl;have HSN:=zY hsn;have HSL:=zY hsl;have HS1:=zY hs1;have HA:=zY ha;clear HRB hbl hsn hsl hs1 hbk hsj2 ha;have HC0:=hsj.drew;clear hsj;have hu8:=Tryd.underlying110;have hu:=Tryd.underlying98;go_wp2_with fail;refine wp_region_det (fun u=>SumT64 w gf gs (some ad) A128 (s8V .u64 sj) u) (fun u=>SumT64 w gf gs (some ad) A128 (s8V .u64 sn) u) [(0,some 98),(1,some 99),(2,some 100),(3,some 101),(4,some 102),(5,some 103),(6,some 104),(7,some 105),(8,some 106),(9,none)] (by kernel_rfl) (by kernel_rfl) (by decide) (by kernel_rfl) (fun _=>rfl) HC0 ?_;apply DetL.next
         ·apply dP [];exact fun _=>rfl;rfl;rintro vals - w1 hC1 E hE;simp only [sP] at hE ⊢;refine wpList_get_box hC1.form rfl rfl rfl hu rfl form_size ?_;go_wp2_with fail;exact .mk (hE _ hC1)
         apply DetL.next
         ·apply dP [];exact fun _=>rfl;rfl;rintro vals ⟨-,-⟩ w1 hC1 E hE;simp only [sP] at hE ⊢;refine wpList_get_box hC1.s rfl rfl rfl hu8 rfl eight64_size ?_;go_wp2_with fail;exact .mk (hE _ hC1)
         apply DetL.next
         ·apply dP [];exact fun _=>rfl;rfl;intro vals vq w1 hC1 E hE;clear vq;simp only [sP] at hE ⊢;go_wp2;exact .mk (hE _ hC1)
         apply DetL.next
         ·apply dP [];exact fun _=>rfl;rfl;intro vals vq w1 hC1 E hE;clear vq;simp only [sP] at hE ⊢;go_wp2;exact .mk (hE _ hC1)
         apply DetL.next
         ·apply dP [];exact fun _=>rfl;rfl;intro vals vq w1 hC1 E hE;clear vq;simp only [sP] at hE ⊢;go_wp2;exact .mk (hE _ hC1)
         apply DetL.next
         ·apply dP [];exact fun _=>rfl;rfl;intro vals vq w1 hC1 E hE;clear vq;simp only [sP] at hE ⊢;go_wp2;exact .mk (hE _ hC1)
         apply DetL.next
         ·apply dP [(4,some 102),(5,some 103)];exact fun _=>rfl;rfl;intro vals vq w1 hC1 E hE;have f4:=vq.1.2;have f5:=vq.2;clear vq;simp only [sP,f4,f5] at hE ⊢;clear f4 f5;go_wp2;exact .mk (hE _ hC1)
         apply DetL.next
         ·apply dP [(2,some 100),(3,some 101),(6,some 104)];exact fun _=>rfl;rfl;intro vals vq w1 hC1 E hE;have f2:=vq.1.1.1.1.2;have f3:=vq.1.1.1.2;have f6:=vq.2;clear vq;simp only [sP,f2,f3,f6] at hE ⊢;clear f2 f3 f6;go_wp2;rw [show a+128 - a=128 by omega];exact .mk (hE _ hC1)
         apply DetL.next
         ·apply dP [(0,some 98),(1,some 99),(7,some 105)];exact fun _=>rfl;rfl;rintro vals ⟨⟨⟨⟨⟨⟨⟨⟨-,f0⟩,f1⟩,-⟩,-⟩,-⟩,-⟩,-⟩,f7⟩ w1 hC1 E hE;simp only [sP,f0,f1,f7] at hE ⊢;clear f0 f1 f7;go_wp2_with fail;have hmx:=mix64_any sj bk (some (ad.add a)) (c4 - a) gs w1 (HRB2.out _ hC1) (by have:=hC1.s.lt; omega) HBL.out (by rw [HBL.out]; omega) (by omega) HSL.out (HG.out.below hC1.bel (by rw [← HGF.out]; exact HG.out.size));rw [HBL.out] at hmx;refine calls_then hmx ?_;rintro e w2 ⟨rfl,hb2⟩;rw [← HSN.out];go_wp2_with fail;exact .mk (hE _ (hC1.next hb2))
         apply DetL.last (v:=undef)
         ·apply dP [(8,some 106),(8,some 106),(0,some 98),(1,some 99),(2,some 100),(3,some 101),(4,some 102),(5,some 103),(6,some 104),(7,some 105),(8,some 106)];exact fun _=>rfl;rfl;rintro vals ⟨⟨⟨⟨⟨⟨⟨⟨⟨-,f0⟩,f1⟩,f2⟩,f3⟩,f4⟩,f5⟩,f6⟩,f7⟩,f8⟩ w1 hC1 E hE;simp only [sP,f0,f1,f2,f3,f4,f5,f6,f7,f8] at hE ⊢;clear f0 f1 f2 f3 f4 f5 f6 f7 f8;refine wpList_put_box hC1.s rfl rfl rfl rfl eight64_size rfl (by simp [s8V,Value.oneCell']) ?_;intro w2 hb2 hw2;go_wp2_with fail;exact .mk (hE _ (hC1.put hw2 hb2))
         rintro vals ⟨⟨⟨⟨⟨⟨⟨⟨⟨⟨-,f0⟩,f1⟩,f2⟩,f3⟩,f4⟩,f5⟩,f6⟩,f7⟩,f8⟩,f9⟩ w1 hC1;simp only [sP,f0,f1,f2,f3,f4,f5,f6,f7,f8,f9];clear f0 f1 f2 f3 f4 f5 f6 f7 f8 f9;clear HC0;have hfin:SumT64 w gf gs (some ad) A128 (s8V .u64 (runS F64 A128 (j+1))) w1:=by rw [HS1.out]; exact hC1
         have HFIN:=zY hfin;clear hfin hC1;go_wp2_with fail;exact ⟨⟨j+1,a+128,hjn,by rw [HA.out]; omega,by go_num,HFIN.out⟩,by simp [intOf]; omega⟩
        ·obtain rfl:j=nb:=by omega
         have hge:¬ a<m:=by rw [HNB.out,ha]; omega
         have HA:=zY ha;obtain ⟨sv,hsv⟩:∃ x,x=runS F64 A128 j:=⟨_,rfl⟩;have hsl:sv.Lt (2^64):=by rw [hsv]; exact runS_lt F64 A128 j
         rw [← hsv] at hsj;have hu8:=Tryd.underlying110;have HSV:=zY hsv;have HSL:=zY hsl;clear ha hsv hsl;go_wp2_with (refine wpList_get_box (x:=.tmp 9) hsj.s rfl rfl rfl hu8 rfl eight64_size ?_);obtain ⟨g2,hg2⟩:∃ x,x=wr.heap.size:=⟨_,rfl⟩;have hso:SumO64 w gf (gf+1) [] (.slice none 0 0) wr:=⟨hsj.bel,hsj.form,World.ownsRow_nil _ _ _ _,by have:=hsj.form.lt; omega⟩;have HSO:=zY hso;clear hso hsj;obtain ⟨wo4,rfl⟩:∃ wo4:World,wo4=wr:=⟨_,rfl⟩
         go_loopw [13,108] (fun v i wr=>∃ (k q:Nat) (A5:Option Addr) (c5:Nat),k≤8∧q=k*8∧i=.int .i64 k∧v=.slice A5 q c5∧SumO64 w gf (gf+1) (outW 64 8 sv k) (.slice A5 q c5) wr) (fun _ i _=>8 - (intOf i).toNat)
         case atStart=>exact ⟨0,0,none,0,by omega,by omega,rfl,rfl,HSO.out⟩
         case round =>
          obtain ⟨k,q,A5,c5,hk,hq,rfl,rfl,hso⟩:=hrel
          by_cases hk8:k<8
          ·have hk8':(k:Int)<8:=by omega
           obtain ⟨x,hx⟩:∃ x,x=(s8L sv).getD k 0:=⟨_,rfl⟩;have hxl:x<2^64:=by rw [hx]; exact s8L_lt HSL.out (by decide) k
           have hxl':(x:Int)<18446744073709551616:=by omega
           have hix:∀ u:World,(Instr.index 110 (.agg (s8V .u64 sv)) (.int .i64 (k:Int))).run Tryd.prog u=.ok (.int .u64 (x:Int)) u:=fun u =>
            run_index_array (n:=8) (e:=36) hu8 hk8 (by rw [hx]; exact s8V_at .u64 sv k hk8) (by kernel_rfl) (by kernel_rfl) ⟨_,Tryd.underlying36⟩
           have f0:=hso.form.cell 0;simp [f64C] at f0;have hs6:SumO64 w gf (gf+1) (outW 64 8 sv k++wordB 64 x 0) (.slice A5 q c5) wr:=by simpa [wordB] using hso
           have HX:=zY hx;have HQ:=zY hq;have HS6:=zY hs6;have HU8:=zY hu8;have hq9:q≤64:=by omega
           clear hx hq hs6 hso hxl hu8;go_wp2_with fail;clear hix f0;obtain ⟨wo5,rfl⟩:∃ wo5:World,wo5=wr:=⟨_,rfl⟩
           go_loopw [13,16] (fun v i wr=>∃ (p r:Nat) (A6:Option Addr) (c6:Nat),p≤8∧r=q+p∧v=.slice A6 r c6∧i=.int .i64 (64 - 8 - 8*(p:Int))∧SumO64 w gf (gf+1) (outW 64 8 sv k++wordB 64 x p) (.slice A6 r c6) wr) (fun _ i _=>(intOf i+8).toNat)
           case atStart=>exact ⟨0,q,A5,c5,by omega,by omega,rfl,rfl,HS6.out⟩
           case round =>
            obtain ⟨p,r,A6,c6,hp,hr6,rfl,rfl,hs7⟩:=hrel
            by_cases hp8:p<8
            ·obtain ⟨sh,hsh⟩:∃ sh:Nat,(64 - 8 - 8*(p:Int))=(sh:Int):=⟨64 - 8 - 8*p,by omega⟩;rw [hsh];have hsh2:sh=64 - 8 - 8*p:=by omega
             have hsl:(sh:Int)<64:=by omega
             have HSH:=zY hsh2;have HR6:=zY hr6;have HS7:=zY hs7
             have ho7:wr.ownsRow (gf+1) 5 1 (.slice A6 r c6) r (bytesV (outW 64 8 sv k++wordB 64 x p)):=by
              have:=hs7.own
              rwa [List.length_append,wordB_length,outW_length _ _ _ _ (by omega),← HQ.out,← hr6] at this
             have HO7:=zY ho7;have hr9:r≤100:=by omega
             clear hsh hsh2 hr6 hs7 ho7;go_wp2_with (refine wpList_append_own1 sl_bytes rfl rfl HO7.out rfl rfl rfl rfl (by unfold maxLen; omega) (by omega) HS7.out.lb ?_; intro A8 c8 w8 hown8 hg8; have HOWN8:=zY hown8; have HG8:=zY hg8; clear hown8 hg8)
             have hfin:SumO64 w gf (gf+1) (outW 64 8 sv k++wordB 64 x (p+1)) (.slice A8 (r+1) c8) w8:=by
              refine HS7.out.grow (by omega) HG8.out ?_;have h:=HOWN8.out;rw [wordB_val _ _ _ _ HSH.out,← bytesV_snoc,List.append_assoc] at h;rw [List.length_append,wordB_length,outW_length _ _ _ _ (by omega),← HQ.out,show q+(p+1)=r+1 by rw [HR6.out]; omega];exact h
             exact ⟨⟨p+1,r+1,A8,c8,hp8,by rw [HR6.out]; omega,rfl,by have:=HSH.out; exact congrArg (Value.int .i64) (by omega),hfin⟩,by have:=HSH.out; simp [intOf]; omega⟩
            ·obtain rfl:p=8:=by omega
             have hfin:SumO64 w gf (gf+1) (outW 64 8 sv (k+1)) (.slice A6 r c6) wr:=by rw [outW_succ _ _ _ _ hk8,← HX.out]; exact hs7
             have HFIN:=zY hfin;have HR6:=zY hr6;clear hfin hr6 hs7;go_wp2_with fail;exact ⟨⟨k+1,r,A6,c6,hk8,by rw [HR6.out,HQ.out]; omega,by go_num,rfl,HFIN.out⟩,by simp [intOf]; omega⟩
          ·have hge:¬ (k:Int)<8:=by omega
           obtain rfl:k=8:=by omega
           have HSO:=zY hso;obtain rfl:q=8*8:=hq;clear hso;go_wp2_with fail;go_ret;refine ⟨A5,c5,rfl,?_,by rw [HGF.out]; exact HSO.out.bel⟩;have h:=HSO.out.own;rw [outW_length _ _ _ _ (by omega)] at h
           have hd:outW 64 8 sv 8=digS F64 data:=by
            rw [HSV.out,digS,← HA128.out,HAL.out,HNB.out];show _=(s8L (runS F64 A128 (j*128/128))).flatMap _;rw [Nat.mul_div_cancel _ (by decide)];rfl
           rw [← hd];exact own_mono h (by rw [HGF.out]; omega)
end Go.Proofs.YtdgheahbafnboaaDoor.Sh
/-
  Plain: numbers modulo 2^255 - 19 as five limbs of 51 bits.
-/
namespace Go.Proofs.YtdgheahbafnboaaDoor
set_option linter.unusedSimpArgs false
set_option linter.unusedVariables false
open Go.RowKit
structure E5 where
 a:Nat
 b:Nat
 c:Nat
 d:Nat
 e:Nat
def PN:Nat:=57896044618658097711785492504343953926634992332820282019728792003956564819949
def E5.val (x:E5):Nat:=x.a+x.b*2251799813685248+x.c*5070602400912917605986812821504+x.d*11417981541647679048466287755595961091061972992+x.e*25711008708143844408671393477458601640355247900524685364822016
structure E5.Lt (x:E5) (m:Nat):Prop where
 a:x.a<m
 b:x.b<m
 c:x.c<m
 d:x.d<m
 e:x.e<m
theorem E5.Lt.mono {x:E5} {m n:Nat} (h:x.Lt m) (hm:m≤n):x.Lt n:=⟨Nat.lt_of_lt_of_le h.a hm,Nat.lt_of_lt_of_le h.b hm,Nat.lt_of_lt_of_le h.c hm,Nat.lt_of_lt_of_le h.d hm,Nat.lt_of_lt_of_le h.e hm⟩
def carryE (x:E5):E5:=⟨x.a%2251799813685248+x.e/2251799813685248*19,x.b%2251799813685248+x.a/2251799813685248,x.c%2251799813685248+x.b/2251799813685248,x.d%2251799813685248+x.c/2251799813685248,x.e%2251799813685248+x.d/2251799813685248⟩
theorem carry_val (x:E5):(carryE x).val+x.e/2251799813685248*PN=x.val:=by
 simp only [carryE,E5.val,PN];omega
theorem carry_mod (x:E5):(carryE x).val%PN=x.val%PN:=by
 rw [← carry_val x,Nat.add_mul_mod_self_right]
theorem carry_lt {x:E5} (h:x.Lt 18446744073709551616):(carryE x).Lt 2251799813947392:=by
 obtain ⟨h1,h2,h3,h4,h5⟩:=h
 constructor <;> simp only [carryE] <;> omega
theorem carry_lt2 {x:E5} (h:x.Lt 2251799813947392):(carryE x).a<2251799813685267∧(carryE x).b<2251799813685249∧(carryE x).c<2251799813685249∧(carryE x).d<2251799813685249∧(carryE x).e<2251799813685249:=by
 obtain ⟨h1,h2,h3,h4,h5⟩:=h;simp only [carryE];refine ⟨?_,?_,?_,?_,?_⟩ <;> omega
def overP (x:E5):Nat:=(x.e+(x.d+(x.c+(x.b+(x.a+19)/2251799813685248)/2251799813685248)/2251799813685248)/2251799813685248)/2251799813685248
def leastQ (x:E5) (q:Nat):E5 :=
 let a:=x.a+19*q
 let b:=x.b+a/2251799813685248
 let c:=x.c+b/2251799813685248
 let d:=x.d+c/2251799813685248
 let e:=x.e+d/2251799813685248
 ⟨a%2251799813685248,b%2251799813685248,c%2251799813685248,d%2251799813685248,e%2251799813685248⟩
def leastE (x:E5):E5:=leastQ (carryE (carryE x)) (overP (carryE (carryE x)))
theorem overP_eq (x:E5):overP x=(x.val+19)/57896044618658097711785492504343953926634992332820282019728792003956564819968:=by
 simp only [overP,E5.val];omega
theorem leastQ_lt (x:E5) (q:Nat):(leastQ x q).Lt 2251799813685248:=by
 constructor <;> exact Nat.mod_lt _ (by decide)
theorem leastQ_val (x:E5) (q:Nat):(leastQ x q).val=(x.val+19*q)%57896044618658097711785492504343953926634992332820282019728792003956564819968:=by
 simp only [leastQ,E5.val];omega
theorem least_lt (x:E5):(leastE x).Lt 2251799813685248:=leastQ_lt _ _
theorem least_val {x:E5} (h:x.Lt 18446744073709551616):(leastE x).val=x.val%PN:=by
 obtain ⟨h1,h2,h3,h4,h5⟩:=carry_lt2 (carry_lt h);have hm:(carryE (carryE x)).val%PN=x.val%PN:=by rw [carry_mod,carry_mod]
 rw [← hm,leastE,leastQ_val,overP_eq];generalize carryE (carryE x)=y at *
 have hv:y.val<2*PN:=by
  simp only [E5.val,PN];omega
 generalize y.val=v at *
 by_cases hp:v<PN
 ·have hq:(v+19)/57896044618658097711785492504343953926634992332820282019728792003956564819968=0:=Nat.div_eq_of_lt (by simp only [PN] at hp; omega);rw [hq,Nat.mod_eq_of_lt hp,Nat.mod_eq_of_lt (by simp only [PN] at hp; omega)];omega
 ·have hq:(v+19)/57896044618658097711785492504343953926634992332820282019728792003956564819968=1:=by simp only [PN] at hp hv; omega
  have e:v%PN=v - PN:=by rw [Nat.mod_eq_sub_mod (by omega),Nat.mod_eq_of_lt (by omega)]
  rw [hq,e];simp only [PN] at hp hv ⊢;omega
theorem least_inj {x y:E5} (hx:x.Lt 2251799813685248) (hy:y.Lt 2251799813685248) (h:x.val=y.val):x=y:=by
 obtain ⟨a1,b1,c1,d1,e1⟩:=x;obtain ⟨a2,b2,c2,d2,e2⟩:=y;obtain ⟨h1,h2,h3,h4,h5⟩:=hx;obtain ⟨k1,k2,k3,k4,k5⟩:=hy;simp only [E5.val] at *;have e0:a1=a2:=by omega
 subst e0;have e0:b1=b2:=by omega
 subst e0;have e0:c1=c2:=by omega
 subst e0;have e0:d1=d2:=by omega
 subst e0;have e0:e1=e2:=by omega
 subst e0;rfl
def addE (x y:E5):E5:=carryE ⟨x.a+y.a,x.b+y.b,x.c+y.c,x.d+y.d,x.e+y.e⟩
def subE (x y:E5):E5 :=
 let z:=carryE y
 carryE ⟨x.a+(4503599627370458 - z.a),x.b+(4503599627370494 - z.b),x.c+(4503599627370494 - z.c),x.d+(4503599627370494 - z.d),x.e+(4503599627370494 - z.e)⟩
abbrev E5.Ok (x:E5):Prop:=x.Lt 4503599627370496
theorem carry_ok {x:E5} (h:x.Lt 18446744073709551616):(carryE x).Ok:=(carry_lt h).mono (by decide)
theorem E5.Ok.big {x:E5} (h:x.Ok):x.Lt 18446744073709551616:=E5.Lt.mono h (by decide)
theorem add_ok {x y:E5} (hx:x.Ok) (hy:y.Ok):(addE x y).Ok:=by
 obtain ⟨h1,h2,h3,h4,h5⟩:=hx;obtain ⟨k1,k2,k3,k4,k5⟩:=hy;exact carry_ok ⟨by dsimp only; omega,by dsimp only; omega,by dsimp only; omega,by dsimp only; omega,by dsimp only; omega⟩
theorem add_val (x y:E5):(addE x y).val%PN=(x.val+y.val)%PN:=by
 rw [addE,carry_mod]
 congr 1
 simp only [E5.val];omega
theorem sub_ok {x y:E5} (hx:x.Ok) (hy:y.Ok):(subE x y).Ok:=by
 obtain ⟨h1,h2,h3,h4,h5⟩:=hx;exact carry_ok ⟨by dsimp only; omega,by dsimp only; omega,by dsimp only; omega,by dsimp only; omega,by dsimp only; omega⟩
theorem sub_val {x y:E5} (hy:y.Ok):((subE x y).val+y.val)%PN=x.val%PN:=by
 obtain ⟨h1,h2,h3,h4,h5⟩:=carry_lt hy.big;have hz:=carry_val y;have e:(subE x y).val%PN=(⟨x.a+(4503599627370458 - (carryE y).a),x.b+(4503599627370494 - (carryE y).b),x.c+(4503599627370494 - (carryE y).c),x.d+(4503599627370494 - (carryE y).d),x.e+(4503599627370494 - (carryE y).e)⟩:E5).val%PN:=carry_mod _;rw [Nat.add_mod,e,← Nat.add_mod,← hz];generalize carryE y=z at *;generalize y.e/2251799813685248=k at *
 have e2:(⟨x.a+(4503599627370458 - z.a),x.b+(4503599627370494 - z.b),x.c+(4503599627370494 - z.c),x.d+(4503599627370494 - z.d),x.e+(4503599627370494 - z.e)⟩:E5).val+z.val=x.val+2*PN:=by
  simp only [E5.val,PN];omega
 rw [← Nat.add_assoc,e2,Nat.add_mul_mod_self_right,Nat.mul_comm,Nat.add_mul_mod_self_left]
def mulR (x y:E5):E5 :=
 ⟨x.a*y.a+(x.b*19)*y.e+(x.c*19)*y.d+(x.d*19)*y.c+(x.e*19)*y.b,
  x.a*y.b+x.b*y.a+(x.c*19)*y.e+(x.d*19)*y.d+(x.e*19)*y.c,
  x.a*y.c+x.b*y.b+x.c*y.a+(x.d*19)*y.e+(x.e*19)*y.d,
  x.a*y.d+x.b*y.c+x.c*y.b+x.d*y.a+(x.e*19)*y.e,
  x.a*y.e+x.b*y.d+x.c*y.c+x.d*y.b+x.e*y.a⟩
def mulE (x y:E5):E5:=carryE (carryE (mulR x y))
theorem mulR_poly (a b c d e p q r s t C:Nat) :
  (a+b*C+c*(C*C)+d*(C*C*C)+e*(C*C*C*C))*(p+q*C+r*(C*C)+s*(C*C*C)+t*(C*C*C*C))+19*((b*t+c*s+d*r+e*q)+(c*t+d*s+e*r)*C+(d*t+e*s)*(C*C)+e*t*(C*C*C)) =
  (a*p+(b*19)*t+(c*19)*s+(d*19)*r+(e*19)*q)+(a*q+b*p+(c*19)*t+(d*19)*s+(e*19)*r)*C+(a*r+b*q+c*p+(d*19)*t+(e*19)*s)*(C*C)+(a*s+b*r+c*q+d*p+(e*19)*t)*(C*C*C)+(a*t+b*s+c*r+d*q+e*p)*(C*C*C*C)
  + (C*C*C*C*C)*((b*t+c*s+d*r+e*q)+(c*t+d*s+e*r)*C+(d*t+e*s)*(C*C)+e*t*(C*C*C)):=by grind
theorem mulR_val (x y:E5):(mulR x y).val%PN=(x.val*y.val)%PN:=by
 have h:=mulR_poly x.a x.b x.c x.d x.e y.a y.b y.c y.d y.e 2251799813685248;generalize hk:(x.b*y.e+x.c*y.d+x.d*y.c+x.e*y.b)+(x.c*y.e+x.d*y.d+x.e*y.c)*2251799813685248+(x.d*y.e+x.e*y.d)*(2251799813685248*2251799813685248)+x.e*y.e*(2251799813685248*2251799813685248*2251799813685248)=k at h;have e1:x.val*y.val+19*k=(mulR x y).val+(PN+19)*k:=h
 have e2:x.val*y.val=(mulR x y).val+PN*k:=by
  rw [Nat.add_mul] at e1; omega
 rw [e2,Nat.add_mul_mod_self_left]
theorem mul_val (x y:E5):(mulE x y).val%PN=(x.val*y.val)%PN:=by rw [mulE,carry_mod,carry_mod,mulR_val]
theorem mul_lt' {a b m n:Nat} (ha:a<m) (hb:b<n):a*b≤(m - 1)*(n - 1):=Nat.mul_le_mul (by omega) (by omega)
theorem mulR_lt {x y:E5} (hx:x.Ok) (hy:y.Ok):(mulR x y).Lt 2596148429267413814265248164610048∧(mulR x y).e<162259276829213363391578010288128:=by
 obtain ⟨h1,h2,h3,h4,h5⟩:=hx;obtain ⟨k1,k2,k3,k4,k5⟩:=hy;have m:∀ {a b:Nat},a<4503599627370496→b<4503599627370496→a*b≤20282409603651661416747996545025:=fun ha hb=>Nat.le_trans (mul_lt' ha hb) (by decide)
 have n:∀ {a b:Nat},a<4503599627370496→b<4503599627370496→(a*19)*b≤385365782469381566918211934355475:=fun {a b} ha hb=>by
  have:=m ha hb;rw [Nat.mul_right_comm]; omega
 have a1:=m h1 k1; have a2:=n h2 k5; have a3:=n h3 k4; have a4:=n h4 k3; have a5:=n h5 k2;have b1:=m h1 k2; have b2:=m h2 k1; have b3:=n h3 k5; have b4:=n h4 k4; have b5:=n h5 k3;have c1:=m h1 k3; have c2:=m h2 k2; have c3:=m h3 k1; have c4:=n h4 k5; have c5:=n h5 k4;have d1:=m h1 k4; have d2:=m h2 k3; have d3:=m h3 k2; have d4:=m h4 k1; have d5:=n h5 k5;have e1:=m h1 k5; have e2:=m h2 k4; have e3:=m h3 k3; have e4:=m h4 k2; have e5:=m h5 k1;refine ⟨⟨?_,?_,?_,?_,?_⟩,?_⟩ <;> simp only [mulR] <;> omega
theorem mul_big {x y:E5} (hx:x.Ok) (hy:y.Ok):(carryE (mulR x y)).Lt 18446744073709551616:=by
 obtain ⟨⟨h1,h2,h3,h4,h5⟩,h6⟩:=mulR_lt hx hy;generalize mulR x y=r at *
 constructor <;> simp only [carryE] <;> omega
theorem mul_ok {x y:E5} (hx:x.Ok) (hy:y.Ok):(mulE x y).Ok:=carry_ok (mul_big hx hy)
end Go.Proofs.YtdgheahbafnboaaDoor
/-
  Walks: the field's carried.
-/
namespace Go.Proofs.YtdgheahbafnboaaDoor
set_option linter.unusedSimpArgs false
set_option linter.unusedVariables false
open Go.RowKit
theorem below_new (w:World) (o:Obj):Below w.heap.size w (w.alloc o):=(Below.refl _ _).alloc (Nat.le_refl _) _
theorem elem_size:(Tryd.prog.info? 39).map (·.size)=some 5:=by kernel_rfl
theorem five_size:(Tryd.prog.info? 37).map (·.size)=some 5:=by kernel_rfl
theorem one64:(Tryd.prog.info? 36).map (·.size)=some 1:=by kernel_rfl
def limbs (x:E5):List Nat:=[x.a,x.b,x.c,x.d,x.e]
def wV (l:List Nat):Array Value:=(l.map fun n:Nat=>Value.int .u64 (n:Int)).toArray
def eV (x:E5):Array Value:=wV (limbs x)
def mixV (x y:E5) (k:Nat):Array Value:=wV ((limbs x).take k++(limbs y).drop k)
theorem mixV_zero (x y:E5):mixV x y 0=eV y:=rfl
theorem mixV_end (x y:E5):mixV x y 5=eV x:=rfl
theorem eV_size (x:E5):(eV x).size=5:=rfl
theorem mixV_size (x y:E5) (k:Nat) (h:k≤5):(mixV x y k).size=5:=by
 match k,h with
 | 0,_=>rfl
 | 1,_=>rfl
 | 2,_=>rfl
 | 3,_=>rfl
 | 4,_=>rfl
 | 5,_=>rfl
theorem eV_at (x:E5) (k:Nat) (h:k<5):(eV x)[k]?=some (.int .u64 (((limbs x).getD k 0:Nat):Int)):=by
 match k,h with
 | 0,_=>rfl
 | 1,_=>rfl
 | 2,_=>rfl
 | 3,_=>rfl
 | 4,_=>rfl
theorem mixV_at (x y:E5) (k:Nat) (h:k<5):(mixV x y k)[k]?=some (.int .u64 (((limbs y).getD k 0:Nat):Int)):=by
 match k,h with
 | 0,_=>rfl
 | 1,_=>rfl
 | 2,_=>rfl
 | 3,_=>rfl
 | 4,_=>rfl
theorem mixV_set (x y:E5) (k:Nat) (h:k<5):(mixV x y k).setIfInBounds k (.int .u64 (((limbs x).getD k 0:Nat):Int))=mixV x y (k+1):=by
 match k,h with
 | 0,_=>rfl
 | 1,_=>rfl
 | 2,_=>rfl
 | 3,_=>rfl
 | 4,_=>rfl
theorem limb_lt {x:E5} {m:Nat} (h:x.Lt m) (hm:0<m) (k:Nat):(limbs x).getD k 0<m:=by
 match k with
 | 0=>exact h.a
 | 1=>exact h.b
 | 2=>exact h.c
 | 3=>exact h.d
 | 4=>exact h.e
 | k+5=>exact hm
def zE:E5:=⟨0,0,0,0,0⟩
def highE (x:E5):E5:=⟨x.a/2251799813685248,x.b/2251799813685248,x.c/2251799813685248,x.d/2251799813685248,x.e/2251799813685248⟩
theorem highE_at (x:E5) (k:Nat) (h:k<5):(limbs (highE x)).getD k 0=(limbs x).getD k 0/2251799813685248:=by
 match k,h with
 | 0,_=>rfl
 | 1,_=>rfl
 | 2,_=>rfl
 | 3,_=>rfl
 | 4,_=>rfl
theorem carryE_at (x:E5) (k:Nat) (h:k<5):(limbs (carryE x)).getD k 0=(limbs x).getD k 0%2251799813685248+(if k=0 then (limbs (highE x)).getD 4 0*19 else (limbs (highE x)).getD (k - 1) 0):=by
 match k,h with
 | 0,_=>rfl
 | 1,_=>rfl
 | 2,_=>rfl
 | 3,_=>rfl
 | 4,_=>rfl
structure F3 (w0:World) (g r h:Nat) (x z y:Array Value) (u:World):Prop where
 bel:Below w0.heap.size w0 u
 x:Blk u g 39 x
 z:Blk u r 39 z
 y:Blk u h 37 y
 lg:w0.heap.size≤g
 lr:w0.heap.size≤r
 lh:w0.heap.size≤h
 gh:g≠h
 gr:g≠r
 rh:r≠h
theorem F3.putX {w0 u u':World} {g r h:Nat} {x z y x':Array Value} (k:F3 w0 g r h x z y u) (hw:Wrote g u u') (hb:Blk u' g 39 x'):F3 w0 g r h x' z y u' :=
 ⟨hw.below k.bel k.lg k.bel.size,hb,hw.blk k.z (Ne.symm k.gr),hw.blk k.y (Ne.symm k.gh),k.lg,k.lr,k.lh,k.gh,k.gr,k.rh⟩
theorem F3.putY {w0 u u':World} {g r h:Nat} {x z y y':Array Value} (k:F3 w0 g r h x z y u) (hw:Wrote h u u') (hb:Blk u' h 37 y'):F3 w0 g r h x z y' u' :=
 ⟨hw.below k.bel k.lh k.bel.size,hw.blk k.x k.gh,hw.blk k.z k.rh,hb,k.lg,k.lr,k.lh,k.gh,k.gr,k.rh⟩
theorem mask51 (l:Nat) (h:l<18446744073709551616):bits .and .u64 (l:Int) 2251799813685247=((l%2251799813685248:Nat):Int):=by
 have h1:=and64 l 2251799813685247 h (by decide);rw [show ((2251799813685247:Nat):Int)=2251799813685247 from rfl] at h1;rw [h1]
 congr 1
 exact Nat.and_two_pow_sub_one_eq_mod l 51
theorem mask_sum (l v:Nat) (h:l<18446744073709551616) (hv:v<18444492273895866368):IntKind.u64.wrap (bits .and .u64 (l:Int) 2251799813685247+(v:Int))=((l%2251799813685248+v:Nat):Int):=by
 rw [mask51 l h,IntKind.wrap_u64]; omega
theorem mask_sum19 (l v:Nat) (h:l<18446744073709551616) (hv:v<900000000000000000):IntKind.u64.wrap (bits .and .u64 (l:Int) 2251799813685247+(v:Int)*19)=((l%2251799813685248+v*19:Nat):Int):=by
 rw [mask51 l h,IntKind.wrap_u64]; omega
def ElemPost (x:E5) (w:World) (e:Ending) (w':World):Prop:=e=.returned (.agg (eV x))∧Below w.heap.size w w'
theorem Blk.newAt {w:World} {n:Nat} {t:TypeId} {cs:Array Value} (h:w.heap.size=n):Blk (w.alloc (.cells cs t)) n t cs:=h▸Blk.new w t cs
set_option maxRecDepth 100000 in
set_option maxHeartbeats 2000000 in
theorem carried_any (x:E5) (w:World) (hx:x.Lt 18446744073709551616):Calls Tryd.prog 68 #[.agg (eV x)] w (ElemPost (carryE x) w):=by
 have hu:=Tryd.underlying39;have hu5:=Tryd.underlying37
 have hst0:F3 w w.heap.size (w.heap.size+1) (w.heap.size+1+1) (eV x) (eV zE) (mixV (highE x) zE 0) (((w.alloc (.cells (eV x) 39)).alloc (.cells (eV zE) 39)).alloc (.cells (eV zE) 37)) :=
  ⟨((below_new _ _).alloc (by simp) _).alloc (by simp; try omega) _,((Blk.new _ _ _).alloc _).alloc _,(Blk.newAt (by simp)).alloc _,Blk.newAt (by simp),Nat.le_refl _,by omega,by omega,by omega,by omega,by omega⟩
 have HX:=zY hx;have HST0:=zY hst0;clear hx;go_enter Tryd.func68,Tryd.ntmps68;go_wp2_with (refine wpList_get_part (x:=.tmp 8) (n:=5) (r:=eV x) hst0.x (by rw [eV_size]; decide) rfl rfl rfl rfl hu5 rfl five_size ?_);clear hst0;generalize hc:w.heap.size+1+1=c at *;generalize hr:w.heap.size+1=r at *;generalize hg:w.heap.size=g at *;have HC:=zY hc;have HR:=zY hr;have HG:=zY hg;clear hc hr hg
 go_loopw [10] (fun i wr=>∃ k:Nat,k≤5∧i=.int .i64 k∧F3 w g r c (eV x) (eV zE) (mixV (highE x) zE k) wr) (fun i _=>5 - (intOf i).toNat)
 case atStart=>exact ⟨0,by omega,rfl,HST0.out⟩
 case round =>
  clear HST0;obtain ⟨k,hk,rfl,hst⟩:=hrel
  by_cases hlt:k<5
  ·have hlt':(k:Int)<5:=by omega
   obtain ⟨l,hl⟩:∃ l,l=(limbs x).getD k 0:=⟨_,rfl⟩;have hll:(l:Int)<18446744073709551616:=by have:=limb_lt HX.out (by decide) k; rw [← hl] at this; omega
   have hix:∀ u:World,(Instr.index 37 (.agg (eV x)) (.int .i64 (k:Int))).run Tryd.prog u=.ok (.int .u64 (l:Int)) u:=fun u =>
    run_index_array (n:=5) (e:=36) hu5 hlt (by rw [hl]; exact eV_at x k hlt) (by kernel_rfl) (by kernel_rfl) ⟨_,Tryd.underlying36⟩
   have d0:=hst.y.cell k;rw [mixV_at _ _ _ hlt] at d0;have f0:=hst.y.free k;have hset:=mixV_set (highE x) zE k hlt;rw [highE_at _ _ hlt,← hl] at hset;have HSET:=zY hset;have HST:=zY hst;clear hset hst hl;go_wp2_with fail;refine ⟨⟨k+1,by omega,by go_num,HST.out.putY (wrote_setCell_at _ _ _ _) ?_⟩,by simp [intOf]; omega⟩;have h:=blk_setCell_at (i:=k) HST.out.y (.int .u64 ((l/2251799813685248:Nat):Int));rw [HSET.out] at h;exact h
  ·obtain rfl:k=5:=by omega
   rw [mixV_end] at hst;have hst1:F3 w g r c (mixV (carryE x) x 0) (eV zE) (eV (highE x)) wr:=hst;have HST:=zY hst1;clear hst hst1;go_wp2_with fail;obtain ⟨wo,rfl⟩:∃ x:World,x=wr:=⟨_,rfl⟩
   go_loopw [19] (fun i wr=>∃ k:Nat,k≤5∧i=.int .i64 k∧F3 w g r c (mixV (carryE x) x k) (eV zE) (eV (highE x)) wr) (fun i _=>5 - (intOf i).toNat)
   case atStart=>exact ⟨0,by omega,rfl,HST.out⟩
   case round =>
    clear HST;obtain ⟨k,hk,rfl,hst⟩:=hrel
    by_cases hlt2:k<5
    ·obtain ⟨l,hl⟩:∃ l,l=(limbs x).getD k 0:=⟨_,rfl⟩;have hll0:=limb_lt HX.out (by decide) k;rw [← hl] at hll0;have hll:(l:Int)<18446744073709551616:=by omega
     obtain ⟨j,hj⟩:∃ j,j=if k=0 then 4 else k - 1:=⟨_,rfl⟩
     have hj5:j<5:=by rw [hj]; split <;> omega
     have hjk:((k:Int)+5 - 1)%5=(j:Int):=by rw [hj]; split <;> omega
     have hjk2:((k:Int)+4)%5=(j:Int):=by rw [hj]; split <;> omega
     obtain ⟨m,hm⟩:∃ m,m=(limbs (highE x)).getD j 0:=⟨_,rfl⟩
     have hml:m<8192:=by
      have:=limb_lt HX.out (by decide) j;rw [hm,highE_at _ _ hj5]; omega
     have hml':(m:Int)<8192:=by omega
     have dx:=hst.x.cell k;rw [mixV_at _ _ _ hlt2,← hl] at dx;have fx:=hst.x.free k;have dy:=hst.y.cell j;rw [eV_at _ _ hj5,← hm] at dy;have hset:=mixV_set (carryE x) x k hlt2
     have hval:(limbs (carryE x)).getD k 0=l%2251799813685248+(if k=0 then m*19 else m):=by
      rw [carryE_at _ _ hlt2,← hl,hm,hj]
      by_cases h0:k=0
      ·simp [h0]
      ·simp [h0]
     rw [hval] at hset;have HSET:=zY hset;have HST:=zY hst;have HJ:=zY hj;have hlt':(k:Int)<5:=by omega
     clear hset hst hl hm hval hj
     by_cases h0:k=0
     ·subst h0;obtain rfl:j=4:=by have:=HJ.out; simpa using this
      rw [show ((0:Nat):Int)=0 from rfl];clear hjk hjk2 hlt' hlt2;go_wp2_with fail;refine ⟨⟨1,by omega,rfl,HST.out.putX (wrote_setCell_at _ _ _ _) ?_⟩,by simp [intOf]⟩;rw [mask_sum19 l m hll0 (by omega)];have h:=blk_setCell_at (i:=0) HST.out.x (.int .u64 ((l%2251799813685248+m*19:Nat):Int));have h2:=HSET.out;rw [if_pos rfl] at h2;rw [h2] at h;exact h
     ·have hb:((k:Int) == 0)=false:=by rw [beq_eq_false_iff_ne]; omega
      go_wp2_with fail;refine ⟨⟨k+1,by omega,by go_num,HST.out.putX (wrote_setCell_at _ _ _ _) ?_⟩,by simp [intOf]; omega⟩;rw [mask_sum l m hll0 (by omega)];have h:=blk_setCell_at (i:=k) HST.out.x (.int .u64 ((l%2251799813685248+m:Nat):Int));have h2:=HSET.out;rw [if_neg h0] at h2;rw [h2] at h;exact h
    ·obtain rfl:k=5:=by omega
     rw [mixV_end] at hst;have HST:=zY hst;clear hst
     go_wp2_with (first
      | (refine wpList_get_box (x:=.tmp 1) HST.out.x rfl rfl rfl hu rfl elem_size ?_)
      | (refine wpList_put_box (x:=.tmp 2) (cells:=eV (carryE x)) HST.out.z rfl rfl rfl rfl elem_size rfl (by simp [eV,wV,limbs,Value.oneCell']) ?_; intro w5 hb5 hw5))
     refine bodyPost_ret (results_box (P:=Tryd.prog) rfl rfl hb5 hu rfl elem_size) rfl ⟨rfl,?_⟩;exact hw5.below HST.out.bel HST.out.lr HST.out.bel.size
end Go.Proofs.YtdgheahbafnboaaDoor
/-
  Walks: the field's Add and Sub.
-/
namespace Go.Proofs.YtdgheahbafnboaaDoor
set_option linter.unusedSimpArgs false
set_option linter.unusedVariables false
open Go.RowKit
def rawAdd (x y:E5):E5:=⟨x.a+y.a,x.b+y.b,x.c+y.c,x.d+y.d,x.e+y.e⟩
theorem rawAdd_at (x y:E5) (k:Nat) (h:k<5):(limbs (rawAdd x y)).getD k 0=(limbs x).getD k 0+(limbs y).getD k 0:=by
 match k,h with
 | 0,_=>rfl
 | 1,_=>rfl
 | 2,_=>rfl
 | 3,_=>rfl
 | 4,_=>rfl
def rawSub (x z:E5):E5:=⟨x.a+(4503599627370458 - z.a),x.b+(4503599627370494 - z.b),x.c+(4503599627370494 - z.c),x.d+(4503599627370494 - z.d),x.e+(4503599627370494 - z.e)⟩
theorem rawSub_at (x y:E5) (k:Nat) (h:k<5):(limbs (rawSub x y)).getD k 0=(limbs x).getD k 0+((if k=0 then 4503599627370458 else 4503599627370494) - (limbs y).getD k 0):=by
 match k,h with
 | 0,_=>rfl
 | 1,_=>rfl
 | 2,_=>rfl
 | 3,_=>rfl
 | 4,_=>rfl
structure G3 (w0:World) (g h r:Nat) (x y z:Array Value) (u:World):Prop where
 bel:Below w0.heap.size w0 u
 x:Blk u g 39 x
 y:Blk u h 39 y
 z:Blk u r 39 z
 lg:w0.heap.size≤g
 lh:w0.heap.size≤h
 lr:w0.heap.size≤r
 gh:g≠h
 gr:g≠r
 hr:h≠r
theorem G3.putX {w0 u u':World} {g h r:Nat} {x y z x':Array Value} (k:G3 w0 g h r x y z u) (hw:Wrote g u u') (hb:Blk u' g 39 x'):G3 w0 g h r x' y z u' :=
 ⟨hw.below k.bel k.lg k.bel.size,hb,hw.blk k.y (Ne.symm k.gh),hw.blk k.z (Ne.symm k.gr),k.lg,k.lh,k.lr,k.gh,k.gr,k.hr⟩
theorem G3.putY {w0 u u':World} {g h r:Nat} {x y z y':Array Value} (k:G3 w0 g h r x y z u) (hw:Wrote h u u') (hb:Blk u' h 39 y'):G3 w0 g h r x y' z u' :=
 ⟨hw.below k.bel k.lh k.bel.size,hw.blk k.x k.gh,hb,hw.blk k.z (Ne.symm k.hr),k.lg,k.lh,k.lr,k.gh,k.gr,k.hr⟩
theorem G3.drew {w0 u:World} {g h r:Nat} {x y z:Array Value} (k:G3 w0 g h r x y z u):G3 w0 g h r x y z u.drew :=
 ⟨k.bel.drew,k.x,k.y,k.z,k.lg,k.lh,k.lr,k.gh,k.gr,k.hr⟩
theorem G3.next {w0 u u':World} {g h r:Nat} {x y z:Array Value} (k:G3 w0 g h r x y z u) (hb:Below u.heap.size u u'):G3 w0 g h r x y z u' :=
 ⟨k.bel.trans (hb.mono k.bel.size),k.x.below hb k.x.lt,k.y.below hb k.y.lt,k.z.below hb k.z.lt,k.lg,k.lh,k.lr,k.gh,k.gr,k.hr⟩
theorem g3_new (w:World) (x y z:Array Value):G3 w w.heap.size (w.heap.size+1) (w.heap.size+1+1) x y z (((w.alloc (.cells x 39)).alloc (.cells y 39)).alloc (.cells z 39)) :=
 ⟨((below_new _ _).alloc (by simp) _).alloc (by simp; try omega) _,((Blk.new _ _ _).alloc _).alloc _,(Blk.newAt (by simp)).alloc _,Blk.newAt (by simp),Nat.le_refl _,by omega,by omega,by omega,by omega,by omega⟩
theorem add_w64' (a b:Nat) (h:a+b<18446744073709551616):IntKind.u64.wrap ((a:Int)+(b:Int))=((a+b:Nat):Int):=by
 rw [IntKind.wrap_u64]; omega
theorem sub_w64' (a b:Nat) (h:b≤a) (ha:a<18446744073709551616):IntKind.u64.wrap ((a:Int) - (b:Int))=((a - b:Nat):Int):=by
 rw [IntKind.wrap_u64]; omega
set_option maxRecDepth 100000 in
set_option maxHeartbeats 2000000 in
theorem add_any (x y:E5) (w:World) (hx:x.Lt 9223372036854775808) (hy:y.Lt 9223372036854775808):Calls Tryd.prog 38 #[.agg (eV x),.agg (eV y)] w (ElemPost (addE x y) w):=by
 have hu:=Tryd.underlying39;have hst0:G3 w w.heap.size (w.heap.size+1) (w.heap.size+1+1) (mixV (rawAdd x y) x 0) (eV y) (eV zE) _:=g3_new w (eV x) (eV y) (eV zE);have HX:=zY hx;have HY:=zY hy;have HST0:=zY hst0;clear hx hy hst0;go_enter Tryd.func38,Tryd.ntmps38;go_wp2_with fail;generalize hr:w.heap.size+1+1=r at *;generalize hh:w.heap.size+1=h at *;generalize hg:w.heap.size=g at *;have HR:=zY hr;have HH:=zY hh;have HG:=zY hg;clear hr hh hg
 go_loopw [6] (fun i wr=>∃ k:Nat,k≤5∧i=.int .i64 k∧G3 w g h r (mixV (rawAdd x y) x k) (eV y) (eV zE) wr) (fun i _=>5 - (intOf i).toNat)
 case atStart=>exact ⟨0,by omega,rfl,HST0.out⟩
 case round =>
  clear HST0;obtain ⟨k,hk,rfl,hst⟩:=hrel
  by_cases hlt:k<5
  ·have hlt':(k:Int)<5:=by omega
   obtain ⟨l,hl⟩:∃ l,l=(limbs x).getD k 0:=⟨_,rfl⟩;obtain ⟨m,hm⟩:∃ m,m=(limbs y).getD k 0:=⟨_,rfl⟩;have hll:l<9223372036854775808:=by rw [hl]; exact limb_lt HX.out (by decide) k
   have hml:m<9223372036854775808:=by rw [hm]; exact limb_lt HY.out (by decide) k
   have hset:=mixV_set (rawAdd x y) x k hlt;rw [rawAdd_at _ _ _ hlt,← hl,← hm] at hset;have ex:(mixV (rawAdd x y) x k)[k]?=some (.int .u64 (l:Int)):=by rw [hl]; exact mixV_at _ _ _ hlt
   have ey:(eV y)[k]?=some (.int .u64 (m:Int)):=by rw [hm]; exact eV_at _ _ hlt
   have HSET:=zY hset;have EX:=zY ex;have EY:=zY ey;have HLL:=zY hll;have HML:=zY hml;have HC0:=hst.drew;clear hset ex ey hst hl hm hll hml;go_wp2_with fail;refine wp_region_det (fun u=>G3 w g h r (mixV (rawAdd x y) x k) (eV y) (eV zE) u) (fun u=>G3 w g h r (mixV (rawAdd x y) x (k+1)) (eV y) (eV zE) u) [(0,some 9),(1,some 10),(2,some 11),(3,some 12),(4,some 13),(5,some 14),(6,some 15),(7,some 16),(8,some 17),(9,some 18),(10,some 19),(11,none)] (by kernel_rfl) (by kernel_rfl) (by decide) (by kernel_rfl) (fun _=>rfl) HC0 ?_;apply DetL.next
   ·apply dP [];exact fun _=>rfl;rfl;rintro vals - w1 hC1 E hE;simp only [sP] at hE ⊢;go_wp2;exact .mk (hE _ hC1)
   apply DetL.next
   ·apply dP [];exact fun _=>rfl;rfl;rintro vals ⟨-,-⟩ w1 hC1 E hE;simp only [sP] at hE ⊢;go_wp2;exact .mk (hE _ hC1)
   apply DetL.next
   ·apply dP [(1,some 10),(0,some 9)];exact fun _=>rfl;rfl;rintro vals ⟨⟨-,f0⟩,f1⟩ w1 hC1 E hE;simp only [sP,f0,f1] at hE ⊢;clear f0 f1;go_wp2;exact .mk (hE _ hC1)
   apply DetL.next
   ·apply dP [(2,some 11)];exact fun _=>rfl;rfl;intro vals vq w1 hC1 E hE;have f2:=vq.2;clear vq;have d0:=hC1.x.cell k;rw [EX.out] at d0;simp only [sP,f2] at hE ⊢;clear f2;go_wp2;exact .mk (hE _ hC1)
   apply DetL.next
   ·apply dP [];exact fun _=>rfl;rfl;intro vals vq w1 hC1 E hE;clear vq;simp only [sP] at hE ⊢;go_wp2;exact .mk (hE _ hC1)
   apply DetL.next
   ·apply dP [];exact fun _=>rfl;rfl;intro vals vq w1 hC1 E hE;clear vq;simp only [sP] at hE ⊢;go_wp2;exact .mk (hE _ hC1)
   apply DetL.next
   ·apply dP [(5,some 14),(4,some 13)];exact fun _=>rfl;rfl;intro vals vq w1 hC1 E hE;have f4:=vq.1.2;have f5:=vq.2;clear vq;simp only [sP,f4,f5] at hE ⊢;clear f4 f5;go_wp2;exact .mk (hE _ hC1)
   apply DetL.next
   ·apply dP [(6,some 15)];exact fun _=>rfl;rfl;intro vals vq w1 hC1 E hE;have f6:=vq.2;clear vq;have d0:=hC1.y.cell k;rw [EY.out] at d0;simp only [sP,f6] at hE ⊢;clear f6;go_wp2;exact .mk (hE _ hC1)
   apply DetL.next
   ·apply dP [(3,some 12),(7,some 16)];exact fun _=>rfl;rfl;intro vals vq w1 hC1 E hE;have f3:=vq.1.1.1.1.2;have f7:=vq.2;clear vq;simp only [sP,f3,f7] at hE ⊢;clear f3 f7;go_wp2;rw [add_w64' l m (by have:=HLL.out; have:=HML.out; omega)];exact .mk (hE _ hC1)
   apply DetL.next
   ·apply dP [];exact fun _=>rfl;rfl;intro vals vq w1 hC1 E hE;clear vq;simp only [sP] at hE ⊢;go_wp2;exact .mk (hE _ hC1)
   apply DetL.next
   ·apply dP [(9,some 18),(0,some 9),(0,some 9),(1,some 10),(2,some 11),(3,some 12),(4,some 13),(5,some 14),(6,some 15),(7,some 16),(8,some 17)];exact fun _=>rfl;rfl;rintro vals ⟨⟨⟨⟨⟨⟨⟨⟨⟨⟨-,f0⟩,f1⟩,f2⟩,f3⟩,f4⟩,f5⟩,f6⟩,f7⟩,f8⟩,f9⟩ w1 hC1 E hE;simp only [sP,f0,f1,f2,f3,f4,f5,f6,f7,f8,f9] at hE ⊢;clear f0 f1 f2 f3 f4 f5 f6 f7 f8 f9;go_wp2;exact .mk (hE _ hC1)
   apply DetL.last (v:=undef)
   ·apply dP [(10,some 19),(8,some 17),(0,some 9),(1,some 10),(2,some 11),(3,some 12),(4,some 13),(5,some 14),(6,some 15),(7,some 16),(8,some 17)];exact fun _=>rfl;rfl;rintro vals ⟨⟨⟨⟨⟨⟨⟨⟨⟨⟨⟨-,f0⟩,f1⟩,f2⟩,f3⟩,f4⟩,f5⟩,f6⟩,f7⟩,f8⟩,-⟩,f10⟩ w1 hC1 E hE;have d0:=hC1.x.cell k;rw [EX.out] at d0;have q0:=hC1.x.free k;simp only [sP,f0,f1,f2,f3,f4,f5,f6,f7,f8,f10] at hE ⊢;clear f0 f1 f2 f3 f4 f5 f6 f7 f8 f10;go_wp2;refine .mk (hE _ (hC1.putX (wrote_setCell_at _ _ _ _) ?_));have h:=blk_setCell_at (i:=k) hC1.x (.int .u64 ((l+m:Nat):Int));rw [HSET.out] at h;exact h
   rintro vals ⟨⟨⟨⟨⟨⟨⟨⟨⟨⟨⟨⟨-,f0⟩,f1⟩,f2⟩,f3⟩,f4⟩,f5⟩,f6⟩,f7⟩,f8⟩,f9⟩,f10⟩,f11⟩ w1 hC1;simp only [sP,f0,f1,f2,f3,f4,f5,f6,f7,f8,f9,f10,f11];clear f0 f1 f2 f3 f4 f5 f6 f7 f8 f9 f10 f11;clear HC0;have HC1:=zY hC1;clear hC1;go_wp2_with fail;exact ⟨⟨k+1,by omega,by go_num,HC1.out⟩,by simp [intOf]; omega⟩
  ·obtain rfl:k=5:=by omega
   rw [mixV_end] at hst;have HST:=zY hst;clear hst;go_wp2_with (refine wpList_get_box (x:=.tmp 2) HST.out.x rfl rfl rfl hu rfl elem_size ?_);refine calls_then (carried_any (rawAdd x y) _ ?_) ?_
   ·obtain ⟨a1,a2,a3,a4,a5⟩:=HX.out;obtain ⟨b1,b2,b3,b4,b5⟩:=HY.out
    constructor <;> simp only [rawAdd] <;> omega
   rintro e w2 ⟨rfl,hb2⟩;have hs2:=HST.out.next hb2;have HS2:=zY hs2;clear HST hs2 hb2;go_wp2_with (refine wpList_put_box (x:=.tmp 4) (cells:=eV (addE x y)) HS2.out.z rfl rfl rfl rfl elem_size rfl (by simp [eV,wV,limbs,Value.oneCell']) ?_; intro w5 hb5 hw5);refine bodyPost_ret (results_box (P:=Tryd.prog) rfl rfl hb5 hu rfl elem_size) rfl ⟨rfl,?_⟩;exact hw5.below HS2.out.bel HS2.out.lr HS2.out.bel.size
end Go.Proofs.YtdgheahbafnboaaDoor
/-
  Walk: the field's Sub.
-/
namespace Go.Proofs.YtdgheahbafnboaaDoor
set_option linter.unusedSimpArgs false
set_option linter.unusedVariables false
open Go.RowKit
set_option maxRecDepth 100000 in
set_option maxHeartbeats 2000000 in
theorem sub_any (x y:E5) (w:World) (hx:x.Lt 9223372036854775808) (hy:y.Lt 18446744073709551616):Calls Tryd.prog 64 #[.agg (eV x),.agg (eV y)] w (ElemPost (subE x y) w):=by
 have hu:=Tryd.underlying39;have hst0:G3 w w.heap.size (w.heap.size+1) (w.heap.size+1+1) (eV x) (eV y) (eV zE) _:=g3_new w (eV x) (eV y) (eV zE);have hz:(carryE y).Lt 2251799813947392:=carry_lt hy;have HX:=zY hx;have HY:=zY hy;have HZ:=zY hz;have HST0:=zY hst0;clear hx hy hz hst0;go_enter Tryd.func64,Tryd.ntmps64;go_wp2_with (refine wpList_get_box (x:=.tmp 3) HST0.out.y rfl rfl rfl hu rfl elem_size ?_);generalize hr:w.heap.size+1+1=r at *;generalize hh:w.heap.size+1=h at *;generalize hg:w.heap.size=g at *;have HR:=zY hr;have HH:=zY hh;have HG:=zY hg;clear hr hh hg;refine calls_then (carried_any y _ HY.out) ?_;rintro e w2 ⟨rfl,hb2⟩;have hs2:=HST0.out.next hb2;have HS2:=zY hs2;clear HST0 hs2 hb2;go_wp2_with (refine wpList_put_box (x:=.tmp 3) (cells:=eV (carryE y)) HS2.out.y rfl rfl rfl rfl elem_size rfl (by simp [eV,wV,limbs,Value.oneCell']) ?_; intro w3 hb3 hw3);have hs3:G3 w g h r (mixV (rawSub x (carryE y)) x 0) (eV (carryE y)) (eV zE) w3:=HS2.out.putY hw3 hb3;have HS3:=zY hs3;clear HS2 hs3 hb3 hw3
 go_loopw [9] (fun i wr=>∃ k:Nat,k≤5∧i=.int .i64 k∧G3 w g h r (mixV (rawSub x (carryE y)) x k) (eV (carryE y)) (eV zE) wr) (fun i _=>5 - (intOf i).toNat)
 case atStart=>exact ⟨0,by omega,rfl,HS3.out⟩
 case round =>
  clear HS3;obtain ⟨k,hk,rfl,hst⟩:=hrel
  by_cases hlt:k<5
  ·have hlt':(k:Int)<5:=by omega
   obtain ⟨l,hl⟩:∃ l,l=(limbs x).getD k 0:=⟨_,rfl⟩;obtain ⟨m,hm⟩:∃ m,m=(limbs (carryE y)).getD k 0:=⟨_,rfl⟩;have hll:l<9223372036854775808:=by rw [hl]; exact limb_lt HX.out (by decide) k
   have hml:m<2251799813947392:=by rw [hm]; exact limb_lt HZ.out (by decide) k
   have hset:=mixV_set (rawSub x (carryE y)) x k hlt;rw [rawSub_at _ _ _ hlt,← hl,← hm] at hset;have ex:(mixV (rawSub x (carryE y)) x k)[k]?=some (.int .u64 (l:Int)):=by rw [hl]; exact mixV_at _ _ _ hlt
   have ey:(eV (carryE y))[k]?=some (.int .u64 (m:Int)):=by rw [hm]; exact eV_at _ _ hlt
   have HEX:=zY ex;have HEY:=zY ey;have HLL:=zY hll;have HML:=zY hml
   by_cases h0:k=0
   ·subst h0;rw [if_pos rfl] at hset;have HSET:=zY hset;have HC0:=hst.drew;clear hset ex ey hst hl hm hll hml hlt' hlt;rw [show ((0:Nat):Int)=0 from rfl];go_wp2_with fail;refine wp_region_det (fun u=>G3 w g h r (mixV (rawSub x (carryE y)) x 0) (eV (carryE y)) (eV zE) u) (fun u=>G3 w g h r (mixV (rawSub x (carryE y)) x (0+1)) (eV (carryE y)) (eV zE) u) [(0,some 16),(1,some 17),(2,some 18),(3,some 19),(4,some 20),(5,some 21),(6,some 22),(7,some 23),(8,some 24),(9,some 25),(10,some 26),(11,some 27),(12,some 28),(13,none)] (by kernel_rfl) (by kernel_rfl) (by decide) (by kernel_rfl) (fun _=>rfl) HC0 ?_;apply DetL.next
    ·apply dP [];exact fun _=>rfl;rfl;rintro vals - w1 hC1 E hE;simp only [sP] at hE ⊢;go_wp2;exact .mk (hE _ hC1)
    apply DetL.next
    ·apply dP [];exact fun _=>rfl;rfl;rintro vals ⟨-,-⟩ w1 hC1 E hE;simp only [sP] at hE ⊢;go_wp2;exact .mk (hE _ hC1)
    apply DetL.next
    ·apply dP [(1,some 17),(0,some 16)];exact fun _=>rfl;rfl;rintro vals ⟨⟨-,f0⟩,f1⟩ w1 hC1 E hE;simp only [sP,f0,f1] at hE ⊢;clear f0 f1;go_wp2;exact .mk (hE _ hC1)
    apply DetL.next
    ·apply dP [(2,some 18)];exact fun _=>rfl;rfl;intro vals vq w1 hC1 E hE;have f2:=vq.2;clear vq;have d0:=hC1.x.cell 0;rw [HEX.out] at d0;simp only [sP,f2] at hE ⊢;clear f2;go_wp2;exact .mk (hE _ hC1)
    apply DetL.next
    ·apply dP [];exact fun _=>rfl;rfl;intro vals vq w1 hC1 E hE;clear vq;simp only [sP] at hE ⊢;go_wp2;exact .mk (hE _ hC1)
    apply DetL.next
    ·apply dP [];exact fun _=>rfl;rfl;intro vals vq w1 hC1 E hE;clear vq;simp only [sP] at hE ⊢;go_wp2;exact .mk (hE _ hC1)
    apply DetL.next
    ·apply dP [];exact fun _=>rfl;rfl;intro vals vq w1 hC1 E hE;clear vq;simp only [sP] at hE ⊢;go_wp2;exact .mk (hE _ hC1)
    apply DetL.next
    ·apply dP [(6,some 22),(5,some 21)];exact fun _=>rfl;rfl;intro vals vq w1 hC1 E hE;have f5:=vq.1.2;have f6:=vq.2;clear vq;simp only [sP,f5,f6] at hE ⊢;clear f5 f6;go_wp2;exact .mk (hE _ hC1)
    apply DetL.next
    ·apply dP [(7,some 23)];exact fun _=>rfl;rfl;intro vals vq w1 hC1 E hE;have f7:=vq.2;clear vq;have d0:=hC1.y.cell 0;rw [HEY.out] at d0;simp only [sP,f7] at hE ⊢;clear f7;go_wp2;exact .mk (hE _ hC1)
    apply DetL.next
    ·apply dP [(4,some 20),(8,some 24)];exact fun _=>rfl;rfl;intro vals vq w1 hC1 E hE;have f4:=vq.1.1.1.1.2;have f8:=vq.2;clear vq;simp only [sP,f4,f8] at hE ⊢;clear f4 f8;go_wp2;rw [show IntKind.u64.wrap (4503599627370458 - (m:Int))=((4503599627370458 - m:Nat):Int) by have:=HML.out; rw [IntKind.wrap_u64]; omega];exact .mk (hE _ hC1)
    apply DetL.next
    ·apply dP [(3,some 19),(9,some 25)];exact fun _=>rfl;rfl;intro vals vq w1 hC1 E hE;have f3:=vq.1.1.1.1.1.1.2;have f9:=vq.2;clear vq;simp only [sP,f3,f9] at hE ⊢;clear f3 f9;go_wp2;rw [add_w64' l (4503599627370458 - m) (by have:=HLL.out; have:=HML.out; omega)];exact .mk (hE _ hC1)
    apply DetL.next
    ·apply dP [];exact fun _=>rfl;rfl;intro vals vq w1 hC1 E hE;clear vq;simp only [sP] at hE ⊢;go_wp2;exact .mk (hE _ hC1)
    apply DetL.next
    ·apply dP [(11,some 27),(0,some 16),(0,some 16),(1,some 17),(2,some 18),(3,some 19),(4,some 20),(5,some 21),(6,some 22),(7,some 23),(8,some 24),(9,some 25),(10,some 26)];exact fun _=>rfl;rfl;rintro vals ⟨⟨⟨⟨⟨⟨⟨⟨⟨⟨⟨⟨-,f0⟩,f1⟩,f2⟩,f3⟩,f4⟩,f5⟩,f6⟩,f7⟩,f8⟩,f9⟩,f10⟩,f11⟩ w1 hC1 E hE;simp only [sP,f0,f1,f2,f3,f4,f5,f6,f7,f8,f9,f10,f11] at hE ⊢;clear f0 f1 f2 f3 f4 f5 f6 f7 f8 f9 f10 f11;go_wp2;exact .mk (hE _ hC1)
    apply DetL.last (v:=undef)
    ·apply dP [(12,some 28),(10,some 26),(0,some 16),(1,some 17),(2,some 18),(3,some 19),(4,some 20),(5,some 21),(6,some 22),(7,some 23),(8,some 24),(9,some 25),(10,some 26)];exact fun _=>rfl;rfl;rintro vals ⟨⟨⟨⟨⟨⟨⟨⟨⟨⟨⟨⟨⟨-,f0⟩,f1⟩,f2⟩,f3⟩,f4⟩,f5⟩,f6⟩,f7⟩,f8⟩,f9⟩,f10⟩,-⟩,f12⟩ w1 hC1 E hE;have d0:=hC1.x.cell 0;rw [HEX.out] at d0;have q0:=hC1.x.free 0;simp only [sP,f0,f1,f2,f3,f4,f5,f6,f7,f8,f9,f10,f12] at hE ⊢;clear f0 f1 f2 f3 f4 f5 f6 f7 f8 f9 f10 f12;go_wp2;refine .mk (hE _ (hC1.putX (wrote_setCell_at _ _ _ _) ?_));have h:=blk_setCell_at (i:=0) hC1.x (.int .u64 ((l+(4503599627370458 - m):Nat):Int));rw [HSET.out] at h;exact h
    rintro vals ⟨⟨⟨⟨⟨⟨⟨⟨⟨⟨⟨⟨⟨⟨-,f0⟩,f1⟩,f2⟩,f3⟩,f4⟩,f5⟩,f6⟩,f7⟩,f8⟩,f9⟩,f10⟩,f11⟩,f12⟩,f13⟩ w1 hC1;simp only [sP,f0,f1,f2,f3,f4,f5,f6,f7,f8,f9,f10,f11,f12,f13];clear f0 f1 f2 f3 f4 f5 f6 f7 f8 f9 f10 f11 f12 f13;clear HC0;have HC1:=zY hC1;clear hC1;go_wp2_with fail;exact ⟨⟨1,by omega,by go_num,HC1.out⟩,by simp [intOf]⟩
   ·rw [if_neg h0] at hset;have HSET:=zY hset;have HC0:=hst.drew;have hb:((k:Int) == 0)=false:=by rw [beq_eq_false_iff_ne]; omega
    clear hset ex ey hst hl hm hll hml;go_wp2_with fail;refine wp_region_det (fun u=>G3 w g h r (mixV (rawSub x (carryE y)) x k) (eV (carryE y)) (eV zE) u) (fun u=>G3 w g h r (mixV (rawSub x (carryE y)) x (k+1)) (eV (carryE y)) (eV zE) u) [(0,some 16),(1,some 17),(2,some 18),(3,some 19),(4,some 20),(5,some 21),(6,some 22),(7,some 23),(8,some 24),(9,some 25),(10,some 26),(11,some 27),(12,some 28),(13,none)] (by kernel_rfl) (by kernel_rfl) (by decide) (by kernel_rfl) (fun _=>rfl) HC0 ?_;apply DetL.next
    ·apply dP [];exact fun _=>rfl;rfl;rintro vals - w1 hC1 E hE;simp only [sP] at hE ⊢;go_wp2;exact .mk (hE _ hC1)
    apply DetL.next
    ·apply dP [];exact fun _=>rfl;rfl;rintro vals ⟨-,-⟩ w1 hC1 E hE;simp only [sP] at hE ⊢;go_wp2;exact .mk (hE _ hC1)
    apply DetL.next
    ·apply dP [(1,some 17),(0,some 16)];exact fun _=>rfl;rfl;rintro vals ⟨⟨-,f0⟩,f1⟩ w1 hC1 E hE;simp only [sP,f0,f1] at hE ⊢;clear f0 f1;go_wp2;exact .mk (hE _ hC1)
    apply DetL.next
    ·apply dP [(2,some 18)];exact fun _=>rfl;rfl;intro vals vq w1 hC1 E hE;have f2:=vq.2;clear vq;have d0:=hC1.x.cell k;rw [HEX.out] at d0;simp only [sP,f2] at hE ⊢;clear f2;go_wp2;exact .mk (hE _ hC1)
    apply DetL.next
    ·apply dP [];exact fun _=>rfl;rfl;intro vals vq w1 hC1 E hE;clear vq;simp only [sP] at hE ⊢;go_wp2;exact .mk (hE _ hC1)
    apply DetL.next
    ·apply dP [];exact fun _=>rfl;rfl;intro vals vq w1 hC1 E hE;clear vq;simp only [sP] at hE ⊢;go_wp2;exact .mk (hE _ hC1)
    apply DetL.next
    ·apply dP [];exact fun _=>rfl;rfl;intro vals vq w1 hC1 E hE;clear vq;simp only [sP] at hE ⊢;go_wp2;exact .mk (hE _ hC1)
    apply DetL.next
    ·apply dP [(6,some 22),(5,some 21)];exact fun _=>rfl;rfl;intro vals vq w1 hC1 E hE;have f5:=vq.1.2;have f6:=vq.2;clear vq;simp only [sP,f5,f6] at hE ⊢;clear f5 f6;go_wp2;exact .mk (hE _ hC1)
    apply DetL.next
    ·apply dP [(7,some 23)];exact fun _=>rfl;rfl;intro vals vq w1 hC1 E hE;have f7:=vq.2;clear vq;have d0:=hC1.y.cell k;rw [HEY.out] at d0;simp only [sP,f7] at hE ⊢;clear f7;go_wp2;exact .mk (hE _ hC1)
    apply DetL.next
    ·apply dP [(4,some 20),(8,some 24)];exact fun _=>rfl;rfl;intro vals vq w1 hC1 E hE;have f4:=vq.1.1.1.1.2;have f8:=vq.2;clear vq;simp only [sP,f4,f8] at hE ⊢;clear f4 f8;go_wp2;rw [show IntKind.u64.wrap (4503599627370494 - (m:Int))=((4503599627370494 - m:Nat):Int) by have:=HML.out; rw [IntKind.wrap_u64]; omega];exact .mk (hE _ hC1)
    apply DetL.next
    ·apply dP [(3,some 19),(9,some 25)];exact fun _=>rfl;rfl;intro vals vq w1 hC1 E hE;have f3:=vq.1.1.1.1.1.1.2;have f9:=vq.2;clear vq;simp only [sP,f3,f9] at hE ⊢;clear f3 f9;go_wp2;rw [add_w64' l (4503599627370494 - m) (by have:=HLL.out; have:=HML.out; omega)];exact .mk (hE _ hC1)
    apply DetL.next
    ·apply dP [];exact fun _=>rfl;rfl;intro vals vq w1 hC1 E hE;clear vq;simp only [sP] at hE ⊢;go_wp2;exact .mk (hE _ hC1)
    apply DetL.next
    ·apply dP [(11,some 27),(0,some 16),(0,some 16),(1,some 17),(2,some 18),(3,some 19),(4,some 20),(5,some 21),(6,some 22),(7,some 23),(8,some 24),(9,some 25),(10,some 26)];exact fun _=>rfl;rfl;rintro vals ⟨⟨⟨⟨⟨⟨⟨⟨⟨⟨⟨⟨-,f0⟩,f1⟩,f2⟩,f3⟩,f4⟩,f5⟩,f6⟩,f7⟩,f8⟩,f9⟩,f10⟩,f11⟩ w1 hC1 E hE;simp only [sP,f0,f1,f2,f3,f4,f5,f6,f7,f8,f9,f10,f11] at hE ⊢;clear f0 f1 f2 f3 f4 f5 f6 f7 f8 f9 f10 f11;go_wp2;exact .mk (hE _ hC1)
    apply DetL.last (v:=undef)
    ·apply dP [(12,some 28),(10,some 26),(0,some 16),(1,some 17),(2,some 18),(3,some 19),(4,some 20),(5,some 21),(6,some 22),(7,some 23),(8,some 24),(9,some 25),(10,some 26)];exact fun _=>rfl;rfl;rintro vals ⟨⟨⟨⟨⟨⟨⟨⟨⟨⟨⟨⟨⟨-,f0⟩,f1⟩,f2⟩,f3⟩,f4⟩,f5⟩,f6⟩,f7⟩,f8⟩,f9⟩,f10⟩,-⟩,f12⟩ w1 hC1 E hE;have d0:=hC1.x.cell k;rw [HEX.out] at d0;have q0:=hC1.x.free k;simp only [sP,f0,f1,f2,f3,f4,f5,f6,f7,f8,f9,f10,f12] at hE ⊢;clear f0 f1 f2 f3 f4 f5 f6 f7 f8 f9 f10 f12;go_wp2;refine .mk (hE _ (hC1.putX (wrote_setCell_at _ _ _ _) ?_));have h:=blk_setCell_at (i:=k) hC1.x (.int .u64 ((l+(4503599627370494 - m):Nat):Int));rw [HSET.out] at h;exact h
    rintro vals ⟨⟨⟨⟨⟨⟨⟨⟨⟨⟨⟨⟨⟨⟨-,f0⟩,f1⟩,f2⟩,f3⟩,f4⟩,f5⟩,f6⟩,f7⟩,f8⟩,f9⟩,f10⟩,f11⟩,f12⟩,f13⟩ w1 hC1;simp only [sP,f0,f1,f2,f3,f4,f5,f6,f7,f8,f9,f10,f11,f12,f13];clear f0 f1 f2 f3 f4 f5 f6 f7 f8 f9 f10 f11 f12 f13;clear HC0;have HC1:=zY hC1;clear hC1;go_wp2_with fail;exact ⟨⟨k+1,by omega,by go_num,HC1.out⟩,by simp [intOf]; omega⟩
  ·obtain rfl:k=5:=by omega
   rw [mixV_end] at hst;have HST:=zY hst;clear hst;go_wp2_with (refine wpList_get_box (x:=.tmp 2) HST.out.x rfl rfl rfl hu rfl elem_size ?_);refine calls_then (carried_any (rawSub x (carryE y)) _ ?_) ?_
   ·obtain ⟨a1,a2,a3,a4,a5⟩:=HX.out
    constructor <;> simp only [rawSub] <;> omega
   rintro e w2 ⟨rfl,hb2⟩;have hs2:=HST.out.next hb2;have HS2:=zY hs2;clear HST hs2 hb2;go_wp2_with (refine wpList_put_box (x:=.tmp 4) (cells:=eV (subE x y)) HS2.out.z rfl rfl rfl rfl elem_size rfl (by simp [eV,wV,limbs,Value.oneCell']) ?_; intro w5 hb5 hw5);refine bodyPost_ret (results_box (P:=Tryd.prog) rfl rfl hb5 hu rfl elem_size) rfl ⟨rfl,?_⟩;exact hw5.below HS2.out.bel HS2.out.lr HS2.out.bel.size
end Go.Proofs.YtdgheahbafnboaaDoor
/-
  Walk: the field's least.
-/
namespace Go.Proofs.YtdgheahbafnboaaDoor
set_option linter.unusedSimpArgs false
set_option linter.unusedVariables false
open Go.RowKit
def ovr (x:E5):Nat→Nat
 | 0=>((limbs x).getD 0 0+19)/2251799813685248
 | k+1=>((limbs x).getD (k+1) 0+ovr x k)/2251799813685248
theorem ovr_end (x:E5):ovr x 4=overP x:=rfl
theorem ovr_le {x:E5} (h:x.Lt 4503599627370496):∀ k,ovr x k≤2
 | 0=>by have:=limb_lt h (by decide) 0; simp only [ovr]; omega
 | k+1=>by have:=limb_lt h (by decide) (k+1); have:=ovr_le h k; simp only [ovr]; omega
def cyE (x:E5) (q:Nat):Nat→Nat
 | 0=>(limbs x).getD 0 0+19*q
 | k+1=>(limbs x).getD (k+1) 0+cyE x q k/2251799813685248
theorem cyE_le {x:E5} (h:x.Lt 4503599627370496) {q:Nat} (hq:q≤2):∀ k,cyE x q k<4503599627370600
 | 0=>by have:=limb_lt h (by decide) 0; simp only [cyE]; omega
 | k+1=>by have:=limb_lt h (by decide) (k+1); have:=cyE_le h hq k; simp only [cyE]; omega
def lstV (x:E5) (q k:Nat):Array Value:=wV ((List.range k).map (fun j=>cyE x q j%2251799813685248)++cyE x q k :: (limbs x).drop (k+1))
def midV (x:E5) (q k:Nat):Array Value:=wV ((List.range k).map (fun j=>cyE x q j%2251799813685248)++cyE x q k :: cyE x q (k+1) :: (limbs x).drop (k+2))
theorem lstV_zero (x:E5) (q:Nat):(eV x).setIfInBounds 0 (.int .u64 (((limbs x).getD 0 0+19*q:Nat):Int))=lstV x q 0:=rfl
theorem lstV_at (x:E5) (q k:Nat) (h:k<5):(lstV x q k)[k]?=some (.int .u64 ((cyE x q k:Nat):Int)):=by
 match k,h with
 | 0,_=>rfl
 | 1,_=>rfl
 | 2,_=>rfl
 | 3,_=>rfl
 | 4,_=>rfl
theorem lstV_at1 (x:E5) (q k:Nat) (h:k<4):(lstV x q k)[k+1]?=some (.int .u64 (((limbs x).getD (k+1) 0:Nat):Int)):=by
 match k,h with
 | 0,_=>rfl
 | 1,_=>rfl
 | 2,_=>rfl
 | 3,_=>rfl
theorem lstV_set (x:E5) (q k:Nat) (h:k<4):(lstV x q k).setIfInBounds (k+1) (.int .u64 ((cyE x q (k+1):Nat):Int))=midV x q k:=by
 match k,h with
 | 0,_=>rfl
 | 1,_=>rfl
 | 2,_=>rfl
 | 3,_=>rfl
theorem midV_at (x:E5) (q k:Nat) (h:k<4):(midV x q k)[k]?=some (.int .u64 ((cyE x q k:Nat):Int)):=by
 match k,h with
 | 0,_=>rfl
 | 1,_=>rfl
 | 2,_=>rfl
 | 3,_=>rfl
theorem midV_set (x:E5) (q k:Nat) (h:k<4):(midV x q k).setIfInBounds k (.int .u64 ((cyE x q k%2251799813685248:Nat):Int))=lstV x q (k+1):=by
 match k,h with
 | 0,_=>rfl
 | 1,_=>rfl
 | 2,_=>rfl
 | 3,_=>rfl
theorem lstV_end (x:E5) (q:Nat):(lstV x q 4).setIfInBounds 4 (.int .u64 ((cyE x q 4%2251799813685248:Nat):Int))=eV (leastQ x q):=rfl
structure G2 (w0:World) (g r:Nat) (x z:Array Value) (u:World):Prop where
 bel:Below w0.heap.size w0 u
 x:Blk u g 39 x
 z:Blk u r 39 z
 lg:w0.heap.size≤g
 lr:w0.heap.size≤r
 gr:g≠r
theorem G2.putX {w0 u u':World} {g r:Nat} {x z x':Array Value} (k:G2 w0 g r x z u) (hw:Wrote g u u') (hb:Blk u' g 39 x'):G2 w0 g r x' z u' :=
 ⟨hw.below k.bel k.lg k.bel.size,hb,hw.blk k.z (Ne.symm k.gr),k.lg,k.lr,k.gr⟩
theorem G2.drew {w0 u:World} {g r:Nat} {x z:Array Value} (k:G2 w0 g r x z u):G2 w0 g r x z u.drew :=
 ⟨k.bel.drew,k.x,k.z,k.lg,k.lr,k.gr⟩
theorem G2.next {w0 u u':World} {g r:Nat} {x z:Array Value} (k:G2 w0 g r x z u) (hb:Below u.heap.size u u'):G2 w0 g r x z u' :=
 ⟨k.bel.trans (hb.mono k.bel.size),k.x.below hb k.x.lt,k.z.below hb k.z.lt,k.lg,k.lr,k.gr⟩
theorem g2_new (w:World) (x z:Array Value):G2 w w.heap.size (w.heap.size+1) x z ((w.alloc (.cells x 39)).alloc (.cells z 39)) :=
 ⟨(below_new _ _).alloc (by simp) _,(Blk.new _ _ _).alloc _,Blk.newAt (by simp),Nat.le_refl _,by omega,by omega⟩
set_option maxRecDepth 100000 in
set_option maxHeartbeats 2000000 in
theorem least_any (x:E5) (w:World) (hx:x.Lt 18446744073709551616):Calls Tryd.prog 72 #[.agg (eV x)] w (ElemPost (leastE x) w):=by
 have hu:=Tryd.underlying39;have hst0:G2 w w.heap.size (w.heap.size+1) (eV x) (eV zE) _:=g2_new w (eV x) (eV zE);have hx1:(carryE x).Lt 18446744073709551616:=(carry_lt hx).mono (by decide);obtain ⟨y,hy⟩:∃ y,y=carryE (carryE x):=⟨_,rfl⟩;have hyl:y.Lt 4503599627370496:=by rw [hy]; exact (carry_lt hx1).mono (by decide)
 have hfin:leastE x=leastQ y (ovr y 4):=by rw [hy]; rfl
 have HX:=zY hx;have HX1:=zY hx1;have HYL:=zY hyl;have HST0:=zY hst0;have HFIN:=zY hfin;have HY:=zY hy;clear hx hx1 hyl hst0 hfin hy;go_enter Tryd.func72,Tryd.ntmps72;go_wp2_with (refine wpList_get_box (x:=.tmp 1) HST0.out.x rfl rfl rfl hu rfl elem_size ?_);generalize hr:w.heap.size+1=r at *;generalize hg:w.heap.size=g at *;have HR:=zY hr;have HG:=zY hg;clear hr hg;refine calls_then (carried_any x _ HX.out) ?_;rintro e w2 ⟨rfl,hb2⟩;have hs2:=HST0.out.next hb2;have HS2:=zY hs2;clear HST0 hs2 hb2;go_wp2_with fail;refine calls_then (carried_any (carryE x) _ HX1.out) ?_;rintro e w3 ⟨rfl,hb3⟩;rw [← HY.out];have hs3:=HS2.out.next hb3;have HS3:=zY hs3;clear HS2 hs3 hb3;have hl0:=limb_lt HYL.out (by decide) 0;obtain ⟨l0,hl⟩:∃ l,l=(limbs y).getD 0 0:=⟨_,rfl⟩;rw [← hl] at hl0;have hq0:ovr y 0=(l0+19)/2251799813685248:=by rw [hl]; rfl
 have hll0:(l0:Int)<4503599627370496:=by omega
 have ex0:(eV y)[0]?=some (.int .u64 (l0:Int)):=by rw [hl]; exact eV_at _ _ (by decide)
 have HL:=zY hl;have HQ0:=zY hq0;have EX0:=zY ex0;clear hl0 hl hq0 ex0;go_wp2_with (refine wpList_put_box (x:=.tmp 1) (cells:=eV y) HS3.out.x rfl rfl rfl rfl elem_size rfl (by simp [eV,wV,limbs,Value.oneCell']) ?_; intro w4 hb4 hw4; have d0:=hb4.cell 0; rw [EX0.out] at d0; have HB4:=zY hb4; have HW4:=zY hw4; clear hb4 hw4);have hs4:G2 w g r (eV y) (eV zE) w4:=HS3.out.putX HW4.out HB4.out;have HS4:=zY hs4;clear HS3 hs4 HB4 HW4 EX0
 go_loopw [18,3] (fun i q wr=>∃ k:Nat,k≤4∧i=.int .i64 k∧q=.int .u64 (ovr y k:Nat)∧G2 w g r (eV y) (eV zE) wr) (fun i _ _=>4 - (intOf i).toNat)
 case atStart=>exact ⟨0,by omega,rfl,by rw [HQ0.out]; go_num,HS4.out⟩
 case round =>
  clear HS4;obtain ⟨k,hk,rfl,rfl,hst⟩:=hrel
  by_cases hlt:k<4
  ·have hlt':(k:Int)<4:=by omega
   obtain ⟨l,hl⟩:∃ l,l=(limbs y).getD (k+1) 0:=⟨_,rfl⟩;have hll:l<4503599627370496:=by rw [hl]; exact limb_lt HYL.out (by decide) (k+1)
   obtain ⟨q,hq⟩:∃ q,q=ovr y k:=⟨_,rfl⟩;have hql:q≤2:=by rw [hq]; exact ovr_le HYL.out k
   have hqn:ovr y (k+1)=(l+q)/2251799813685248:=by rw [hq,hl]; rfl
   have d0:=hst.x.cell (1+k);rw [Nat.add_comm 1 k,eV_at _ _ (by omega),← hl,Nat.add_comm k 1] at d0;rw [← hq];have hli:(l:Int)<4503599627370496:=by omega
   have hqi:(q:Int)≤2:=by omega
   have HQN:=zY hqn;have HST:=zY hst;clear hqn hq hl hst;go_wp2_with fail;exact ⟨⟨k+1,by omega,by go_num,by rw [HQN.out]; go_num,HST.out⟩,by simp [intOf]; omega⟩
  ·obtain rfl:k=4:=by omega
   obtain ⟨q,hq⟩:∃ q,q=ovr y 4:=⟨_,rfl⟩;have hql:q≤2:=by rw [hq]; exact ovr_le HYL.out 4
   rw [← hq];have hfin:=HFIN.out;rw [← hq] at hfin;have d0:=hst.x.cell 0;rw [eV_at _ _ (by decide),← HL.out] at d0;have f0:=hst.x.free 0;have hqi:(q:Int)≤2:=by omega
   have hset:=lstV_zero y q;rw [← HL.out] at hset;have hz:(l0:Int)+19*(q:Int)=((l0+19*q:Nat):Int):=by omega
   have HZ:=zY hz;have HSET:=zY hset;have HST:=zY hst;have HF:=zY hfin;clear hset hst hq hfin HFIN hz;go_wp2_with fail;obtain ⟨wo,hwo⟩:∃ x,x=wr.setCell ⟨g,0,none⟩ (.int .u64 ((l0:Int)+19*(q:Int))):=⟨_,rfl⟩;rw [← hwo]
   have hs5:G2 w g r (lstV y q 0) (eV zE) wo:=by
    rw [hwo];refine HST.out.putX (wrote_setCell_at _ _ _ _) ?_;rw [HZ.out];have h:=blk_setCell_at (i:=0) HST.out.x (.int .u64 ((l0+19*q:Nat):Int));rw [HSET.out] at h;exact h
   have HS5:=zY hs5;have HQL:=zY hql;clear HST HSET HZ hwo hs5 hql d0 f0 hqi hll0 HQ0 HL
   go_loopw [35] (fun i wr=>∃ k:Nat,k≤4∧i=.int .i64 k∧G2 w g r (lstV y q k) (eV zE) wr) (fun i _=>4 - (intOf i).toNat)
   case atStart=>exact ⟨0,by omega,rfl,HS5.out⟩
   case round =>
    clear HS5;obtain ⟨k,hk,rfl,hst⟩:=hrel
    by_cases hlt2:k<4
    ·have hlt3:(k:Int)<4:=by omega
     obtain ⟨c0,hc0⟩:∃ c,c=cyE y q k:=⟨_,rfl⟩;obtain ⟨c1,hc1⟩:∃ c,c=cyE y q (k+1):=⟨_,rfl⟩;obtain ⟨l,hl⟩:∃ l,l=(limbs y).getD (k+1) 0:=⟨_,rfl⟩;have hcl:c0<4503599627370600:=by rw [hc0]; exact cyE_le HYL.out HQL.out k
     have hc10:c1=l+c0/2251799813685248:=by rw [hc1,hl,hc0]; rfl
     have hll:l<4503599627370496:=by rw [hl]; exact limb_lt HYL.out (by decide) (k+1)
     have ea:=lstV_at y q k (by omega);have eb:=lstV_at1 y q k hlt2;have ec:=lstV_set y q k hlt2;have ed:=midV_at y q k hlt2;have ee:=midV_set y q k hlt2;rw [← hc0] at ea;rw [← hl] at eb;rw [← hc1] at ec;rw [← hc0] at ed ee;have EA:=zY ea;have EB:=zY eb;have EC:=zY ec;have ED:=zY ed;have EE:=zY ee;have HCL:=zY hcl;have HLL:=zY hll;have HC10:=zY hc10;have HC0:=hst.drew;have hk5:(k:Int)+1<5:=by omega
     have hk6:(k:Int)<5:=by omega
     clear ea eb ec ed ee hcl hll hc10 hc0 hc1 hl hst;go_wp2_with fail;refine wp_region_det (fun u=>G2 w g r (lstV y q k) (eV zE) u) (fun u=>G2 w g r (midV y q k) (eV zE) u) [(0,some 38),(1,some 39),(2,some 40),(3,some 41),(4,some 42),(5,some 43),(6,some 44),(7,some 45),(8,some 46),(9,some 47),(10,some 48),(11,some 49),(12,some 50),(13,none)] (by kernel_rfl) (by kernel_rfl) (by decide) (by kernel_rfl) (fun _=>rfl) HC0 ?_;apply DetL.next
     ·apply dP [];exact fun _=>rfl;rfl;rintro vals - w1 hC1 E hE;simp only [sP] at hE ⊢;go_wp2;exact .mk (hE _ hC1)
     apply DetL.next
     ·apply dP [(0,some 38)];exact fun _=>rfl;rfl;rintro vals ⟨-,f0⟩ w1 hC1 E hE;simp only [sP,f0] at hE ⊢;clear f0;go_wp2;exact .mk (hE _ hC1)
     apply DetL.next
     ·apply dP [];exact fun _=>rfl;rfl;intro vals vq w1 hC1 E hE;clear vq;simp only [sP] at hE ⊢;go_wp2;exact .mk (hE _ hC1)
     apply DetL.next
     ·apply dP [(2,some 40),(1,some 39)];exact fun _=>rfl;rfl;rintro vals ⟨⟨⟨-,-⟩,f1⟩,f2⟩ w1 hC1 E hE;simp only [sP,f1,f2] at hE ⊢;clear f1 f2;go_wp2;exact .mk (hE _ hC1)
     apply DetL.next
     ·apply dP [(3,some 41)];exact fun _=>rfl;rfl;intro vals vq w1 hC1 E hE;have f3:=vq.2;clear vq;have d0:=hC1.x.cell (k+1);rw [EB.out] at d0;simp only [sP,f3] at hE ⊢;clear f3;go_wp2;exact .mk (hE _ hC1)
     apply DetL.next
     ·apply dP [];exact fun _=>rfl;rfl;intro vals vq w1 hC1 E hE;clear vq;simp only [sP] at hE ⊢;go_wp2;exact .mk (hE _ hC1)
     apply DetL.next
     ·apply dP [];exact fun _=>rfl;rfl;intro vals vq w1 hC1 E hE;clear vq;simp only [sP] at hE ⊢;go_wp2;exact .mk (hE _ hC1)
     apply DetL.next
     ·apply dP [(6,some 44),(5,some 43)];exact fun _=>rfl;rfl;intro vals vq w1 hC1 E hE;have f5:=vq.1.2;have f6:=vq.2;clear vq;simp only [sP,f5,f6] at hE ⊢;clear f5 f6;go_wp2;exact .mk (hE _ hC1)
     apply DetL.next
     ·apply dP [(7,some 45)];exact fun _=>rfl;rfl;intro vals vq w1 hC1 E hE;have f7:=vq.2;clear vq;have d0:=hC1.x.cell k;rw [EA.out] at d0;simp only [sP,f7] at hE ⊢;clear f7;go_wp2;exact .mk (hE _ hC1)
     apply DetL.next
     ·apply dP [(8,some 46)];exact fun _=>rfl;rfl;intro vals vq w1 hC1 E hE;have f8:=vq.2;clear vq;simp only [sP,f8] at hE ⊢;clear f8;go_wp2;exact .mk (hE _ hC1)
     apply DetL.next
     ·apply dP [(4,some 42),(9,some 47)];exact fun _=>rfl;rfl;intro vals vq w1 hC1 E hE;have f4:=vq.1.1.1.1.1.2;have f9:=vq.2;clear vq;simp only [sP,f4,f9] at hE ⊢;clear f4 f9;go_wp2;rw [show IntKind.u64.wrap ((l:Int)+(c0:Int)/2251799813685248)=(c1:Int) by have:=HCL.out; have:=HLL.out; have:=HC10.out; rw [IntKind.wrap_u64]; omega];exact .mk (hE _ hC1)
     apply DetL.next
     ·apply dP [];exact fun _=>rfl;rfl;intro vals vq w1 hC1 E hE;clear vq;simp only [sP] at hE ⊢;go_wp2;exact .mk (hE _ hC1)
     apply DetL.next
     ·apply dP [(11,some 49),(1,some 39),(0,some 38),(1,some 39),(2,some 40),(3,some 41),(4,some 42),(5,some 43),(6,some 44),(7,some 45),(8,some 46),(9,some 47),(10,some 48)];exact fun _=>rfl;rfl;rintro vals ⟨⟨⟨⟨⟨⟨⟨⟨⟨⟨⟨⟨-,f0⟩,f1⟩,f2⟩,f3⟩,f4⟩,f5⟩,f6⟩,f7⟩,f8⟩,f9⟩,f10⟩,f11⟩ w1 hC1 E hE;simp only [sP,f0,f1,f2,f3,f4,f5,f6,f7,f8,f9,f10,f11] at hE ⊢;clear f0 f1 f2 f3 f4 f5 f6 f7 f8 f9 f10 f11;go_wp2;exact .mk (hE _ hC1)
     apply DetL.last (v:=undef)
     ·apply dP [(12,some 50),(10,some 48),(0,some 38),(1,some 39),(2,some 40),(3,some 41),(4,some 42),(5,some 43),(6,some 44),(7,some 45),(8,some 46),(9,some 47),(10,some 48)];exact fun _=>rfl;rfl;rintro vals ⟨⟨⟨⟨⟨⟨⟨⟨⟨⟨⟨⟨⟨-,f0⟩,f1⟩,f2⟩,f3⟩,f4⟩,f5⟩,f6⟩,f7⟩,f8⟩,f9⟩,f10⟩,-⟩,f12⟩ w1 hC1 E hE;have d0:=hC1.x.cell (k+1);rw [EB.out] at d0;have q0:=hC1.x.free (k+1);simp only [sP,f0,f1,f2,f3,f4,f5,f6,f7,f8,f9,f10,f12] at hE ⊢;clear f0 f1 f2 f3 f4 f5 f6 f7 f8 f9 f10 f12;go_wp2;refine .mk (hE _ (hC1.putX (wrote_setCell_at _ _ _ _) ?_));have h:=blk_setCell_at (i:=k+1) hC1.x (.int .u64 (c1:Int));rw [EC.out] at h;exact h
     rintro vals ⟨⟨⟨⟨⟨⟨⟨⟨⟨⟨⟨⟨⟨⟨-,f0⟩,f1⟩,f2⟩,f3⟩,f4⟩,f5⟩,f6⟩,f7⟩,f8⟩,f9⟩,f10⟩,f11⟩,f12⟩,f13⟩ w1 hC1;simp only [sP,f0,f1,f2,f3,f4,f5,f6,f7,f8,f9,f10,f11,f12,f13];clear f0 f1 f2 f3 f4 f5 f6 f7 f8 f9 f10 f11 f12 f13;clear HC0;have d0:=hC1.x.cell k;rw [ED.out] at d0;have q0:=hC1.x.free k;have HC1:=zY hC1;clear hC1;go_wp2_with fail;refine ⟨⟨k+1,by omega,by go_num,HC1.out.putX (wrote_setCell_at _ _ _ _) ?_⟩,by simp [intOf]; omega⟩;rw [mask51 c0 (by have:=HCL.out; omega)];have h:=blk_setCell_at (i:=k) HC1.out.x (.int .u64 ((c0%2251799813685248:Nat):Int));rw [EE.out] at h;exact h
    ·obtain rfl:k=4:=by omega
     obtain ⟨c0,hc0⟩:∃ c,c=cyE y q 4:=⟨_,rfl⟩;have hcl:c0<4503599627370600:=by rw [hc0]; exact cyE_le HYL.out HQL.out 4
     have ea:=lstV_at y q 4 (by omega);have ee:=lstV_end y q;rw [← hc0] at ea ee;rw [← HF.out] at ee;have d0:=hst.x.cell 4;rw [ea] at d0;have q0:=hst.x.free 4;have hm:=mask51 c0 (by omega);have hpt:∀ u:World,G2 w g r (eV (leastE x)) (eV zE) u→True:=fun _ _=>trivial
     have hs6:G2 w g r (eV (leastE x)) (eV zE) (wr.setCell ⟨g,4,none⟩ (.int .u64 (bits .and .u64 (c0:Int) 2251799813685247))):=by
      refine hst.putX (wrote_setCell_at _ _ _ _) ?_;rw [hm];have h:=blk_setCell_at (i:=4) hst.x (.int .u64 ((c0%2251799813685248:Nat):Int));rw [ee] at h;exact h
     have HS6:=zY hs6;clear hs6 hst hc0 hcl ea ee hm hpt
     go_wp2_with (first
      | (refine wpList_get_box (x:=.tmp 1) HS6.out.x rfl rfl rfl hu rfl elem_size ?_)
      | (refine wpList_put_box (x:=.tmp 2) (cells:=eV (leastE x)) HS6.out.z rfl rfl rfl rfl elem_size rfl (by simp [eV,wV,limbs,Value.oneCell']) ?_; intro w5 hb5 hw5))
     refine bodyPost_ret (results_box (P:=Tryd.prog) rfl rfl hb5 hu rfl elem_size) rfl ⟨rfl,?_⟩;exact hw5.below HS6.out.bel HS6.out.lr HS6.out.bel.size
end Go.Proofs.YtdgheahbafnboaaDoor
/-
  Walks: two words' product and sum; the field's numbers of two words.
-/
namespace Go.Proofs.YtdgheahbafnboaaDoor
set_option linter.unusedSimpArgs false
set_option linter.unusedVariables false
open Go.RowKit
set_option maxHeartbeats 1000000 in
theorem mul64_any (x y:Nat) (hx:x<18446744073709551616) (hy:y<18446744073709551616) (w:World) :
  Calls Tryd.prog 91 #[.int .u64 x,.int .u64 y] w fun e w'=>e=.returned (.tuple #[.int .u64 ((x*y/18446744073709551616:Nat):Int),.int .u64 ((x*y%18446744073709551616:Nat):Int)])∧w'=w:=by
 obtain ⟨bd,bt,bw,hhi⟩:=Lib.mul64_hi x y hx hy;have ba:=Lib.half_mul_le (a:=x/4294967296) (b:=y/4294967296) (by omega) (by omega);have bb:=Lib.half_mul_le (a:=x/4294967296) (b:=y%4294967296) (by omega) (by omega);have bc:=Lib.half_mul_le (a:=x%4294967296) (b:=y/4294967296) (by omega) (by omega);have ba':x/4294967296*(y/4294967296)<18446744073709551616:=by omega
 have bb':x/4294967296*(y%4294967296)<18446744073709551616:=by omega
 have bc':x%4294967296*(y/4294967296)<18446744073709551616:=by omega
 have bh1:x/4294967296*(y/4294967296)+(x/4294967296*(y%4294967296)+x%4294967296*(y%4294967296)/4294967296)/4294967296<18446744073709551616:=by omega
 have bh:x/4294967296*(y/4294967296)+(x/4294967296*(y%4294967296)+x%4294967296*(y%4294967296)/4294967296)/4294967296+((x/4294967296*(y%4294967296)+x%4294967296*(y%4294967296)/4294967296)%4294967296+x%4294967296*(y/4294967296))/4294967296<18446744073709551616:=by omega
 go_enter Tryd.func91,Tryd.ntmps91;go_wp2;simp only [Mul64.maskN x hx,Mul64.maskN y hy,Mul64.divN,Mul64.mulN,Mul64.addN,Mul64.wrapN _ bd,Mul64.wrapN _ bb',Mul64.wrapN _ bt,Mul64.maskN _ bt,Mul64.wrapN _ bc',Mul64.wrapN _ bw,Mul64.wrapN _ ba',Mul64.wrapN _ bh1,Mul64.wrapN _ bh,Mul64.wrapM (x*y)];rw [hhi];go_ret2;exact ⟨rfl,rfl⟩
theorem add64_run (x y c:Nat) (hx:x<18446744073709551616) (hy:y<18446744073709551616) (hc:c≤1) (w:World) :
  (callFunc 92 #[.int .u64 x,.int .u64 y,.int .u64 c]).run Tryd.prog w =
   .ok (.value (.tuple #[.int .u64 (((x+y+c)%18446744073709551616:Nat):Int),.int .u64 (((x+y+c)/18446744073709551616:Nat):Int)])) w:=by
 rw [run_callFunc_extern Tryd.func92 (by kernel_rfl) (by kernel_rfl) (by kernel_rfl) (e:=add64Entry) (by kernel_rfl),run_add64 x y c (by omega) (by omega) (by omega) (by omega)];simp only [Result.andThen]
 congr 5 <;> omega
def wdV (n:Nat):Array Value:=#[.int .u64 ((n/18446744073709551616:Nat):Int),.int .u64 ((n%18446744073709551616:Nat):Int)]
theorem wide_size:(Tryd.prog.info? 87).map (·.size)=some 2:=by kernel_rfl
def WidePost (n:Nat) (w:World) (e:Ending) (w':World):Prop:=e=.returned (.agg (wdV n))∧Below w.heap.size w w'
set_option maxRecDepth 100000 in
set_option maxHeartbeats 1000000 in
theorem over_any (n:Nat) (hn:n<41538374868278621028243970633760768) (w:World):Calls Tryd.prog 71 #[.agg (wdV n)] w (fun e w'=>e=.returned (.int .u64 ((n/2251799813685248:Nat):Int))∧Below w.heap.size w w'):=by
 have hh:n/18446744073709551616<2251799813685248:=by omega
 have hl:n%18446744073709551616<18446744073709551616:=by omega
 have hs:n/2251799813685248=n/18446744073709551616*8192+n%18446744073709551616/2251799813685248:=by omega
 rw [hs];obtain ⟨hi,hhi⟩:∃ x,x=n/18446744073709551616:=⟨_,rfl⟩;obtain ⟨lo,hlo⟩:∃ x,x=n%18446744073709551616:=⟨_,rfl⟩;rw [wdV,← hhi,← hlo];rw [← hhi] at hh;rw [← hlo] at hl;clear hs hhi hlo hn
 have hor:bits .or .u64 ((hi:Int)*8192) ((lo:Int)/2251799813685248)=((hi*8192+lo/2251799813685248:Nat):Int):=by
  have h1:=or64 (a:=hi*8192) (b:=lo/2251799813685248) (by omega) (by omega)
  have h2:hi*8192 ||| lo/2251799813685248=hi*8192+lo/2251799813685248:=by
   have:=Nat.shiftLeft_add_eq_or_of_lt (i:=13) (b:=lo/2251799813685248) (by omega) hi;rw [Nat.shiftLeft_eq] at this;exact this.symm
  rw [h2] at h1;rw [← h1]
  congr 1 <;> omega
 have hw:IntKind.u64.wrap ((hi:Int)*8192)=(hi:Int)*8192:=by rw [IntKind.wrap_u64]; omega
 have HOR:=zY hor;have HW:=zY hw;clear hor hh hl hw;go_enter Tryd.func71,Tryd.ntmps71;go_wp2_with fail;go_ret;refine ⟨?_,below_new _ _⟩;rw [HW.out,HOR.out];rfl
set_option maxRecDepth 100000 in
set_option maxHeartbeats 1000000 in
theorem plus_any (n a b:Nat) (ha:a<18446744073709551616) (hb:b<18446744073709551616) (hn:n+a*b<340282366920938463463374607431768211456) (w:World):Calls Tryd.prog 70 #[.agg (wdV n),.int .u64 a,.int .u64 b] w (WidePost (n+a*b) w):=by
 obtain ⟨p,hp⟩:∃ p,p=a*b:=⟨_,rfl⟩;rw [← hp] at hn ⊢;obtain ⟨hi,hhi⟩:∃ x,x=n/18446744073709551616:=⟨_,rfl⟩;obtain ⟨lo,hlo⟩:∃ x,x=n%18446744073709551616:=⟨_,rfl⟩;obtain ⟨ph,hph⟩:∃ x,x=p/18446744073709551616:=⟨_,rfl⟩;obtain ⟨pl,hpl⟩:∃ x,x=p%18446744073709551616:=⟨_,rfl⟩;obtain ⟨c,hc⟩:∃ x,x=(lo+pl+0)/18446744073709551616:=⟨_,rfl⟩;have e1:(lo+pl+0)%18446744073709551616=(n+p)%18446744073709551616:=by omega
 have e2:(hi+ph+c)%18446744073709551616=(n+p)/18446744073709551616:=by omega
 have hr1:=add64_run lo pl 0 (by omega) (by omega) (by omega);have hr2:=add64_run hi ph c (by omega) (by omega) (by omega);rw [e1,← hc] at hr1;rw [e2] at hr2;rw [show ((0:Nat):Int)=0 from rfl] at hr1;have hm:=mul64_any a b ha hb;rw [← hp,← hph,← hpl] at hm;have HM:=zY hm;rw [wdV,← hhi,← hlo];obtain ⟨cc,hcc⟩:∃ x,x=(hi+ph+c)/18446744073709551616:=⟨_,rfl⟩;rw [← hcc] at hr2;have hz:=wide_size;have hu:=Tryd.underlying87;clear hm ha hb hn hp hhi hlo hph hpl hc e1 e2 hcc;obtain ⟨s1,hs1⟩:∃ x,x=(n+p)/18446744073709551616:=⟨_,rfl⟩;obtain ⟨s2,hs2⟩:∃ x,x=(n+p)%18446744073709551616:=⟨_,rfl⟩;rw [← hs2] at hr1;rw [← hs1] at hr2;have hv:wdV (n+p)=#[.int .u64 (s1:Int),.int .u64 (s2:Int)]:=by rw [hs1,hs2]; rfl
 have HV:=zY hv;clear hv hs1 hs2;go_enter Tryd.func70,Tryd.ntmps70;go_wp2_with fail;refine calls_then (HM.out _) ?_;rintro e w2 ⟨rfl,rfl⟩;go_wp2_with fail;have hb5:Blk ((w.alloc (.cells #[.int .u64 (hi:Int),.int .u64 (lo:Int)] 87)).alloc (.cells #[.int .u64 (s1:Int),.int .u64 (s2:Int)] 87)) (w.heap.size+1) 87 #[.int .u64 (s1:Int),.int .u64 (s2:Int)]:=Blk.newAt (by simp);refine bodyPost_ret (results_box (P:=Tryd.prog) rfl rfl hb5 hu rfl hz) rfl ⟨by rw [HV.out],?_⟩;exact (below_new _ _).alloc (by simp) _
end Go.Proofs.YtdgheahbafnboaaDoor
/-
  A struct stored into a part of a block; the sums of a product, row by row.
-/
namespace Go.Proofs.YtdgheahbafnboaaDoor
set_option linter.unusedSimpArgs false
set_option linter.unusedVariables false
open Go.RowKit
section
variable {P:Program}
theorem run_store_part {w:World} {ty:TypeId} {g k n:Nat} {r cs new:Array Value} {t:TypeId} (hg:Blk w g t cs) (hi:(P.info? ty).map (·.size)=some n) (hn:r.size=n) (hfit:k+n≤cs.size) (h1:∀ v ∈ r.toList,v.oneCell'=true)
  (hnew:(cs.toList.take k++r.toList++cs.toList.drop (k+n)).toArray=new) :
  (storeVar ty ⟨g,k,none⟩ (.agg r)).run P w=.ok () (w.setRow g new):=by
 have hst:=run_storeCells_at P g k t r.toList 0 cs w hg (by simp; omega) h1;rw [Nat.add_zero,Array.length_toList,hn,hnew] at hst;have hc:(Value.agg r).cells=r:=rfl
 cases hq:P.info? ty with
 | none=>simp [hq] at hi
 | some j =>
  have hj:j.size=n:=by simpa [hq] using hi
  simp [storeVar,hc,sizeOf,typeInfo,hq,hj,hn,hst]
theorem wpList_put_part {w:World} {ops:Array Oper} {rest:List Oper} {o:Oper} {a:Act} {Q:Exit→Act→World→Prop} {ty:TypeId} {x y:Operand} {g k n:Nat} {r cs new:Array Value} {t:TypeId}
  (hg:Blk w g t cs) (hfit:k+n≤cs.size) (hnew:(cs.toList.take k++r.toList++cs.toList.drop (k+n)).toArray=new) (hn:r.size=n) (h1:∀ v ∈ r.toList,v.oneCell'=true)
  (hgd:o.guard=none) (ho:o.op=.store ty x y) (hx:a.eval x=.pointer (some ⟨g,k,none⟩)) (hy:a.eval y=.agg r) (hi:(P.info? ty).map (·.size)=some n)
  (h:∀ w',Blk w' g t new→Wrote g w w'→wpList P ops Q rest (a.put o.dst undef) w'):wpList P ops Q (o :: rest) a w:=by
 refine wpList_plain hgd fun K hK=>?_;have hr:=run_store_part (P:=P) (ty:=ty) hg hi hn hfit h1 hnew;unfold Oper.wp execOp;simp only [ho,hx,hy,Instr.storeAt,Instr.sureAddr,Sem.run_bind,Sem.run_pure,Result.andThen_ok,hr];exact hK _ _ (h _ (setRow_heap w g cs _ t (0,0) hg) (wrote_setRow w g _))
end
def updN (f:Nat→Nat) (p v:Nat):Nat→Nat:=fun j=>if j=p then v else f j
def rV (f:Nat→Nat):Array Value:=(wdV (f 0))++(wdV (f 1))++(wdV (f 2))++(wdV (f 3))++(wdV (f 4))
theorem rV_part (f:Nat→Nat) (p:Nat) (h:p<5):(((rV f).toList.drop (p*2)).take 2).toArray=wdV (f p):=by
 match p,h with
 | 0,_=>rfl
 | 1,_=>rfl
 | 2,_=>rfl
 | 3,_=>rfl
 | 4,_=>rfl
theorem rV_put (f:Nat→Nat) (p v:Nat) (h:p<5):((rV f).toList.take (p*2)++(wdV v).toList++(rV f).toList.drop (p*2+2)).toArray=rV (updN f p v):=by
 match p,h with
 | 0,_=>rfl
 | 1,_=>rfl
 | 2,_=>rfl
 | 3,_=>rfl
 | 4,_=>rfl
theorem rV_lo (f:Nat→Nat) (p:Nat) (h:p<5):(rV f)[p*2+1]?=some (.int .u64 ((f p%18446744073709551616:Nat):Int)):=by
 match p,h with
 | 0,_=>rfl
 | 1,_=>rfl
 | 2,_=>rfl
 | 3,_=>rfl
 | 4,_=>rfl
theorem rV_size (f:Nat→Nat):(rV f).size=10:=rfl
def termN (x y:E5) (i k:Nat):Nat:=(if 5≤i+k then (limbs x).getD i 0*19 else (limbs x).getD i 0)*(limbs y).getD k 0
def posN (i k:Nat):Nat:=if 5≤i+k then i+k - 5 else i+k
def rowN (x y:E5) (i:Nat) (f:Nat→Nat):Nat→Nat→Nat
 | 0=>f
 | k+1=>updN (rowN x y i f k) (posN i k) (rowN x y i f k (posN i k)+termN x y i k)
def accN (x y:E5):Nat→Nat→Nat
 | 0=>fun _=>0
 | i+1=>rowN x y i (accN x y i) 5
theorem acc_end (x y:E5) (j:Nat) (h:j<5):accN x y 5 j=(limbs (mulR x y)).getD j 0:=by
 match j,h with
 | 0,_=>simp [accN,rowN,updN,posN,termN,limbs,mulR]
 | 1,_=>simp [accN,rowN,updN,posN,termN,limbs,mulR]
 | 2,_=>simp [accN,rowN,updN,posN,termN,limbs,mulR]
 | 3,_=>simp [accN,rowN,updN,posN,termN,limbs,mulR]
 | 4,_=>simp [accN,rowN,updN,posN,termN,limbs,mulR]
theorem term_le {x y:E5} (hx:x.Ok) (hy:y.Ok) (i k:Nat):termN x y i k≤385365782469381566918211934355475:=by
 have h1:=limb_lt hx (by decide) i;have h2:=limb_lt hy (by decide) k;unfold termN
 split
 ·have:=mul_lt' (a:=(limbs x).getD i 0*19) (b:=(limbs y).getD k 0) (m:=85568392920039406) (n:=4503599627370496) (by omega) h2;exact Nat.le_trans this (by decide)
 ·have:=mul_lt' (a:=(limbs x).getD i 0) (b:=(limbs y).getD k 0) (m:=4503599627370496) (n:=4503599627370496) h1 h2;exact Nat.le_trans this (by decide)
theorem row_le {x y:E5} (hx:x.Ok) (hy:y.Ok) (i:Nat) {f:Nat→Nat} {B:Nat} (hf:∀ j,f j≤B):∀ k j,rowN x y i f k j≤B+k*385365782469381566918211934355475
 | 0,j=>by simpa [rowN] using hf j
 | k+1,j=>by
  have h1:=row_le hx hy i hf k;have h2:=term_le hx hy i k;simp only [rowN,updN]
  split
  ·have:=h1 (posN i k); omega
  ·exact Nat.le_trans (h1 j) (Nat.add_le_add_left (Nat.mul_le_mul_right _ (Nat.le_succ k)) _)
theorem acc_le {x y:E5} (hx:x.Ok) (hy:y.Ok):∀ i j,accN x y i j≤i*1926828912346907834591059671777375
 | 0,j=>by simp [accN]
 | i+1,j=>by
  have h1:=row_le hx hy i (acc_le hx hy i) 5 j;simp only [accN];omega
end Go.Proofs.YtdgheahbafnboaaDoor
/-
  Walk: the field's Mul.
-/
namespace Go.Proofs.YtdgheahbafnboaaDoor
set_option linter.unusedSimpArgs false
set_option linter.unusedVariables false
open Go.RowKit
theorem wides_size:(Tryd.prog.info? 88).map (·.size)=some 10:=by kernel_rfl
def zerosV:Array Value:=#[.int .u64 0,.int .u64 0,.int .u64 0,.int .u64 0,.int .u64 0,.int .u64 0,.int .u64 0,.int .u64 0,.int .u64 0,.int .u64 0]
theorem mul_w64' (a b:Nat) (h:a*b<18446744073709551616):IntKind.u64.wrap ((a:Int)*(b:Int))=((a*b:Nat):Int):=by
 rw [show (a:Int)*(b:Int)=((a*b:Nat):Int) by simp,IntKind.wrap_u64]; omega
structure M4 (w0:World) (g h r s:Nat) (x y z m:Array Value) (u:World):Prop where
 bel:Below w0.heap.size w0 u
 x:Blk u g 39 x
 y:Blk u h 39 y
 z:Blk u r 39 z
 m:Blk u s 88 m
 lg:w0.heap.size≤g
 lh:w0.heap.size≤h
 lr:w0.heap.size≤r
 ls:w0.heap.size≤s
 gs:g≠s
 hs:h≠s
 rs:r≠s
theorem M4.putM {w0 u u':World} {g h r s:Nat} {x y z m m':Array Value} (k:M4 w0 g h r s x y z m u) (hw:Wrote s u u') (hb:Blk u' s 88 m'):M4 w0 g h r s x y z m' u' :=
 ⟨hw.below k.bel k.ls k.bel.size,hw.blk k.x k.gs,hw.blk k.y k.hs,hw.blk k.z k.rs,hb,k.lg,k.lh,k.lr,k.ls,k.gs,k.hs,k.rs⟩
theorem M4.next {w0 u u':World} {g h r s:Nat} {x y z m:Array Value} (k:M4 w0 g h r s x y z m u) (hb:Below u.heap.size u u'):M4 w0 g h r s x y z m u' :=
 ⟨k.bel.trans (hb.mono k.bel.size),k.x.below hb k.x.lt,k.y.below hb k.y.lt,k.z.below hb k.z.lt,k.m.below hb k.m.lt,k.lg,k.lh,k.lr,k.ls,k.gs,k.hs,k.rs⟩
theorem M4.cast {w0 u:World} {g h r s:Nat} {x y z m m':Array Value} (k:M4 w0 g h r s x y z m u) (e:m=m'):M4 w0 g h r s x y z m' u:=e▸k
structure O3 (w0:World) (r s q:Nat) (z m v:Array Value) (u:World):Prop where
 bel:Below w0.heap.size w0 u
 z:Blk u r 39 z
 m:Blk u s 88 m
 o:Blk u q 39 v
 lr:w0.heap.size≤r
 lo:w0.heap.size≤q
 ro:r≠q
 so:s≠q
theorem O3.put {w0 u u':World} {r s o:Nat} {z m v v':Array Value} (k:O3 w0 r s o z m v u) (hw:Wrote o u u') (hb:Blk u' o 39 v'):O3 w0 r s o z m v' u' :=
 ⟨hw.below k.bel k.lo k.bel.size,hw.blk k.z k.ro,hw.blk k.m k.so,hb,k.lr,k.lo,k.ro,k.so⟩
theorem O3.next {w0 u u':World} {r s o:Nat} {z m v:Array Value} (k:O3 w0 r s o z m v u) (hb:Below u.heap.size u u'):O3 w0 r s o z m v u' :=
 ⟨k.bel.trans (hb.mono k.bel.size),k.z.below hb k.z.lt,k.m.below hb k.m.lt,k.o.below hb k.o.lt,k.lr,k.lo,k.ro,k.so⟩
theorem M4.out {w0 u:World} {g h r s:Nat} {x y z m:Array Value} (k:M4 w0 g h r s x y z m u) (v:Array Value):O3 w0 r s u.heap.size z m v (u.alloc (.cells v 39)) :=
 ⟨k.bel.alloc k.bel.size _,k.z.alloc _,k.m.alloc _,Blk.new _ _ _,k.lr,k.bel.size,Nat.ne_of_lt k.z.lt,Nat.ne_of_lt k.m.lt⟩
set_option maxRecDepth 100000 in
theorem m4_new (w:World) (x y z m:Array Value):M4 w w.heap.size (w.heap.size+1) (w.heap.size+1+1) (w.heap.size+1+1+1) x y z m ((((w.alloc (.cells x 39)).alloc (.cells y 39)).alloc (.cells z 39)).alloc (.cells m 88)) :=
 ⟨(((below_new _ _).alloc (by simp) _).alloc (by simp; try omega) _).alloc (by simp; try omega) _,(((Blk.new _ _ _).alloc _).alloc _).alloc _,((Blk.newAt (by simp)).alloc _).alloc _,(Blk.newAt (by simp)).alloc _,Blk.newAt (by simp),Nat.le_refl _,by omega,by omega,by omega,by omega,by omega,by omega⟩
set_option maxRecDepth 100000 in
set_option maxHeartbeats 4000000 in
theorem mul_any (x y:E5) (w:World) (hx:x.Ok) (hy:y.Ok):Calls Tryd.prog 41 #[.agg (eV x),.agg (eV y)] w (ElemPost (mulE x y) w):=by
 have hu:=Tryd.underlying39;have hu5:=Tryd.underlying37;have huw:=Tryd.underlying87;have hst0:M4 w w.heap.size (w.heap.size+1) (w.heap.size+1+1) (w.heap.size+1+1+1) (eV x) (eV y) (eV zE) zerosV _:=m4_new w (eV x) (eV y) (eV zE) zerosV;have hz0:zerosV=rV (accN x y 0):=by simp [zerosV,rV,wdV,accN]
 have HZ0:=zY hz0;clear hz0;have HX:=zY hx;have HY:=zY hy;have HST0:=zY hst0;clear hx hy hst0;go_enter Tryd.func41,Tryd.ntmps41;go_wp2_with (refine wpList_get_part (x:=.tmp 14) (n:=5) (r:=eV x) HST0.out.x (by rw [eV_size]; decide) rfl rfl rfl rfl hu5 rfl five_size ?_);generalize hs:w.heap.size+1+1+1=s at *;generalize hr:w.heap.size+1+1=r at *;generalize hh:w.heap.size+1=h at *;generalize hg:w.heap.size=g at *;have HS:=zY hs;have HR:=zY hr;have HH:=zY hh;have HG:=zY hg;clear hr hh hg hs
 go_loopw [16] (fun i wr=>∃ k:Nat,k≤5∧i=.int .i64 k∧M4 w g h r s (eV x) (eV y) (eV zE) (rV (accN x y k)) wr) (fun i _=>5 - (intOf i).toNat)
 case atStart=>exact ⟨0,by omega,rfl,HST0.out.cast HZ0.out⟩
 case round =>
  clear HST0;obtain ⟨i,hi,rfl,hst⟩:=hrel
  by_cases hlt:i<5
  ·have hlt':(i:Int)<5:=by omega
   obtain ⟨xi,hxi⟩:∃ l,l=(limbs x).getD i 0:=⟨_,rfl⟩;have hxl:xi<4503599627370496:=by rw [hxi]; exact limb_lt HX.out (by decide) i
   have hix:∀ u:World,(Instr.index 37 (.agg (eV x)) (.int .i64 (i:Int))).run Tryd.prog u=.ok (.int .u64 (xi:Int)) u:=fun u =>
    run_index_array (n:=5) (e:=36) hu5 hlt (by rw [hxi]; exact eV_at x i hlt) (by kernel_rfl) (by kernel_rfl) ⟨_,Tryd.underlying36⟩
   have HST:=zY hst;have HXI:=zY hxi;have HXL:=zY hxl;clear hst hxi hxl;go_wp2_with (refine wpList_get_part (x:=.tmp 20) (n:=5) (r:=eV y) HST.out.y (by rw [eV_size]; decide) rfl rfl rfl rfl hu5 rfl five_size ?_);obtain ⟨wo,rfl⟩:∃ x,x=wr:=⟨_,rfl⟩
   go_loopw [22] (fun c wr=>∃ k:Nat,k≤5∧c=.int .i64 k∧M4 w g h r s (eV x) (eV y) (eV zE) (rV (rowN x y i (accN x y i) k)) wr) (fun c _=>5 - (intOf c).toNat)
   case atStart=>exact ⟨0,by omega,rfl,HST.out⟩
   case round =>
    clear HST hix;obtain ⟨k,hk,rfl,hst⟩:=hrel
    by_cases hltk:k<5
    ·have hltk':(k:Int)<5:=by omega
     obtain ⟨yk,hyk⟩:∃ l,l=(limbs y).getD k 0:=⟨_,rfl⟩;have hyl:yk<4503599627370496:=by rw [hyk]; exact limb_lt HY.out (by decide) k
     have hiy:∀ u:World,(Instr.index 37 (.agg (eV y)) (.int .i64 (k:Int))).run Tryd.prog u=.ok (.int .u64 (yk:Int)) u:=fun u =>
      run_index_array (n:=5) (e:=36) hu5 hltk (by rw [hyk]; exact eV_at y k hltk) (by kernel_rfl) (by kernel_rfl) ⟨_,Tryd.underlying36⟩
     obtain ⟨F,hF⟩:∃ F,F=rowN x y i (accN x y i) k:=⟨_,rfl⟩
     have hFl:∀ p,F p<100000000000000000000000000000000000:=fun p=>by
      have h1:=row_le HX.out HY.out i (acc_le HX.out HY.out i) k p;rw [hF]; omega
     by_cases hge:5≤i+k
     ·obtain ⟨p,hp⟩:∃ p,i+k=p+5:=⟨i+k - 5,by omega⟩;have hp5:p<5:=by omega
      have hpi:(i:Int)+(k:Int) - 5=(p:Int):=by omega
      have hgei:(5:Int)≤(i:Int)+(k:Int):=by omega
      have hrow:rowN x y i (accN x y i) (k+1)=updN F p (F p+xi*19*yk):=by
       have e1:posN i k=p:=by unfold posN; rw [if_pos hge]; omega
       have e2:termN x y i k=xi*19*yk:=by unfold termN; rw [if_pos hge,← HXI.out,← hyk]
       simp only [rowN,e1,e2,← hF]
      rw [← hF] at hst
      have hplus:=plus_any (F p) (xi*19) yk (by have:=HXL.out; omega) (by omega) (by
       have h1:=hFl p;have h2:=mul_lt' (a:=xi*19) (b:=yk) (m:=85568392920039406) (n:=4503599627370496) (by have:=HXL.out; omega) hyl;have h3:(85568392920039406 - 1)*(4503599627370496 - 1)=385365782469381566918211934355475:=by decide
       rw [h3] at h2; omega)
      have hx19:=mul_w64' xi 19 (by have:=HXL.out; omega);rw [show ((19:Nat):Int)=19 from rfl] at hx19;obtain ⟨x19,hx19e⟩:∃ z,z=xi*19:=⟨_,rfl⟩;rw [← hx19e] at hx19 hplus hrow;have hpart:=rV_part F p hp5;have hput:=rV_put F p (F p+x19*yk) hp5;rw [← hrow] at hput;have HPL:=zY hplus;have HPART:=zY hpart;have HPUT:=zY hput;have HST:=zY hst;have HP5:=zY hp5;clear hplus hpart hput hst hx19e hrow hFl hF hyk hyl hp;go_wp2_with (refine wpList_get_part (x:=.tmp 40) (k:=p*2) (n:=2) (r:=wdV (F p)) HST.out.m (by rw [rV_size]; have:=HP5.out; omega) HPART.out rfl rfl rfl huw rfl wide_size ?_);refine calls_then (HPL.out _) ?_;rintro e w2 ⟨rfl,hb2⟩;have hs2:=HST.out.next hb2;have HS2:=zY hs2;clear HST hs2 hb2;go_wp2_with (refine wpList_put_part (x:=.tmp 45) (k:=p*2) (n:=2) (r:=wdV (F p+x19*yk)) HS2.out.m (by rw [rV_size]; have:=HP5.out; omega) HPUT.out rfl (by simp [wdV,Value.oneCell']) rfl rfl rfl rfl wide_size ?_; intro w5 hb5 hw5);exact ⟨⟨k+1,by omega,by go_num,HS2.out.putM hw5 hb5⟩,by simp [intOf]; omega⟩
     ·obtain ⟨p,hp⟩:∃ p,p=i+k:=⟨_,rfl⟩;have hp5:p<5:=by omega
      have hpi:(i:Int)+(k:Int)=(p:Int):=by omega
      have hgei:¬ (5:Int)≤(p:Int):=by omega
      have hrow:rowN x y i (accN x y i) (k+1)=updN F p (F p+xi*yk):=by
       have e1:posN i k=p:=by unfold posN; rw [if_neg hge]; exact hp.symm
       have e2:termN x y i k=xi*yk:=by unfold termN; rw [if_neg hge,← HXI.out,← hyk]
       simp only [rowN,e1,e2,← hF]
      rw [← hF] at hst
      have hplus:=plus_any (F p) xi yk (by have:=HXL.out; omega) (by omega) (by
       have h1:=hFl p;have h2:=mul_lt' (a:=xi) (b:=yk) (m:=85568392920039406) (n:=4503599627370496) (by have:=HXL.out; omega) hyl;have h3:(85568392920039406 - 1)*(4503599627370496 - 1)=385365782469381566918211934355475:=by decide
       rw [h3] at h2; omega)
      have hpart:=rV_part F p hp5;have hput:=rV_put F p (F p+xi*yk) hp5;rw [← hrow] at hput;have HPL:=zY hplus;have HPART:=zY hpart;have HPUT:=zY hput;have HST:=zY hst;have HP5:=zY hp5;clear hplus hpart hput hst hrow hFl hF hyk hyl hp hge;go_wp2_with (refine wpList_get_part (x:=.tmp 52) (k:=p*2) (n:=2) (r:=wdV (F p)) HST.out.m (by rw [rV_size]; have:=HP5.out; omega) HPART.out rfl rfl rfl huw rfl wide_size ?_);refine calls_then (HPL.out _) ?_;rintro e w2 ⟨rfl,hb2⟩;have hs2:=HST.out.next hb2;have HS2:=zY hs2;clear HST hs2 hb2;go_wp2_with (refine wpList_put_part (x:=.tmp 57) (k:=p*2) (n:=2) (r:=wdV (F p+xi*yk)) HS2.out.m (by rw [rV_size]; have:=HP5.out; omega) HPUT.out rfl (by simp [wdV,Value.oneCell']) rfl rfl rfl rfl wide_size ?_; intro w5 hb5 hw5);exact ⟨⟨k+1,by omega,by go_num,HS2.out.putM hw5 hb5⟩,by simp [intOf]; omega⟩
    ·obtain rfl:k=5:=by omega
     have hs6:M4 w g h r s (eV x) (eV y) (eV zE) (rV (accN x y (i+1))) wr:=hst;have HS6:=zY hs6;clear hst hs6;go_wp2_with fail;exact ⟨⟨i+1,by omega,by go_num,HS6.out⟩,by simp [intOf]; omega⟩
  ·obtain rfl:i=5:=by omega
   obtain ⟨R,hR⟩:∃ R,R=mulR x y:=⟨_,rfl⟩;have hRl:∀ j,(limbs R).getD j 0<2596148429267413814265248164610048:=fun j=>by rw [hR]; exact limb_lt (mulR_lt HX.out HY.out).1 (by decide) j
   have hRe:(limbs R).getD 4 0<162259276829213363391578010288128:=by rw [hR]; exact (mulR_lt HX.out HY.out).2
   have hacc:∀ j,j<5→accN x y 5 j=(limbs R).getD j 0:=fun j hj=>by rw [hR]; exact acc_end x y j hj
   have hbig:(carryE R).Lt 18446744073709551616:=by rw [hR]; exact mul_big HX.out HY.out
   have hmul:mulE x y=carryE (carryE R):=by rw [hR]; rfl
   have ho:=hst.out (eV zE);obtain ⟨A,hA⟩:∃ A,A=rV (accN x y 5):=⟨_,rfl⟩;have hpart:∀ j,j<5→((A.toList.drop (j*2)).take 2).toArray=wdV ((limbs R).getD j 0):=fun j hj=>by rw [hA,rV_part _ _ hj,hacc j hj]
   have hlo:∀ j,j<5→A[j*2+1]?=some (.int .u64 (((limbs R).getD j 0%18446744073709551616:Nat):Int)):=fun j hj=>by rw [hA,rV_lo _ _ hj,hacc j hj]
   have hAs:A.size=10:=by rw [hA,rV_size]
   rw [← hA] at ho;have HO:=zY ho;have HRL:=zY hRl;have HRE:=zY hRe;have HBIG:=zY hbig;have HMUL:=zY hmul;have HPART:=zY hpart;have HLO:=zY hlo;have HAS:=zY hAs;clear ho hRl hRe hbig hmul hpart hlo hAs hst hacc hR hA;go_wp2_with fail;obtain ⟨wo,hwo⟩:∃ u,u=wr.alloc (.cells #[.int .u64 0,.int .u64 0,.int .u64 0,.int .u64 0,.int .u64 0] 39):=⟨_,rfl⟩;obtain ⟨o,hoo⟩:∃ o,o=wr.heap.size:=⟨_,rfl⟩;rw [← hwo,← hoo];have ho:O3 w r s o (eV zE) A (mixV (carryE R) zE 0) wo:=by rw [hwo,hoo]; exact HO.out
   have HOO:=zY ho;clear ho hwo hoo HO
   go_loopw [60] (fun i wr=>∃ k:Nat,k≤5∧i=.int .i64 k∧O3 w r s o (eV zE) A (mixV (carryE R) zE k) wr) (fun i _=>5 - (intOf i).toNat)
   case atStart=>exact ⟨0,by omega,rfl,HOO.out⟩
   case round =>
    clear HOO;obtain ⟨k,hk,rfl,hst⟩:=hrel
    by_cases hlt2:k<5
    ·have hlt3:(k:Int)<5:=by omega
     obtain ⟨j,hj⟩:∃ j,j=if k=0 then 4 else k - 1:=⟨_,rfl⟩
     have hj5:j<5:=by rw [hj]; split <;> omega
     have hjk:((k:Int)+5 - 1)%5=(j:Int):=by rw [hj]; split <;> omega
     have hjk2:((k:Int)+4)%5=(j:Int):=by rw [hj]; split <;> omega
     obtain ⟨m,hm⟩:∃ m,m=(limbs R).getD j 0:=⟨_,rfl⟩;obtain ⟨l,hl⟩:∃ l,l=(limbs R).getD k 0:=⟨_,rfl⟩;have hml:m<2596148429267413814265248164610048:=by rw [hm]; exact HRL.out j
     have hm4:k=0→m<162259276829213363391578010288128:=fun h0=>by
      rw [hm,hj,if_pos h0]; exact HRE.out
     have hset:=mixV_set (carryE R) zE k hlt2
     have hval:(limbs (carryE R)).getD k 0=l%2251799813685248+(if k=0 then m/2251799813685248*19 else m/2251799813685248):=by
      rw [carryE_at _ _ hlt2,← hl,hm,hj]
      by_cases h0:k=0
      ·simp only [h0,if_pos]; rw [highE_at _ _ (by decide)]
      ·simp only [h0,if_false]; rw [highE_at _ _ (by omega)]
     rw [hval] at hset;have hpj:=HPART.out j hj5;rw [← hm] at hpj;have hlk:=HLO.out k hlt2;rw [← hl] at hlk;obtain ⟨lo,hlo⟩:∃ x,x=l%18446744073709551616:=⟨_,rfl⟩;rw [← hlo] at hlk;have hlol:lo<18446744073709551616:=by rw [hlo]; exact Nat.mod_lt _ (by decide)
     have hlm:lo%2251799813685248=l%2251799813685248:=by rw [hlo]; omega
     rw [← hlm] at hset;have hov:=over_any m (by omega);obtain ⟨v,hv⟩:∃ v,v=m/2251799813685248:=⟨_,rfl⟩;have hvl:v<1152921504606846976:=by rw [hv]; omega
     have hv0:k=0→v<72057594037927936:=fun h0=>by have:=hm4 h0; rw [hv]; omega
     rw [← hv] at hov hset;have d0:=hst.m.cell (k*2+1);rw [hlk] at d0;have q0:=hst.o.free k;have q1:=hst.o.cell k;have HSET:=zY hset;have HST:=zY hst;have HJ:=zY hj;have HPJ:=zY hpj;have HOV:=zY hov;have HJ5:=zY hj5;have HV0:=zY hv0;have HVL:=zY hvl;have HLK:=zY hlk;clear hset hst hl hm hval hj hpj hlk hlo hlm hov hv hv0 hml hm4 hvl
     by_cases h0:k=0
     ·subst h0;obtain rfl:j=4:=by have:=HJ.out; simpa using this
      have hv1:v<72057594037927936:=HV0.out rfl;have hw19:IntKind.u64.wrap ((v:Int)*19)=(v:Int)*19:=by rw [IntKind.wrap_u64]; omega
      have hset1:=HSET.out;rw [if_pos rfl] at hset1;have HSET1:=zY hset1;clear hset1 HSET;have HV1:=zY hv1;have HW19:=zY hw19;rw [show ((0:Nat):Int)=0 from rfl];clear hjk hjk2 hlt3 HV0 hv1 hw19;go_wp2_with (refine wpList_get_part (x:=.tmp 67) (k:=4*2) (n:=2) (r:=wdV m) HST.out.m (by rw [HAS.out]; decide) HPJ.out rfl rfl rfl huw rfl wide_size ?_);refine calls_then (HOV.out _) ?_;rintro e w2 ⟨rfl,hb2⟩;have hs2:=HST.out.next hb2;have d0:=hs2.m.cell (0*2+1);rw [HLK.out] at d0;have q0:=hs2.o.free 0;have q1:=hs2.o.cell 0;rw [mixV_at _ _ _ hlt2] at q1;have HS2:=zY hs2;clear HST hs2 hb2;go_wp2_with fail;refine ⟨?_,by simp [intOf]⟩
      repeat (apply Exists.intro)
      refine ⟨?_,rfl⟩;refine ⟨1,by omega,rfl,HS2.out.put (wrote_setCell_at _ _ _ _) ?_⟩;rw [HW19.out,mask_sum19 lo v hlol (by have:=HV1.out; omega)];have h:=blk_setCell_at (i:=0) HS2.out.o (.int .u64 ((lo%2251799813685248+v*19:Nat):Int));rw [HSET1.out] at h;exact h
     ·have hb:((k:Int) == 0)=false:=by rw [beq_eq_false_iff_ne]; omega
      go_wp2_with (refine wpList_get_part (x:=.tmp 67) (k:=j*2) (n:=2) (r:=wdV m) HST.out.m (by rw [HAS.out]; have:=HJ5.out; omega) HPJ.out rfl rfl rfl huw rfl wide_size ?_);refine calls_then (HOV.out _) ?_;rintro e w2 ⟨rfl,hb2⟩;have hs2:=HST.out.next hb2;have d0:=hs2.m.cell (k*2+1);rw [HLK.out] at d0;have q0:=hs2.o.free k;have q1:=hs2.o.cell k;rw [mixV_at _ _ _ hlt2] at q1;have HS2:=zY hs2;clear HST hs2 hb2;go_wp2_with fail;refine ⟨?_,by simp [intOf]; omega⟩
      repeat (apply Exists.intro)
      refine ⟨?_,rfl⟩;refine ⟨k+1,by omega,by go_num,HS2.out.put (wrote_setCell_at _ _ _ _) ?_⟩;rw [mask_sum lo v hlol (by have:=HVL.out; omega)];have h:=blk_setCell_at (i:=k) HS2.out.o (.int .u64 ((lo%2251799813685248+v:Nat):Int));have h2:=HSET.out;rw [if_neg h0] at h2;rw [h2] at h;exact h
    ·obtain rfl:k=5:=by omega
     rw [mixV_end] at hst;have HST:=zY hst;clear hst;go_wp2_with (refine wpList_get_box (x:=.tmp 11) HST.out.o rfl rfl rfl hu rfl elem_size ?_);refine calls_then (carried_any (carryE R) _ HBIG.out) ?_;rintro e w2 ⟨rfl,hb2⟩;have hs2:=HST.out.next hb2;have HS2:=zY hs2;clear HST hs2 hb2;rw [← HMUL.out];go_wp2_with (refine wpList_put_box (x:=.tmp 4) (cells:=eV (mulE x y)) HS2.out.z rfl rfl rfl rfl elem_size rfl (by simp [eV,wV,limbs,Value.oneCell']) ?_; intro w5 hb5 hw5);refine bodyPost_ret (results_box (P:=Tryd.prog) rfl rfl hb5 hu rfl elem_size) rfl ⟨rfl,?_⟩;exact hw5.below HS2.out.bel HS2.out.lr HS2.out.bel.size
end Go.Proofs.YtdgheahbafnboaaDoor
/-
  Walk: the field's Int.
-/
namespace Go.Proofs.YtdgheahbafnboaaDoor
set_option linter.unusedSimpArgs false
set_option linter.unusedVariables false
open Go.RowKit
def natE (m:Nat):E5:=⟨m%2251799813685248,m/2251799813685248,0,0,0⟩
def intE (n:Int):E5:=if n<0 then subE zE (natE n.natAbs) else natE n.natAbs
theorem natE_val (m:Nat):(natE m).val=m:=by simp only [natE,E5.val]; omega
theorem natE_ok {m:Nat} (h:m≤9223372036854775808):(natE m).Ok:=by constructor <;> simp only [natE] <;> omega
theorem zE_ok:zE.Ok:=by constructor <;> decide
theorem intE_ok {n:Int} (h1:-9223372036854775808≤n) (h2:n<9223372036854775808):(intE n).Ok:=by
 unfold intE
 split
 ·exact sub_ok zE_ok (natE_ok (by omega))
 ·exact natE_ok (by omega)
set_option maxRecDepth 100000 in
set_option maxHeartbeats 1000000 in
theorem int_any (n:Int) (h1:-9223372036854775808≤n) (h2:n<9223372036854775808) (w:World):Calls Tryd.prog 65 #[.int .i64 n] w (ElemPost (intE n) w):=by
 have hu:=Tryd.underlying39
 have hst0:G2 w (w.heap.size+1) w.heap.size (eV (natE n.natAbs)) (eV zE) ((w.alloc (.cells (eV zE) 39)).alloc (.cells (eV (natE n.natAbs)) 39)) :=
  ⟨(below_new _ _).alloc (by simp) _,Blk.newAt (by simp),(Blk.new _ _ _).alloc _,by omega,Nat.le_refl _,by omega⟩
 have HST0:=zY hst0;obtain ⟨m,hm⟩:∃ m,m=n.natAbs:=⟨_,rfl⟩;have hml:m≤9223372036854775808:=by omega
 have hok:=natE_ok hml;rw [← hm] at HST0
 by_cases hneg:n<0
 ·have hi:intE n=subE zE (natE m):=by unfold intE; rw [if_pos hneg,hm]
  obtain rfl:n=-(m:Int):=by omega
  obtain ⟨u,hum⟩:∃ u,u=18446744073709551616 - m:=⟨_,rfl⟩;have hw1:IntKind.u64.wrap (-(m:Int))=(u:Int):=by rw [IntKind.wrap_u64]; omega
  have hw2:IntKind.u64.wrap (-(u:Int))=(m:Int):=by rw [IntKind.wrap_u64]; omega
  have hd:0<m:=by omega
  have hmk:=mask51 m (by omega);rw [hi];have hE:eV (natE m)=#[.int .u64 ((m:Int)%2251799813685248),.int .u64 ((m:Int)/2251799813685248),.int .u64 0,.int .u64 0,.int .u64 0]:=by simp [eV,wV,limbs,natE]
  have hZ:eV zE=#[.int .u64 0,.int .u64 0,.int .u64 0,.int .u64 0,.int .u64 0]:=by simp [eV,wV,limbs,zE]
  have hc:=fun u=>sub_any zE (natE m) u (zE_ok.mono (by decide)) hok.big;rw [hE,hZ] at hc HST0;have HC:=zY hc;clear hst0 hi hok h1 h2 hml hneg hum hm hc hE hZ;go_enter Tryd.func65,Tryd.ntmps65;go_wp2_with fail;refine calls_then (HC.out _) ?_;rintro e w2 ⟨rfl,hb2⟩;have hs2:=HST0.out.next hb2;have HS2:=zY hs2;clear HST0 hs2 hb2;go_wp2_with (refine wpList_put_box (x:=.tmp 2) (cells:=eV (subE zE (natE m))) HS2.out.z rfl rfl rfl rfl elem_size rfl (by simp [eV,wV,limbs,Value.oneCell']) ?_; intro w5 hb5 hw5);refine bodyPost_ret (results_box (P:=Tryd.prog) rfl rfl hb5 hu rfl elem_size) rfl ⟨rfl,?_⟩;exact hw5.below HS2.out.bel HS2.out.lr HS2.out.bel.size
 ·have hi:intE n=natE m:=by unfold intE; rw [if_neg hneg,hm]
  obtain rfl:n=(m:Int):=by omega
  have hw1:IntKind.u64.wrap (m:Int)=(m:Int):=by rw [IntKind.wrap_u64]; omega
  have hmk:=mask51 m (by omega);rw [hi];have hE:eV (natE m)=#[.int .u64 ((m:Int)%2251799813685248),.int .u64 ((m:Int)/2251799813685248),.int .u64 0,.int .u64 0,.int .u64 0]:=by simp [eV,wV,limbs,natE]
  have hZ:eV zE=#[.int .u64 0,.int .u64 0,.int .u64 0,.int .u64 0,.int .u64 0]:=by simp [eV,wV,limbs,zE]
  rw [hE,hZ] at HST0;have HE:=zY hE;clear hst0 hi hok h1 h2 hml hneg hm hE hZ;go_enter Tryd.func65,Tryd.ntmps65;go_wp2_with fail;refine bodyPost_ret (results_box (P:=Tryd.prog) rfl rfl ((Blk.new w _ _).alloc _) hu rfl elem_size) rfl ⟨by rw [HE.out],?_⟩;exact (below_new _ _).alloc (by simp) _
end Go.Proofs.YtdgheahbafnboaaDoor
/-
  Whether two elements have the same limbs; the field's Odd.
-/
namespace Go.Proofs.YtdgheahbafnboaaDoor
set_option linter.unusedSimpArgs false
set_option linter.unusedVariables false
open Go.RowKit
theorem all_range_nat:∀ (xs ys:List Nat),xs.length=ys.length→((List.range xs.length).all fun i=>xs.getD i 0 == ys.getD i 0)=(xs == ys)
 | [],[],_=>rfl
 | x :: xs,y :: ys,h=>by
  have ih:=all_range_nat xs ys (by simpa using h);rw [List.length_cons,List.range_succ_eq_map,List.all_cons,List.all_map];simp only [List.getD_cons_zero,Function.comp_def,List.getD_cons_succ,ih];simp [List.cons_beq_cons]
 | [],_ :: _,h=>by simp at h
 | _ :: _,[],h=>by simp at h
section
variable {P:Program} (w:World)
def wcell (x:Nat):Value:=.int .u64 (x:Int)
theorem run_equalIn_words (d:Nat) (t e:TypeId) (n:Nat) (ht:P.underlying t=some (.array n e)) (he:P.underlying e=some (.int .u64)) (hsz:∀ w,(sizeOf e).run P w=.ok 1 w)
  (xs ys:List Nat) (hx:xs.length=n) (hy:ys.length=n) :
  (Op.equalIn (d+2) t (.agg (xs.map wcell).toArray) (.agg (ys.map wcell).toArray)).run P w=.ok (xs == ys) w:=by
 rw [← all_range_nat xs ys (hx.trans hy.symm),hx,List.range_eq_range',Op.equalIn];simp only [Sem.run_bind,run_underlying ht,Result.andThen_ok,hsz,Std.Legacy.Range.forIn_eq_forIn_range',Std.Legacy.Range.size,Nat.sub_zero,Nat.add_sub_cancel,Nat.div_one];have hl:∀ i ∈ List.range' 0 n 1,i<n:=fun i hi=>by simpa using (List.mem_range'_1.1 hi).2
 generalize List.range' 0 n 1=l at hl ⊢
 induction l with
 | nil=>simp
 | cons i l ih =>
  have hi:i<n:=hl i (by simp)
  have px:(part e (xs.map wcell).toArray (i*1)).run P w=.ok (wcell (xs.getD i 0)) w:=by
   simp [part,isAgg,run_underlying he,List.getD,List.getElem?_eq_getElem (show i<xs.length by omega)]
  have py:(part e (ys.map wcell).toArray (i*1)).run P w=.ok (wcell (ys.getD i 0)) w:=by
   simp [part,isAgg,run_underlying he,List.getD,List.getElem?_eq_getElem (show i<ys.length by omega)]
  have pe:(Op.equalIn (d+1) e (wcell (xs.getD i 0)) (wcell (ys.getD i 0))).run P w=.ok (xs.getD i 0 == ys.getD i 0) w:=by
   rw [wcell,wcell,run_equalIn_int w d e .u64 .u64 _ _ he]
   congr 1
   rw [Bool.eq_iff_iff];simp;omega
  simp only [List.forIn_cons,Sem.run_bind,px,py,pe,Result.andThen_ok,List.all_cons]
  cases hb:(xs.getD i 0 == ys.getD i 0)
  ·simp
  ·simp only [Bool.not_true,Bool.false_eq_true,if_false,Sem.run_pure,Result.andThen_ok,Bool.true_and];exact ih fun j hj=>hl j (by simp [hj])
end
theorem eql_elem (x y:E5) (w:World):(binOp .eql 39 (.agg (eV x)) (.agg (eV y))).run Tryd.prog w=.ok (.bool (limbs x == limbs y)) w:=by
 have hp:∀ z:E5,∀ u:World,(part 37 (eV z) 0).run Tryd.prog u=.ok (.agg (eV z)) u:=fun z u=>by kernel_rfl
 have hf:Tryd.prog.fieldsOf 39=#[{ name := "l",type:=37,offset:=0,embedded:=false,tag := "",pkgPath := "brevet/field",byteOffset:=0 }]:=by kernel_rfl
 have he:(Op.equalIn (9997+2) 37 (.agg (eV x)) (.agg (eV y))).run Tryd.prog w=.ok (limbs x == limbs y) w :=
  run_equalIn_words w 9997 37 36 5 Tryd.underlying37 Tryd.underlying36 (fun u=>by kernel_rfl) (limbs x) (limbs y) rfl rfl
 rw [run_eql_struct,run_equalIn_struct w 9999 _ _ _ (by kernel_rfl) (by kernel_rfl),hf];simp only [Op.eqFields,Sem.run_bind,hp,Result.andThen_ok,he];rw [if_pos (by decide)];simp only [Sem.run_bind,hp,Result.andThen_ok,he]
 cases (limbs x == limbs y) <;> rfl
end Go.Proofs.YtdgheahbafnboaaDoor
/-
  Walks: the field's Odd and Equal.
-/
namespace Go.Proofs.YtdgheahbafnboaaDoor
set_option linter.unusedSimpArgs false
set_option linter.unusedVariables false
open Go.RowKit
theorem and_one (l:Nat) (h:l<18446744073709551616):bits .and .u64 (l:Int) 1=((l%2:Nat):Int):=by
 have h1:=and64 l 1 h (by decide);rw [show ((1:Nat):Int)=1 from rfl] at h1;rw [h1]
 congr 1
 exact Nat.and_two_pow_sub_one_eq_mod l 1
set_option maxRecDepth 100000 in
set_option maxHeartbeats 1000000 in
theorem odd_any (x:E5) (w:World) (hx:x.Lt 18446744073709551616):Calls Tryd.prog 43 #[.agg (eV x)] w (fun e w'=>e=.returned (.bool (decide ((leastE x).a%2=1)))∧Below w.heap.size w w'):=by
 have hu:=Tryd.underlying39;have hu5:=Tryd.underlying37;have HX:=zY hx;clear hx;obtain ⟨z,hz⟩:∃ z,z=leastE x:=⟨_,rfl⟩;have hzl:z.a<2251799813685248:=by rw [hz]; exact (least_lt x).a
 rw [← hz];have HZ:=zY hz;have HZL:=zY hzl
 have hix:∀ u:World,(Instr.index 37 (.agg (eV z)) (.int .i64 0)).run Tryd.prog u=.ok (.int .u64 (z.a:Int)) u:=fun u =>
  run_index_array (k:=0) (n:=5) (e:=36) hu5 (by decide) rfl (by kernel_rfl) (by kernel_rfl) ⟨_,Tryd.underlying36⟩
 have hfd:∀ u:World,(Instr.field 39 (.agg (eV z)) 0).run Tryd.prog u=.ok (.agg (eV z)) u:=fun u=>by kernel_rfl
 have hb0:=Blk.new w 39 (eV x);have HB0:=zY hb0;clear hz hzl hb0;go_enter Tryd.func43,Tryd.ntmps43;go_wp2_with (refine wpList_get_box (x:=.tmp 1) HB0.out rfl rfl rfl hu rfl elem_size ?_);refine calls_then (least_any x _ HX.out) ?_;rintro e w2 ⟨rfl,hb2⟩;rw [← HZ.out];go_wp2_with fail;go_ret;refine ⟨?_,(below_new _ _).trans (hb2.mono (by simp))⟩;rw [and_one z.a (by have:=HZL.out; omega)]
 have e:(((z.a%2:Nat):Int) == 1)=decide (z.a%2=1):=by
  rw [Bool.eq_iff_iff,beq_iff_eq,decide_eq_true_iff];omega
 exact congrArg (fun b=>Ending.returned (.bool b)) e
set_option maxRecDepth 100000 in
set_option maxHeartbeats 1000000 in
theorem equal_any (x y:E5) (w:World) (hx:x.Lt 18446744073709551616) (hy:y.Lt 18446744073709551616):Calls Tryd.prog 66 #[.agg (eV x),.agg (eV y)] w (fun e w'=>e=.returned (.bool (limbs (leastE x) == limbs (leastE y)))∧Below w.heap.size w w'):=by
 have hu:=Tryd.underlying39;have hst0:G2 w w.heap.size (w.heap.size+1) (eV x) (eV y) ((w.alloc (.cells (eV x) 39)).alloc (.cells (eV y) 39)):=g2_new w (eV x) (eV y);have HX:=zY hx;have HY:=zY hy;have HC0:=hst0.drew;have heq:=fun u=>eql_elem (leastE x) (leastE y) u;have HEQ:=zY heq;clear hx hy hst0 heq;go_enter Tryd.func66,Tryd.ntmps66;go_wp2_with fail;generalize hr:w.heap.size+1=h at *;generalize hg:w.heap.size=g at *;refine wp_region_det (fun u=>G2 w g h (eV x) (eV y) u) (fun u=>G2 w g h (eV x) (eV y) u) [(0,some 5),(1,some 6),(2,some 7),(3,some 8),(4,some 9),(5,some 4)] (by kernel_rfl) (by kernel_rfl) (by decide) (by kernel_rfl) (fun _=>rfl) HC0 ?_;apply DetL.next
 ·apply dP [];exact fun _=>rfl;rfl;rintro vals - w1 hC1 E hE;simp only [sP] at hE ⊢;refine wpList_get_box hC1.x rfl rfl rfl hu rfl elem_size ?_;go_wp2_with fail;exact .mk (hE _ hC1)
 apply DetL.next
 ·apply dP [(0,some 5)];exact fun _=>rfl;rfl;rintro vals ⟨-,f0⟩ w1 hC1 E hE;simp only [sP,f0] at hE ⊢;clear f0;go_wp2_with fail;refine calls_then (least_any x _ HX.out) ?_;rintro e w2 ⟨rfl,hb2⟩;go_wp2_with fail;exact .mk (hE _ (hC1.next hb2))
 apply DetL.next
 ·apply dP [];exact fun _=>rfl;rfl;intro vals vq w1 hC1 E hE;clear vq;simp only [sP] at hE ⊢;refine wpList_get_box hC1.z rfl rfl rfl hu rfl elem_size ?_;go_wp2_with fail;exact .mk (hE _ hC1)
 apply DetL.next
 ·apply dP [(2,some 7),(1,some 6)];exact fun _=>rfl;rfl;rintro vals ⟨⟨⟨-,-⟩,f1⟩,f2⟩ w1 hC1 E hE;simp only [sP,f1,f2] at hE ⊢;clear f1 f2;go_wp2_with fail;refine calls_then (least_any y _ HY.out) ?_;rintro e w2 ⟨rfl,hb2⟩;go_wp2_with fail;exact .mk (hE _ (hC1.next hb2))
 apply DetL.next
 ·apply dP [(1,some 6),(3,some 8)];exact fun _=>rfl;rfl;rintro vals ⟨⟨⟨⟨-,-⟩,f1⟩,-⟩,f3⟩ w1 hC1 E hE;have heq:=HEQ.out;simp only [sP,f1,f3] at hE ⊢;clear f1 f3;go_wp2;exact .mk (hE _ hC1)
 apply DetL.last
 ·apply dP [(4,some 9),(3,some 8),(0,some 5),(1,some 6),(2,some 7),(3,some 8),(4,some 9)];exact fun _=>rfl;rfl;rintro vals ⟨⟨⟨⟨⟨-,f0⟩,f1⟩,f2⟩,f3⟩,f4⟩ w1 hC1 E hE;simp only [sP,f0,f1,f2,f3,f4] at hE ⊢;clear f0 f1 f2 f3 f4;go_wp2;exact .mk (hE _ hC1)
 rintro vals ⟨⟨⟨⟨⟨⟨-,f0⟩,f1⟩,f2⟩,f3⟩,f4⟩,f5⟩ w1 hC1;simp only [sP,f0,f1,f2,f3,f4,f5];clear f0 f1 f2 f3 f4 f5;go_wp2_with fail;go_ret;exact ⟨rfl,hC1.bel⟩
end Go.Proofs.YtdgheahbafnboaaDoor
/-
  Plain: a number's bytes, bit by bit.
-/
namespace Go.Proofs.YtdgheahbafnboaaDoor
set_option linter.unusedSimpArgs false
set_option linter.unusedVariables false
open Go.RowKit
def byN (N:Nat):List Nat:=(List.range 32).map fun j=>N/256^j%256
theorem byN_length (N:Nat):(byN N).length=32:=by simp [byN]
theorem byN_at (N j:Nat) (h:j<32):(byN N)[j]?=some (N/256^j%256):=by simp [byN,h]
theorem pow256 (j:Nat):256^j=2^(8*j):=by rw [Nat.pow_mul]
theorem byN_zero:byN 0=List.replicate 32 0:=by decide
theorem mod_bit (V n:Nat):V%2^(n+1)=V%2^n+V/2^n%2*2^n:=by
 rw [Nat.pow_succ,Nat.mod_mul,Nat.mul_comm]
theorem byte_other (N b n j:Nat) (hN:N<2^n) (hb:b<2) (hj:j≠n/8):(N+b*2^n)/256^j%256=N/256^j%256:=by
 rw [pow256]
 by_cases h:j<n/8
 ·obtain ⟨d,hd⟩:∃ d,n=8*j+(8+d):=⟨n - 8*j - 8,by omega⟩
  have e:b*2^n=2^(8*j)*(256*(b*2^d)):=by
   rw [hd,Nat.pow_add,Nat.pow_add,show (2:Nat)^8=256 from rfl];rw [Nat.mul_left_comm,Nat.mul_left_comm b 256]
  rw [e,Nat.add_mul_div_left _ _ (Nat.two_pow_pos _),Nat.add_mul_mod_self_left]
 ·have hle:n+1≤8*j:=by omega
  have h2:2^(n+1)≤2^(8*j):=Nat.pow_le_pow_right (by decide) hle;rw [Nat.pow_succ] at h2;have h3:b*2^n≤1*2^n:=Nat.mul_le_mul_right _ (by omega);rw [Nat.div_eq_of_lt (by omega),Nat.div_eq_of_lt (by omega)]
theorem byte_this (N b n:Nat) (hN:N<2^n) (hb:b<2):(N+b*2^n)/256^(n/8)%256=N/256^(n/8)%256 ||| b*2^(n%8):=by
 obtain ⟨q,r,hr,rfl⟩:∃ q r,r<8∧n=8*q+r:=⟨n/8,n%8,by omega,by omega⟩;rw [show (8*q+r)/8=q by omega,show (8*q+r)%8=r by omega,pow256];have hp:=Nat.two_pow_pos (8*q);have e:b*2^(8*q+r)=2^(8*q)*(b*2^r):=by rw [Nat.pow_add,Nat.mul_left_comm]
 rw [e,Nat.add_mul_div_left _ _ hp]
 have hlt:N/2^(8*q)<2^r:=by
  rw [Nat.div_lt_iff_lt_mul hp,← Nat.pow_add,Nat.add_comm]; exact hN
 have hr8:2^(r+1)≤2^8:=Nat.pow_le_pow_right (by decide) (by omega);rw [Nat.pow_succ,show (2:Nat)^8=256 from rfl] at hr8;have hb2:b*2^r≤1*2^r:=Nat.mul_le_mul_right _ (by omega);rw [Nat.mod_eq_of_lt (by omega),Nat.mod_eq_of_lt (a:=N/2^(8*q)) (by omega)];have h:=Nat.shiftLeft_add_eq_or_of_lt hlt b;rw [Nat.shiftLeft_eq] at h;rw [Nat.add_comm,h,Nat.or_comm]
theorem byN_step (V n:Nat) (hn:n<256):(byN (V%2^n)).set (n/8) (V%2^n/256^(n/8)%256 ||| V/2^n%2*2^(n%8))=byN (V%2^(n+1)):=by
 have hN:V%2^n<2^n:=Nat.mod_lt _ (Nat.two_pow_pos _);have hb:V/2^n%2<2:=Nat.mod_lt _ (by decide);rw [mod_bit];apply List.ext_getElem?;intro j
 by_cases hj:j<32
 ·rw [byN_at _ _ hj,List.getElem?_set]
  by_cases h:n/8=j
  ·rw [if_pos h,if_pos (by rw [byN_length]; exact h▸hj),← h,byte_this _ _ _ hN hb]
  ·rw [if_neg h,byN_at _ _ hj,byte_other _ _ _ _ hN hb (Ne.symm h)]
 ·rw [List.getElem?_eq_none (by rw [List.length_set,byN_length]; omega),List.getElem?_eq_none (by rw [byN_length]; omega)]
theorem high_bit (l r k:Nat) (hk:k<51):(l+2251799813685248*r)/2^k%2=l/2^k%2:=by
 obtain ⟨d,hd⟩:∃ d,51=k+(1+d):=⟨50 - k,by omega⟩
 have e:2251799813685248*r=2^k*(2*(2^d*r)):=by
  rw [show (2251799813685248:Nat)=2^51 from rfl,hd,Nat.pow_add,Nat.pow_add,Nat.pow_one,Nat.mul_assoc,Nat.mul_assoc]
 rw [e,Nat.add_mul_div_left _ _ (Nat.two_pow_pos _),Nat.add_mul_mod_self_left]
end Go.Proofs.YtdgheahbafnboaaDoor
/-
  Walk: the field's Bytes.
-/
namespace Go.Proofs.YtdgheahbafnboaaDoor
set_option linter.unusedSimpArgs false
set_option linter.unusedVariables false
open Go.RowKit
def bnV (l:List Nat):List Value:=l.map fun n:Nat=>Value.int .u8 (n:Int)
theorem bnV_at {l:List Nat} {j n:Nat} (h:l[j]?=some n):(bnV l).toArray[j]?=some (.int .u8 (n:Int)):=by simp [bnV,h]
theorem bnV_set (l:List Nat) (j n:Nat):(bnV l).toArray.setIfInBounds j (.int .u8 (n:Int))=(bnV (l.set j n)).toArray:=by simp [bnV,List.map_set]
theorem val_bit (x:E5) (hx:x.Lt 2251799813685248) (i k n:Nat) (hi:i<5) (hk:k<51) (hn:i*51+k=n):x.val/2^n%2=(limbs x).getD i 0/2^k%2:=by
 rw [← hn,Nat.pow_add,← Nat.div_div_eq_div_mul];obtain ⟨h1,h2,h3,h4,h5⟩:=hx
 have go:∀ l r:Nat,x.val/2^(i*51)=l+2251799813685248*r→(limbs x).getD i 0=l→x.val/2^(i*51)/2^k%2=(limbs x).getD i 0/2^k%2:=fun l r e f=>by
  rw [e,f]; exact high_bit l r k hk
 match i,hi with
 | 0,_=>exact go x.a (x.b+x.c*2251799813685248+x.d*5070602400912917605986812821504+x.e*11417981541647679048466287755595961091061972992) (by simp only [E5.val]; omega) rfl
 | 1,_=>exact go x.b (x.c+x.d*2251799813685248+x.e*5070602400912917605986812821504) (by rw [show (2:Nat)^(1*51)=2251799813685248 by decide]; simp only [E5.val]; omega) rfl
 | 2,_=>exact go x.c (x.d+x.e*2251799813685248) (by rw [show (2:Nat)^(2*51)=5070602400912917605986812821504 by decide]; simp only [E5.val]; omega) rfl
 | 3,_=>exact go x.d x.e (by rw [show (2:Nat)^(3*51)=11417981541647679048466287755595961091061972992 by decide]; simp only [E5.val]; omega) rfl
 | 4,_=>exact go x.e 0 (by rw [show (2:Nat)^(4*51)=25711008708143844408671393477458601640355247900524685364822016 by decide]; simp only [E5.val]; omega) rfl
structure B2 (w0:World) (g o:Nat) (x:Array Value) (l:List Nat) (u:World):Prop where
 bel:Below w0.heap.size w0 u
 x:Blk u g 39 x
 out:Blk u o 5 (bnV l).toArray
 lo:w0.heap.size≤o
 go:g≠o
theorem B2.put {w0 u u':World} {g o:Nat} {x:Array Value} {l l':List Nat} (k:B2 w0 g o x l u) (hw:Wrote o u u') (hb:Blk u' o 5 (bnV l').toArray):B2 w0 g o x l' u' :=
 ⟨hw.below k.bel k.lo k.bel.size,hw.blk k.x k.go,hb,k.lo,k.go⟩
theorem B2.drew {w0 u:World} {g o:Nat} {x:Array Value} {l:List Nat} (k:B2 w0 g o x l u):B2 w0 g o x l u.drew :=
 ⟨k.bel.drew,k.x,k.out,k.lo,k.go⟩
theorem b2_new (w0 u:World) (g:Nat) (x:Array Value) (hbel:Below w0.heap.size w0 u) (hx:Blk u g 39 x):B2 w0 g u.heap.size x (byN 0) (u.alloc (.cells (bnV (byN 0)).toArray 5)) :=
 ⟨hbel.alloc hbel.size _,hx.alloc _,Blk.new _ _ _,hbel.size,Nat.ne_of_lt hx.lt⟩
def BytesPost (N:Nat) (w:World) (e:Ending) (w':World):Prop :=
 ∃ o,e=.returned (.slice (some ⟨o,0,none⟩) 32 32)∧w.heap.size≤o∧Blk w' o 5 (bnV (byN N)).toArray∧Below w.heap.size w w'
set_option maxRecDepth 100000 in
set_option maxHeartbeats 2000000 in
theorem bytes_any (x:E5) (w:World) (hx:x.Lt 18446744073709551616):Calls Tryd.prog 42 #[.agg (eV x)] w (BytesPost (leastE x).val w):=by
 have hu:=Tryd.underlying39;have hu5:=Tryd.underlying37;obtain ⟨z,hz⟩:∃ z,z=leastE x:=⟨_,rfl⟩;have hzl:z.Lt 2251799813685248:=by rw [hz]; exact least_lt x
 have hmk:∀ u:World,(Instr.makeSlice 22 (.int .i64 32) (.int .i64 32)).run Tryd.prog u=.ok (.slice (some ⟨u.heap.size,0,none⟩) 32 32) (u.alloc (.cells (bnV (byN 0)).toArray 5)):=fun _=>by rw [byN_zero]; kernel_rfl
 rw [← hz];have HX:=zY hx;have HZ:=zY hz;have HZL:=zY hzl;have hb0:=Blk.new w 39 (eV x);have HB0:=zY hb0;clear hx hz hzl hb0;go_enter Tryd.func42,Tryd.ntmps42;go_wp2_with (refine wpList_get_box (x:=.tmp 1) HB0.out rfl rfl rfl hu rfl elem_size ?_);refine calls_then (least_any x _ HX.out) ?_;rintro e w2 ⟨rfl,hb2⟩;rw [← HZ.out];have hb3:Below w.heap.size w w2:=(below_new _ _).trans (hb2.mono (by simp));have hb4:=HB0.out.below hb2 HB0.out.lt;have HB3:=zY hb3;have HB4:=zY hb4;clear hb2 hb3 hb4 HB0;generalize hg:w.heap.size=g at *
 go_wp2_with (first
  | (refine wpList_put_box (x:=.tmp 1) (cells:=eV z) HB4.out rfl rfl rfl rfl elem_size rfl (by simp [eV,wV,limbs,Value.oneCell']) ?_; intro w5 hb5 hw5; have HB5:=zY hb5; have HW5:=zY hw5; clear hb5 hw5)
  | (refine wpList_get_part (x:=.tmp 11) (n:=5) (r:=eV z) (HB5.out.alloc _) (by rw [eV_size]; decide) rfl rfl rfl rfl hu5 rfl five_size ?_))
 have hst0:=b2_new w w5 g (eV z) (by
  rw [hg];exact HW5.out.below HB3.out (Nat.le_refl _) (by rw [← hg]; exact HB3.out.size)) HB5.out
 obtain ⟨o,ho⟩:∃ o,o=w5.heap.size:=⟨_,rfl⟩;obtain ⟨V,hV⟩:∃ V,V=z.val:=⟨_,rfl⟩;have h00:byN 0=byN (V%2^(0*51)):=by rw [Nat.zero_mul,Nat.pow_zero,Nat.mod_one]
 rw [← ho,h00] at hst0;rw [← ho,h00,← hV];have HV:=zY hV;have HST0:=zY hst0;clear hst0 ho HB3 HB4 HB5 HW5 hmk h00 hV
 go_loopw [13] (fun i wr=>∃ k:Nat,k≤5∧i=.int .i64 k∧B2 w g o (eV z) (byN (V%2^(k*51))) wr) (fun i _=>5 - (intOf i).toNat)
 case atStart=>exact ⟨0,by omega,rfl,HST0.out⟩
 case round =>
  clear HST0;obtain ⟨i,hi,rfl,hst⟩:=hrel
  by_cases hlt:i<5
  ·have hlt':(i:Int)<5:=by omega
   obtain ⟨l,hl⟩:∃ l,l=(limbs z).getD i 0:=⟨_,rfl⟩;have hll:l<2251799813685248:=by rw [hl]; exact limb_lt HZL.out (by decide) i
   have hix:∀ u:World,(Instr.index 37 (.agg (eV z)) (.int .i64 (i:Int))).run Tryd.prog u=.ok (.int .u64 (l:Int)) u:=fun u =>
    run_index_array (n:=5) (e:=36) hu5 hlt (by rw [hl]; exact eV_at z i hlt) (by kernel_rfl) (by kernel_rfl) ⟨_,Tryd.underlying36⟩
   have hst':B2 w g o (eV z) (byN (V%2^(i*51+0))) wr:=hst;have HST:=zY hst';have HL:=zY hl;have HLL:=zY hll;clear hst hst' hl hll;go_wp2_with fail;obtain ⟨wo,rfl⟩:∃ x,x=wr:=⟨_,rfl⟩
   go_loopw [17] (fun c wr=>∃ k:Nat,k≤51∧c=.int .i64 k∧B2 w g o (eV z) (byN (V%2^(i*51+k))) wr) (fun c _=>51 - (intOf c).toNat)
   case atStart=>exact ⟨0,by omega,rfl,HST.out⟩
   case round =>
    clear HST hix;obtain ⟨k,hk,rfl,hst⟩:=hrel
    by_cases hltk:k<51
    ·have hltk':(k:Int)<51:=by omega
     obtain ⟨n,hn⟩:∃ n,n=i*51+k:=⟨_,rfl⟩;have hni:(i:Int)*51+(k:Int)=(n:Int):=by omega
     obtain ⟨q,hq⟩:∃ q,q=n/8:=⟨_,rfl⟩;obtain ⟨r,hr⟩:∃ r,r=n%8:=⟨_,rfl⟩;have hqi:(n:Int)/8=(q:Int):=by omega
     have hri:(n:Int)%8=(r:Int):=by omega
     have hq32:(q:Int)<32:=by omega
     have hr8:(r:Int)<8:=by omega
     have hstep:=byN_step V n (by omega);have hbit:=val_bit z HZL.out i k n hlt hltk hn.symm;rw [← HV.out,← HL.out] at hbit;rw [← hq,← hr,hbit] at hstep;rw [← hn] at hst;have hcur:=byN_at (V%2^n) q (by omega);obtain ⟨y,hy⟩:∃ y,y=V%2^n/256^q%256:=⟨_,rfl⟩;rw [← hy] at hstep hcur;have hyl:y<256:=by rw [hy]; exact Nat.mod_lt _ (by decide)
     obtain ⟨lk,hlk⟩:∃ lk,lk=l/2^k:=⟨_,rfl⟩;rw [← hlk] at hstep;have hlkl:lk<2251799813685248:=by rw [hlk]; exact Nat.lt_of_le_of_lt (Nat.div_le_self _ _) HLL.out
     have hlki:(l:Int)/2^k=(lk:Int):=by rw [hlk,shr_int]
     obtain ⟨b,hb⟩:∃ b,b=lk%2:=⟨_,rfl⟩;rw [← hb] at hstep;have HLK:=zY hlki;have HLKL:=zY hlkl;have hbl:b<2:=by rw [hb]; exact Nat.mod_lt _ (by decide)
     obtain ⟨LN,hLN⟩:∃ LN,LN=byN (V%2^n):=⟨_,rfl⟩;rw [← hLN] at hstep hcur hst;obtain ⟨LM,hLM⟩:∃ LM,LM=byN (V%2^(n+1)):=⟨_,rfl⟩;rw [← hLM] at hstep;obtain ⟨s,hs⟩:∃ s,s=b*2^r:=⟨_,rfl⟩;rw [← hs] at hstep
     have hsl:s<256:=by
      have e1:2^r≤2^7:=Nat.pow_le_pow_right (by decide) (by omega);have e2:b*2^r≤1*2^7:=Nat.mul_le_mul (by omega) e1;rw [hs]; exact Nat.lt_of_le_of_lt e2 (by decide)
     have hsi:(b:Int)*2^r%256=(s:Int):=by
      rw [shl_int,← hs]; omega
     have hor:=or8 (a:=y) (b:=s) hyl hsl;obtain ⟨yn,hyn⟩:∃ yn,yn=y ||| s:=⟨_,rfl⟩;rw [← hyn] at hor hstep;have HOR:=zY hor;have HSI:=zY hsi;have HSTEP:=zY hstep;have HCUR:=zY (bnV_at hcur);have HB:=zY hb;have HBL:=zY hbl;have HYL:=zY hyl;have HLM:=zY hLM;have HN:=zY hn;have HC0:=hst.drew;clear hst hstep hcur hb hbl hyl hLM hLN hy hbit hq hr hn hlk hlki hlkl hs hsl hsi hor hyn;go_wp2_with fail;refine wp_region_det (fun u=>B2 w g o (eV z) LN u) (fun u=>B2 w g o (eV z) LM u) [(0,some 24),(1,some 25),(2,some 26),(3,some 27),(4,some 28),(5,some 29),(6,some 30),(7,some 31),(8,some 32),(9,some 33),(10,some 34),(11,some 35),(12,some 36),(13,some 37),(14,some 38),(15,none)] (by kernel_rfl) (by kernel_rfl) (by decide) (by kernel_rfl) (fun _=>rfl) HC0 ?_;apply DetL.next
     ·apply dP [];exact fun _=>rfl;rfl;rintro vals - w1 hC1 E hE;simp only [sP] at hE ⊢;go_wp2;exact .mk (hE _ hC1)
     apply DetL.next
     ·apply dP [];exact fun _=>rfl;rfl;rintro vals ⟨-,-⟩ w1 hC1 E hE;simp only [sP] at hE ⊢;go_wp2;exact .mk (hE _ hC1)
     apply DetL.next
     ·apply dP [(1,some 25)];exact fun _=>rfl;rfl;rintro vals ⟨⟨-,-⟩,f1⟩ w1 hC1 E hE;simp only [sP,f1] at hE ⊢;clear f1;go_wp2;exact .mk (hE _ hC1)
     apply DetL.next
     ·apply dP [(0,some 24),(2,some 26)];exact fun _=>rfl;rfl;rintro vals ⟨⟨⟨-,f0⟩,-⟩,f2⟩ w1 hC1 E hE;simp only [sP,f0,f2] at hE ⊢;clear f0 f2;go_wp2;exact .mk (hE _ hC1)
     apply DetL.next
     ·apply dP [(3,some 27)];exact fun _=>rfl;rfl;intro vals vq w1 hC1 E hE;have f3:=vq.2;clear vq;have d0:=hC1.out.cell q;rw [HCUR.out] at d0;simp only [sP,f3] at hE ⊢;clear f3;go_wp2;exact .mk (hE _ hC1)
     apply DetL.next
     ·apply dP [];exact fun _=>rfl;rfl;intro vals vq w1 hC1 E hE;clear vq;simp only [sP] at hE ⊢;go_wp2;exact .mk (hE _ hC1)
     apply DetL.next
     ·apply dP [];exact fun _=>rfl;rfl;intro vals vq w1 hC1 E hE;clear vq;simp only [sP] at hE ⊢;go_wp2;exact .mk (hE _ hC1)
     apply DetL.next
     ·apply dP [(5,some 29),(6,some 30)];exact fun _=>rfl;rfl;intro vals vq w1 hC1 E hE;have f5:=vq.1.2;have f6:=vq.2;clear vq;simp only [sP,f5,f6] at hE ⊢;clear f5 f6;go_wp2;rw [HLK.out];exact .mk (hE _ hC1)
     apply DetL.next
     ·apply dP [(7,some 31)];exact fun _=>rfl;rfl;intro vals vq w1 hC1 E hE;have f7:=vq.2;clear vq;simp only [sP,f7] at hE ⊢;clear f7;go_wp2;rw [and_one lk (by have:=HLKL.out; omega),← HB.out];exact .mk (hE _ hC1)
     apply DetL.next
     ·apply dP [(8,some 32)];exact fun _=>rfl;rfl;intro vals vq w1 hC1 E hE;have f8:=vq.2;clear vq;have hb8:(b:Int)<256:=by have:=HBL.out; omega
      simp only [sP,f8] at hE ⊢;clear f8;go_wp2;exact .mk (hE _ hC1)
     apply DetL.next
     ·apply dP [];exact fun _=>rfl;rfl;intro vals vq w1 hC1 E hE;clear vq;simp only [sP] at hE ⊢;go_wp2;exact .mk (hE _ hC1)
     apply DetL.next
     ·apply dP [(10,some 34)];exact fun _=>rfl;rfl;intro vals vq w1 hC1 E hE;have f10:=vq.2;clear vq;simp only [sP,f10] at hE ⊢;clear f10;go_wp2;exact .mk (hE _ hC1)
     apply DetL.next
     ·apply dP [(9,some 33),(11,some 35)];exact fun _=>rfl;rfl;intro vals vq w1 hC1 E hE;have f9:=vq.1.1.2;have f11:=vq.2;clear vq;simp only [sP,f9,f11] at hE ⊢;clear f9 f11;go_wp2;rw [HSI.out];exact .mk (hE _ hC1)
     apply DetL.next
     ·apply dP [(4,some 28),(12,some 36)];exact fun _=>rfl;rfl;intro vals vq w1 hC1 E hE;have f4:=vq.1.1.1.1.1.1.1.1.2;have f12:=vq.2;clear vq;simp only [sP,f4,f12] at hE ⊢;clear f4 f12;go_wp2;rw [HOR.out];exact .mk (hE _ hC1)
     apply DetL.next
     ·apply dP [(0,some 24),(2,some 26),(0,some 24),(1,some 25),(2,some 26),(3,some 27),(4,some 28),(5,some 29),(6,some 30),(7,some 31),(8,some 32),(9,some 33),(10,some 34),(11,some 35),(12,some 36),(13,some 37)];exact fun _=>rfl;rfl;rintro vals ⟨⟨⟨⟨⟨⟨⟨⟨⟨⟨⟨⟨⟨⟨-,f0⟩,f1⟩,f2⟩,f3⟩,f4⟩,f5⟩,f6⟩,f7⟩,f8⟩,f9⟩,f10⟩,f11⟩,f12⟩,f13⟩ w1 hC1 E hE;simp only [sP,f0,f1,f2,f3,f4,f5,f6,f7,f8,f9,f10,f11,f12,f13] at hE ⊢;clear f0 f1 f2 f3 f4 f5 f6 f7 f8 f9 f10 f11 f12 f13;go_wp2;exact .mk (hE _ hC1)
     apply DetL.last (v:=undef)
     ·apply dP [(14,some 38),(13,some 37),(0,some 24),(1,some 25),(2,some 26),(3,some 27),(4,some 28),(5,some 29),(6,some 30),(7,some 31),(8,some 32),(9,some 33),(10,some 34),(11,some 35),(12,some 36),(13,some 37)];exact fun _=>rfl;rfl;rintro vals ⟨⟨⟨⟨⟨⟨⟨⟨⟨⟨⟨⟨⟨⟨⟨-,f0⟩,f1⟩,f2⟩,f3⟩,f4⟩,f5⟩,f6⟩,f7⟩,f8⟩,f9⟩,f10⟩,f11⟩,f12⟩,f13⟩,f14⟩ w1 hC1 E hE;have d0:=hC1.out.cell q;rw [HCUR.out] at d0;have q0:=hC1.out.free q;simp only [sP,f0,f1,f2,f3,f4,f5,f6,f7,f8,f9,f10,f11,f12,f13,f14] at hE ⊢;clear f0 f1 f2 f3 f4 f5 f6 f7 f8 f9 f10 f11 f12 f13 f14;go_wp2;refine .mk (hE _ (hC1.put (wrote_setCell_at _ _ _ _) ?_));have h:=blk_setCell_at (i:=q) hC1.out (.int .u8 (yn:Int));rw [bnV_set,HSTEP.out] at h;exact h
     rintro vals ⟨⟨⟨⟨⟨⟨⟨⟨⟨⟨⟨⟨⟨⟨⟨⟨-,f0⟩,f1⟩,f2⟩,f3⟩,f4⟩,f5⟩,f6⟩,f7⟩,f8⟩,f9⟩,f10⟩,f11⟩,f12⟩,f13⟩,f14⟩,f15⟩ w1 hC1;simp only [sP,f0,f1,f2,f3,f4,f5,f6,f7,f8,f9,f10,f11,f12,f13,f14,f15];clear f0 f1 f2 f3 f4 f5 f6 f7 f8 f9 f10 f11 f12 f13 f14 f15;clear HC0
     have hfin:B2 w g o (eV z) (byN (V%2^(i*51+(k+1)))) w1:=by
      rw [show i*51+(k+1)=n+1 by rw [HN.out]; omega,← HLM.out];exact hC1
     have HFIN:=zY hfin;clear hC1 hfin;go_wp2_with fail;exact ⟨⟨k+1,by omega,by go_num,HFIN.out⟩,by simp [intOf]; omega⟩
    ·obtain rfl:k=51:=by omega
     rw [show i*51+51=(i+1)*51 by omega] at hst;have HST:=zY hst;clear hst;go_wp2_with fail;exact ⟨⟨i+1,by omega,by go_num,HST.out⟩,by simp [intOf]; omega⟩
  ·obtain rfl:i=5:=by omega
   have hmod:V%2^(5*51)=V:=by
    have h:=HZL.out;obtain ⟨h1,h2,h3,h4,h5⟩:=h;rw [HV.out,show (2:Nat)^(5*51)=57896044618658097711785492504343953926634992332820282019728792003956564819968 by decide];apply Nat.mod_eq_of_lt;simp only [E5.val];omega
   rw [hmod] at hst;have HST:=zY hst;clear hst hmod;go_wp2_with fail;go_ret;exact ⟨o,rfl,HST.out.lo,by rw [← HV.out]; exact HST.out.out,HST.out.bel⟩
end Go.Proofs.YtdgheahbafnboaaDoor
/-
  Plain: powers by squares, bit by bit from the highest on.
-/
namespace Go.Proofs.YtdgheahbafnboaaDoor
set_option linter.unusedSimpArgs false
set_option linter.unusedVariables false
open Go.RowKit
def pwS (x out:E5) (bit:Nat):E5:=if bit=1 then mulE (mulE out out) x else mulE out out
def pwB (x out:E5) (b:Nat):Nat→E5
 | 0=>out
 | j+1=>pwS x (pwB x out b j) (b/2^(7 - j)%2)
def pwL (x:E5) (l:List Nat):Nat→E5
 | 0=>natE 1
 | j+1=>pwB x (pwL x l j) (l.getD (l.length - 1 - j) 0) 8
theorem pwS_ok {x out:E5} (hx:x.Ok) (ho:out.Ok) (bit:Nat):(pwS x out bit).Ok:=by
 unfold pwS
 split
 ·exact mul_ok (mul_ok ho ho) hx
 ·exact mul_ok ho ho
theorem pwB_ok {x out:E5} (hx:x.Ok) (ho:out.Ok) (b:Nat):∀ j,(pwB x out b j).Ok
 | 0=>ho
 | j+1=>pwS_ok hx (pwB_ok hx ho b j) _
theorem pwL_ok {x:E5} (hx:x.Ok) (l:List Nat):∀ j,(pwL x l j).Ok
 | 0=>natE_ok (by decide)
 | j+1=>pwB_ok hx (pwL_ok hx l j) _ 8
theorem pow_mod_mul (a n m:Nat):a^n%PN*(a^m%PN)%PN=a^(n+m)%PN:=by
 rw [← Nat.mul_mod,Nat.pow_add]
theorem pwS_val {x out:E5} {n bit:Nat} (h:out.val%PN=x.val^n%PN) (hb:bit<2):(pwS x out bit).val%PN=x.val^(2*n+bit)%PN:=by
 have h2:(mulE out out).val%PN=x.val^(2*n)%PN:=by
  rw [mul_val,Nat.mul_mod,h,pow_mod_mul,Nat.two_mul]
 unfold pwS
 split
 ·next e=>rw [mul_val,Nat.mul_mod,h2,e,← Nat.pow_one (x.val),Nat.pow_one,Nat.pow_add,Nat.pow_one,← Nat.mul_mod]
 ·next e =>
  obtain rfl:bit=0:=by omega
  exact h2
theorem pwB_val {x out:E5} {n:Nat} (h:out.val%PN=x.val^n%PN) (b:Nat):∀ j,j≤8→(pwB x out b j).val%PN=x.val^(n*2^j+b%256/2^(8 - j))%PN
 | 0,_=>by
  have e:b%256/2^(8 - 0)=0:=Nat.div_eq_of_lt (Nat.mod_lt _ (by decide));rw [e,Nat.pow_zero,Nat.mul_one,Nat.add_zero];exact h
 | j+1,hj=>by
  have ih:=pwB_val h b j (by omega);have e:=pwS_val (bit:=b/2^(7 - j)%2) ih (Nat.mod_lt _ (by decide));rw [pwB,e]
  congr 2
  have hp:2^(8 - j)=2^(7 - j)*2:=by rw [← Nat.pow_succ]; congr 1; omega
  have h1:b%256/2^(8 - j)=b%256/2^(7 - j)/2:=by rw [hp,Nat.div_div_eq_div_mul]
  have h2:b/2^(7 - j)%2=b%256/2^(7 - j)%2:=by
   obtain ⟨d,hd⟩:∃ d,8=(7 - j)+(1+d):=⟨j,by omega⟩
   have h8:2^(7 - j)*(2*2^d)=256:=by
    have h9:2^((7 - j)+(1+d))=256:=by rw [← hd]
    rw [Nat.pow_add,Nat.pow_add,Nat.pow_one] at h9;exact h9
   obtain ⟨c,hc⟩:∃ c,c=b/256:=⟨_,rfl⟩;have e4:2^(7 - j)*(2*(2^d*c))=256*c:=by rw [← h8]; simp only [Nat.mul_assoc]
   have e3:b=b%256+2^(7 - j)*(2*(2^d*c)):=by rw [e4,hc]; exact (Nat.mod_add_div b 256).symm
   conv=>lhs; rw [e3,Nat.add_mul_div_left _ _ (Nat.two_pow_pos _),Nat.add_mul_mod_self_left]
  rw [h1,h2,show 8 - (j+1)=7 - j by omega,Nat.pow_succ]
  have e5:2*(n*2^j+b%256/2^(7 - j)/2)=n*(2^j*2)+2*(b%256/2^(7 - j)/2):=by
   rw [Nat.mul_add,← Nat.mul_assoc n,Nat.mul_comm 2 (n*2^j)]
  rw [e5];omega
def leV:List Nat→Nat
 | []=>0
 | d :: r=>d+256*leV r
theorem pwL_val (x:E5) (l:List Nat) (hl:∀ d ∈ l,d<256):∀ j,j≤l.length→(pwL x l j).val%PN=x.val^leV (l.drop (l.length - j))%PN
 | 0,_=>by
  rw [Nat.sub_zero,List.drop_length,leV,Nat.pow_zero,pwL,natE_val]
 | j+1,hj=>by
  have hlt:l.length - 1 - j<l.length:=by omega
  have hd:l.getD (l.length - 1 - j) 0=l[l.length - 1 - j]:=by rw [List.getD_eq_getElem?_getD,List.getElem?_eq_getElem hlt]; rfl
  have hb:l[l.length - 1 - j]<256:=hl _ (List.getElem_mem hlt);rw [pwL,pwB_val (pwL_val x l hl j (by omega)) _ 8 (Nat.le_refl _),hd,Nat.mod_eq_of_lt hb,show l.length - (j+1)=l.length - 1 - j by omega,List.drop_eq_getElem_cons hlt,leV,show l.length - 1 - j+1=l.length - j by omega]
  congr 2
  rw [show 8 - 8=0 from rfl,Nat.pow_zero,Nat.div_one,show (2:Nat)^8=256 from rfl,Nat.mul_comm];omega
end Go.Proofs.YtdgheahbafnboaaDoor
/-
  Walk: the field's Pow.
-/
namespace Go.Proofs.YtdgheahbafnboaaDoor
set_option linter.unusedSimpArgs false
set_option linter.unusedVariables false
open Go.RowKit
theorem and8_one (l:Nat) (h:l<256):bits .and .u8 (l:Int) 1=((l%2:Nat):Int):=by
 show IntKind.u8.wrap ((BitVec.ofInt 8 (l:Int) &&& BitVec.ofInt 8 (1:Int)).toNat:Int)=_;have e1:(BitVec.ofInt 8 (1:Int)).toNat=1:=by decide
 rw [BitVec.toNat_and,BitVec.ofInt_natCast,BitVec.toNat_ofNat,e1,Nat.mod_eq_of_lt (show l<2^8 from h),IntKind.wrap_u8];have h2:l &&& 1=l%2:=Nat.and_two_pow_sub_one_eq_mod l 1;rw [h2];omega
theorem Rd.atc {w:World} {B k:Nat} {ad:Addr} {xs:List Value} (h:Rd w B (some ad) xs) (hk:k<xs.length):w.cell? (ad.add k)=some xs[k]:=by
 obtain ⟨a2,h1,_,h3⟩:=h.at_ hk
 injection h1 with h1
 rw [h1]; exact h3
set_option maxRecDepth 100000 in
set_option maxHeartbeats 2000000 in
theorem pow_any (x:E5) (hx:x.Ok) (l:List UInt8) (A:Option Addr) (c:Nat) (w:World) (hr:Rd w w.heap.size A (bytesV l)) (hc:l.length≤c) (hl:l.length≤1000000) :
  Calls Tryd.prog 69 #[.agg (eV x),.slice A l.length c] w (ElemPost (pwL x ((l.take 64).map UInt8.toNat) (min l.length 64)) w):=by
 have hu:=Tryd.underlying39;have hi1:intE 1=natE 1:=rfl;have hint:=fun u=>int_any 1 (by decide) (by decide) u;rw [hi1] at hint;have HX:=zY hx;have HI:=zY hint;have HR:=zY hr;obtain ⟨n,hn⟩:∃ n,n=l.length:=⟨_,rfl⟩;rw [← hn];rw [← hn] at hc hl;have hn63:(n:Int)≤1000000:=by omega
 have HN:=zY hn;clear hx hi1 hint hr hn hc hl;obtain ⟨m,hm⟩:∃ m,m=min n 64:=⟨_,rfl⟩;have hmin1:(if (64:Int)<(n:Int) then (64:Int) else (n:Int))=(m:Int):=by rw [hm]; split <;> omega
 have hmin2:(if 64<n then (64:Int) else (n:Int))=(m:Int):=by rw [hm]; split <;> omega
 have hm64:(m:Int)≤64:=by omega
 rw [← hm];have HM:=zY hm;clear hm
 all_goals
  go_enter Tryd.func69,Tryd.ntmps69;go_wp2_with fail;refine calls_then (HI.out _) ?_;rintro e w2 ⟨rfl,hb2⟩;go_wp2_with (refine wpList_put_box (x:=.tmp 5) (cells:=eV (natE 1)) (Blk.new w2 _ _) rfl rfl rfl rfl elem_size rfl (by simp [eV,wV,limbs,Value.oneCell']) ?_; intro w5 hb5 hw5; have HB5:=zY hb5; have HW5:=zY hw5; clear hb5 hw5);have hst0:G2 w w.heap.size (w.heap.size+1) (eV x) (eV zE) _:=g2_new w (eV x) (eV zE);have hst2:=hst0.next hb2
  have hst3:G3 w w.heap.size w2.heap.size (w.heap.size+1) (eV x) (eV (natE 1)) (eV zE) w5 :=
   ⟨HW5.out.below (hst2.bel.alloc hst2.bel.size _) hst2.bel.size (by simp; have:=hst2.bel.size; omega),HW5.out.blk (hst2.x.alloc _) (Nat.ne_of_lt hst2.x.lt),HB5.out,HW5.out.blk (hst2.z.alloc _) (Nat.ne_of_lt hst2.z.lt),hst2.lg,hst2.bel.size,hst2.lr,Nat.ne_of_lt hst2.x.lt,hst2.gr,Ne.symm (Nat.ne_of_lt hst2.z.lt)⟩
  have HST:=zY hst3;clear hst0 hst2 hst3 HB5 HW5 hb2;generalize hL:(l.take 64).map UInt8.toNat=L at *;generalize hg:w.heap.size=g at *;generalize ho:w2.heap.size=o at *;generalize hrr:g+1=r at *;have HL:=zY hL;clear hL hmin1 hmin2;have HHG:=zY hg;have HHR:=zY hrr;have HHO:=zY ho;clear hg ho hrr
  go_loopw [6] (fun i wr=>∃ j:Nat,j≤m∧i=.int .i64 ((m:Int) - 1 - (j:Int))∧G3 w g o r (eV x) (eV (pwL x L j)) (eV zE) wr) (fun i _=>(intOf i+1).toNat)
  case atStart=>exact ⟨0,Nat.zero_le _,by go_num,HST.out⟩
  case round =>
   clear HST;obtain ⟨j,hj,rfl,hst⟩:=hrel
   by_cases hlt:j<m
   ·obtain ⟨p,hp⟩:∃ p,p+1+j=m:=⟨m - 1 - j,by omega⟩;have hpi:(m:Int) - 1 - (j:Int)=(p:Int):=by omega
    rw [hpi];obtain ⟨cur,hcur⟩:∃ cur,cur=pwL x L j:=⟨_,rfl⟩;rw [← hcur] at hst;obtain ⟨b,hb⟩:∃ b,b=L.getD p 0:=⟨_,rfl⟩;have hst':G3 w g o r (eV x) (eV (pwB x cur b 0)) (eV zE) wr:=hst;have hcok:cur.Ok:=by rw [hcur]; exact pwL_ok HX.out L j
    have HST:=zY hst';have HCUR:=zY hcur;have HCOK:=zY hcok;have HB:=zY hb;clear hst hst' hcur hcok hb hpi;go_wp2_with fail;obtain ⟨wo,rfl⟩:∃ x,x=wr:=⟨_,rfl⟩
    go_loopw [7] (fun c wr=>∃ k:Nat,k≤8∧c=.int .i64 (7 - (k:Int))∧G3 w g o r (eV x) (eV (pwB x cur b k)) (eV zE) wr) (fun c _=>(intOf c+1).toNat)
    case atStart=>exact ⟨0,by omega,rfl,HST.out⟩
    case round =>
     clear HST;obtain ⟨k,hk,rfl,hst⟩:=hrel
     by_cases hltk:k<8
     ·obtain ⟨q,hq⟩:∃ q,q+k=7:=⟨7 - k,by omega⟩;have hqi:(7:Int) - (k:Int)=(q:Int):=by omega
      have hq8:(q:Int)<8:=by omega
      have hbit:pwB x cur b (k+1)=pwS x (pwB x cur b k) (b/2^q%2):=by rw [pwB,show 7 - k=q by omega]
      obtain ⟨y,hy⟩:∃ y,y=pwB x cur b k:=⟨_,rfl⟩;have hyok:y.Ok:=by rw [hy]; exact pwB_ok HX.out HCOK.out b k
      rw [← hy] at hst hbit;rw [hqi];have hpl:p<l.length:=by have:=HM.out; have:=HN.out; omega
      have hp64:p<64:=by omega
      have hbel:=hst.bel;rw [HHG.out] at hbel;have hrd:=HR.out.below hbel;obtain ⟨ad,rfl,hadl,hcell⟩:=hrd.at_ (k:=p) (by rw [bytesV_length]; exact hpl)
      have hbv:(bytesV l)[p]'(by rw [bytesV_length]; exact hpl)=.int .u8 (b:Int):=by
       have e1:b=l[p].toNat:=by
        rw [HB.out,← HL.out];simp [List.getD_eq_getElem?_getD,List.getElem?_take,hp64,hpl]
       rw [e1];simp [bytesV,byteV]
      have hb256:b<256:=by
       have e1:b=l[p].toNat:=by
        rw [HB.out,← HL.out];simp [List.getD_eq_getElem?_getD,List.getElem?_take,hp64,hpl]
       rw [e1]; exact l[p].toNat_lt
      obtain ⟨bq,hbq⟩:∃ bq,bq=b/2^q:=⟨_,rfl⟩;have hbqi:(b:Int)/2^q=(bq:Int):=by rw [hbq,shr_int]
      have hbql:bq<256:=by rw [hbq]; exact Nat.lt_of_le_of_lt (Nat.div_le_self _ _) hb256
      rw [← hbq] at hbit;have hand:=and8_one bq hbql;obtain ⟨c,hc⟩:∃ c,c=bq%2:=⟨_,rfl⟩;rw [← hc] at hbit hand;have hpn:(p:Int)<(n:Int):=by have:=HN.out; omega
      have HCELL:=zY (hcell.trans (congrArg some hbv));have HBIT:=zY hbit;have HAND:=zY hand;have HYOK:=zY hyok;have HBQI:=zY hbqi;have HQ:=zY hq;have HP:=zY hp;have HHB:=zY hb256;have hc2:c<2:=by rw [hc]; exact Nat.mod_lt _ (by decide)
      have HHC:=zY hc2;have HK:=zY hk;have HJ:=zY hj;have hm0:(m:Int)≤(n:Int):=by have:=HM.out; omega
      clear hrd hcell hbv hbit hand hyok hbqi hb256 hbel hbql hc hbq hc2 hy
      have hbv2:(bytesV l)[p]'(by rw [bytesV_length]; exact hpl)=.int .u8 (b:Int):=by
       have e1:b=l[p].toNat:=by
        rw [HB.out,← HL.out];simp [List.getD_eq_getElem?_getD,List.getElem?_take,hp64,hpl]
       rw [e1];simp [bytesV,byteV]
      have HST:=zY hst;have HBV:=zY hbv2;clear hst hbv2 HCELL
      rcases Nat.lt_or_ge c 1 with hc1 | hc1
      ·have hcc:c=0:=by omega
       rw [hcc] at HAND HBIT;have hand2:bits .and .u8 ((b:Int)/2^q) 1=0:=by rw [HBQI.out]; exact HAND.out
       go_wp2_with (refine wpList_get_box (x:=.tmp 5) HST.out.y rfl rfl rfl hu rfl elem_size ?_);refine calls_then (mul_any y y _ HYOK.out HYOK.out) ?_;rintro e w3 ⟨rfl,hb3⟩;have hst3:=HST.out.next hb3;clear HST;go_wp2_with (refine wpList_put_box (x:=.tmp 5) (cells:=eV (mulE y y)) hst3.y rfl rfl rfl rfl elem_size rfl (by simp [eV,wV,limbs,Value.oneCell']) ?_; intro w6 hb6 hw6; have hst6:=hst3.putY hw6 hb6; have hcell6:=((HR.out.below (show Below g w w6 by have h:=hst6.bel; rw [HHG.out] at h; exact h)).atc (k:=p) (by rw [bytesV_length]; exact hpl)).trans (congrArg some HBV.out); have HST6:=zY hst6; clear hst3 hst6 hb6 hw6);have hq1:(q:Int) - 1=7 - ((k+1:Nat):Int):=by have:=HQ.out; omega
       refine ⟨⟨k+1,by have:=HK.out; have:=HQ.out; omega,by rw [hq1],?_⟩,by simp [intOf]⟩;rw [HBIT.out];exact HST6.out
      ·have hcc:c=1:=by have:=HHC.out; omega
       rw [hcc] at HAND HBIT;have hand2:bits .and .u8 ((b:Int)/2^q) 1=1:=by rw [HBQI.out]; exact HAND.out
       go_wp2_with (refine wpList_get_box (x:=.tmp 5) HST.out.y rfl rfl rfl hu rfl elem_size ?_);refine calls_then (mul_any y y _ HYOK.out HYOK.out) ?_;rintro e w3 ⟨rfl,hb3⟩;have hst3:=HST.out.next hb3;clear HST
       go_wp2_with (first
        | (refine wpList_put_box (x:=.tmp 5) (cells:=eV (mulE y y)) hst3.y rfl rfl rfl rfl elem_size rfl (by simp [eV,wV,limbs,Value.oneCell']) ?_; intro w6 hb6 hw6; have hst6:=hst3.putY hw6 hb6; have hcell6:=((HR.out.below (show Below g w w6 by have h:=hst6.bel; rw [HHG.out] at h; exact h)).atc (k:=p) (by rw [bytesV_length]; exact hpl)).trans (congrArg some HBV.out); have HST6:=zY hst6; clear hst3 hst6 hb6 hw6)
        | (refine wpList_get_box (x:=.tmp 5) HST6.out.y rfl rfl rfl hu rfl elem_size ?_)
        | (refine wpList_get_box (x:=.tmp 2) HST6.out.x rfl rfl rfl hu rfl elem_size ?_))
       refine calls_then (mul_any (mulE y y) x _ (mul_ok HYOK.out HYOK.out) HX.out) ?_;rintro e w7 ⟨rfl,hb7⟩;have hst7:=HST6.out.next hb7;go_wp2_with (refine wpList_put_box (x:=.tmp 5) (cells:=eV (mulE (mulE y y) x)) hst7.y rfl rfl rfl rfl elem_size rfl (by simp [eV,wV,limbs,Value.oneCell']) ?_; intro w8 hb8 hw8; have hst8:=hst7.putY hw8 hb8; have HST8:=zY hst8; clear hst7 hst8 hb8 hw8);have hq1:(q:Int) - 1=7 - ((k+1:Nat):Int):=by have:=HQ.out; omega
       refine ⟨⟨k+1,by have:=HK.out; have:=HQ.out; omega,by rw [hq1],?_⟩,by simp [intOf]⟩;rw [HBIT.out];exact HST8.out
     ·obtain rfl:k=8:=by omega
      have hend:pwB x cur b 8=pwL x L (j+1):=by
       have e1:L.length=m:=by rw [← HL.out,List.length_map,List.length_take,HM.out,HN.out]; omega
       rw [pwL,← HCUR.out,HB.out,e1,show m - 1 - j=p by omega]
      rw [hend] at hst;have HST:=zY hst;clear hst hend;go_wp2_with fail;exact ⟨⟨j+1,by omega,by go_num,HST.out⟩,by simp [intOf]⟩
   ·obtain rfl:j=m:=by omega
    have hpi:(j:Int) - 1 - (j:Int)=-1:=by omega
    rw [hpi];have HST:=zY hst;clear hst
    go_wp2_with (first
     | (refine wpList_get_box (x:=.tmp 5) HST.out.y rfl rfl rfl hu rfl elem_size ?_)
     | (refine wpList_put_box (x:=.tmp 4) (cells:=eV (pwL x L j)) HST.out.z rfl rfl rfl rfl elem_size rfl (by simp [eV,wV,limbs,Value.oneCell']) ?_; intro w6 hb6 hw6))
    refine bodyPost_ret (results_box (P:=Tryd.prog) rfl rfl hb6 hu rfl elem_size) rfl ⟨rfl,?_⟩;exact hw6.below HST.out.bel HST.out.lr HST.out.bel.size
end Go.Proofs.YtdgheahbafnboaaDoor
/-
  Walk: the field's Inv.
-/
namespace Go.Proofs.YtdgheahbafnboaaDoor
set_option linter.unusedSimpArgs false
set_option linter.unusedVariables false
open Go.RowKit
structure I3 (w0:World) (g r o:Nat) (x z:Array Value) (l:List Nat) (u:World):Prop where
 bel:Below w0.heap.size w0 u
 x:Blk u g 39 x
 z:Blk u r 39 z
 out:Blk u o 5 (bnV l).toArray
 lg:w0.heap.size≤g
 lr:w0.heap.size≤r
 lo:w0.heap.size≤o
 go:g≠o
 ro:r≠o
theorem I3.put {w0 u u':World} {g r o:Nat} {x z:Array Value} {l l':List Nat} (k:I3 w0 g r o x z l u) (hw:Wrote o u u') (hb:Blk u' o 5 (bnV l').toArray):I3 w0 g r o x z l' u' :=
 ⟨hw.below k.bel k.lo k.bel.size,hw.blk k.x k.go,hw.blk k.z k.ro,hb,k.lg,k.lr,k.lo,k.go,k.ro⟩
theorem I3.next {w0 u u':World} {g r o:Nat} {x z:Array Value} {l:List Nat} (k:I3 w0 g r o x z l u) (hb:Below u.heap.size u u'):I3 w0 g r o x z l u' :=
 ⟨k.bel.trans (hb.mono k.bel.size),k.x.below hb k.x.lt,k.z.below hb k.z.lt,k.out.below hb k.out.lt,k.lg,k.lr,k.lo,k.go,k.ro⟩
theorem i3_new (w:World) (x z:Array Value) (l:List Nat):I3 w w.heap.size (w.heap.size+1) (w.heap.size+1+1) x z l (((w.alloc (.cells x 39)).alloc (.cells z 39)).alloc (.cells (bnV l).toArray 5)) :=
 ⟨((below_new _ _).alloc (by simp) _).alloc (by simp; try omega) _,((Blk.new _ _ _).alloc _).alloc _,(Blk.newAt (by simp)).alloc _,Blk.newAt (by simp),Nat.le_refl _,by omega,by omega,by omega,by omega⟩
def fillL (k:Nat):List Nat:=List.replicate k 255++List.replicate (32 - k) 0
theorem fill_set:∀ k,k<32→(fillL k).set k 255=fillL (k+1):=by decide
theorem fill_len:∀ k,k<33→(fillL k).length=32:=by decide
def invL:List Nat:=235 :: (List.replicate 30 255++[127])
theorem fill_end:((fillL 32).set 0 235).set 31 127=invL:=by decide
def invB:List UInt8:=invL.map UInt8.ofNat
theorem invB_v:bytesV invB=bnV invL:=by rfl
theorem invB_l:(invB.take 64).map UInt8.toNat=invL:=by decide
theorem invB_len:invB.length=32:=by decide
def invE (x:E5):E5:=pwL x invL 32
set_option maxRecDepth 100000 in
set_option maxHeartbeats 2000000 in
theorem inv_any (x:E5) (hx:x.Ok) (w:World):Calls Tryd.prog 40 #[.agg (eV x)] w (ElemPost (invE x) w):=by
 have hu:=Tryd.underlying39;have hmk:∀ u:World,(Instr.makeSlice 22 (.int .i64 32) (.int .i64 32)).run Tryd.prog u=.ok (.slice (some ⟨u.heap.size,0,none⟩) 32 32) (u.alloc (.cells (bnV (fillL 0)).toArray 5)):=fun _=>by kernel_rfl
 have HX:=zY hx;have hst0:=i3_new w (eV x) (eV zE) (fillL 0);have HST0:=zY hst0;clear hx hst0;go_enter Tryd.func40,Tryd.ntmps40;go_wp2_with fail;generalize ho:w.heap.size+1+1=o at *;generalize hr:w.heap.size+1=r at *;generalize hg:w.heap.size=g at *;have HHO:=zY ho;have HHR:=zY hr;have HHG:=zY hg;clear ho hr hg
 go_loopw [8] (fun i wr=>∃ k:Nat,k≤32∧i=.int .i64 k∧I3 w g r o (eV x) (eV zE) (fillL k) wr) (fun i _=>32 - (intOf i).toNat)
 case atStart=>exact ⟨0,by omega,rfl,HST0.out⟩
 case round =>
  clear HST0;obtain ⟨k,hk,rfl,hst⟩:=hrel
  by_cases hlt:k<32
  ·have hlt':(k:Int)<32:=by omega
   have HST:=zY hst;clear hst;go_wp2_with (refine wpList_put_cell (x:=.tmp 13) (i:=k) (v:=.int .u8 255) HST.out.out rfl rfl rfl rfl (by kernel_rfl) (by rw [List.size_toArray,bnV,List.length_map,fill_len k (by omega)]; exact hlt) rfl ?_; intro w5 hb5 hw5; have hst5:=HST.out.put (l':=fillL (k+1)) hw5 (by rw [show (Value.int IntKind.u8 255)=.int .u8 ((255:Nat):Int) from rfl,bnV_set,fill_set k hlt] at hb5; exact hb5); have HST5:=zY hst5; clear hst5 hb5 hw5);exact ⟨⟨k+1,by omega,by go_num,HST5.out⟩,by simp [intOf]; omega⟩
  ·obtain rfl:k=32:=by omega
   have HST:=zY hst;clear hst
   go_wp2_with (first
    | (refine wpList_put_cell (x:=.tmp 17) (i:=0) (v:=.int .u8 235) HST.out.out rfl rfl rfl rfl (by kernel_rfl) (by rw [List.size_toArray,bnV,List.length_map,fill_len 32 (by omega)]; decide) rfl ?_; intro w5 hb5 hw5; have hst5:=HST.out.put (l':=(fillL 32).set 0 235) hw5 (by rw [show (Value.int IntKind.u8 235)=.int .u8 ((235:Nat):Int) from rfl,bnV_set] at hb5; exact hb5); have HST5:=zY hst5; clear hst5 hb5 hw5)
    | (refine wpList_put_cell (x:=.tmp 18) (i:=31) (v:=.int .u8 127) HST5.out.out rfl rfl rfl rfl (by kernel_rfl) (by rw [List.size_toArray,bnV,List.length_map,List.length_set,fill_len 32 (by omega)]; decide) rfl ?_; intro w6 hb6 hw6; have hst6:=HST5.out.put (l':=invL) hw6 (by rw [show (Value.int IntKind.u8 127)=.int .u8 ((127:Nat):Int) from rfl,bnV_set,fill_end] at hb6; exact hb6); have HST6:=zY hst6; clear hst6 hb6 hw6)
    | (refine wpList_get_box (x:=.tmp 1) HST6.out.x rfl rfl rfl hu rfl elem_size ?_))
   have hrd:Rd w6 w6.heap.size (some ⟨o,0,none⟩) (bytesV invB):=by
    rw [invB_v];exact Rd.of_blk HST6.out.out HST6.out.out.lt
   have hp:=pow_any x HX.out invB (some ⟨o,0,none⟩) 32 w6 hrd (by rw [invB_len]; omega) (by rw [invB_len]; omega);rw [invB_l,invB_len] at hp;refine calls_then hp ?_;rintro e w7 ⟨rfl,hb7⟩;have hst7:=HST6.out.next hb7;have HST7:=zY hst7;clear hst7;rw [show min 32 64=32 from rfl];go_wp2_with (refine wpList_put_box (x:=.tmp 2) (cells:=eV (pwL x invL 32)) HST7.out.z rfl rfl rfl rfl elem_size rfl (by simp [eV,wV,limbs,Value.oneCell']) ?_; intro w8 hb8 hw8);refine bodyPost_ret (results_box (P:=Tryd.prog) rfl rfl hb8 hu rfl elem_size) rfl ⟨rfl,?_⟩;exact hw8.below HST7.out.bel HST7.out.lr HST7.out.bel.size
end Go.Proofs.YtdgheahbafnboaaDoor
/-
  Plain: an element of 32 bytes.
-/
namespace Go.Proofs.YtdgheahbafnboaaDoor
set_option linter.unusedSimpArgs false
set_option linter.unusedVariables false
open Go.RowKit
def digs (l:List UInt8):List Nat:=l.map UInt8.toNat
theorem digs_lt (l:List UInt8):∀ d ∈ digs l,d<256:=fun d h=>by
 obtain ⟨b,_,rfl⟩:=List.mem_map.1 h;exact b.toNat_lt
theorem leV_lt:∀ (l:List Nat),(∀ d ∈ l,d<256)→leV l<256^l.length
 | [],_=>by decide
 | d :: r,h=>by
  have h1:=leV_lt r fun x hx=>h x (List.mem_cons_of_mem _ hx);have h2:=h d List.mem_cons_self;rw [leV,List.length_cons,Nat.pow_succ];omega
theorem leV_at:∀ (l:List Nat),(∀ d ∈ l,d<256)→∀ j,leV l/256^j%256=l.getD j 0
 | [],_,j=>by rw [leV,Nat.zero_div]; rfl
 | d :: r,h,0=>by
  have h2:=h d List.mem_cons_self;rw [leV,Nat.pow_zero,Nat.div_one,List.getD_cons_zero];omega
 | d :: r,h,j+1=>by
  have h1:=leV_at r (fun x hx=>h x (List.mem_cons_of_mem _ hx)) j;have h2:=h d List.mem_cons_self;rw [leV,Nat.pow_succ,Nat.mul_comm (256^j),← Nat.div_div_eq_div_mul,show (d+256*leV r)/256=leV r by omega,h1,List.getD_cons_succ]
theorem leV_replicate (n:Nat):leV (List.replicate n 0)=0:=by
 induction n with
 | zero=>rfl
 | succ n ih=>rw [List.replicate_succ,leV,ih]
theorem leV_append:∀ (l r:List Nat),leV (l++r)=leV l+256^l.length*leV r
 | [],r=>by simp [leV]
 | d :: l,r=>by
  rw [List.cons_append,leV,leV_append l r,leV,List.length_cons,Nat.pow_succ]
  grind
theorem byN_leV (l:List Nat) (h:∀ d ∈ l,d<256) (hl:l.length=32):byN (leV l)=l:=by
 apply List.ext_getElem?;intro j
 by_cases hj:j<32
 ·rw [byN_at _ _ hj,leV_at l h j,List.getD_eq_getElem?_getD,List.getElem?_eq_getElem (by omega)];rfl
 ·rw [List.getElem?_eq_none (by rw [byN_length]; omega),List.getElem?_eq_none (by omega)]
theorem byN_lt (N:Nat):∀ d ∈ byN N,d<256:=fun d h=>by
 obtain ⟨j,_,rfl⟩:=List.mem_map.1 h;exact Nat.mod_lt _ (by decide)
theorem leV_ext:∀ (l r:List Nat),l.length=r.length→(∀ d ∈ l,d<256)→(∀ d ∈ r,d<256)→leV l=leV r→l=r
 | [],[],_,_,_,_=>rfl
 | [],_ :: _,h,_,_,_=>by simp at h
 | _ :: _,[],h,_,_,_=>by simp at h
 | c :: l,d :: r,h,h1,h2,e=>by
  have a1:=h1 c List.mem_cons_self;have a2:=h2 d List.mem_cons_self;rw [leV,leV] at e;rw [leV_ext l r (by simpa using h) (fun x hx=>h1 x (List.mem_cons_of_mem _ hx)) (fun x hx=>h2 x (List.mem_cons_of_mem _ hx)) (by omega),show c=d by omega]
theorem leV_mod:∀ (n N:Nat),leV ((List.range n).map fun j=>N/256^j%256)=N%256^n
 | 0,N=>by rw [Nat.pow_zero,Nat.mod_one]; rfl
 | n+1,N=>by
  rw [List.range_succ_eq_map,List.map_cons,List.map_map,leV]
  have e:((fun j=>N/256^j%256) ∘ Nat.succ)=fun j=>N/256/256^j%256:=by
   funext j
   show N/256^(j+1)%256=_;rw [Nat.pow_succ,Nat.mul_comm,← Nat.div_div_eq_div_mul]
  rw [e,leV_mod n (N/256),Nat.pow_zero,Nat.div_one,Nat.pow_succ,Nat.mul_comm (256^n),Nat.mod_mul]
theorem leV_byN (N:Nat) (h:N<256^32):leV (byN N)=N:=by
 rw [byN,leV_mod,Nat.mod_eq_of_lt h]
theorem byN_inj {N M:Nat} (h:N<256^32) (h2:M<256^32) (e:byN N=byN M):N=M:=by
 rw [← leV_byN N h,← leV_byN M h2,e]
def byB (N:Nat):List UInt8:=(byN N).map UInt8.ofNat
theorem digs_ofNat (l:List Nat) (h:∀ d ∈ l,d<256):digs (l.map UInt8.ofNat)=l:=by
 rw [digs,List.map_map]
 conv=>rhs; rw [← List.map_id l]
 apply List.map_congr_left;intro d hd;show (UInt8.ofNat d).toNat=d;rw [UInt8.toNat_ofNat'];exact Nat.mod_eq_of_lt (h d hd)
theorem digs_byB (N:Nat):digs (byB N)=byN N:=digs_ofNat _ (byN_lt N)
theorem bnV_digs (l:List UInt8):bnV (digs l)=bytesV l:=by
 rw [bnV,digs,List.map_map]; rfl
theorem bnV_byB (N:Nat):bnV (byN N)=bytesV (byB N):=by rw [← bnV_digs,digs_byB]
theorem byB_length (N:Nat):(byB N).length=32:=by rw [byB,List.length_map,byN_length]
theorem digs_inj {l r:List UInt8} (h:digs l=digs r):l=r:=by
 have e:∀ l:List UInt8,(digs l).map UInt8.ofNat=l:=fun l=>by
  rw [digs,List.map_map]
  conv=>rhs; rw [← List.map_id l]
  exact List.map_congr_left fun b _=>by simp
 rw [← e l,← e r,h]
theorem byB_digs (l:List UInt8) (h:l.length=32):byB (leV (digs l))=l:=by
 apply digs_inj;rw [digs_byB,byN_leV _ (digs_lt l) (by rw [digs,List.length_map,h])]
def ofN (N:Nat):E5:=⟨N%2251799813685248,N/2^51%2251799813685248,N/2^102%2251799813685248,N/2^153%2251799813685248,N/2^204%2251799813685248⟩
theorem ofN_at (N k:Nat) (h:k<5):(limbs (ofN N)).getD k 0=N/2^(51*k)%2251799813685248:=by
 match k,h with
 | 0,_=>show N%2251799813685248=_; rw [Nat.mul_zero,Nat.pow_zero,Nat.div_one]
 | 1,_=>rfl
 | 2,_=>rfl
 | 3,_=>rfl
 | 4,_=>rfl
theorem ofN_lt (N:Nat):(ofN N).Lt 2251799813685248:=by
 constructor <;> exact Nat.mod_lt _ (by decide)
theorem ofN_ok (N:Nat):(ofN N).Ok:=(ofN_lt N).mono (by decide)
theorem ofN_val (N:Nat):(ofN N).val=N%2^255:=by
 simp only [ofN,E5.val];rw [show (2:Nat)^51=2251799813685248 by decide,show (2:Nat)^102=5070602400912917605986812821504 by decide,show (2:Nat)^153=11417981541647679048466287755595961091061972992 by decide,show (2:Nat)^204=25711008708143844408671393477458601640355247900524685364822016 by decide,show (2:Nat)^255=57896044618658097711785492504343953926634992332820282019728792003956564819968 by decide];omega
def winN (N q k:Nat):Nat:=N/256^q%256^k
theorem win_zero (N q:Nat):winN N q 0=0:=by rw [winN,Nat.pow_zero,Nat.mod_one]
theorem win_lt (N q k:Nat) (h:k≤8):winN N q k<18446744073709551616:=by
 have h1:winN N q k<256^k:=Nat.mod_lt _ (Nat.pow_pos (by decide));have h2:256^k≤256^8:=Nat.pow_le_pow_right (by decide) h;exact Nat.lt_of_lt_of_le h1 h2
theorem win_step (N q k:Nat):winN N q k ||| N/256^(q+k)%256*2^(8*k)=winN N q (k+1):=by
 have h1:winN N q k<2^(8*k):=by rw [← pow256]; exact Nat.mod_lt _ (Nat.pow_pos (by decide))
 have h:=Nat.shiftLeft_add_eq_or_of_lt h1 (N/256^(q+k)%256);rw [Nat.shiftLeft_eq] at h;rw [Nat.or_comm,← h,winN,winN,Nat.pow_succ,Nat.mod_mul,Nat.pow_add,← Nat.div_div_eq_div_mul,← pow256,Nat.mul_comm,Nat.add_comm]
theorem win_over (N q k:Nat) (hN:N<256^32) (h:32≤q+k):winN N q (k+1)=winN N q k:=by
 rw [← win_step];have e:N/256^(q+k)=0:=Nat.div_eq_of_lt (Nat.lt_of_lt_of_le hN (Nat.pow_le_pow_right (by decide) h));rw [e,Nat.zero_mod,Nat.zero_mul,Nat.or_zero]
theorem win_limb (N n:Nat):winN N (n/8) 8/2^(n%8)%2251799813685248=N/2^n%2251799813685248:=by
 obtain ⟨q,r,hr,rfl⟩:∃ q r,r<8∧n=8*q+r:=⟨n/8,n%8,by omega,by omega⟩;rw [show (8*q+r)/8=q by omega,show (8*q+r)%8=r by omega,winN,pow256,pow256,Nat.pow_add,← Nat.div_div_eq_div_mul];obtain ⟨M,hM⟩:∃ M,M=N/2^(8*q):=⟨_,rfl⟩;obtain ⟨d,hd⟩:∃ d,8*8=r+(51+d):=⟨13 - r,by omega⟩;rw [← hM,hd,Nat.pow_add,Nat.mod_mul_right_div_self,show (2251799813685248:Nat)=2^51 from rfl,Nat.pow_add,Nat.mod_mul_right_mod]
def mayR (l:List UInt8):Bool:=decide (l.length=32∧leV (digs l)<PN)
def readE (l:List UInt8):E5:=if mayR l then ofN (leV (digs l)) else zE
def readF (l:List UInt8):Int:=if mayR l then 0 else 2
theorem read_same (l:List UInt8) (h:l.length=32):(byB (leastE (ofN (leV (digs l)))).val=l)=(leV (digs l)<PN):=by
 have hN:=leV_lt (digs l) (digs_lt l);rw [show (digs l).length=32 by rw [digs,List.length_map,h]] at hN
 have hv:(leastE (ofN (leV (digs l)))).val=leV (digs l)%2^255%PN:=by
  rw [least_val ((ofN_lt _).mono (by decide)),ofN_val]
 rw [hv];have hP:PN<2^255:=by decide
 have hP0:0<PN:=by decide
 have hP2:PN<256^32:=by decide
 apply propext
 constructor
 ·intro h1;have h2:=congrArg (fun x=>leV (digs x)) h1;have hlt:leV (digs l)%2^255%PN<PN:=Nat.mod_lt _ hP0;rw [digs_byB,leV_byN _ (Nat.lt_trans hlt hP2)] at h2;rw [← h2]; exact hlt
 ·intro h1;rw [Nat.mod_eq_of_lt (Nat.lt_trans h1 hP),Nat.mod_eq_of_lt h1,byB_digs l h]
end Go.Proofs.YtdgheahbafnboaaDoor
/-
  Laws of my own on conversions between bytes and strings.
-/
namespace Go.Proofs.YtdgheahbafnboaaDoor
set_option linter.unusedSimpArgs false
set_option linter.unusedVariables false
open Go.RowKit
section
variable {P:Program}
theorem run_str_of {w:World} {B:Nat} {src dst e:TypeId} (hs:P.underlying src=some (.slice e)) (he:P.underlying e=some (.int .u8)) (hd:P.underlying dst=some .string)
  {A:Option Addr} {l:List UInt8} (hr:Rd w B A (bytesV l)) (c:Nat):(convert src dst (.slice A l.length c)).run P w=.ok (.string ⟨l.toArray⟩) w:=by
 cases A with
 | none =>
  have hl:l=[]:=by
   cases l with
   | nil=>rfl
   | cons x r =>
    obtain ⟨ad,h,_⟩:=hr 0 (byteV x) (by simp [bytesV])
    cases h
  subst hl;rw [run_convert_bytes_nil w src e hs he _ c dst hd];rfl
 | some ad =>
  have hl:(loadCells ad l.length).run P w=.ok ((l.map fun b=>(b.toNat:Int)).map (Value.int .u8)).toArray w:=by
   have:=run_loadCells_list (P:=P) w ad ((l.map fun b=>(b.toNat:Int)).map (Value.int .u8)) (fun j v hj=>by
    obtain ⟨ad',h,_,hc⟩:=hr j v (by rw [← hj]; simp [bytesV,byteV]; rfl)
    injection h with h
    subst h;exact hc)
   simpa using this
  rw [run_convert_bytes_string w src dst e _ l.length c hs he hd,run_bytesToString w _ l.length c (l.map fun b=>(b.toNat:Int)) hl,foldl_push_bytes]
  have e1:((l.map fun b=>(b.toNat:Int)).map fun n=>UInt8.ofNat n.toNat)=l:=by
   rw [List.map_map]
   conv=>rhs; rw [← List.map_id l]
   exact List.map_congr_left fun b _=>by simp
  rw [e1];simp [ByteArray.empty,ByteArray.emptyWithCapacity];rfl
theorem wpList_str_of {w:World} {ops:Array Oper} {rest:List Oper} {o:Oper} {a:Act} {Q:Exit→Act→World→Prop} {B:Nat} {src dst e:TypeId} {x:Operand} {A:Option Addr} {l:List UInt8} {c:Nat}
  (hr:Rd w B A (bytesV l)) (hs:P.underlying src=some (.slice e)) (he:P.underlying e=some (.int .u8)) (hd:P.underlying dst=some .string)
  (hgd:o.guard=none) (ho:o.op=.convert src dst x) (hx:a.eval x=.slice A l.length c)
  (h:wpList P ops Q rest (a.put o.dst (.string ⟨l.toArray⟩)) w):wpList P ops Q (o :: rest) a w:=by
 refine wpList_plain hgd fun K hK=>?_;have hrun:=run_str_of (P:=P) hs he hd hr c;unfold Oper.wp execOp;simp only [ho,hx];simp only [Sem.run_bind,hrun,Result.andThen_ok,Sem.run_pure];exact hK _ _ h
end
end Go.Proofs.YtdgheahbafnboaaDoor
/-
  Walk: the field's Read.
-/
namespace Go.Proofs.YtdgheahbafnboaaDoor
set_option linter.unusedSimpArgs false
set_option linter.unusedVariables false
open Go.RowKit
def ReadPost (l:List UInt8) (w:World) (e:Ending) (w':World):Prop:=e=.returned (.tuple #[.agg (eV (readE l)),.int .i64 (readF l)])∧Below w.heap.size w w'
set_option maxRecDepth 100000 in
set_option maxHeartbeats 2000000 in
theorem read_any (l:List UInt8) (A:Option Addr) (c:Nat) (w:World) (hr:Rd w w.heap.size A (bytesV l)) (hc:l.length≤c) (hl:l.length≤1000000) :
  Calls Tryd.prog 62 #[.slice A l.length c] w (ReadPost l w):=by
 have hu:=Tryd.underlying39
 by_cases h32:l.length=32
 ·obtain ⟨N,hN⟩:∃ N,N=leV (digs l):=⟨_,rfl⟩
  have hNl:N<256^32:=by
   have h:=leV_lt (digs l) (digs_lt l);rw [show (digs l).length=32 by rw [digs,List.length_map,h32]] at h;rw [hN]; exact h
  have hst0:G2 w (w.heap.size+1) w.heap.size (mixV (ofN N) zE 0) (eV zE) ((w.alloc (.cells (eV zE) 39)).alloc (.cells (eV zE) 39)) :=
   ⟨(below_new _ _).alloc (by simp) _,Blk.newAt (by simp),(Blk.new _ _ _).alloc _,by omega,Nat.le_refl _,by omega⟩
  rw [h32];have HST0:=zY hst0;have HR:=zY hr;have HL:=zY h32;have HN:=zY hN;have HNL:=zY hNl;clear hst0 hr hc hl h32 hN hNl;go_enter Tryd.func62,Tryd.ntmps62;go_wp2_with fail;generalize ho:w.heap.size+1=o at *;generalize hg:w.heap.size=g at *;have HHO:=zY ho;have HHG:=zY hg;clear ho hg
  go_loopw [13] (fun i wr=>∃ k:Nat,k≤5∧i=.int .i64 k∧G2 w o g (mixV (ofN N) zE k) (eV zE) wr) (fun i _=>5 - (intOf i).toNat)
  case atStart=>exact ⟨0,by omega,rfl,HST0.out⟩
  case round =>
   clear HST0;obtain ⟨i,hi,rfl,hst⟩:=hrel
   by_cases hlt:i<5
   ·have hlt':(i:Int)<5:=by omega
    obtain ⟨n,hn⟩:∃ n,n=i*51:=⟨_,rfl⟩;have hni:(i:Int)*51=(n:Int):=by omega
    obtain ⟨q,hq⟩:∃ q,q=n/8:=⟨_,rfl⟩;have hqi:(n:Int)/8=(q:Int):=by omega
    have hq25:q≤25:=by omega
    have HST:=zY hst;have HNN:=zY hn;have HQ:=zY hq;clear hst hn hq;go_wp2_with fail;obtain ⟨wo,rfl⟩:∃ x,x=wr:=⟨_,rfl⟩
    go_loopw [7,18] (fun v c wr=>∃ k:Nat,k≤8∧c=.int .i64 k∧v=.int .u64 (winN N q k:Nat)∧G2 w o g (mixV (ofN N) zE i) (eV zE) wr) (fun _ c _=>8 - (intOf c).toNat)
    case atStart=>exact ⟨0,by omega,rfl,by rw [win_zero]; rfl,HST.out⟩
    case round =>
     clear HST;obtain ⟨k,hk,rfl,rfl,hst⟩:=hrel
     by_cases hltk:k<8
     ·have hltk':(k:Int)<8:=by omega
      obtain ⟨p,hp⟩:∃ p,p=q+k:=⟨_,rfl⟩;have hpi:(q:Int)+(k:Int)=(p:Int):=by omega
      by_cases hp32:p<32
      ·have hp32':(p:Int)<32:=by omega
       obtain ⟨b,hb⟩:∃ b,b=N/256^p%256:=⟨_,rfl⟩;have hbl:b<256:=by rw [hb]; exact Nat.mod_lt _ (by decide)
       have hbl':(b:Int)<256:=by omega
       have hpl:p<l.length:=by rw [HL.out]; exact hp32
       have hbv:(bytesV l)[p]'(by rw [bytesV_length]; exact hpl)=.int .u8 (b:Int):=by
        have e1:b=l[p].toNat:=by
         rw [hb,HN.out,leV_at _ (digs_lt l),digs,List.getD_eq_getElem?_getD,List.getElem?_map,List.getElem?_eq_getElem hpl];rfl
        rw [e1];simp [bytesV,byteV]
       have hbel:=hst.bel;rw [HHG.out] at hbel;have hrd:=HR.out.below hbel;obtain ⟨ad,rfl,hadl,hcell⟩:=hrd.at_ (k:=p) (by rw [bytesV_length]; exact hpl);rw [hbv] at hcell;obtain ⟨e,he⟩:∃ e,e=8*k:=⟨_,rfl⟩;have hei:(8:Int)*(k:Int)=(e:Int):=by omega
       have he64:(e:Int)<64:=by omega
       have hstep:=win_step N q k;rw [← hp,← hb,← he] at hstep;have hyl:=win_lt N q k (by omega);obtain ⟨y,hy⟩:∃ y,y=winN N q k:=⟨_,rfl⟩;rw [← hy] at hstep hyl;rw [← hy];obtain ⟨s,hs⟩:∃ s,s=b*2^e:=⟨_,rfl⟩;rw [← hs] at hstep
       have hsl:s<18446744073709551616:=by
        have e1:2^e≤2^56:=Nat.pow_le_pow_right (by decide) (by omega);have e2:b*2^e≤255*2^56:=Nat.mul_le_mul (by omega) e1;rw [hs]; exact Nat.lt_of_le_of_lt e2 (by decide)
       have hsi:(b:Int)*2^e%18446744073709551616=(s:Int):=by rw [shl_int,← hs]; omega
       have hor:=or64 y s hyl hsl;rw [hstep] at hor;have HST:=zY hst;have HSI:=zY hsi;have HOR:=zY hor;clear hst hp hy hs hsl hyl hstep hb hbl hbv hbel hrd he hpl hsi hor;go_wp2_with fail;have hw1:IntKind.u64.wrap ((b:Int)*2^e)=(s:Int):=by rw [IntKind.wrap_u64]; exact HSI.out
       rw [hw1,HOR.out];exact ⟨⟨k+1,by omega,by go_num,rfl,HST.out⟩,by simp [intOf]; omega⟩
      ·have hp32':¬ (p:Int)<32:=by omega
       have hw:=win_over N q k HNL.out (by omega);rw [← hw];have HST:=zY hst;clear hst hw hp;go_wp2_with fail;exact ⟨⟨k+1,by omega,by go_num,rfl,HST.out⟩,by simp [intOf]; omega⟩
     ·obtain rfl:k=8:=by omega
      obtain ⟨r,hr⟩:∃ r,r=n%8:=⟨_,rfl⟩;have hri:(n:Int)%8=(r:Int):=by omega
      have hr8:(r:Int)<8:=by omega
      have hlimb:=win_limb N n;rw [← HQ.out,← hr] at hlimb;have hat:=ofN_at N i hlt;rw [Nat.mul_comm 51,← HNN.out,← hlimb] at hat;have hvl:=win_lt N q 8 (by omega);obtain ⟨v,hv⟩:∃ v,v=winN N q 8/2^r:=⟨_,rfl⟩;have hvi:((winN N q 8:Nat):Int)/2^r=(v:Int):=by rw [shr_int,hv]
      rw [← hv] at hat;have hvl2:v<18446744073709551616:=by rw [hv]; exact Nat.lt_of_le_of_lt (Nat.div_le_self _ _) hvl
      have hmk:=mask51 v hvl2;have hset:=mixV_set (ofN N) zE i hlt;rw [hat,← hmk] at hset;have HSET:=zY hset;have HVI:=zY hvi;have d0:=hst.x.cell i;rw [mixV_at _ _ _ hlt] at d0;have f0:=hst.x.free i;have HST:=zY hst;clear hset hst hmk hvl2 hvl hv hat hlimb hr hvi;go_wp2_with fail;refine ⟨⟨i+1,by omega,by go_num,HST.out.putX (wrote_setCell_at _ _ _ _) ?_⟩,by simp [intOf]; omega⟩;rw [HVI.out];have h:=blk_setCell_at (i:=i) HST.out.x (.int .u64 (bits .and .u64 (v:Int) 2251799813685247));rw [HSET.out] at h;exact h
   ·obtain rfl:i=5:=by omega
    rw [mixV_end] at hst;have HST:=zY hst;clear hst;go_wp2_with fail;obtain ⟨X,hX⟩:∃ X,X=ofN N:=⟨_,rfl⟩;have hXl:X.Lt 18446744073709551616:=by rw [hX]; exact (ofN_lt N).mono (by decide)
    obtain ⟨M,hM⟩:∃ M,M=(leastE X).val:=⟨_,rfl⟩;have hsame:(byB M=l)=(N<PN):=by rw [hM,hX,HN.out]; exact read_same l HL.out
    have hmay:mayR l=decide (byB M=l):=by
     rw [mayR,Bool.eq_iff_iff,decide_eq_true_iff,decide_eq_true_iff,hsame,← HN.out];exact ⟨fun h=>h.2,fun h=>⟨HL.out,h⟩⟩
    rw [← hX] at HST;have HXL:=zY hXl;have HM:=zY hM;have HC0:=HST.out.drew;have HX:=zY hX;have HMAY:=zY hmay;clear hX hXl hM hmay hsame HST
    by_cases heq:byB M=l
    ·have HEQ:=zY heq;clear heq
     refine wp_region_list (fun u=>G2 w o g (eV X) (eV zE) u) (fun | false=>(fun _=>True) | true=>(fun _=>True)) (fun | false,_=>false | true,_=>false)
      [fun z _=>z 0=.agg (eV X),
       fun z u=>∃ o2,z 1=.slice (some ⟨o2,0,none⟩) 32 32∧Blk u o2 5 (bnV (byN M)).toArray,
       fun z _=>z 2=.string ⟨l.toArray⟩,
       fun z _=>z 3=.slice A 32 c,
       fun z _=>z 4=.string ⟨l.toArray⟩,
       fun z _=>z 5=.bool false]
      [Eq,fun u u'=>Below u.heap.size u u',Eq,Eq,Eq,Eq]
      (fun _ _=>false) [(0,some 49),(1,some 50),(2,some 51),(3,some 52),(4,some 53),(5,some 54)] (by kernel_rfl) (by kernel_rfl) rfl (fun _=>rfl) ?_ ?_ ?_ ?_ ?_ ?_
     ·exact HC0
     ·intro m; cases m; exact trivial; exact trivial
     ·intro m; cases m
      ·refine ⟨?_,.inr (fun _ _ _ h=>h),?_,?_,?_,?_,trivial⟩ <;> exact .inr fun _ _ h h0=>h▸h0
      ·refine ⟨?_,.inr (fun _ _ _ h=>h),?_,?_,?_,?_,trivial⟩ <;> exact .inr fun _ _ h h0=>h▸h0
     ·refine ⟨⟨.inl rfl,?_,?_,?_,?_,?_,trivial⟩,⟨?_,.inl rfl,?_,?_,?_,?_,trivial⟩,⟨?_,.inr (.inr (.inr (fun _ _ _ _ h h0=>by cases h; exact h0))),.inl rfl,?_,?_,?_,trivial⟩,⟨?_,.inr (.inr (.inr (fun _ _ _ _ h h0=>by cases h; exact h0))),?_,.inl rfl,?_,?_,trivial⟩,⟨?_,.inr (.inr (.inr (fun _ _ _ _ h h0=>by cases h; exact h0))),?_,?_,.inl rfl,?_,trivial⟩,⟨?_,.inr (.inr (.inr (fun _ _ _ _ h h0=>by cases h; exact h0))),?_,?_,?_,.inl rfl,trivial⟩,trivial⟩ <;> first | exact .inr (.inr (.inl rfl)) | exact .inr (.inr (.inr fun _ _ _ _ _ h=>h))
     ·refine ⟨?_,?_,?_,?_,?_,?_,trivial⟩
      ·refine step_plain [] (fun _=>rfl) rfl ?_;intro w1 vals hC1 hi0 hf E hE;clear hi0;clear hf;simp only [sP] at hE ⊢;refine wpList_get_box hC1.x rfl rfl rfl hu rfl elem_size ?_;go_wp2_with fail;exact .mk (hE _ _ rfl hC1 rfl)
      ·refine step_plain [(0,some 49)] (fun _=>rfl) rfl ?_;intro w1 vals hC1 hi0 hf E hE;clear hi0;have f0:vals 0=.agg (eV X):=hf 0 rfl
       try dsimp only at f0
       clear hf;simp only [sP,f0] at hE ⊢;clear f0;go_wp2_with fail;refine calls_then (bytes_any X _ HXL.out) ?_;rintro e w2 ⟨o2,rfl,hlo,hblk,hb2⟩;rw [← HM.out] at hblk;go_wp2_with fail;exact .mk (hE _ _ ⟨o2,rfl,hblk⟩ (hC1.next hb2) hb2)
      ·refine step_plain [(1,some 50)] (fun _=>rfl) rfl ?_;intro w1 vals hC1 hi0 hf E hE;clear hi0;have f1:(fun z u=>∃ o2,z 1=.slice (some ⟨o2,0,none⟩) 32 32∧Blk u o2 5 (bnV (byN M)).toArray) vals w1:=hf 1 rfl
       try dsimp only at f1
       clear hf;obtain ⟨o2,hx,hblk⟩:=f1;simp only [sP,hx] at hE ⊢;clear hx;rw [bnV_byB] at hblk;refine wpList_str_of (l:=byB M) (Rd.of_blk hblk hblk.lt) Tryd.underlying22 Tryd.underlying5 Tryd.underlying9 rfl rfl (by rw [byB_length]; rfl) ?_;rw [HEQ.out];go_wp2_with fail;exact .mk (hE _ _ rfl hC1 rfl)
      ·refine step_plain [] (fun _=>rfl) rfl ?_;intro w1 vals hC1 hi0 hf E hE;clear hi0;clear hf;simp only [sP] at hE ⊢;go_wp2;exact .mk (hE _ _ rfl hC1 rfl)
      ·refine step_plain [(3,some 52)] (fun _=>rfl) rfl ?_;intro w1 vals hC1 hi0 hf E hE;clear hi0;have f3:vals 3=.slice A 32 c:=hf 3 rfl
       try dsimp only at f3
       clear hf;have hbel:=hC1.bel;rw [HHG.out] at hbel;simp only [sP,f3] at hE ⊢;clear f3;refine wpList_str_of (l:=l) (HR.out.below hbel) Tryd.underlying22 Tryd.underlying5 Tryd.underlying9 rfl rfl (by rw [HL.out]; rfl) ?_;go_wp2_with fail;exact .mk (hE _ _ rfl hC1 rfl)
      ·refine step_plain [(2,some 51),(4,some 53)] (fun _=>rfl) rfl ?_;intro w1 vals hC1 hi0 hf E hE;clear hi0;have f2:vals 2=.string ⟨l.toArray⟩:=hf 2 rfl;have f4:vals 4=.string ⟨l.toArray⟩:=hf 4 rfl
       try dsimp only at f2 f4
       clear hf;simp only [sP,f2,f4] at hE ⊢;clear f2 f4;go_wp2;exact .mk (hE _ _ rfl hC1 rfl)
     intro w1 vals hC1 hf;have f0:vals 0=.agg (eV X):=hf 0 (by decide) rfl;have f1:(fun z u=>∃ o2,z 1=.slice (some ⟨o2,0,none⟩) 32 32∧Blk u o2 5 (bnV (byN M)).toArray) vals w1:=hf 1 (by decide) rfl;have f2:vals 2=.string ⟨l.toArray⟩:=hf 2 (by decide) rfl;have f3:vals 3=.slice A 32 c:=hf 3 (by decide) rfl;have f4:vals 4=.string ⟨l.toArray⟩:=hf 4 (by decide) rfl;have f5:vals 5=.bool false:=hf 5 (by decide) rfl
     try dsimp only at f0 f1 f2 f3 f4 f5
     clear hf;simp only [sP,f0,f2,f3,f4,f5];clear f0 f2 f3 f4 f5;generalize vals 1=x1 at *;clear HC0 f1;have HC1:=zY hC1;clear hC1;have hok:mayR l=true:=by rw [HMAY.out]; exact decide_eq_true HEQ.out
     have hE1:readE l=X:=by rw [readE,if_pos hok,HX.out,HN.out]
     have hF1:readF l=0:=by rw [readF,if_pos hok]
     have HE1:=zY hE1;have HF1:=zY hF1;clear hok hE1 hF1
     go_wp2_with (first
      | (refine wpList_get_box (x:=.tmp 4) HC1.out.x rfl rfl rfl hu rfl elem_size ?_)
      | (refine wpList_put_box (x:=.tmp 2) (cells:=eV X) HC1.out.z rfl rfl rfl rfl elem_size rfl (by simp [eV,wV,limbs,Value.oneCell']) ?_; intro w5 hb5 hw5; have HB5:=zY hb5; have HW5:=zY hw5; clear hb5 hw5))
     refine bodyPost_ret (results_box_tmp (P:=Tryd.prog) rfl rfl HB5.out hu rfl elem_size) rfl ⟨by rw [HE1.out,HF1.out]; rfl,?_⟩;exact HW5.out.below HC1.out.bel HC1.out.lr HC1.out.bel.size
    ·have HEQ:=zY heq;clear heq
     refine wp_region_list (fun u=>G2 w o g (eV X) (eV zE) u) (fun | false=>(fun _=>True) | true=>(fun _=>True)) (fun | false,_=>false | true,_=>false)
      [fun z _=>z 0=.agg (eV X),
       fun z u=>∃ o2,z 1=.slice (some ⟨o2,0,none⟩) 32 32∧Blk u o2 5 (bnV (byN M)).toArray,
       fun z _=>z 2=.string ⟨(byB M).toArray⟩,
       fun z _=>z 3=.slice A 32 c,
       fun z _=>z 4=.string ⟨l.toArray⟩,
       fun z _=>z 5=.bool true]
      [Eq,fun u u'=>Below u.heap.size u u',Eq,Eq,Eq,Eq]
      (fun _ _=>false) [(0,some 49),(1,some 50),(2,some 51),(3,some 52),(4,some 53),(5,some 54)] (by kernel_rfl) (by kernel_rfl) rfl (fun _=>rfl) ?_ ?_ ?_ ?_ ?_ ?_
     ·exact HC0
     ·intro m; cases m; exact trivial; exact trivial
     ·intro m; cases m
      ·refine ⟨?_,.inr (fun _ _ _ h=>h),?_,?_,?_,?_,trivial⟩ <;> exact .inr fun _ _ h h0=>h▸h0
      ·refine ⟨?_,.inr (fun _ _ _ h=>h),?_,?_,?_,?_,trivial⟩ <;> exact .inr fun _ _ h h0=>h▸h0
     ·refine ⟨⟨.inl rfl,?_,?_,?_,?_,?_,trivial⟩,⟨?_,.inl rfl,?_,?_,?_,?_,trivial⟩,⟨?_,.inr (.inr (.inr (fun _ _ _ _ h h0=>by cases h; exact h0))),.inl rfl,?_,?_,?_,trivial⟩,⟨?_,.inr (.inr (.inr (fun _ _ _ _ h h0=>by cases h; exact h0))),?_,.inl rfl,?_,?_,trivial⟩,⟨?_,.inr (.inr (.inr (fun _ _ _ _ h h0=>by cases h; exact h0))),?_,?_,.inl rfl,?_,trivial⟩,⟨?_,.inr (.inr (.inr (fun _ _ _ _ h h0=>by cases h; exact h0))),?_,?_,?_,.inl rfl,trivial⟩,trivial⟩ <;> first | exact .inr (.inr (.inl rfl)) | exact .inr (.inr (.inr fun _ _ _ _ _ h=>h))
     ·refine ⟨?_,?_,?_,?_,?_,?_,trivial⟩
      ·refine step_plain [] (fun _=>rfl) rfl ?_;intro w1 vals hC1 hi0 hf E hE;clear hi0;clear hf;simp only [sP] at hE ⊢;refine wpList_get_box hC1.x rfl rfl rfl hu rfl elem_size ?_;go_wp2_with fail;exact .mk (hE _ _ rfl hC1 rfl)
      ·refine step_plain [(0,some 49)] (fun _=>rfl) rfl ?_;intro w1 vals hC1 hi0 hf E hE;clear hi0;have f0:vals 0=.agg (eV X):=hf 0 rfl
       try dsimp only at f0
       clear hf;simp only [sP,f0] at hE ⊢;clear f0;go_wp2_with fail;refine calls_then (bytes_any X _ HXL.out) ?_;rintro e w2 ⟨o2,rfl,hlo,hblk,hb2⟩;rw [← HM.out] at hblk;go_wp2_with fail;exact .mk (hE _ _ ⟨o2,rfl,hblk⟩ (hC1.next hb2) hb2)
      ·refine step_plain [(1,some 50)] (fun _=>rfl) rfl ?_;intro w1 vals hC1 hi0 hf E hE;clear hi0;have f1:(fun z u=>∃ o2,z 1=.slice (some ⟨o2,0,none⟩) 32 32∧Blk u o2 5 (bnV (byN M)).toArray) vals w1:=hf 1 rfl
       try dsimp only at f1
       clear hf;obtain ⟨o2,hx,hblk⟩:=f1;simp only [sP,hx] at hE ⊢;clear hx;rw [bnV_byB] at hblk;refine wpList_str_of (l:=byB M) (Rd.of_blk hblk hblk.lt) Tryd.underlying22 Tryd.underlying5 Tryd.underlying9 rfl rfl (by rw [byB_length]; rfl) ?_;go_wp2_with fail;exact .mk (hE _ _ rfl hC1 rfl)
      ·refine step_plain [] (fun _=>rfl) rfl ?_;intro w1 vals hC1 hi0 hf E hE;clear hi0;clear hf;simp only [sP] at hE ⊢;go_wp2;exact .mk (hE _ _ rfl hC1 rfl)
      ·refine step_plain [(3,some 52)] (fun _=>rfl) rfl ?_;intro w1 vals hC1 hi0 hf E hE;clear hi0;have f3:vals 3=.slice A 32 c:=hf 3 rfl
       try dsimp only at f3
       clear hf;have hbel:=hC1.bel;rw [HHG.out] at hbel;simp only [sP,f3] at hE ⊢;clear f3;refine wpList_str_of (l:=l) (HR.out.below hbel) Tryd.underlying22 Tryd.underlying5 Tryd.underlying9 rfl rfl (by rw [HL.out]; rfl) ?_;go_wp2_with fail;exact .mk (hE _ _ rfl hC1 rfl)
      ·refine step_plain [(2,some 51),(4,some 53)] (fun _=>rfl) rfl ?_;intro w1 vals hC1 hi0 hf E hE;clear hi0;have f2:vals 2=.string ⟨(byB M).toArray⟩:=hf 2 rfl;have f4:vals 4=.string ⟨l.toArray⟩:=hf 4 rfl
       try dsimp only at f2 f4
       clear hf;simp only [sP,f2,f4] at hE ⊢;clear f2 f4;go_wp2;refine .mk (hE _ _ ?_ hC1 rfl);have h1:(byB M == l)=false:=beq_false_of_ne HEQ.out;show Value.bool (!byB M == l)=.bool true;rw [h1];rfl
     intro w1 vals hC1 hf;have f0:vals 0=.agg (eV X):=hf 0 (by decide) rfl;have f1:(fun z u=>∃ o2,z 1=.slice (some ⟨o2,0,none⟩) 32 32∧Blk u o2 5 (bnV (byN M)).toArray) vals w1:=hf 1 (by decide) rfl;have f2:vals 2=.string ⟨(byB M).toArray⟩:=hf 2 (by decide) rfl;have f3:vals 3=.slice A 32 c:=hf 3 (by decide) rfl;have f4:vals 4=.string ⟨l.toArray⟩:=hf 4 (by decide) rfl;have f5:vals 5=.bool true:=hf 5 (by decide) rfl
     try dsimp only at f0 f1 f2 f3 f4 f5
     clear hf;simp only [sP,f0,f2,f3,f4,f5];clear f0 f2 f3 f4 f5;generalize vals 1=x1 at *;clear HC0 f1;have HC1:=zY hC1;clear hC1;have hok:mayR l=false:=by rw [HMAY.out]; exact decide_eq_false HEQ.out
     have hE1:readE l=zE:=by rw [readE,hok]; rfl
     have hF1:readF l=2:=by rw [readF,hok]; rfl
     have HE1:=zY hE1;have HF1:=zY hF1;clear hok hE1 hF1
     go_wp2_with (first
      | (refine wpList_put_box (x:=.tmp 2) (cells:=eV zE) HC1.out.z rfl rfl rfl rfl elem_size rfl (by simp [eV,wV,limbs,Value.oneCell']) ?_; intro w5 hb5 hw5; have HB5:=zY hb5; have HW5:=zY hw5; clear hb5 hw5))
     refine bodyPost_ret (results_box_tmp (P:=Tryd.prog) rfl rfl HB5.out hu rfl elem_size) rfl ⟨by rw [HE1.out,HF1.out]; rfl,?_⟩;exact HW5.out.below HC1.out.bel HC1.out.lr HC1.out.bel.size
 ·have hno:mayR l=false:=by simp [mayR,h32]
  have hE:readE l=zE:=by rw [readE,hno]; rfl
  have hF:readF l=2:=by rw [readF,hno]; rfl
  unfold ReadPost;rw [hE,hF];obtain ⟨n,hn⟩:∃ n,n=l.length:=⟨_,rfl⟩;rw [← hn];have hn32:¬ (n:Int)=32:=by omega
  have hb0:=Blk.new w 39 (eV zE);have HB0:=zY hb0;clear hr hc hl h32 hno hE hF hn hb0;go_enter Tryd.func62,Tryd.ntmps62;go_wp2_with (refine wpList_put_box (x:=.tmp 2) (cells:=eV zE) HB0.out rfl rfl rfl rfl elem_size rfl (by simp [eV,wV,limbs,Value.oneCell']) ?_; intro w5 hb5 hw5; have HB5:=zY hb5; have HW5:=zY hw5; clear hb5 hw5);refine bodyPost_ret (results_box_tmp (P:=Tryd.prog) rfl rfl HB5.out hu rfl elem_size) rfl ⟨rfl,?_⟩;exact HW5.out.below (below_new _ _) (Nat.le_refl _) (by simp)
end Go.Proofs.YtdgheahbafnboaaDoor
/-
  Walks: the reference's Digits and Bytes.
-/
namespace Go.Proofs.YtdgheahbafnboaaDoor
set_option linter.unusedSimpArgs false
set_option linter.unusedVariables false
open Go.RowKit
theorem sl_bytes:SlT Tryd.prog 22 5 1 1:=SlT.mk1 (z:=.int .u8 0) Tryd.underlying22 (by kernel_rfl) rfl (by decide)
theorem sl_ints:SlT Tryd.prog 48 3 1 8:=SlT.mk1 (z:=.int .i64 0) Tryd.underlying48 (by kernel_rfl) rfl (by decide)
def numV (n:Nat):Value:=.int .i64 (n:Int)
def dV (l:List Nat):List Value:=l.map numV
theorem dV_length (l:List Nat):(dV l).length=l.length:=by simp [dV]
theorem dV_append (l r:List Nat):dV (l++r)=dV l++dV r:=by simp [dV]
theorem dV_at {l:List Nat} {j:Nat} (h:j<l.length):(dV l)[j]'(by rw [dV_length]; exact h)=.int .i64 ((l[j]:Nat):Int):=by simp [dV,numV]
theorem take_snoc {α:Type} {l:List α} {k:Nat} (h:k<l.length):l.take (k+1)=l.take k++[l[k]]:=List.take_succ_eq_append_getElem h
def OwnPost (e0:TypeId) (n:Nat) (xs:List Value) (w:World) (e:Ending) (w':World):Prop :=
 ∃ A c,e=.returned (.slice A n c)∧OwnX w' w.heap.size e0 1 (.slice A n c) n xs∧Below w.heap.size w w'
theorem below_grow {B:Nat} {w w1 w2:World} {A:Option Addr} {n c:Nat} {e:TypeId} {xs:List Value} (hb:Below B w w1) (ho:OwnX w1 B e 1 (.slice A n c) n xs) (hB:B≤w1.heap.size) (hg:w1.grownBy w2 (Value.slice A n c).ownBlock):Below B w w2 :=
 hb.grown hg hB fun k hk=>(ho.lt k hk).1
set_option maxRecDepth 100000 in
set_option maxHeartbeats 2000000 in
theorem digits_any (l:List UInt8) (A:Option Addr) (c:Nat) (w:World) (hr:Rd w w.heap.size A (bytesV l)) (hc:l.length≤c) (hl:l.length≤1000000) :
  Calls Tryd.prog 86 #[.slice A l.length c] w (OwnPost 3 l.length (dV (digs l)) w):=by
 obtain ⟨n,hn⟩:∃ n,n=l.length:=⟨_,rfl⟩;rw [← hn];have hn63:(n:Int)≤1000000:=by omega
 have hown0:OwnX w w.heap.size 3 1 (.slice none 0 0) 0 (dV ((digs l).take 0)):=OwnX.nil _ _ _ _;have HR:=zY hr;have HN:=zY hn;have HOWN0:=zY hown0;clear hr hn hc hl hown0;go_enter Tryd.func86,Tryd.ntmps86;go_wp2_with fail;generalize hg:w.heap.size=g at *;have HHG:=zY hg;clear hg
 go_loopw [3,4] (fun v i wr=>∃ (k:Nat) (A1:Option Addr) (c1:Nat),k≤n∧i=.int .i64 k∧v=.slice A1 k c1∧OwnX wr g 3 1 (.slice A1 k c1) k (dV ((digs l).take k))∧Below g w wr) (fun _ i _=>n - (intOf i).toNat)
 case atStart=>exact ⟨0,none,0,by omega,rfl,rfl,HOWN0.out,Below.refl _ _⟩
 case round =>
  clear HOWN0;obtain ⟨k,A1,c1,hk,rfl,rfl,hown,hbel⟩:=hrel
  by_cases hlt:k<n
  ·have hlt':(k:Int)<(n:Int):=by omega
   have hkl:k<l.length:=by rw [← HN.out]; exact hlt
   have hrd:=HR.out.below hbel;obtain ⟨ad,rfl,hadl,hcell⟩:=hrd.at_ (k:=k) (by rw [bytesV_length]; exact hkl);obtain ⟨b,hb⟩:∃ b,b=l[k].toNat:=⟨_,rfl⟩;have hbl:(b:Int)<256:=by have:=l[k].toNat_lt; omega
   have hbv:(bytesV l)[k]'(by rw [bytesV_length]; exact hkl)=.int .u8 (b:Int):=by
    rw [hb]; simp [bytesV,byteV]
   rw [hbv] at hcell
   have hnext:(digs l).take (k+1)=(digs l).take k++[b]:=by
    rw [take_snoc (by rw [digs,List.length_map]; exact hkl),hb];simp [digs]
   have hsz:g≤wr.heap.size:=by rw [← HHG.out]; exact (by rw [← HHG.out] at hbel; exact hbel.size)
   have HOWN:=zY hown;have HBEL:=zY hbel;have HNEXT:=zY hnext;have HSZ:=zY hsz;clear hown hbel hnext hrd hbv hb hkl hsz;go_wp2_with (refine wpList_append_one sl_ints rfl rfl HOWN.out rfl rfl rfl rfl (by unfold maxLen; omega) (by omega) HSZ.out ?_; intro A2 c2 w2 hown2 hg2 hn2; have HOWN2:=zY hown2; have HG2:=zY hg2; clear hown2 hg2 hn2);refine ⟨⟨k+1,A2,c2,by omega,by go_num,rfl,?_,below_grow HBEL.out HOWN.out HSZ.out HG2.out⟩,by simp [intOf]; omega⟩;rw [HNEXT.out,dV_append];exact HOWN2.out
  ·obtain rfl:k=n:=by omega
   have HOWN:=zY hown;have HBEL:=zY hbel;clear hown hbel;go_wp2_with fail;go_ret;refine ⟨A1,c1,rfl,?_,by rw [HHG.out]; exact HBEL.out⟩;rw [HHG.out];have h:=HOWN.out;rw [List.take_of_length_le (by rw [digs,List.length_map,HN.out]; exact Nat.le_refl _)] at h;exact h
def refB (l:List Nat):List UInt8:=(List.range 32).map fun i=>UInt8.ofNat (l.getD i 0)
set_option maxRecDepth 100000 in
set_option maxHeartbeats 2000000 in
theorem rbytes_any (l:List Nat) (hd:∀ d ∈ l,d<256) (A:Option Addr) (c:Nat) (w:World) (hr:Rd w w.heap.size A (dV l)) (hc:l.length≤c) (hl:l.length≤1000000) :
  Calls Tryd.prog 48 #[.slice A l.length c] w (OwnPost 5 32 (bytesV (refB l)) w):=by
 obtain ⟨n,hn⟩:∃ n,n=l.length:=⟨_,rfl⟩;rw [← hn];have hn63:(n:Int)≤1000000:=by omega
 have hown0:OwnX w w.heap.size 5 1 (.slice none 0 0) 0 (bytesV ((refB l).take 0)):=OwnX.nil _ _ _ _
 have hd':∀ k,l.getD k 0<256:=fun k=>by
  rw [List.getD_eq_getElem?_getD]
  by_cases h:k<l.length
  ·rw [List.getElem?_eq_getElem h]; exact hd _ (List.getElem_mem h)
  ·rw [List.getElem?_eq_none (by omega)]; decide
 have HR:=zY hr;have HN:=zY hn;have HD:=zY hd';have HOWN0:=zY hown0;clear hr hn hc hl hown0 hd hd';go_enter Tryd.func48,Tryd.ntmps48;go_wp2_with fail;generalize hg:w.heap.size=g at *;have HHG:=zY hg;clear hg
 go_loopw [3,4] (fun v i wr=>∃ (k:Nat) (A1:Option Addr) (c1:Nat),k≤32∧i=.int .i64 k∧v=.slice A1 k c1∧OwnX wr g 5 1 (.slice A1 k c1) k (bytesV ((refB l).take k))∧Below g w wr) (fun _ i _=>32 - (intOf i).toNat)
 case atStart=>exact ⟨0,none,0,by omega,rfl,rfl,HOWN0.out,Below.refl _ _⟩
 case round =>
  clear HOWN0;obtain ⟨k,A1,c1,hk,rfl,rfl,hown,hbel⟩:=hrel
  by_cases hlt:k<32
  ·have hlt':(k:Int)<32:=by omega
   have hrd:=HR.out.below hbel;obtain ⟨b,hb⟩:∃ b,b=l.getD k 0:=⟨_,rfl⟩;have hbl:(b:Int)<256:=by have:=HD.out k; omega
   have hnext:(refB l).take (k+1)=(refB l).take k++[UInt8.ofNat b]:=by
    rw [take_snoc (by rw [refB,List.length_map,List.length_range]; exact hlt),hb];simp [refB]
   have hbv:byteV (UInt8.ofNat b)=.int .u8 (b:Int):=by
    rw [byteV,UInt8.toNat_ofNat',Nat.mod_eq_of_lt (by omega)]
   have hsz:g≤wr.heap.size:=by rw [← HHG.out]; exact (by rw [← HHG.out] at hbel; exact hbel.size)
   have HOWN:=zY hown;have HBEL:=zY hbel;have HNEXT:=zY hnext;have HSZ:=zY hsz;have HBV:=zY hbv
   by_cases hkn:k<n
   ·have hkn':(k:Int)<(n:Int):=by omega
    have hkl:k<l.length:=by rw [← HN.out]; exact hkn
    obtain ⟨ad,rfl,hadl,hcell⟩:=hrd.at_ (k:=k) (by rw [dV_length]; exact hkl);rw [dV_at hkl,show l[k]=b by rw [hb,List.getD_eq_getElem?_getD,List.getElem?_eq_getElem hkl]; rfl] at hcell;clear hown hbel hnext hrd hb hkl hsz hbv;go_wp2_with (refine wpList_append_one sl_bytes rfl rfl HOWN.out rfl rfl rfl rfl (by unfold maxLen; omega) (by omega) HSZ.out ?_; intro A2 c2 w2 hown2 hg2 hn2; have HOWN2:=zY hown2; have HG2:=zY hg2; clear hown2 hg2 hn2);refine ⟨⟨k+1,A2,c2,by omega,by go_num,rfl,?_,below_grow HBEL.out HOWN.out HSZ.out HG2.out⟩,by simp [intOf]; omega⟩;rw [HNEXT.out,bytesV_append,show bytesV [UInt8.ofNat b]=[byteV (UInt8.ofNat b)] from rfl,HBV.out];exact HOWN2.out
   ·have hkn':¬ (k:Int)<(n:Int):=by omega
    have hb0:b=0:=by rw [hb,List.getD_eq_getElem?_getD,List.getElem?_eq_none (by rw [← HN.out]; omega)]; rfl
    subst hb0;clear hown hbel hnext hrd hb hsz hbv;go_wp2_with (refine wpList_append_one sl_bytes rfl rfl HOWN.out rfl rfl rfl rfl (by unfold maxLen; omega) (by omega) HSZ.out ?_; intro A2 c2 w2 hown2 hg2 hn2; have HOWN2:=zY hown2; have HG2:=zY hg2; clear hown2 hg2 hn2);refine ⟨⟨k+1,A2,c2,by omega,by go_num,rfl,?_,below_grow HBEL.out HOWN.out HSZ.out HG2.out⟩,by simp [intOf]; omega⟩;rw [HNEXT.out,bytesV_append];exact HOWN2.out
  ·obtain rfl:k=32:=by omega
   have HOWN:=zY hown;have HBEL:=zY hbel;clear hown hbel;go_wp2_with fail;go_ret;refine ⟨A1,c1,rfl,?_,by rw [HHG.out]; exact HBEL.out⟩;rw [HHG.out];have h:=HOWN.out;rw [List.take_of_length_le (by rw [refB,List.length_map,List.length_range]; exact Nat.le_refl _)] at h;exact h
end Go.Proofs.YtdgheahbafnboaaDoor
/-
  Laws of my own: rows that the call owns and may write to.
-/
namespace Go.Proofs.YtdgheahbafnboaaDoor
set_option linter.unusedSimpArgs false
set_option linter.unusedVariables false
open Go.RowKit
def OwnZ (w:World) (base:Nat) (e:TypeId) (size:Nat) (v:Value) (n:Nat) (xs:List Value):Prop:=w.ownsRow base e size v n xs
theorem OwnZ.x {w:World} {base:Nat} {e:TypeId} {size:Nat} {v:Value} {n:Nat} {xs:List Value} (h:OwnZ w base e size v n xs):OwnX w base e size v n xs:=.of h
theorem OwnZ.nil (w:World) (base e size:Nat):OwnZ w base e size (.slice none 0 0) 0 []:=⟨by simp,.inl ⟨rfl,rfl⟩⟩
theorem OwnZ.blk {w:World} {base:Nat} {e:TypeId} {n c:Nat} {A:Option Addr} {xs:List Value} (h:OwnZ w base e 1 (.slice A n c) n xs) (hn:0<n):∃ g ys,A=some ⟨g,0,none⟩∧base≤g∧n≤c∧Blk w g e (xs++ys).toArray:=by
 rcases h.2 with ⟨_,h0⟩ | ⟨g,cap,cur,h1,h2,h3,h4,h5,h6,h7⟩
 ·omega
 ·injection h1 with e1 e2 e3
  subst e3;refine ⟨g,cur.toList.drop (n*1),e1,h2,h4,?_⟩;rw [← h7,List.take_append_drop];exact h3
theorem Rd.front {w:World} {B:Nat} {A:Option Addr} {xs ys:List Value} (h:Rd w B A (xs++ys)):Rd w B A xs:=fun i u hi=>by
 have hlt:i<xs.length:=(List.getElem?_eq_some_iff.1 hi).1;exact h i u (by rw [List.getElem?_append_left hlt]; exact hi)
theorem set_front {xs ys:List Value} {i:Nat} {v:Value} (h:i<xs.length):(xs++ys).toArray.setIfInBounds i v=(xs.set i v++ys).toArray:=by
 rw [List.setIfInBounds_toArray,List.set_append_left _ _ h]
def OwnPostZ (e0:TypeId) (n:Nat) (xs:List Value) (w:World) (e:Ending) (w':World):Prop :=
 ∃ A c,e=.returned (.slice A n c)∧OwnZ w' w.heap.size e0 1 (.slice A n c) n xs∧Below w.heap.size w w'
theorem wpList_append_oneZ {P:Program} {w0:World} {y:Value} {ops:Array Oper} {rest:List Oper} {o:Oper} {a:Act} {Q:Exit→Act→World→Prop} {s x:Operand} {t e:TypeId} {bytes:Nat} (T:SlT P t e 1 bytes)
  (hgd:o.guard=none) (ho:o.op=.call { callee:=.builtin .append,args:=#[s,x],argTypes:=#[t,t] })
  {base n:Nat} {v:Value} {xs:List Value} {ad:Nat} (hown:OwnZ w0 base e 1 v n xs) (hs:a.eval s=v) (hx:a.eval x=.slice (some ⟨ad,0,none⟩) 1 1) (had:ad=w0.heap.size)
  (hy:y.oneCell'=true)
  (h63:n+1≤maxLen) (hbytes:(n+1)*bytes≤140737488355328) (hbase:base≤w0.heap.size)
  (h:∀ A c w',OwnZ w' base e 1 (.slice A (n+1) c) (n+1) (xs++[y])→w0.grownBy w' v.ownBlock→Next w0 v (.slice A (n+1) c)→wpList P ops Q rest (a.put o.dst (.slice A (n+1) c)) w') :
  wpList P ops Q (o :: rest) a (w0.alloc (.cells #[y] e)):=by
 subst had;obtain ⟨i,z,hi,hz,hsz,hby,hzs⟩:=T.info
 have hown1:(w0.alloc (.cells #[y] e)).ownsRow base e 1 v n xs:=by
  refine ⟨hown.1,?_⟩
  rcases hown.2 with h0 | ⟨g,cap,cur,h1,h2,h3,h4⟩
  ·exact .inl h0
  ·exact .inr ⟨g,cap,cur,h1,h2,(Below.heap_alloc w0 _ g (Array.getElem?_eq_some_iff.1 h3).1).trans h3,h4⟩
 obtain ⟨v',w',hr,h2,h3,_,h5⟩:=run_append_own_at (P:=P) (w0.alloc (.cells #[y] e)) base t o.type e i z 1 bytes T.und hi hz hsz hby hzs T.pos v n xs hown1 ⟨w0.heap.size,0,none⟩ 1 1 [y] rfl (fun j u hu=>cell_one_new _ _ _ j u hu)
  (by intro u hu; simp at hu; subst hu; exact hy) h63 hbytes (by simp; omega)
 have hn:Next (w0.alloc (.cells #[y] e)) v v':=by
  rcases h5 with h5 | h5
  ·exact .inl h5
  ·exact .inr fun k hk=>by rw [h5] at hk; simp at hk; simp; omega
 rcases h2.2 with ⟨_,h0⟩ | ⟨g,cap,cur,rfl,_⟩
 ·omega
 ·refine wpList_of_append (R:=fun v1 w1=>v1=.slice (some ⟨g,0,none⟩) (n+1) cap∧w1=w') hgd ho hs hx ⟨_,_,hr,rfl,rfl⟩ ?_;rintro v1 w1 ⟨rfl,rfl⟩;exact h _ _ _ h2 ((World.grownBy_alloc w0 _ _).trans h3) (hn.back (by simp))
theorem wpList_append_rdZ {P:Program} {w:World} {ops:Array Oper} {rest:List Oper} {o:Oper} {a:Act} {Q:Exit→Act→World→Prop} {sl x:Operand} {t e:TypeId} {bytes:Nat} (T:SlT P t e 1 bytes)
  (hgd:o.guard=none) (ho:o.op=.call { callee:=.builtin .append,args:=#[sl,x],argTypes:=#[t,t] })
  {base n B:Nat} {v:Value} {xs:List Value} {ad:Addr} {m cx:Nat} {news:List Value} (hown:OwnZ w base e 1 v n xs) (hs:a.eval sl=v) (hx:a.eval x=.slice (some ad) m cx)
  (hl:news.length=m*1) (hm:0<m) (hr:Rd w B (some ad) news) (h1:∀ u ∈ news,u.oneCell'=true)
  (h63:n+m≤maxLen) (hbytes:(n+m)*bytes≤140737488355328) (hbase:base≤w.heap.size)
  (h:∀ A c w',OwnZ w' base e 1 (.slice A (n+m) c) (n+m) (xs++news)→w.grownBy w' v.ownBlock→wpList P ops Q rest (a.put o.dst (.slice A (n+m) c)) w') :
  wpList P ops Q (o :: rest) a w:=by
 obtain ⟨i,z,hi,hz,hsz,hby,hzs⟩:=T.info
 obtain ⟨v',w',hr',h2,h3,_,h5⟩:=run_append_own_at (P:=P) w base t o.type e i z 1 bytes T.und hi hz hsz hby hzs T.pos v n xs hown ad m cx news hl (fun j u hu=>by
  obtain ⟨ad',e1,_,e3⟩:=hr j u hu
  injection e1 with e1
  subst e1;exact e3) h1 h63 hbytes hbase
 rcases h2.2 with ⟨_,h0⟩ | ⟨g,cap,cur,rfl,_⟩
 ·omega
 ·refine wpList_of_append (R:=fun v1 w1=>v1=.slice (some ⟨g,0,none⟩) (n+m) cap∧w1=w') hgd ho hs hx ⟨_,_,hr',rfl,rfl⟩ ?_;rintro v1 w1 ⟨rfl,rfl⟩;exact h _ _ _ h2 h3
theorem ownZ_nil (w:World) (e:TypeId):OwnZ (w.alloc (.cells #[] e)) w.heap.size e 1 (.slice (some ⟨w.heap.size,0,none⟩) 0 0) 0 [] :=
 ⟨rfl,.inr ⟨w.heap.size,0,#[],rfl,Nat.le_refl _,heap_alloc_new w _,Nat.le_refl _,Nat.zero_le _,rfl,rfl⟩⟩
theorem bytesV_one (b:List UInt8):∀ u ∈ bytesV b,u.oneCell'=true:=fun u h=>by
 rw [bytesV] at h;obtain ⟨x,_,rfl⟩:=List.mem_map.1 h;rfl
end Go.Proofs.YtdgheahbafnboaaDoor
/-
  Plain: numbers as digits of 256.
-/
namespace Go.Proofs.YtdgheahbafnboaaDoor
set_option linter.unusedSimpArgs false
set_option linter.unusedVariables false
open Go.RowKit
def Dg (l:List Nat):Prop:=∀ d ∈ l,d<256
theorem dg_getD {l:List Nat} (h:Dg l) (k:Nat):l.getD k 0<256:=by
 rw [List.getD_eq_getElem?_getD]
 by_cases hk:k<l.length
 ·rw [List.getElem?_eq_getElem hk]; exact h _ (List.getElem_mem hk)
 ·rw [List.getElem?_eq_none (by omega)]; decide
theorem pow_step (N k:Nat):N/256^k=N/256^k%256+256*(N/256^(k+1)):=by
 rw [Nat.pow_succ,← Nat.div_div_eq_div_mul];omega
theorem high_same:∀ (t k N M:Nat),N<256^(k+t)→M<256^(k+t)→(∀ j,k≤j→N/256^j%256=M/256^j%256)→N/256^k=M/256^k
 | 0,k,N,M,hN,hM,_=>by rw [Nat.div_eq_of_lt (show N<256^k from hN),Nat.div_eq_of_lt (show M<256^k from hM)]
 | t+1,k,N,M,hN,hM,h=>by
  have ih:=high_same t (k+1) N M (by rw [show k+1+t=k+(t+1) by omega]; exact hN) (by rw [show k+1+t=k+(t+1) by omega]; exact hM) fun j hj=>h j (by omega);rw [pow_step N k,pow_step M k,ih,h k (Nat.le_refl _)]
theorem leV_big {l:List Nat} (h:Dg l) {t:Nat} (ht:l.length≤t):leV l<256^t :=
 Nat.lt_of_lt_of_le (leV_lt l h) (Nat.pow_le_pow_right (by decide) ht)
theorem high_same' {a b:List Nat} (ha:Dg a) (hb:Dg b) (k:Nat) (h:∀ j,k≤j→a.getD j 0=b.getD j 0):leV a/256^k=leV b/256^k :=
 high_same (a.length+b.length) k _ _ (leV_big ha (by omega)) (leV_big hb (by omega)) fun j hj=>by rw [leV_at a ha,leV_at b hb,h j hj]
theorem less_at {a b:List Nat} (ha:Dg a) (hb:Dg b) (k:Nat) (h:∀ j,k<j→a.getD j 0=b.getD j 0) (hne:a.getD k 0≠b.getD k 0):(leV a<leV b)=(a.getD k 0<b.getD k 0):=by
 have hq:=high_same' ha hb (k+1) fun j hj=>h j (by omega);have e1:=pow_step (leV a) k;have e2:=pow_step (leV b) k;rw [leV_at a ha,hq] at e1;rw [leV_at b hb] at e2;apply propext
 constructor
 ·intro hl;have h1:leV a/256^k≤leV b/256^k:=Nat.div_le_div_right (Nat.le_of_lt hl);omega
 ·intro hl;have h1:leV a/256^k<leV b/256^k:=by omega
  exact Nat.lt_of_not_le fun h2=>absurd (Nat.div_le_div_right (c:=256^k) h2) (by omega)
theorem less_no {a b:List Nat} (ha:Dg a) (hb:Dg b) (h:∀ j,a.getD j 0=b.getD j 0):leV a=leV b:=by
 have hq:=high_same' ha hb 0 fun j _=>h j;rw [Nat.pow_zero,Nat.div_one,Nat.div_one] at hq;exact hq
theorem leV_snoc (l:List Nat) (d:Nat):leV (l++[d])=leV l+256^l.length*d:=by rw [leV_append]; simp [leV]
theorem leV_take_step (l:List Nat) (k:Nat):leV (l.take (k+1))=leV (l.take k)+256^k*l.getD k 0:=by
 by_cases h:k<l.length
 ·rw [take_snoc h,leV_snoc,List.length_take,Nat.min_eq_left (by omega),List.getD_eq_getElem?_getD,List.getElem?_eq_getElem h]; rfl
 ·rw [List.take_of_length_le (by omega),List.take_of_length_le (by omega),List.getD_eq_getElem?_getD,List.getElem?_eq_none (by omega)]; simp
def pL:List Nat:=237 :: (List.replicate 30 255++[127])
theorem pL_dg:Dg pL:=by unfold Dg pL; decide
theorem pL_val:leV pL=PN:=by decide
theorem pL_len:pL.length=32:=by decide
end Go.Proofs.YtdgheahbafnboaaDoor
/-
  Walks: the reference's P and Less.
-/
namespace Go.Proofs.YtdgheahbafnboaaDoor
set_option linter.unusedSimpArgs false
set_option linter.unusedVariables false
open Go.RowKit
def DigPost (l:List Nat) (w:World) (e:Ending) (w':World):Prop :=
 ∃ A c,e=.returned (.slice A l.length c)∧l.length≤c∧Rd w' w'.heap.size A (dV l)∧Below w.heap.size w w'
theorem dV_set (l:List Nat) (j n:Nat):(dV l).toArray.setIfInBounds j (.int .i64 (n:Int))=(dV (l.set j n)).toArray:=by simp [dV,numV,List.map_set]
structure D1 (w0:World) (o:Nat) (l:List Nat) (u:World):Prop where
 bel:Below w0.heap.size w0 u
 out:Blk u o 3 (dV l).toArray
 lo:w0.heap.size≤o
theorem D1.put {w0 u u':World} {o:Nat} {l l':List Nat} (k:D1 w0 o l u) (hw:Wrote o u u') (hb:Blk u' o 3 (dV l').toArray):D1 w0 o l' u' :=
 ⟨hw.below k.bel k.lo k.bel.size,hb,k.lo⟩
theorem D1.next {w0 u u':World} {o:Nat} {l:List Nat} (k:D1 w0 o l u) (hb:Below u.heap.size u u'):D1 w0 o l u' :=
 ⟨k.bel.trans (hb.mono k.bel.size),k.out.below hb k.out.lt,k.lo⟩
theorem D1.drew {w0 u:World} {o:Nat} {l:List Nat} (k:D1 w0 o l u):D1 w0 o l u.drew:=⟨k.bel.drew,k.out,k.lo⟩
theorem d1_new {w0 u:World} (l:List Nat) (hb:Below w0.heap.size w0 u):D1 w0 u.heap.size l (u.alloc (.cells (dV l).toArray 3)) :=
 ⟨hb.alloc hb.size _,Blk.new _ _ _,hb.size⟩
theorem D1.post {w0 u:World} {o n c:Nat} {l:List Nat} (k:D1 w0 o l u) (hn:n=l.length) (hc:n≤c):DigPost l w0 (.returned (.slice (some ⟨o,0,none⟩) n c)) u :=
 ⟨_,c,by rw [hn],by omega,Rd.of_blk k.out k.out.lt,k.bel⟩
theorem dig_len (l:List Nat):(dV l).toArray.size=l.length:=by simp [dV]
theorem int_size:(Tryd.prog.info? 3).map (·.size)=some 1:=by kernel_rfl
theorem pfill_end:((fillL 32).set 0 237).set 31 127=pL:=by decide
set_option maxRecDepth 100000 in
set_option maxHeartbeats 2000000 in
theorem p_any (w:World):Calls Tryd.prog 83 #[] w (DigPost pL w):=by
 have hmk:∀ u:World,(Instr.makeSlice 48 (.int .i64 32) (.int .i64 32)).run Tryd.prog u=.ok (.slice (some ⟨u.heap.size,0,none⟩) 32 32) (u.alloc (.cells (dV (fillL 0)).toArray 3)):=fun _=>by kernel_rfl
 have hst0:=d1_new (fillL 0) (Below.refl w.heap.size w);have HST0:=zY hst0;clear hst0;go_enter Tryd.func83,Tryd.ntmps83;go_wp2_with fail;generalize ho:w.heap.size=o at HST0 ⊢;clear ho hmk
 go_loopw [2] (fun i wr=>∃ k:Nat,k≤32∧i=.int .i64 k∧D1 w o (fillL k) wr) (fun i _=>32 - (intOf i).toNat)
 case atStart=>exact ⟨0,by omega,rfl,HST0.out⟩
 case round =>
  clear HST0;obtain ⟨k,hk,rfl,hst⟩:=hrel
  by_cases hlt:k<32
  ·have hlt':(k:Int)<32:=by omega
   have HST:=zY hst;clear hst;go_wp2_with (refine wpList_put_cell (x:=.tmp 10) (i:=k) (v:=.int .i64 255) HST.out.out rfl rfl rfl rfl int_size (by rw [dig_len,fill_len k (by omega)]; exact hlt) rfl ?_; intro w5 hb5 hw5; have hst5:=HST.out.put (l':=fillL (k+1)) hw5 (by rw [show (Value.int IntKind.i64 255)=.int .i64 ((255:Nat):Int) from rfl,dV_set,fill_set k hlt] at hb5; exact hb5); have HST5:=zY hst5; clear hst5 hb5 hw5);exact ⟨⟨k+1,by omega,by go_num,HST5.out⟩,by simp [intOf]; omega⟩
  ·obtain rfl:k=32:=by omega
   have HST:=zY hst;clear hst
   go_wp2_with (first
    | (refine wpList_put_cell (x:=.tmp 12) (i:=0) (v:=.int .i64 237) HST.out.out rfl rfl rfl rfl int_size (by rw [dig_len,fill_len 32 (by omega)]; decide) rfl ?_; intro w5 hb5 hw5; have hst5:=HST.out.put (l':=(fillL 32).set 0 237) hw5 (by rw [show (Value.int IntKind.i64 237)=.int .i64 ((237:Nat):Int) from rfl,dV_set] at hb5; exact hb5); have HST5:=zY hst5; clear hst5 hb5 hw5)
    | (refine wpList_put_cell (x:=.tmp 14) (i:=31) (v:=.int .i64 127) HST5.out.out rfl rfl rfl rfl int_size (by rw [dig_len,List.length_set,fill_len 32 (by omega)]; decide) rfl ?_; intro w6 hb6 hw6; have hst6:=HST5.out.put (l':=pL) hw6 (by rw [show (Value.int IntKind.i64 127)=.int .i64 ((127:Nat):Int) from rfl,dV_set,pfill_end] at hb6; exact hb6); have HST6:=zY hst6; clear hst6 hb6 hw6))
   go_ret;exact HST6.out.post pL_len.symm (by decide)
theorem less_step {a b:List Nat} {j p n m:Nat} (h:∀ t,n+m+1≤t+j→a.getD t 0=b.getD t 0) (hp:p+j=n+m) (he:a.getD p 0=b.getD p 0):∀ t,n+m+1≤t+(j+1)→a.getD t 0=b.getD t 0:=fun t ht=>by
 by_cases hpt:t=p
 ·rw [hpt]; exact he
 ·exact h t (by omega)
set_option maxRecDepth 100000 in
set_option maxHeartbeats 2000000 in
theorem less_any (a b:List Nat) (ha:Dg a) (hb:Dg b) (A B:Option Addr) (c d:Nat) (w:World) (hra:Rd w w.heap.size A (dV a)) (hrb:Rd w w.heap.size B (dV b)) (hla:a.length≤1000000) (hlb:b.length≤1000000) :
  Calls Tryd.prog 87 #[.slice A a.length c,.slice B b.length d] w (fun e w'=>e=.returned (.bool (decide (leV a<leV b)))∧w'=w):=by
 obtain ⟨n,hn⟩:∃ n,n=a.length:=⟨_,rfl⟩;obtain ⟨m,hm⟩:∃ m,m=b.length:=⟨_,rfl⟩;rw [← hn,← hm];have hn63:(n:Int)≤1000000:=by omega
 have hm63:(m:Int)≤1000000:=by omega
 have HRA:=zY hra;have HRB:=zY hrb;have HA:=zY ha;have HB:=zY hb;have HN:=zY hn;have HM:=zY hm;clear hra hrb ha hb hn hm hla hlb;go_enter Tryd.func87,Tryd.ntmps87;go_wp2_with fail
 go_loop [5] (fun i=>∃ j:Nat,j≤n+m+1∧i=.int .i64 ((n:Int)+(m:Int) - (j:Int))∧∀ t,n+m+1≤t+j→a.getD t 0=b.getD t 0) (fun i=>(intOf i+1).toNat)
 case atStart=>exact ⟨0,by omega,by go_num,fun t ht=>by rw [List.getD_eq_getElem?_getD,List.getD_eq_getElem?_getD,List.getElem?_eq_none (by have:=HN.out; omega),List.getElem?_eq_none (by have:=HM.out; omega)]⟩
 case round =>
  obtain ⟨j,hj,rfl,hsame⟩:=hrel;have HSAME:=zY hsame;clear hsame
  by_cases hlt:j<n+m+1
  ·obtain ⟨p,hp⟩:∃ p,p+j=n+m:=⟨n+m - j,by omega⟩;have hpi:(n:Int)+(m:Int) - (j:Int)=(p:Int):=by omega
   rw [hpi];obtain ⟨x,hx⟩:∃ x,x=a.getD p 0:=⟨_,rfl⟩;obtain ⟨y,hy⟩:∃ y,y=b.getD p 0:=⟨_,rfl⟩;have HX:=zY hx;have HY:=zY hy;have HP:=zY hp;have hpl2:(p:Int)≤2000000:=by omega
   clear hpi
   have hcase:∀ Z:Prop,(((p<n→∃ ad,A=some ad∧w.cell? (ad.add p)=some (.int .i64 (x:Int)))→(¬ p<n→x=0)→(p<m→∃ ad,B=some ad∧w.cell? (ad.add p)=some (.int .i64 (y:Int)))→(¬ p<m→y=0)→Z)→Z):=fun Z hZ=>hZ
    (fun h=>by
     obtain ⟨ad,h1,_,h3⟩:=HRA.out.at_ (k:=p) (by rw [dV_length,← HN.out]; exact h);have hpa:p<a.length:=by rw [← HN.out]; exact h
     rw [dV_at hpa,show a[p]=x by rw [hx,List.getD_eq_getElem?_getD,List.getElem?_eq_getElem hpa]; rfl] at h3;exact ⟨ad,h1,h3⟩)
    (fun h=>by rw [hx,List.getD_eq_getElem?_getD,List.getElem?_eq_none (by rw [← HN.out]; omega)]; rfl)
    (fun h=>by
     obtain ⟨ad,h1,_,h3⟩:=HRB.out.at_ (k:=p) (by rw [dV_length,← HM.out]; exact h);have hpa:p<b.length:=by rw [← HM.out]; exact h
     rw [dV_at hpa,show b[p]=y by rw [hy,List.getD_eq_getElem?_getD,List.getElem?_eq_getElem hpa]; rfl] at h3;exact ⟨ad,h1,h3⟩)
    (fun h=>by rw [hy,List.getD_eq_getElem?_getD,List.getElem?_eq_none (by rw [← HM.out]; omega)]; rfl)
   apply hcase;intro h1 h2 h3 h4;clear hcase hx hy hp
   by_cases hpn:p<n <;> by_cases hpm:p<m
   ·obtain ⟨ad,rfl,hca⟩:=h1 hpn;have hpn':(p:Int)<(n:Int):=by omega
    obtain ⟨bd,rfl,hcb⟩:=h3 hpm;have hpm':(p:Int)<(m:Int):=by omega
    clear h1 h2 h3 h4
    by_cases hxy:x=y
    ·subst hxy;go_wp2_with fail;have hq1:(p:Int) - 1=(n:Int)+(m:Int) - ((j+1:Nat):Int):=by have:=HP.out; omega
     exact ⟨⟨j+1,by omega,by rw [hq1],less_step HSAME.out HP.out (HX.out.symm.trans HY.out)⟩,by simp [intOf]⟩
    ·have hxy':¬ (x:Int)=(y:Int):=by omega
     have HXY:=zY hxy;clear hxy;go_wp2_with fail;go_ret;refine ⟨?_,rfl⟩;have hl:=less_at HA.out HB.out p (fun t ht=>HSAME.out t (by have:=HP.out; omega)) (by rw [← HX.out,← HY.out]; exact HXY.out);rw [← HX.out,← HY.out] at hl;rw [show decide (leV a<leV b)=decide (x<y) from decide_eq_decide.mpr (by rw [hl])];exact congrArg (fun b=>Ending.returned (.bool b)) (decide_eq_decide.mpr (by omega))
   ·obtain ⟨ad,rfl,hca⟩:=h1 hpn;have hpn':(p:Int)<(n:Int):=by omega
    obtain rfl:=h4 hpm;have hpm':¬ (p:Int)<(m:Int):=by omega
    clear h1 h2 h3 h4
    by_cases hxy:x=0
    ·subst hxy;go_wp2_with fail;have hq1:(p:Int) - 1=(n:Int)+(m:Int) - ((j+1:Nat):Int):=by have:=HP.out; omega
     exact ⟨⟨j+1,by omega,by rw [hq1],less_step HSAME.out HP.out (HX.out.symm.trans HY.out)⟩,by simp [intOf]⟩
    ·have hxy':¬ (x:Int)=(0:Int):=by omega
     have HXY:=zY hxy;clear hxy;go_wp2_with fail;go_ret;refine ⟨?_,rfl⟩;have hl:=less_at HA.out HB.out p (fun t ht=>HSAME.out t (by have:=HP.out; omega)) (by rw [← HX.out,← HY.out]; exact HXY.out);rw [← HX.out,← HY.out] at hl;rw [show decide (leV a<leV b)=decide (x<0) from decide_eq_decide.mpr (by rw [hl])];exact congrArg (fun b=>Ending.returned (.bool b)) (decide_eq_decide.mpr (by omega))
   ·obtain rfl:=h2 hpn;have hpn':¬ (p:Int)<(n:Int):=by omega
    obtain ⟨bd,rfl,hcb⟩:=h3 hpm;have hpm':(p:Int)<(m:Int):=by omega
    clear h1 h2 h3 h4
    by_cases hxy:0=y
    ·subst hxy;go_wp2_with fail;have hq1:(p:Int) - 1=(n:Int)+(m:Int) - ((j+1:Nat):Int):=by have:=HP.out; omega
     exact ⟨⟨j+1,by omega,by rw [hq1],less_step HSAME.out HP.out (HX.out.symm.trans HY.out)⟩,by simp [intOf]⟩
    ·have hxy':¬ (0:Int)=(y:Int):=by omega
     have HXY:=zY hxy;clear hxy;go_wp2_with fail;go_ret;refine ⟨?_,rfl⟩;have hl:=less_at HA.out HB.out p (fun t ht=>HSAME.out t (by have:=HP.out; omega)) (by rw [← HX.out,← HY.out]; exact HXY.out);rw [← HX.out,← HY.out] at hl;rw [show decide (leV a<leV b)=decide (0<y) from decide_eq_decide.mpr (by rw [hl])];exact congrArg (fun b=>Ending.returned (.bool b)) (decide_eq_decide.mpr (by omega))
   ·obtain rfl:=h2 hpn;have hpn':¬ (p:Int)<(n:Int):=by omega
    obtain rfl:=h4 hpm;have hpm':¬ (p:Int)<(m:Int):=by omega
    clear h1 h2 h3 h4;go_wp2_with fail;have hq1:(p:Int) - 1=(n:Int)+(m:Int) - ((j+1:Nat):Int):=by have:=HP.out; omega
    exact ⟨⟨j+1,by omega,by rw [hq1],less_step HSAME.out HP.out (HX.out.symm.trans HY.out)⟩,by simp [intOf]⟩
  ·obtain rfl:j=n+m+1:=by omega
   have hno:=less_no HA.out HB.out fun t=>HSAME.out t (by omega);have hm1:(n:Int)+(m:Int) - ((n+m+1:Nat):Int)=-1:=by omega
   have HNO:=zY hno;rw [hm1];clear hno hm1 hlt;go_wp2_with fail;go_ret;refine ⟨?_,rfl⟩;rw [HNO.out,decide_eq_false (Nat.lt_irrefl _)];rfl
end Go.Proofs.YtdgheahbafnboaaDoor
/-
  Plain: sums, differences and products of digits.
-/
namespace Go.Proofs.YtdgheahbafnboaaDoor
set_option linter.unusedSimpArgs false
set_option linter.unusedVariables false
open Go.RowKit
def digN (n N:Nat):List Nat:=(List.range n).map fun j=>N/256^j%256
theorem digN_length (n N:Nat):(digN n N).length=n:=by simp [digN]
theorem digN_dg (n N:Nat):Dg (digN n N):=fun d h=>by
 obtain ⟨j,_,rfl⟩:=List.mem_map.1 h;exact Nat.mod_lt _ (by decide)
theorem digN_val (n N:Nat) (h:N<256^n):leV (digN n N)=N:=by rw [digN,leV_mod,Nat.mod_eq_of_lt h]
theorem digN_eq {l:List Nat} {n N:Nat} (h:Dg l) (hl:l.length=n) (hv:leV l=N):l=digN n N:=by
 have hlt:=leV_lt l h;rw [hv,hl] at hlt;exact leV_ext l _ (by rw [hl,digN_length]) h (digN_dg n N) (by rw [hv,digN_val n N hlt])
theorem byN_dig (N:Nat):byN N=digN 32 N:=rfl
theorem dg_snoc {l:List Nat} {d:Nat} (h:Dg l) (hd:d<256):Dg (l++[d]):=fun x hx=>by
 rcases List.mem_append.1 hx with h1 | h1
 ·exact h x h1
 ·rw [List.mem_singleton.1 h1]; exact hd
theorem dg_take {l:List Nat} (h:Dg l) (k:Nat):Dg (l.take k):=fun x hx=>h x (List.mem_of_mem_take hx)
theorem dg_drop {l:List Nat} (h:Dg l) (k:Nat):Dg (l.drop k):=fun x hx=>h x (List.mem_of_mem_drop hx)
theorem dg_set {l:List Nat} (h:Dg l) (k d:Nat) (hd:d<256):Dg (l.set k d):=fun x hx=>by
 rcases List.mem_or_eq_of_mem_set hx with h1 | h1
 ·exact h x h1
 ·rw [h1]; exact hd
def partL (out:List Nat) (n:Nat):List Nat:=out++List.replicate (n - out.length) 0
theorem partL_length (out:List Nat) (n:Nat) (h:out.length≤n):(partL out n).length=n:=by simp [partL]; omega
theorem partL_nil (n:Nat):partL [] n=List.replicate n 0:=rfl
theorem partL_full (out:List Nat) (n:Nat) (h:out.length=n):partL out n=out:=by simp [partL,h]
theorem partL_set (out:List Nat) (n k d:Nat) (hk:out.length=k) (h:k<n):(partL out n).set k d=partL (out++[d]) n:=by
 subst hk;obtain ⟨r,hr⟩:∃ r,n - out.length=r+1:=⟨n - out.length - 1,by omega⟩;have hr2:n - (out++[d]).length=r:=by simp; omega
 rw [partL,partL,hr,hr2,List.set_append_right _ _ (Nat.le_refl _),Nat.sub_self,List.replicate_succ,List.set_cons_zero];simp
theorem leV_take_le (l:List Nat) (k:Nat):leV (l.take k)≤leV l:=by
 conv=>rhs; rw [← List.take_append_drop k l,leV_append]
 omega
theorem leV_take_all (l:List Nat) (k:Nat) (h:l.length≤k):leV (l.take k)=leV l:=by rw [List.take_of_length_le h]
theorem leV_take_of {l:List Nat} {k N:Nat} (h:leV l≤N) (hN:N<256^k):leV (l.take k)=leV l:=by
 by_cases hk:l.length≤k
 ·exact leV_take_all l k hk
 ·have e:=leV_append (l.take k) (l.drop k);rw [List.take_append_drop,List.length_take,Nat.min_eq_left (by omega)] at e
  have:leV (l.drop k)=0:=by
   rcases Nat.eq_zero_or_pos (leV (l.drop k)) with h0 | h0
   ·exact h0
   ·have:=Nat.mul_le_mul_left (256^k) h0;omega
  rw [this,Nat.mul_zero] at e;omega
theorem plus_step {out a b:List Nat} {k c:Nat} (hl:out.length=k) (h:leV out+256^k*c=leV (a.take k)+leV (b.take k)) :
  leV (out++[(c+a.getD k 0+b.getD k 0)%256])+256^(k+1)*((c+a.getD k 0+b.getD k 0)/256)=leV (a.take (k+1))+leV (b.take (k+1)):=by
 obtain ⟨v,hv⟩:∃ v,v=c+a.getD k 0+b.getD k 0:=⟨_,rfl⟩;rw [← hv,leV_snoc,hl,leV_take_step,leV_take_step,Nat.pow_succ]
 have e:256^k*(v%256)+256^k*256*(v/256)=256^k*v:=by
  rw [Nat.mul_assoc,← Nat.mul_add,Nat.mod_add_div]
 have e2:256^k*v=256^k*c+256^k*a.getD k 0+256^k*b.getD k 0:=by rw [hv,Nat.mul_add,Nat.mul_add]
 omega
theorem plus_end {out a b:List Nat} {n c:Nat} (ha:Dg a) (hb:Dg b) (ho:Dg out) (hl:out.length=n+1) (hna:a.length≤n) (hnb:b.length≤n) (h:leV out+256^(n+1)*c=leV (a.take (n+1))+leV (b.take (n+1))):out=digN (n+1) (leV a+leV b):=by
 rw [leV_take_all a _ (by omega),leV_take_all b _ (by omega)] at h;have h1:=leV_big ha hna;have h2:=leV_big hb hnb
 have hc:c=0:=by
  rcases Nat.eq_zero_or_pos c with h0 | h0
  ·exact h0
  ·have:=Nat.mul_le_mul_left (256^(n+1)) h0;rw [Nat.pow_succ] at *;omega
 rw [hc,Nat.mul_zero,Nat.add_zero] at h;exact digN_eq ho hl h
def subD (a b s:Nat):Nat:=if a<s+b then a+256 - s - b else a - s - b
def subC (a b s:Nat):Nat:=if a<s+b then 1 else 0
theorem minus_step {out a b:List Nat} {k s:Nat} (hb:Dg b) (hs:s≤1) (hl:out.length=k) (h:leV out+leV (b.take k)=leV (a.take k)+256^k*s) :
  leV (out++[subD (a.getD k 0) (b.getD k 0) s])+leV (b.take (k+1))=leV (a.take (k+1))+256^(k+1)*subC (a.getD k 0) (b.getD k 0) s:=by
 obtain ⟨x,hx⟩:∃ x,x=a.getD k 0:=⟨_,rfl⟩;obtain ⟨y,hy⟩:∃ y,y=b.getD k 0:=⟨_,rfl⟩;have hyl:=dg_getD hb k;rw [leV_snoc,hl,leV_take_step,leV_take_step,← hx,← hy,Nat.pow_succ]
 have e:256^k*subD x y s+256^k*s+256^k*y=256^k*x+256^k*256*subC x y s:=by
  rw [Nat.mul_assoc,← Nat.mul_add,← Nat.mul_add,← Nat.mul_add]
  congr 1
  unfold subD subC
  split <;> omega
 omega
theorem subD_lt {a b s:Nat} (ha:a<256) (hb:b<256) (hs:s≤1):subD a b s<256:=by unfold subD; split <;> omega
theorem subC_le (a b s:Nat):subC a b s≤1:=by unfold subC; split <;> omega
theorem minus_end {out a b:List Nat} {n s:Nat} (ha:Dg a) (hb:Dg b) (ho:Dg out) (hl:out.length=n) (hna:a.length=n) (hle:leV b≤leV a) (h:leV out+leV (b.take n)=leV (a.take n)+256^n*s):out=digN n (leV a - leV b):=by
 have h1:=leV_big ha (Nat.le_of_eq hna);have h3:=leV_big ho (Nat.le_of_eq hl);rw [leV_take_all a _ (by omega),leV_take_of hle h1] at h
 have hs:s=0:=by
  rcases Nat.eq_zero_or_pos s with h0 | h0
  ·exact h0
  ·have:=Nat.mul_le_mul_left (256^n) h0;omega
 rw [hs,Nat.mul_zero,Nat.add_zero] at h;exact digN_eq ho hl (by omega)
theorem make_ints (n:Nat) (hn:n≤4000000) (u:World):(Instr.makeSlice 48 (.int .i64 (n:Int)) (.int .i64 (n:Int))).run Tryd.prog u=.ok (.slice (some ⟨u.heap.size,0,none⟩) n n) (u.alloc (.cells (dV (partL [] n)).toArray 3)):=by
 have hi:(Tryd.prog.info? 3).map (fun i=>(i.zero,i.size,i.bytes))=some (some (.int .i64 0),1,8):=by kernel_rfl
 obtain ⟨i,h1,hi2⟩:=Option.map_eq_some_iff.1 hi;have h2:i.zero=some (.int .i64 0):=congrArg (·.1) hi2;have h3:i.size=1:=congrArg (·.2.1) hi2;have h4:i.bytes=8:=congrArg (·.2.2) hi2;have h:=run_makeSlice (P:=Tryd.prog) u 48 3 i (.int .i64 0) Tryd.underlying48 h1 h2 .i64 .i64 (n:Int) (n:Int) (by omega) (by omega) (by rw [h3,Int.toNat_natCast]; omega) (by rw [h4]; omega) (by omega);rw [Int.toNat_natCast,h3] at h
 have e:madeCells (Value.int .i64 0).cells (n*1)=(dV (partL [] n)).toArray:=by
  apply Array.ext';rw [Nat.mul_one,show (Value.int IntKind.i64 0).cells=#[.int .i64 0] from rfl,toList_madeCells_one,partL_nil,dV,List.map_replicate];rfl
 rw [h,e]
end Go.Proofs.YtdgheahbafnboaaDoor
/-
  Walks: the reference's Minus and Plus.
-/
namespace Go.Proofs.YtdgheahbafnboaaDoor
set_option linter.unusedSimpArgs false
set_option linter.unusedVariables false
open Go.RowKit
theorem dig_cell {w:World} {A:Option Addr} {a:List Nat} (h:Rd w w.heap.size A (dV a)) {k:Nat} (hk:k<a.length):∃ ad,A=some ad∧w.cell? (ad.add k)=some (.int .i64 ((a.getD k 0:Nat):Int)):=by
 obtain ⟨ad,h1,_,h3⟩:=h.at_ (k:=k) (by rw [dV_length]; exact hk);rw [dV_at hk] at h3;refine ⟨ad,h1,?_⟩;rw [h3,List.getD_eq_getElem?_getD,List.getElem?_eq_getElem hk];rfl
theorem dig_none {a:List Nat} {k:Nat} (h:¬ k<a.length):a.getD k 0=0:=by
 rw [List.getD_eq_getElem?_getD,List.getElem?_eq_none (by omega)]; rfl
set_option maxRecDepth 100000 in
set_option maxHeartbeats 2000000 in
theorem minus_any (a b:List Nat) (ha:Dg a) (hb:Dg b) (hle:leV b≤leV a) (A B:Option Addr) (c d:Nat) (w:World) (hra:Rd w w.heap.size A (dV a)) (hrb:Rd w w.heap.size B (dV b)) (hla:a.length≤1000000) (hlb:b.length≤1000000) :
  Calls Tryd.prog 82 #[.slice A a.length c,.slice B b.length d] w (DigPost (digN a.length (leV a - leV b)) w):=by
 obtain ⟨n,hn⟩:∃ n,n=a.length:=⟨_,rfl⟩;obtain ⟨m,hm⟩:∃ m,m=b.length:=⟨_,rfl⟩;rw [← hn,← hm];have hn63:(n:Int)≤1000000:=by omega
 have hm63:(m:Int)≤1000000:=by omega
 have hmk:=make_ints n (by omega);have hst0:D1 w w.heap.size (partL [] n) _:=d1_new (partL [] n) (Below.refl w.heap.size w);have HRA:=zY hra;have HRB:=zY hrb;have HA:=zY ha;have HB:=zY hb;have HN:=zY hn;have HM:=zY hm;have HLE:=zY hle;have HST0:=zY hst0;clear hra hrb ha hb hn hm hla hlb hle hst0;go_enter Tryd.func82,Tryd.ntmps82;go_wp2_with fail;generalize hg:w.heap.size=g at HST0 HRA HRB ⊢;have HG:=zY hg;clear hg hmk
 go_loopw [6,7] (fun s i wr=>∃ (k bor:Nat) (out:List Nat),k≤n∧i=.int .i64 k∧bor≤1∧s=.int .i64 bor∧out.length=k∧Dg out∧leV out+leV (b.take k)=leV (a.take k)+256^k*bor∧D1 w g (partL out n) wr) (fun _ i _=>n - (intOf i).toNat)
 case atStart=>exact ⟨0,0,[],by omega,rfl,by omega,rfl,rfl,by unfold Dg; simp,by simp [leV],HST0.out⟩
 case round =>
  clear HST0;obtain ⟨k,s,out,hk,rfl,hs,rfl,hol,hod,heq,hst⟩:=hrel
  by_cases hlt:k<n
  ·have hlt':(k:Int)<(n:Int):=by omega
   have hel:Below g w wr:=by have h:=hst.bel; rw [HG.out] at h; exact h
   have hgs:g≤wr.heap.size:=by rw [← HG.out]; exact hst.bel.size
   obtain ⟨ad,rfl,hca⟩:=dig_cell ((HRA.out.below hel).mono hgs) (k:=k) (by rw [← HN.out]; exact hlt);obtain ⟨x,hx⟩:∃ x,x=a.getD k 0:=⟨_,rfl⟩;obtain ⟨y,hy⟩:∃ y,y=b.getD k 0:=⟨_,rfl⟩;have hxl:x<256:=by rw [hx]; exact dg_getD HA.out k
   have hyl:y<256:=by rw [hy]; exact dg_getD HB.out k
   rw [← hx] at hca;have hstep:=minus_step (a:=a) HB.out hs hol heq;rw [← hx,← hy] at hstep;have hdl:=subD_lt hxl hyl hs;have hset:=partL_set out n k (subD x y s) hol hlt;have hod2:=dg_snoc hod hdl;have hol2:(out++[subD x y s]).length=k+1:=by rw [List.length_append,hol]; rfl
   have HSTEP:=zY hstep;have HSET:=zY hset;have HOD:=zY hod2;have HOL:=zY hol2;have HST:=zY hst;have HSZ:=zY (partL_length out n (by omega));have hx':(x:Int)<256:=by omega
   have hy':(y:Int)<256:=by omega
   have hs':(s:Int)≤1:=by omega
   have hKM:(k<m→∃ bd,B=some bd∧wr.cell? (bd.add k)=some (.int .i64 (y:Int)))∧(¬ k<m→y=0):=⟨fun h=>by
    obtain ⟨bd,h1,h2⟩:=dig_cell ((HRB.out.below hel).mono hgs) (k:=k) (by rw [← HM.out]; exact h);rw [← hy] at h2;exact ⟨bd,h1,h2⟩,fun h=>by rw [hy]; exact dig_none (by rw [← HM.out]; exact h)⟩
   obtain ⟨hk1,hk2⟩:=hKM;clear hst hstep hset hod hod2 hol hol2 heq hx hy hxl hyl hs hdl hel hgs;obtain ⟨dd,hDD⟩:∃ dd,subD x y s=dd:=⟨_,rfl⟩
   by_cases hkm:k<m <;> by_cases hlo:x<s+y
   ·obtain ⟨bd,rfl,hcb⟩:=hk1 hkm;have hkm':(k:Int)<(m:Int):=by omega
    clear hk1 hk2;have hv0:(x:Int) - (s:Int) - (y:Int)<0:=by omega
    have hdd:subD x y s=dd:=hDD;have hv:(x:Int) - (s:Int) - (y:Int)+256=(dd:Int):=by rw [← hdd]; unfold subD; rw [if_pos hlo]; omega
    have hc1:subC x y s=1:=by unfold subC; rw [if_pos hlo]
    have hdl:(dd:Int)<256:=by omega
    rw [hdd] at HSTEP HSET HOD HOL;rw [hc1] at HSTEP;have HD:=zY hdd;clear hdd hDD hc1 hlo hkm;go_wp2_with (refine wpList_put_cell (x:=.tmp 41) (i:=k) (v:=.int .i64 (dd:Int)) HST.out.out rfl rfl rfl rfl int_size (by rw [dig_len,HSZ.out]; exact hlt) rfl ?_; intro w5 hb5 hw5; have hst5:=HST.out.put (l':=partL (out++[dd]) n) hw5 (by rw [dV_set,HSET.out] at hb5; exact hb5); have HST5:=zY hst5; clear hst5 hb5 hw5);exact ⟨⟨k+1,1,out++[dd],by omega,by go_num,by omega,rfl,HOL.out,HOD.out,HSTEP.out,HST5.out⟩,by simp [intOf]; omega⟩
   ·obtain ⟨bd,rfl,hcb⟩:=hk1 hkm;have hkm':(k:Int)<(m:Int):=by omega
    clear hk1 hk2;have hv0:¬ (x:Int) - (s:Int) - (y:Int)<0:=by omega
    have hdd:subD x y s=dd:=hDD;have hv:(x:Int) - (s:Int) - (y:Int)=(dd:Int):=by rw [← hdd]; unfold subD; rw [if_neg hlo]; omega
    have hc1:subC x y s=0:=by unfold subC; rw [if_neg hlo]
    have hdl:(dd:Int)<256:=by omega
    rw [hdd] at HSTEP HSET HOD HOL;rw [hc1] at HSTEP;have HD:=zY hdd;clear hdd hDD hc1 hlo hkm;go_wp2_with (refine wpList_put_cell (x:=.tmp 41) (i:=k) (v:=.int .i64 (dd:Int)) HST.out.out rfl rfl rfl rfl int_size (by rw [dig_len,HSZ.out]; exact hlt) rfl ?_; intro w5 hb5 hw5; have hst5:=HST.out.put (l':=partL (out++[dd]) n) hw5 (by rw [dV_set,HSET.out] at hb5; exact hb5); have HST5:=zY hst5; clear hst5 hb5 hw5);exact ⟨⟨k+1,0,out++[dd],by omega,by go_num,by omega,rfl,HOL.out,HOD.out,HSTEP.out,HST5.out⟩,by simp [intOf]; omega⟩
   ·obtain rfl:=hk2 hkm;have hkm':¬ (k:Int)<(m:Int):=by omega
    clear hk1 hk2;have hv0:(x:Int) - (s:Int)<0:=by omega
    have hdd:subD x 0 s=dd:=hDD;have hv:(x:Int) - (s:Int)+256=(dd:Int):=by rw [← hdd]; unfold subD; rw [if_pos hlo]; omega
    have hc1:subC x 0 s=1:=by unfold subC; rw [if_pos hlo]
    have hdl:(dd:Int)<256:=by omega
    rw [hdd] at HSTEP HSET HOD HOL;rw [hc1] at HSTEP;have HD:=zY hdd;clear hdd hDD hc1 hlo hkm;go_wp2_with (refine wpList_put_cell (x:=.tmp 41) (i:=k) (v:=.int .i64 (dd:Int)) HST.out.out rfl rfl rfl rfl int_size (by rw [dig_len,HSZ.out]; exact hlt) rfl ?_; intro w5 hb5 hw5; have hst5:=HST.out.put (l':=partL (out++[dd]) n) hw5 (by rw [dV_set,HSET.out] at hb5; exact hb5); have HST5:=zY hst5; clear hst5 hb5 hw5);exact ⟨⟨k+1,1,out++[dd],by omega,by go_num,by omega,rfl,HOL.out,HOD.out,HSTEP.out,HST5.out⟩,by simp [intOf]; omega⟩
   ·obtain rfl:=hk2 hkm;have hkm':¬ (k:Int)<(m:Int):=by omega
    clear hk1 hk2;have hv0:¬ (x:Int) - (s:Int)<0:=by omega
    have hdd:subD x 0 s=dd:=hDD;have hv:(x:Int) - (s:Int)=(dd:Int):=by rw [← hdd]; unfold subD; rw [if_neg hlo]; omega
    have hc1:subC x 0 s=0:=by unfold subC; rw [if_neg hlo]
    have hdl:(dd:Int)<256:=by omega
    rw [hdd] at HSTEP HSET HOD HOL;rw [hc1] at HSTEP;have HD:=zY hdd;clear hdd hDD hc1 hlo hkm;go_wp2_with (refine wpList_put_cell (x:=.tmp 41) (i:=k) (v:=.int .i64 (dd:Int)) HST.out.out rfl rfl rfl rfl int_size (by rw [dig_len,HSZ.out]; exact hlt) rfl ?_; intro w5 hb5 hw5; have hst5:=HST.out.put (l':=partL (out++[dd]) n) hw5 (by rw [dV_set,HSET.out] at hb5; exact hb5); have HST5:=zY hst5; clear hst5 hb5 hw5);exact ⟨⟨k+1,0,out++[dd],by omega,by go_num,by omega,rfl,HOL.out,HOD.out,HSTEP.out,HST5.out⟩,by simp [intOf]; omega⟩
  ·obtain rfl:k=n:=by omega
   have hfin:=minus_end HA.out HB.out hod hol HN.out.symm HLE.out heq;rw [partL_full out _ hol] at hst;have HST:=zY hst;have HFIN:=zY hfin;have HOL:=zY hol;clear hst hfin hol hod heq hs hk hlt;go_wp2_with fail;go_ret;rw [← HFIN.out];exact HST.out.post HOL.out.symm (Nat.le_refl _)
end Go.Proofs.YtdgheahbafnboaaDoor
/-
  Walk: the reference's Plus.
-/
namespace Go.Proofs.YtdgheahbafnboaaDoor
set_option linter.unusedSimpArgs false
set_option linter.unusedVariables false
open Go.RowKit
theorem dV_cell {l:List Nat} {k:Nat} (h:k<l.length):(dV l).toArray[k]?=some (.int .i64 ((l.getD k 0:Nat):Int)):=by
 simp [dV,numV,List.getElem?_eq_getElem h,List.getD_eq_getElem?_getD]
set_option maxRecDepth 100000 in
set_option maxHeartbeats 4000000 in
theorem rplus_any (a b:List Nat) (ha:Dg a) (hb:Dg b) (A B:Option Addr) (c d:Nat) (w:World) (hra:Rd w w.heap.size A (dV a)) (hrb:Rd w w.heap.size B (dV b)) (hla:a.length≤1000000) (hlb:b.length≤1000000) :
  Calls Tryd.prog 56 #[.slice A a.length c,.slice B b.length d] w (DigPost (digN (max a.length b.length+1) (leV a+leV b)) w):=by
 obtain ⟨n,hn⟩:∃ n,n=a.length:=⟨_,rfl⟩;obtain ⟨m,hm⟩:∃ m,m=b.length:=⟨_,rfl⟩;rw [← hn,← hm];have hn63:(n:Int)≤1000000:=by omega
 have hm63:(m:Int)≤1000000:=by omega
 have HRA:=zY hra;have HRB:=zY hrb;have HA:=zY ha;have HB:=zY hb;have HN:=zY hn;have HM:=zY hm;clear hra hrb ha hb hn hm hla hlb
 by_cases hnm:n<m
 ·have hnm':(m:Int) > (n:Int):=by omega
  have hpp:max n m=m:=Nat.max_eq_right (by omega);have hp1:n≤m:=by omega
  have hp2:m≤m:=Nat.le_refl _;obtain ⟨N,hN⟩:∃ N,N=m+1:=⟨_,rfl⟩;have hNi:(m:Int)+1=(N:Int):=by omega
  have hmk:=make_ints N (by omega);have hst0:D1 w w.heap.size (partL [] N) _:=d1_new (partL [] N) (Below.refl w.heap.size w);have HST0:=zY hst0;have HNN:=zY hN;have Hm:=zY hpp;have HP1:=zY hp1;have HP2:=zY hp2;clear hst0 hN hpp hp1 hp2 hnm;go_enter Tryd.func56,Tryd.ntmps56;go_wp2_with fail;generalize hg:w.heap.size=g at HST0 HRA HRB ⊢;have HG:=zY hg;clear hg hmk
  go_loopw [7,8] (fun s i wr=>∃ (k bor:Nat) (out:List Nat),k≤N∧i=.int .i64 k∧bor≤1∧s=.int .i64 bor∧out.length=k∧Dg out∧leV out+256^k*bor=leV (a.take k)+leV (b.take k)∧D1 w g (partL out N) wr) (fun _ i _=>N - (intOf i).toNat)
  case atStart=>exact ⟨0,0,[],by omega,rfl,by omega,rfl,rfl,by unfold Dg; simp,by simp [leV],HST0.out⟩
  case round =>
   clear HST0;obtain ⟨k,s,out,hk,rfl,hs,rfl,hol,hod,heq,hst⟩:=hrel
   by_cases hlt:k<N
   ·have hlt':(k:Int)≤(m:Int):=by omega
    have hel:Below g w wr:=by have h:=hst.bel; rw [HG.out] at h; exact h
    have hgs:g≤wr.heap.size:=by rw [← HG.out]; exact hst.bel.size
    obtain ⟨x,hx⟩:∃ x,x=a.getD k 0:=⟨_,rfl⟩;obtain ⟨y,hy⟩:∃ y,y=b.getD k 0:=⟨_,rfl⟩;have hxl:x<256:=by rw [hx]; exact dg_getD HA.out k
    have hyl:y<256:=by rw [hy]; exact dg_getD HB.out k
    have hstep:=plus_step hol heq;rw [← hx,← hy] at hstep;have hcarry:(s+x+y)/256≤1:=by omega
    obtain ⟨v,hv⟩:∃ v,s+x+y=v:=⟨_,rfl⟩;rw [hv] at hstep hcarry;obtain ⟨dd,hdd⟩:∃ dd,v%256=dd:=⟨_,rfl⟩;obtain ⟨cc,hcc⟩:∃ cc,v/256=cc:=⟨_,rfl⟩;rw [hdd,hcc] at hstep;rw [hcc] at hcarry;have hddi:(v:Int)%256=(dd:Int):=by omega
    have hcci:(v:Int)/256=(cc:Int):=by omega
    have hset:=partL_set out N k dd hol hlt;have hod2:=dg_snoc hod (show dd<256 by omega);have hol2:(out++[dd]).length=k+1:=by rw [List.length_append,hol]; rfl
    have HSTEP:=zY hstep;have HSET:=zY hset;have HOD:=zY hod2;have HOL:=zY hol2;have HST:=zY hst;have HCARRY:=zY hcarry;have HSZ:=zY (partL_length out N (by omega));have hx':(x:Int)<256:=by omega
    have hy':(y:Int)<256:=by omega
    have hs':(s:Int)≤1:=by omega
    have hv':(v:Int)≤511:=by omega
    have hKM:(k<m→∃ bd,B=some bd∧wr.cell? (bd.add k)=some (.int .i64 (y:Int)))∧(¬ k<m→y=0):=⟨fun h=>by
     obtain ⟨bd,h1,h2⟩:=dig_cell ((HRB.out.below hel).mono hgs) (k:=k) (by rw [← HM.out]; exact h);rw [← hy] at h2;exact ⟨bd,h1,h2⟩,fun h=>by rw [hy]; exact dig_none (by rw [← HM.out]; exact h)⟩
    have hKN:(k<n→∃ ad,A=some ad∧wr.cell? (ad.add k)=some (.int .i64 (x:Int)))∧(¬ k<n→x=0):=⟨fun h=>by
     obtain ⟨bd,h1,h2⟩:=dig_cell ((HRA.out.below hel).mono hgs) (k:=k) (by rw [← HN.out]; exact h);rw [← hx] at h2;exact ⟨bd,h1,h2⟩,fun h=>by rw [hx]; exact dig_none (by rw [← HN.out]; exact h)⟩
    have d0:=hst.out.cell k;rw [dV_cell (by rw [partL_length out N (by omega)]; exact hlt)] at d0;have q0:=hst.out.free k;obtain ⟨hk1,hk2⟩:=hKM;obtain ⟨hj1,hj2⟩:=hKN;clear hst hstep hset hod hod2 hol hol2 heq hx hy hxl hyl hs hel hgs hcarry hdd hcc
    by_cases hkn:k<n <;> by_cases hkm:k<m
    ·obtain ⟨ad,rfl,hca⟩:=hj1 hkn;have hkn':(k:Int)<(n:Int):=by omega
     obtain ⟨bd,rfl,hcb⟩:=hk1 hkm;have hkm':(k:Int)<(m:Int):=by omega
     have hvi:(s:Int)+(x:Int)+(y:Int)=(v:Int):=by omega
     clear hk1 hk2 hj1 hj2 hv hkn hkm;go_wp2_with fail;exact ⟨⟨k+1,cc,out++[dd],by omega,by go_num,HCARRY.out,rfl,HOL.out,HOD.out,HSTEP.out,HST.out.put (wrote_setCell_at _ _ _ _) (by have h:=blk_setCell_at (i:=k) HST.out.out (.int .i64 (dd:Int)); rw [dV_set,HSET.out] at h; exact h)⟩,by simp [intOf]; omega⟩
    ·exfalso; omega
    ·obtain rfl:=hj2 hkn;have hkn':¬ (k:Int)<(n:Int):=by omega
     obtain ⟨bd,rfl,hcb⟩:=hk1 hkm;have hkm':(k:Int)<(m:Int):=by omega
     have hvi:(s:Int)+(y:Int)=(v:Int):=by omega
     clear hk1 hk2 hj1 hj2 hv hkn hkm;go_wp2_with fail;exact ⟨⟨k+1,cc,out++[dd],by omega,by go_num,HCARRY.out,rfl,HOL.out,HOD.out,HSTEP.out,HST.out.put (wrote_setCell_at _ _ _ _) (by have h:=blk_setCell_at (i:=k) HST.out.out (.int .i64 (dd:Int)); rw [dV_set,HSET.out] at h; exact h)⟩,by simp [intOf]; omega⟩
    ·obtain rfl:=hj2 hkn;have hkn':¬ (k:Int)<(n:Int):=by omega
     obtain rfl:=hk2 hkm;have hkm':¬ (k:Int)<(m:Int):=by omega
     obtain rfl:s=v:=by omega
     clear hk1 hk2 hj1 hj2 hv hkn hkm;go_wp2_with fail;exact ⟨⟨k+1,cc,out++[dd],by omega,by go_num,HCARRY.out,rfl,HOL.out,HOD.out,HSTEP.out,HST.out.put (wrote_setCell_at _ _ _ _) (by have h:=blk_setCell_at (i:=k) HST.out.out (.int .i64 (dd:Int)); rw [dV_set,HSET.out] at h; exact h)⟩,by simp [intOf]; omega⟩
   ·obtain rfl:k=N:=by omega
    have hge:¬ (k:Int)≤(m:Int):=by omega
    have hfin:=plus_end (n:=m) HA.out HB.out hod (by rw [hol]; exact HNN.out) (by rw [← HN.out]; exact HP1.out) (by rw [← HM.out]; exact HP2.out) (by rw [← HNN.out]; exact heq);rw [partL_full out _ hol] at hst;have HST:=zY hst;have HFIN:=zY hfin;have HOL:=zY hol;clear hst hfin hol hod heq hs hk hlt;go_wp2_with fail;go_ret;rw [Hm.out,← HFIN.out];exact HST.out.post HOL.out.symm (Nat.le_refl _)
 ·have hnm':¬ (m:Int) > (n:Int):=by omega
  have hpp:max n m=n:=Nat.max_eq_left (by omega);have hp1:n≤n:=Nat.le_refl _;have hp2:m≤n:=by omega
  obtain ⟨N,hN⟩:∃ N,N=n+1:=⟨_,rfl⟩;have hNi:(n:Int)+1=(N:Int):=by omega
  have hmk:=make_ints N (by omega);have hst0:D1 w w.heap.size (partL [] N) _:=d1_new (partL [] N) (Below.refl w.heap.size w);have HST0:=zY hst0;have HNN:=zY hN;have Hn:=zY hpp;have HP1:=zY hp1;have HP2:=zY hp2;clear hst0 hN hpp hp1 hp2 hnm;go_enter Tryd.func56,Tryd.ntmps56;go_wp2_with fail;generalize hg:w.heap.size=g at HST0 HRA HRB ⊢;have HG:=zY hg;clear hg hmk
  go_loopw [7,8] (fun s i wr=>∃ (k bor:Nat) (out:List Nat),k≤N∧i=.int .i64 k∧bor≤1∧s=.int .i64 bor∧out.length=k∧Dg out∧leV out+256^k*bor=leV (a.take k)+leV (b.take k)∧D1 w g (partL out N) wr) (fun _ i _=>N - (intOf i).toNat)
  case atStart=>exact ⟨0,0,[],by omega,rfl,by omega,rfl,rfl,by unfold Dg; simp,by simp [leV],HST0.out⟩
  case round =>
   clear HST0;obtain ⟨k,s,out,hk,rfl,hs,rfl,hol,hod,heq,hst⟩:=hrel
   by_cases hlt:k<N
   ·have hlt':(k:Int)≤(n:Int):=by omega
    have hel:Below g w wr:=by have h:=hst.bel; rw [HG.out] at h; exact h
    have hgs:g≤wr.heap.size:=by rw [← HG.out]; exact hst.bel.size
    obtain ⟨x,hx⟩:∃ x,x=a.getD k 0:=⟨_,rfl⟩;obtain ⟨y,hy⟩:∃ y,y=b.getD k 0:=⟨_,rfl⟩;have hxl:x<256:=by rw [hx]; exact dg_getD HA.out k
    have hyl:y<256:=by rw [hy]; exact dg_getD HB.out k
    have hstep:=plus_step hol heq;rw [← hx,← hy] at hstep;have hcarry:(s+x+y)/256≤1:=by omega
    obtain ⟨v,hv⟩:∃ v,s+x+y=v:=⟨_,rfl⟩;rw [hv] at hstep hcarry;obtain ⟨dd,hdd⟩:∃ dd,v%256=dd:=⟨_,rfl⟩;obtain ⟨cc,hcc⟩:∃ cc,v/256=cc:=⟨_,rfl⟩;rw [hdd,hcc] at hstep;rw [hcc] at hcarry;have hddi:(v:Int)%256=(dd:Int):=by omega
    have hcci:(v:Int)/256=(cc:Int):=by omega
    have hset:=partL_set out N k dd hol hlt;have hod2:=dg_snoc hod (show dd<256 by omega);have hol2:(out++[dd]).length=k+1:=by rw [List.length_append,hol]; rfl
    have HSTEP:=zY hstep;have HSET:=zY hset;have HOD:=zY hod2;have HOL:=zY hol2;have HST:=zY hst;have HCARRY:=zY hcarry;have HSZ:=zY (partL_length out N (by omega));have hx':(x:Int)<256:=by omega
    have hy':(y:Int)<256:=by omega
    have hs':(s:Int)≤1:=by omega
    have hv':(v:Int)≤511:=by omega
    have hKM:(k<m→∃ bd,B=some bd∧wr.cell? (bd.add k)=some (.int .i64 (y:Int)))∧(¬ k<m→y=0):=⟨fun h=>by
     obtain ⟨bd,h1,h2⟩:=dig_cell ((HRB.out.below hel).mono hgs) (k:=k) (by rw [← HM.out]; exact h);rw [← hy] at h2;exact ⟨bd,h1,h2⟩,fun h=>by rw [hy]; exact dig_none (by rw [← HM.out]; exact h)⟩
    have hKN:(k<n→∃ ad,A=some ad∧wr.cell? (ad.add k)=some (.int .i64 (x:Int)))∧(¬ k<n→x=0):=⟨fun h=>by
     obtain ⟨bd,h1,h2⟩:=dig_cell ((HRA.out.below hel).mono hgs) (k:=k) (by rw [← HN.out]; exact h);rw [← hx] at h2;exact ⟨bd,h1,h2⟩,fun h=>by rw [hx]; exact dig_none (by rw [← HN.out]; exact h)⟩
    have d0:=hst.out.cell k;rw [dV_cell (by rw [partL_length out N (by omega)]; exact hlt)] at d0;have q0:=hst.out.free k;obtain ⟨hk1,hk2⟩:=hKM;obtain ⟨hj1,hj2⟩:=hKN;clear hst hstep hset hod hod2 hol hol2 heq hx hy hxl hyl hs hel hgs hcarry hdd hcc
    by_cases hkn:k<n <;> by_cases hkm:k<m
    ·obtain ⟨ad,rfl,hca⟩:=hj1 hkn;have hkn':(k:Int)<(n:Int):=by omega
     obtain ⟨bd,rfl,hcb⟩:=hk1 hkm;have hkm':(k:Int)<(m:Int):=by omega
     have hvi:(s:Int)+(x:Int)+(y:Int)=(v:Int):=by omega
     clear hk1 hk2 hj1 hj2 hv hkn hkm;go_wp2_with fail;exact ⟨⟨k+1,cc,out++[dd],by omega,by go_num,HCARRY.out,rfl,HOL.out,HOD.out,HSTEP.out,HST.out.put (wrote_setCell_at _ _ _ _) (by have h:=blk_setCell_at (i:=k) HST.out.out (.int .i64 (dd:Int)); rw [dV_set,HSET.out] at h; exact h)⟩,by simp [intOf]; omega⟩
    ·obtain ⟨ad,rfl,hca⟩:=hj1 hkn;have hkn':(k:Int)<(n:Int):=by omega
     obtain rfl:=hk2 hkm;have hkm':¬ (k:Int)<(m:Int):=by omega
     have hvi:(s:Int)+(x:Int)=(v:Int):=by omega
     clear hk1 hk2 hj1 hj2 hv hkn hkm;go_wp2_with fail;exact ⟨⟨k+1,cc,out++[dd],by omega,by go_num,HCARRY.out,rfl,HOL.out,HOD.out,HSTEP.out,HST.out.put (wrote_setCell_at _ _ _ _) (by have h:=blk_setCell_at (i:=k) HST.out.out (.int .i64 (dd:Int)); rw [dV_set,HSET.out] at h; exact h)⟩,by simp [intOf]; omega⟩
    ·exfalso; omega
    ·obtain rfl:=hj2 hkn;have hkn':¬ (k:Int)<(n:Int):=by omega
     obtain rfl:=hk2 hkm;have hkm':¬ (k:Int)<(m:Int):=by omega
     obtain rfl:s=v:=by omega
     clear hk1 hk2 hj1 hj2 hv hkn hkm;go_wp2_with fail;exact ⟨⟨k+1,cc,out++[dd],by omega,by go_num,HCARRY.out,rfl,HOL.out,HOD.out,HSTEP.out,HST.out.put (wrote_setCell_at _ _ _ _) (by have h:=blk_setCell_at (i:=k) HST.out.out (.int .i64 (dd:Int)); rw [dV_set,HSET.out] at h; exact h)⟩,by simp [intOf]; omega⟩
   ·obtain rfl:k=N:=by omega
    have hge:¬ (k:Int)≤(n:Int):=by omega
    have hfin:=plus_end (n:=n) HA.out HB.out hod (by rw [hol]; exact HNN.out) (by rw [← HN.out]; exact HP1.out) (by rw [← HM.out]; exact HP2.out) (by rw [← HNN.out]; exact heq);rw [partL_full out _ hol] at hst;have HST:=zY hst;have HFIN:=zY hfin;have HOL:=zY hol;clear hst hfin hol hod heq hs hk hlt;go_wp2_with fail;go_ret;rw [Hn.out,← HFIN.out];exact HST.out.post HOL.out.symm (Nat.le_refl _)
end Go.Proofs.YtdgheahbafnboaaDoor
/-
  Plain: the product of digits, step by step.
-/
namespace Go.Proofs.YtdgheahbafnboaaDoor
set_option linter.unusedSimpArgs false
set_option linter.unusedVariables false
open Go.RowKit
theorem leV_set (d:Nat):∀ (l:List Nat) (p:Nat),p<l.length→leV (l.set p d)+256^p*l.getD p 0=leV l+256^p*d
 | [],p,h=>by simp at h
 | x :: r,0,_=>by
  rw [List.set_cons_zero,leV,leV,Nat.pow_zero,List.getD_cons_zero];omega
 | x :: r,p+1,h=>by
  have ih:=leV_set d r p (by simpa using h);rw [List.set_cons_succ,leV,leV,List.getD_cons_succ,Nat.pow_succ,Nat.mul_right_comm,Nat.mul_right_comm (256^p) 256 d];omega
theorem times_step {out:List Nat} {p c z S v:Nat} (hp:p<out.length) (hv:v=out.getD p 0+z+c) (h:leV out+256^p*c=S) :
  leV (out.set p (v%256))+256^(p+1)*(v/256)=S+256^p*z:=by
 have h1:=leV_set (v%256) out p hp
 have e:256^p*(v%256)+256^(p+1)*(v/256)=256^p*v:=by
  rw [Nat.pow_succ,Nat.mul_assoc,← Nat.mul_add,Nat.mod_add_div]
 have e2:256^p*v=256^p*out.getD p 0+256^p*z+256^p*c:=by rw [hv,Nat.mul_add,Nat.mul_add]
 omega
theorem times_row {b:List Nat} {i j x S:Nat}:S+256^i*(x*leV (b.take j))+256^(i+j)*(x*b.getD j 0)=S+256^i*(x*leV (b.take (j+1))):=by
 rw [leV_take_step,Nat.mul_add,Nat.mul_add,Nat.pow_add]
 have e:256^i*256^j*(x*b.getD j 0)=256^i*(x*(256^j*b.getD j 0)):=by
  rw [Nat.mul_assoc,Nat.mul_left_comm (256^j)]
 omega
theorem times_next {a b:List Nat} {i:Nat}:leV (a.take i)*leV b+256^i*(a.getD i 0*leV b)=leV (a.take (i+1))*leV b:=by
 rw [leV_take_step,Nat.add_mul,Nat.mul_assoc]
theorem times_big {a b:List Nat} {i:Nat} (ha:Dg a) (hb:Dg b):leV (a.take i)*leV b<256^(a.length+b.length+1):=by
 have h1:=leV_lt a ha;have h2:=leV_lt b hb;have h3:=leV_take_le a i;have h4:leV (a.take i)*leV b≤256^a.length*256^b.length:=Nat.mul_le_mul (by omega) (by omega);rw [Nat.pow_succ,Nat.pow_add];have h5:0<256^a.length*256^b.length:=Nat.mul_pos (Nat.pow_pos (by decide)) (Nat.pow_pos (by decide));omega
theorem times_room {out:List Nat} {k c S T:Nat} (h:leV out+256^k*c=S) (hS:S<256^T) (hc:0<c):k<T:=by
 apply Nat.lt_of_not_le;intro hle;have h1:256^T≤256^k:=Nat.pow_le_pow_right (by decide) hle;have h2:=Nat.mul_le_mul_left (256^k) hc;omega
theorem times_end {out a b:List Nat} (ho:Dg out) (hl:out.length=a.length+b.length+1) (h:leV out=leV (a.take a.length)*leV b):out=digN (a.length+b.length+1) (leV a*leV b):=by
 rw [List.take_length] at h;exact digN_eq ho hl h
end Go.Proofs.YtdgheahbafnboaaDoor
/-
  Walk: the reference's Times.
-/
namespace Go.Proofs.YtdgheahbafnboaaDoor
set_option linter.unusedSimpArgs false
set_option linter.unusedVariables false
open Go.RowKit
set_option maxRecDepth 100000 in
set_option maxHeartbeats 4000000 in
theorem times_any (a b:List Nat) (ha:Dg a) (hb:Dg b) (A B:Option Addr) (c d:Nat) (w:World) (hra:Rd w w.heap.size A (dV a)) (hrb:Rd w w.heap.size B (dV b)) (hla:a.length≤1000000) (hlb:b.length≤1000000) :
  Calls Tryd.prog 57 #[.slice A a.length c,.slice B b.length d] w (DigPost (digN (a.length+b.length+1) (leV a*leV b)) w):=by
 obtain ⟨n,hn⟩:∃ n,n=a.length:=⟨_,rfl⟩;obtain ⟨m,hm⟩:∃ m,m=b.length:=⟨_,rfl⟩;rw [← hn,← hm];have hn63:(n:Int)≤1000000:=by omega
 have hm63:(m:Int)≤1000000:=by omega
 obtain ⟨T,hT⟩:∃ T,T=n+m+1:=⟨_,rfl⟩;have hTi:(n:Int)+(m:Int)+1=(T:Int):=by omega
 have hmk:=make_ints T (by omega);have hst0:D1 w w.heap.size (partL [] T) _:=d1_new (partL [] T) (Below.refl w.heap.size w);have hz:leV (partL [] T)=0:=by rw [partL_nil,leV_replicate]
 have hzd:Dg (partL [] T):=fun d h=>by rw [List.eq_of_mem_replicate h]; decide
 have HRA:=zY hra;have HRB:=zY hrb;have HA:=zY ha;have HB:=zY hb;have HN:=zY hn;have HM:=zY hm;have HT:=zY hT;have HST0:=zY hst0;have HZ:=zY hz;have HZD:=zY hzd;have HZL:=zY (partL_length [] T (Nat.zero_le _));clear hra hrb ha hb hn hm hla hlb hst0 hT hz hzd;go_enter Tryd.func57,Tryd.ntmps57;go_wp2_with fail;generalize hg:w.heap.size=g at HST0 HRA HRB ⊢;have HG:=zY hg;clear hg hmk
 go_loopw [6] (fun i wr=>∃ (k:Nat) (out:List Nat),k≤n∧i=.int .i64 k∧out.length=T∧Dg out∧leV out=leV (a.take k)*leV b∧D1 w g out wr) (fun i _=>n - (intOf i).toNat)
 case atStart=>exact ⟨0,partL [] T,by omega,rfl,HZL.out,HZD.out,by rw [HZ.out]; simp [leV],HST0.out⟩
 case round =>
  clear HST0 HZ HZD HZL;obtain ⟨i,out,hi,rfl,hol,hod,heq,hst⟩:=hrel
  by_cases hlt:i<n
  ·have hlt':(i:Int)<(n:Int):=by omega
   obtain ⟨x,hx⟩:∃ x,x=a.getD i 0:=⟨_,rfl⟩;have hxl:x<256:=by rw [hx]; exact dg_getD HA.out i
   obtain ⟨S,hS⟩:∃ S,S=leV (a.take i)*leV b:=⟨_,rfl⟩;have hxl':(x:Int)<256:=by omega
   have HX:=zY hx;have HXL:=zY hxl;have HS:=zY hS;have hin:leV out+256^(i+0)*0=S+256^i*(x*leV (b.take 0)):=by rw [heq,hS]; simp [leV]
   have HIN:=zY hin;have HOL:=zY hol;have HOD:=zY hod;have HST:=zY hst;clear hx hxl hS hin hol hod hst heq;go_wp2_with fail;obtain ⟨wo,rfl⟩:∃ x,x=wr:=⟨_,rfl⟩
   go_loopw [7,8] (fun c i8 wr=>∃ (j cy:Nat) (out:List Nat),j≤m∧i8=.int .i64 j∧c=.int .i64 cy∧cy≤255∧out.length=T∧Dg out∧leV out+256^(i+j)*cy=S+256^i*(x*leV (b.take j))∧D1 w g out wr) (fun _ i8 _=>m - (intOf i8).toNat)
   case atStart=>exact ⟨0,0,out,by omega,rfl,rfl,by omega,HOL.out,HOD.out,HIN.out,HST.out⟩
   case round =>
    clear HOL HOD HIN HST;obtain ⟨j,cy,out,hj,rfl,rfl,hcy,hol,hod,heq,hst⟩:=hrel
    by_cases hltj:j<m
    ·have hltj':(j:Int)<(m:Int):=by omega
     obtain ⟨p,hp⟩:∃ p,p=i+j:=⟨_,rfl⟩;have hpi:(i:Int)+(j:Int)=(p:Int):=by omega
     have hpT:p<T:=by have:=HT.out; omega
     have hpT':(p:Int)<(T:Int):=by omega
     obtain ⟨y,hy⟩:∃ y,y=b.getD j 0:=⟨_,rfl⟩;have hyl:y<256:=by rw [hy]; exact dg_getD HB.out j
     obtain ⟨od,hodd⟩:∃ od,od=out.getD p 0:=⟨_,rfl⟩;have hodl:od<256:=by rw [hodd]; exact dg_getD hod p
     obtain ⟨z,hz⟩:∃ z,z=x*y:=⟨_,rfl⟩;have hzi:(x:Int)*(y:Int)=(z:Int):=by rw [hz]; simp
     have hzl:z≤255*255:=by rw [hz]; exact Nat.mul_le_mul (by have:=HXL.out; omega) (by omega)
     obtain ⟨v,hv⟩:∃ v,v=od+z+cy:=⟨_,rfl⟩;have hvi:(od:Int)+(z:Int)+(cy:Int)=(v:Int):=by omega
     rw [← hp] at heq;have hstep:=times_step (v:=v) (by rw [hol]; exact hpT) (by rw [hv,hodd]) heq;rw [hz,hy,hp,times_row,← hp,show p+1=i+(j+1) by omega] at hstep;obtain ⟨dd,hdd⟩:∃ dd,v%256=dd:=⟨_,rfl⟩;obtain ⟨cc,hcc⟩:∃ cc,v/256=cc:=⟨_,rfl⟩;have hddi:(v:Int)%256=(dd:Int):=by omega
     have hcci:(v:Int)/256=(cc:Int):=by omega
     rw [hdd,hcc] at hstep;have hod2:=dg_set hod p dd (by omega);have hol2:(out.set p dd).length=T:=by rw [List.length_set]; exact hol
     have hca:∀ u,D1 w g out u→∃ ad,A=some ad∧u.cell? (ad.add i)=some (.int .i64 (x:Int)):=fun u hu=>by
      have hel:Below g w u:=by have h:=hu.bel; rw [HG.out] at h; exact h
      have h:=dig_cell ((HRA.out.below hel).mono (by rw [← HG.out]; exact hu.bel.size)) (k:=i) (by rw [← HN.out]; exact hlt);rw [← HX.out] at h; exact h
     have hcb:∀ u,D1 w g out u→∃ ad,B=some ad∧u.cell? (ad.add j)=some (.int .i64 (y:Int)):=fun u hu=>by
      have hel:Below g w u:=by have h:=hu.bel; rw [HG.out] at h; exact h
      have h:=dig_cell ((HRB.out.below hel).mono (by rw [← HG.out]; exact hu.bel.size)) (k:=j) (by rw [← HM.out]; exact hltj);rw [← hy] at h; exact h
     obtain ⟨ad,rfl,_⟩:=hca wr hst;obtain ⟨bd,rfl,_⟩:=hcb wr hst
     have hca2:∀ u,D1 w g out u→u.cell? (ad.add i)=some (.int .i64 (x:Int)):=fun u hu=>by
      obtain ⟨ad2,h1,h2⟩:=hca u hu
      injection h1 with h1
      rw [h1]; exact h2
     have hcb2:∀ u,D1 w g out u→u.cell? (bd.add j)=some (.int .i64 (y:Int)):=fun u hu=>by
      obtain ⟨ad2,h1,h2⟩:=hcb u hu
      injection h1 with h1
      rw [h1]; exact h2
     have hco:∀ u,D1 w g out u→u.cell? ⟨g,p,none⟩=some (.int .i64 (od:Int)):=fun u hu=>by
      have d0:=hu.out.cell p;rw [dV_cell (by rw [hol]; exact hpT),← hodd] at d0;exact d0
     have HCA:=zY hca2;have HCB:=zY hcb2;have HCO:=zY hco;have HSTEP:=zY hstep;have HOD:=zY hod2;have HOL:=zY hol2;have HOLD:=zY hol;have HXL2:=zY hxl';have hyl':(y:Int)<256:=by omega
     have hzl':(z:Int)≤65025:=by omega
     have hodl':(od:Int)<256:=by omega
     have hcyl':(cy:Int)≤255:=by omega
     have hvl':(v:Int)<65536:=by omega
     have hccl:cc≤255:=by omega
     have HCC:=zY hccl;have HHJ:=zY hltj;have HPT:=zY hpT;have HC0:=hst.drew;clear hca hcb hca2 hcb2 hco hstep hod2 hol2 hol hod hst heq hodd hz hy hv hdd hcc hzl hyl hodl hcy hccl hj hltj hp hpT;go_wp2_with fail;refine wp_region_det (fun u=>D1 w g out u) (fun u=>D1 w g out u) [(0,some 31),(1,some 32),(2,some 33),(3,some 34),(4,some 35),(5,some 36),(6,some 37),(7,some 38),(8,some 39),(9,some 40),(10,some 41),(11,some 42),(12,some 43),(13,some 44),(14,some 45),(15,some 46),(16,some 47),(17,some 48),(18,some 9)] (by kernel_rfl) (by kernel_rfl) (by decide) (by kernel_rfl) (fun _=>rfl) HC0 ?_;apply DetL.next
     ·apply dP [];exact fun _=>rfl;rfl;rintro vals - w1 hC1 E hE;simp only [sP] at hE ⊢;go_wp2;exact .mk (hE _ hC1)
     apply DetL.next
     ·apply dP [];exact fun _=>rfl;rfl;rintro vals ⟨-,-⟩ w1 hC1 E hE;simp only [sP] at hE ⊢;go_wp2;exact .mk (hE _ hC1)
     apply DetL.next
     ·apply dP [];exact fun _=>rfl;rfl;intro vals vq w1 hC1 E hE;clear vq;simp only [sP] at hE ⊢;go_wp2;exact .mk (hE _ hC1)
     apply DetL.next
     ·apply dP [(1,some 32),(2,some 33)];exact fun _=>rfl;rfl;rintro vals ⟨⟨⟨-,-⟩,f1⟩,f2⟩ w1 hC1 E hE;simp only [sP,f1,f2] at hE ⊢;clear f1 f2;go_wp2;exact .mk (hE _ hC1)
     apply DetL.next
     ·apply dP [(0,some 31),(3,some 34)];exact fun _=>rfl;rfl;rintro vals ⟨⟨⟨⟨-,f0⟩,-⟩,-⟩,f3⟩ w1 hC1 E hE;simp only [sP,f0,f3] at hE ⊢;clear f0 f3;go_wp2;exact .mk (hE _ hC1)
     apply DetL.next
     ·apply dP [(4,some 35)];exact fun _=>rfl;rfl;intro vals vq w1 hC1 E hE;have f4:=vq.2;clear vq;have d0:=HCO.out _ hC1;simp only [sP,f4] at hE ⊢;clear f4;go_wp2;exact .mk (hE _ hC1)
     apply DetL.next
     ·apply dP [];exact fun _=>rfl;rfl;intro vals vq w1 hC1 E hE;clear vq;simp only [sP] at hE ⊢;go_wp2;exact .mk (hE _ hC1)
     apply DetL.next
     ·apply dP [];exact fun _=>rfl;rfl;intro vals vq w1 hC1 E hE;clear vq;simp only [sP] at hE ⊢;go_wp2;exact .mk (hE _ hC1)
     apply DetL.next
     ·apply dP [(6,some 37),(7,some 38)];exact fun _=>rfl;rfl;intro vals vq w1 hC1 E hE;have f6:=vq.1.2;have f7:=vq.2;clear vq;simp only [sP,f6,f7] at hE ⊢;clear f6 f7;go_wp2;exact .mk (hE _ hC1)
     apply DetL.next
     ·apply dP [(8,some 39)];exact fun _=>rfl;rfl;intro vals vq w1 hC1 E hE;have f8:=vq.2;clear vq;have d0:=HCA.out _ hC1;simp only [sP,f8] at hE ⊢;clear f8;go_wp2;exact .mk (hE _ hC1)
     apply DetL.next
     ·apply dP [];exact fun _=>rfl;rfl;intro vals vq w1 hC1 E hE;clear vq;simp only [sP] at hE ⊢;go_wp2;exact .mk (hE _ hC1)
     apply DetL.next
     ·apply dP [];exact fun _=>rfl;rfl;intro vals vq w1 hC1 E hE;clear vq;simp only [sP] at hE ⊢;go_wp2;exact .mk (hE _ hC1)
     apply DetL.next
     ·apply dP [(10,some 41),(11,some 42)];exact fun _=>rfl;rfl;intro vals vq w1 hC1 E hE;have f10:=vq.1.2;have f11:=vq.2;clear vq;simp only [sP,f10,f11] at hE ⊢;clear f10 f11;go_wp2;exact .mk (hE _ hC1)
     apply DetL.next
     ·apply dP [(12,some 43)];exact fun _=>rfl;rfl;intro vals vq w1 hC1 E hE;have f12:=vq.2;clear vq;have d0:=HCB.out _ hC1;simp only [sP,f12] at hE ⊢;clear f12;go_wp2;exact .mk (hE _ hC1)
     apply DetL.next
     ·apply dP [(9,some 40),(13,some 44)];exact fun _=>rfl;rfl;intro vals vq w1 hC1 E hE;have f9:=vq.1.1.1.1.2;have f13:=vq.2;clear vq;simp only [sP,f9,f13] at hE ⊢;clear f9 f13;go_wp2;exact .mk (hE _ hC1)
     apply DetL.next
     ·apply dP [(5,some 36),(14,some 45)];exact fun _=>rfl;rfl;intro vals vq w1 hC1 E hE;have f5:=vq.1.1.1.1.1.1.1.1.1.2;have f14:=vq.2;clear vq;simp only [sP,f5,f14] at hE ⊢;clear f5 f14;go_wp2;exact .mk (hE _ hC1)
     apply DetL.next
     ·apply dP [];exact fun _=>rfl;rfl;intro vals vq w1 hC1 E hE;clear vq;simp only [sP] at hE ⊢;go_wp2;exact .mk (hE _ hC1)
     apply DetL.next
     ·apply dP [(15,some 46),(16,some 47)];exact fun _=>rfl;rfl;intro vals vq w1 hC1 E hE;have f15:=vq.1.2;have f16:=vq.2;clear vq;simp only [sP,f15,f16] at hE ⊢;clear f15 f16;go_wp2;exact .mk (hE _ hC1)
     apply DetL.last
     ·apply dP [(17,some 48),(0,some 31),(1,some 32),(2,some 33),(3,some 34),(4,some 35),(5,some 36),(6,some 37),(7,some 38),(8,some 39),(9,some 40),(10,some 41),(11,some 42),(12,some 43),(13,some 44),(14,some 45),(15,some 46),(16,some 47),(17,some 48)];exact fun _=>rfl;rfl;rintro vals ⟨⟨⟨⟨⟨⟨⟨⟨⟨⟨⟨⟨⟨⟨⟨⟨⟨⟨-,f0⟩,f1⟩,f2⟩,f3⟩,f4⟩,f5⟩,f6⟩,f7⟩,f8⟩,f9⟩,f10⟩,f11⟩,f12⟩,f13⟩,f14⟩,f15⟩,f16⟩,f17⟩ w1 hC1 E hE;simp only [sP,f0,f1,f2,f3,f4,f5,f6,f7,f8,f9,f10,f11,f12,f13,f14,f15,f16,f17] at hE ⊢;clear f0 f1 f2 f3 f4 f5 f6 f7 f8 f9 f10 f11 f12 f13 f14 f15 f16 f17;go_wp2;exact .mk (hE _ hC1)
     rintro vals ⟨⟨⟨⟨⟨⟨⟨⟨⟨⟨⟨⟨⟨⟨⟨⟨⟨⟨⟨-,f0⟩,f1⟩,f2⟩,f3⟩,f4⟩,f5⟩,f6⟩,f7⟩,f8⟩,f9⟩,f10⟩,f11⟩,f12⟩,f13⟩,f14⟩,f15⟩,f16⟩,f17⟩,f18⟩ w1 hC1;simp only [sP,f0,f1,f2,f3,f4,f5,f6,f7,f8,f9,f10,f11,f12,f13,f14,f15,f16,f17,f18];clear f0 f1 f2 f3 f4 f5 f6 f7 f8 f9 f10 f11 f12 f13 f14 f15 f16 f17 f18;have d0:=HCO.out _ hC1;have q0:=hC1.out.free p;have HST:=zY hC1;clear hC1 HC0;go_wp2_with fail;exact ⟨⟨j+1,cc,out.set p dd,HHJ.out,by go_num,rfl,HCC.out,HOL.out,HOD.out,HSTEP.out,HST.out.put (wrote_setCell_at _ _ _ _) (by have h:=blk_setCell_at (i:=p) HST.out.out (.int .i64 (dd:Int)); rw [dV_set] at h; exact h)⟩,by have:=HHJ.out; simp [intOf]; omega⟩
    ·obtain rfl:j=m:=by omega
     obtain ⟨p,hp⟩:∃ p,p=i+j:=⟨_,rfl⟩;have hpi:(i:Int)+(j:Int)=(p:Int):=by omega
     have hpT:p≤T:=by have:=HT.out; omega
     obtain ⟨S2,hS2⟩:∃ S2,S2=leV (a.take (i+1))*leV b:=⟨_,rfl⟩
     have hbig:S2<256^T:=by
      have h:=times_big (i:=i+1) HA.out HB.out;rw [hS2,HT.out,HN.out,HM.out]; exact h
     have htot:leV out+256^p*cy=S2:=by
      rw [hp,heq,hS2,← times_next,HS.out,HX.out,List.take_of_length_le (Nat.le_of_eq HM.out.symm)]
     have HTOT:=zY htot;have HBIG:=zY hbig;have HS2:=zY hS2;have HOL:=zY hol;have HOD:=zY hod;have HST:=zY hst;have HCY:=zY hcy;have HPT:=zY hpT;clear htot hbig hS2 hol hod hst heq hp hcy hpT;go_wp2_with fail;obtain ⟨wi,rfl⟩:∃ x,x=wr:=⟨_,rfl⟩
     go_loopw [7,10] (fun c k10 wr=>∃ (k cy:Nat) (out:List Nat),k≤T∧k10=.int .i64 k∧c=.int .i64 cy∧cy≤255∧out.length=T∧Dg out∧leV out+256^k*cy=S2∧D1 w g out wr) (fun _ k10 _=>T+1 - (intOf k10).toNat)
     case atStart=>exact ⟨p,cy,out,HPT.out,rfl,rfl,HCY.out,HOL.out,HOD.out,HTOT.out,HST.out⟩
     case round =>
      clear HOL HOD HTOT HST HCY HPT hpi;obtain ⟨k,cy,out,hk,rfl,rfl,hcy,hol,hod,heq,hst⟩:=hrel
      by_cases hc0:0<cy
      ·have hc0':(cy:Int) > 0:=by omega
       have hkT:=times_room heq HBIG.out hc0;have hkT':(k:Int)<(T:Int):=by omega
       obtain ⟨od,hodd⟩:∃ od,od=out.getD k 0:=⟨_,rfl⟩;have hodl:od<256:=by rw [hodd]; exact dg_getD hod k
       obtain ⟨v,hv⟩:∃ v,v=od+0+cy:=⟨_,rfl⟩;have hvi:(od:Int)+(cy:Int)=(v:Int):=by omega
       have hstep:=times_step (v:=v) (by rw [hol]; exact hkT) (by rw [hv,hodd]) heq;rw [Nat.mul_zero,Nat.add_zero] at hstep;obtain ⟨dd,hdd⟩:∃ dd,v%256=dd:=⟨_,rfl⟩;obtain ⟨cc,hcc⟩:∃ cc,v/256=cc:=⟨_,rfl⟩;have hddi:(v:Int)%256=(dd:Int):=by omega
       have hcci:(v:Int)/256=(cc:Int):=by omega
       rw [hdd,hcc] at hstep;have hod2:=dg_set hod k dd (by omega);have hol2:(out.set k dd).length=T:=by rw [List.length_set]; exact hol
       have d0:=hst.out.cell k;rw [dV_cell (by rw [hol]; exact hkT),← hodd] at d0;have q0:=hst.out.free k;have HSTEP:=zY hstep;have HOD:=zY hod2;have HOL:=zY hol2;have HST:=zY hst;have hodl':(od:Int)<256:=by omega
       have hcyl':(cy:Int)≤255:=by omega
       have hvl':(v:Int)<65536:=by omega
       have HCC:=zY (show cc≤255 by omega);have HKT:=zY hkT;clear hstep hod2 hol2 hol hod hst heq hodd hv hdd hcc hodl hcy hk hkT hc0;clear hvl';go_wp2_with fail;exact ⟨⟨k+1,cc,out.set k dd,HKT.out,by go_num,rfl,HCC.out,HOL.out,HOD.out,HSTEP.out,HST.out.put (wrote_setCell_at _ _ _ _) (by have h:=blk_setCell_at (i:=k) HST.out.out (.int .i64 (dd:Int)); rw [dV_set] at h; exact h)⟩,by have:=HKT.out; simp [intOf]; omega⟩
      ·obtain rfl:cy=0:=by omega
       have hout:leV out=leV (a.take (i+1))*leV b:=by rw [← HS2.out,← heq]; simp
       have HOUT:=zY hout;have HOL:=zY hol;have HOD:=zY hod;have HST:=zY hst;clear hout hol hod hst heq hc0 hcy;go_wp2_with fail;exact ⟨⟨i+1,out,hlt,by go_num,HOL.out,HOD.out,HOUT.out,HST.out⟩,by simp [intOf]; omega⟩
  ·obtain rfl:i=n:=by omega
   have hfin:=times_end (a:=a) (b:=b) hod (by rw [hol,HT.out,HN.out,HM.out]) (by rw [← HN.out]; exact heq);rw [← HN.out,← HM.out] at hfin;have HST:=zY hst;have HFIN:=zY hfin;have HOL:=zY hol;clear hst hfin hol hod heq hi hlt;go_wp2_with fail;go_ret;rw [← HFIN.out];exact HST.out.post HOL.out.symm (Nat.le_refl _)
end Go.Proofs.YtdgheahbafnboaaDoor
/-
  Plain: what Fold reckons.
-/
namespace Go.Proofs.YtdgheahbafnboaaDoor
set_option linter.unusedSimpArgs false
set_option linter.unusedVariables false
open Go.RowKit
def digVal (v:Value) (u:World):Nat :=
 match v with
 | .slice (some ad) n _=>leV ((List.range n).map fun i=>match u.cell? (ad.add i) with | some (.int _ z)=>z.toNat | _=>0)
 | _=>0
theorem digVal_rd {u:World} {B:Nat} {A:Option Addr} {l:List Nat} (c:Nat) (h:Rd u B A (dV l)):digVal (.slice A l.length c) u=leV l:=by
 cases A with
 | none =>
  cases l with
  | nil=>rfl
  | cons d r =>
   obtain ⟨ad,h1,_⟩:=h 0 (numV d) (by simp [dV])
   cases h1
 | some ad =>
  rw [digVal]
  congr 1
  apply List.ext_getElem?;intro j
  by_cases hj:j<l.length
  ·obtain ⟨ad2,h1,_,h3⟩:=h.at_ (k:=j) (by rw [dV_length]; exact hj)
   injection h1 with h1
   subst h1;rw [dV_at hj] at h3;rw [List.getElem?_map,List.getElem?_range hj,List.getElem?_eq_getElem hj];simp only [Option.map_some,h3,Int.toNat_natCast]
  ·rw [List.getElem?_eq_none (by simp; omega),List.getElem?_eq_none (by omega)]
theorem leV_last (l:List Nat) (h:0<l.length) (h0:l.getD (l.length - 1) 0=0):leV (l.take (l.length - 1))=leV l:=by
 have e:=leV_take_step l (l.length - 1);rw [h0,Nat.mul_zero,Nat.add_zero,show l.length - 1+1=l.length by omega,List.take_length] at e;exact e.symm
theorem fold_split (l:List Nat) (h:32<l.length):leV l=leV (l.take 32)+256^32*leV (l.drop 32):=by
 conv=>lhs; rw [← List.take_append_drop 32 l,leV_append,List.length_take,Nat.min_eq_left (by omega)]
theorem fold_mod (a b:Nat):(a+b*38)%PN=(a+256^32*b)%PN:=by
 rw [show (256:Nat)^32=38+PN*2 by decide,Nat.add_mul,← Nat.add_assoc,Nat.mul_assoc,Nat.add_mul_mod_self_left,Nat.mul_comm 38]
theorem fold_less (l:List Nat) (hl:Dg l) (h:32<l.length) (h0:l.getD (l.length - 1) 0≠0):leV (l.take 32)+leV (l.drop 32)*38<leV l:=by
 rw [fold_split l h]
 have hpos:0<leV (l.drop 32):=by
  rcases Nat.eq_zero_or_pos (leV (l.drop 32)) with e | e
  ·exfalso
   have h1:=leV_at (l.drop 32) (dg_drop hl 32) (l.length - 33);rw [e,Nat.zero_div] at h1;apply h0
   have h2:(l.drop 32).getD (l.length - 33) 0=l.getD (l.length - 1) 0:=by
    rw [List.getD_eq_getElem?_getD,List.getD_eq_getElem?_getD,List.getElem?_drop,show 32+(l.length - 33)=l.length - 1 by omega]
   rw [← h2,← h1]
  ·exact e
 have e:256^32*leV (l.drop 32)=leV (l.drop 32)*38+leV (l.drop 32)*(256^32 - 38):=by
  rw [← Nat.mul_add,Nat.mul_comm]
 rw [e];have h3:0<leV (l.drop 32)*(256^32 - 38):=Nat.mul_pos hpos (by decide);omega
theorem times_val {a b:List Nat} (ha:Dg a) (hb:Dg b):leV (digN (a.length+b.length+1) (leV a*leV b))=leV a*leV b:=by
 have h:=times_big (i:=a.length) ha hb;rw [List.take_length] at h;exact digN_val _ _ h
theorem plus_val {a b:List Nat} (ha:Dg a) (hb:Dg b):leV (digN (max a.length b.length+1) (leV a+leV b))=leV a+leV b:=by
 have h1:=leV_big ha (Nat.le_max_left a.length b.length);have h2:=leV_big hb (Nat.le_max_right a.length b.length);apply digN_val;rw [Nat.pow_succ];omega
theorem mod_less {N V:Nat} (h:V%PN=N%PN) (hv:V<PN):V=N%PN:=by rw [← h,Nat.mod_eq_of_lt hv]
theorem sub_mod {V:Nat} (h:PN≤V):(V - PN)%PN=V%PN:=by
 conv=>rhs; rw [show V=(V - PN)+PN by omega,Nat.add_mod_right]
end Go.Proofs.YtdgheahbafnboaaDoor
/-
  Slices that read, anywhere.
-/
namespace Go.Proofs.YtdgheahbafnboaaDoor
set_option linter.unusedSimpArgs false
set_option linter.unusedVariables false
open Go.RowKit
def RdV (n:Nat) (xs:List Value) (v:Value) (u:World):Prop:=∃ A c,v=.slice A n c∧n≤c∧Rd u u.heap.size A xs
theorem RdV.next {n:Nat} {xs:List Value} {v:Value} {u u':World} (h:RdV n xs v u) (hb:Below u.heap.size u u'):RdV n xs v u':=by
 obtain ⟨A,c,h1,h2,h3⟩:=h;exact ⟨A,c,h1,h2,(h3.below hb).mono hb.size⟩
theorem RdV.of_own {n:Nat} {xs:List Value} {A:Option Addr} {c base:Nat} {e:TypeId} {u:World} (h:OwnX u base e 1 (.slice A n c) n xs):RdV n xs (.slice A n c) u :=
 ⟨A,c,rfl,h.le_cap,Rd.of_own h (Nat.le_refl _)⟩
theorem RdV.of_bytes {N o:Nat} {u:World} (h:Blk u o 5 (bnV (byN N)).toArray):RdV 32 (bytesV (byB N)) (.slice (some ⟨o,0,none⟩) 32 32) u:=by
 rw [bnV_byB] at h;exact ⟨_,32,rfl,Nat.le_refl _,Rd.of_blk h h.lt⟩
theorem refB_length (l:List Nat):(refB l).length=32:=by simp [refB]
theorem len_eq {α:Type} {l:List α} {n:Nat} (h:l.length=n) (A:Option Addr) (c:Nat):Value.slice A n c=.slice A l.length c:=by rw [h]
theorem rd_shape {l:List Nat} {w:World} {A:Option Addr} (h:Rd w w.heap.size A (dV l)) {w':World} (hb:Below w.heap.size w w'):Rd w' w'.heap.size A (dV l):=(h.below hb).mono hb.size
end Go.Proofs.YtdgheahbafnboaaDoor
