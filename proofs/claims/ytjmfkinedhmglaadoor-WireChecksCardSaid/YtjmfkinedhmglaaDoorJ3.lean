/-
  Joined texts: Sum64 Top5 Sdg NegW Ed Ex Er Byp Ebf Rll Sc Sd Lft Scr Sgp Spu Sma Ssg Rdx Eql Sis Rep Crt Es Clo Rrd.
-/
import Derived.Deep.DeepCutAuto
import Derived.Laws.BitsAllLaws
import Derived.Laws.CopyOwn
import Derived.Test.YtjmfkinedhmglaaDoorJ2
import Derived.Test.YtjmfkinedhmglaaDoorJ1
namespace Go.Proofs.YtjmfkinedhmglaaDoor.Sh
set_option linter.unusedSimpArgs false
set_option linter.unusedVariables false
set_option maxRecDepth 100000
set_option maxHeartbeats 4000000
open Go.RowKit
theorem u8_zero:∃ i,Tryd.prog.info? 5=some i∧i.zero=some (.int .u8 0):=by
 obtain ⟨i,hi,h0,_,_⟩:=info_parts (show (Tryd.prog.info? 5).map (fun i=>(i.zero,i.size,i.bytes))=some (some (.int .u8 0),1,1) by kernel_rfl);exact ⟨i,hi,h0⟩
theorem qbC (data:List UInt8):prepS F64 data=oneZ data (zeroN F64 data.length)++List.replicate (moreN F64 data.length) 0:=by simp [prepS,oneZ]
theorem prep64_le {data:List UInt8} (h:data.length≤40000):(prepS F64 data).length≤60000:=by
 rw [qbC,List.length_append,qaZ,List.length_replicate];have:zeroN F64 data.length<128:=Nat.mod_lt _ (by decide);have:moreN F64 data.length≤128:=by unfold moreN; split <;> simp [F64]
 omega
structure SumSt64 (w0:World) (gf:Nat) (xs:List UInt8) (v:Value) (u:World):Prop where
 bel:Below gf w0 u
 form:Blk u gf 100 f64C
 own:OwnX u (gf+1) 5 1 v xs.length (bytesV xs)
theorem SumSt64.grow {w0 u u':World} {gf:Nat} {xs ys:List UInt8} {v v':Value} (h:SumSt64 w0 gf xs v u) (hg:u.grownBy u' v.ownBlock) (ho:OwnX u' (gf+1) 5 1 v' ys.length (bytesV ys)):SumSt64 w0 gf ys v' u' :=
 ⟨h.bel.grown hg (by have:=h.form.lt; omega) (fun k hk=>by have:=(h.own.lt k hk).1; omega),h.form.grown hg (fun e=>by have:=(h.own.lt gf e.symm).1; omega),ho⟩
theorem zero64_ne (n k:Nat) (h:k<zeroN F64 n):((((n+1+k:Nat):Int)%128) != 120)=true:=by
 simp only [zeroN,F64] at h;rw [bne_iff_ne];omega
theorem zero64_eq (n:Nat):((((n+1+zeroN F64 n:Nat):Int)%128) != 120)=false:=by
 have h:zeroN F64 n=(2*64 - 8+2*64 - (n+1)%(2*64))%(2*64):=rfl;rw [bne_eq_false_iff_eq];omega
theorem pad64_blocks (data:List UInt8):(padS F64 data).length%128=0:=by
 have hz:zeroN F64 data.length=(2*64 - 8+2*64 - (data.length+1)%(2*64))%(2*64):=rfl
 have hm:moreN F64 data.length=0∨moreN F64 data.length=128:=by
  unfold moreN
  split
  ·exact .inr rfl
  ·exact .inl rfl
 simp only [padS,List.length_append,List.length_replicate,List.length_singleton,qbu];omega
structure SumT64 (w0:World) (gf gs:Nat) (A:Option Addr) (xs:List UInt8) (cs:Array Value) (u:World):Prop where
 bel:Below gf w0 u
 form:Blk u gf 100 f64C
 rd:Rd u gs A (bytesV xs)
 s:Blk u gs 109 cs
 lg:gf<gs
theorem SumT64.next {w0 u u':World} {gf gs:Nat} {A:Option Addr} {xs:List UInt8} {cs:Array Value} (h:SumT64 w0 gf gs A xs cs u) (hb:Below u.heap.size u u'):SumT64 w0 gf gs A xs cs u' :=
 ⟨h.bel.trans (hb.mono (by have:=h.form.lt; omega)),h.form.below hb h.form.lt,h.rd.below (hb.mono (by have:=h.s.lt; omega)),h.s.below hb h.s.lt,h.lg⟩
theorem SumT64.drew {w0 u:World} {gf gs:Nat} {A:Option Addr} {xs:List UInt8} {cs:Array Value} (h:SumT64 w0 gf gs A xs cs u):SumT64 w0 gf gs A xs cs u.drew :=
 ⟨h.bel.drew,h.form,h.rd.below ((Below.refl _ _).drew),h.s,h.lg⟩
theorem SumT64.put {w0 u u':World} {gf gs:Nat} {A:Option Addr} {xs:List UInt8} {cs cs':Array Value} (h:SumT64 w0 gf gs A xs cs u) (hw:Wrote gs u u') (hb:Blk u' gs 109 cs'):SumT64 w0 gf gs A xs cs' u' :=
 ⟨hw.below h.bel (by have:=h.lg; omega) (by have:=h.form.lt; omega),hw.blk h.form (by have:=h.lg; omega),h.rd.below (hw.below (Below.refl _ _) (Nat.le_refl _) (by have:=h.s.lt; omega)),hb,h.lg⟩
structure SumO64 (w0:World) (gf gb:Nat) (xs:List UInt8) (v:Value) (u:World):Prop where
 bel:Below gf w0 u
 form:Blk u gf 100 f64C
 own:u.ownsRow gb 5 1 v xs.length (bytesV xs)
 lb:gb≤u.heap.size
theorem SumO64.grow {w0 u u':World} {gf gb:Nat} {xs ys:List UInt8} {v v':Value} (h:SumO64 w0 gf gb xs v u) (hlt:gf<gb) (hg:u.grownBy u' v.ownBlock) (ho:u'.ownsRow gb 5 1 v' ys.length (bytesV ys)):SumO64 w0 gf gb ys v' u' :=
 ⟨h.bel.grown hg (by have:=h.form.lt; omega) (fun k hk=>by have:=(own_lt h.own k hk).1; omega),h.form.grown hg (fun e=>by have:=(own_lt h.own gf e.symm).1; omega),ho,by have:=h.lb; have:=hg.size; omega⟩
def SumPost64 (data:List UInt8) (w:World) (e:Ending) (w':World):Prop :=
 ∃ A c,e=.returned (.slice A (8*8) c)∧w'.ownsRow w.heap.size 5 1 (.slice A (8*8) c) (8*8) (bytesV (digS F64 data))∧Below w.heap.size w w'
theorem sum64_any (data:List UInt8) (A:Option Addr) (c B:Nat) (w:World) (hr:Rd w B A (bytesV data)) (hB:B≤w.heap.size) (hl:data.length≤40000) (hc:data.length≤c) (hcm:c≤9223372036854775807) (hG:TabG w) :
  Calls Tryd.prog 67 #[.agg f64C,.slice A data.length c] w (SumPost64 data w):=by
 obtain ⟨W0,hW0⟩:=eX (w.alloc (.cells f64C 100));have hb0:Below w.heap.size w W0:=by rw [hW0]; exact below_new _ _
 have hf0:Blk W0 w.heap.size 100 f64C:=by rw [hW0]; exact Blk.new _ _ _
 have hs0:W0.heap.size=w.heap.size+1:=by rw [hW0]; simp
 have c0:=hf0.cell 0;simp [f64C] at c0;rw [hW0] at c0;have HB0:=zY hb0;have HF0:=zY hf0;have HS0:=zY hs0;have HR:=zY (hr.mono hB);have HW:=zY hW0;have HG:=zY hG;have hl':(data.length:Int)≤40000:=by omega
 clear hb0 hf0 hs0 hr hW0 hG;go_enter Tryd.func67,Tryd.ntmps67;go_wp2
 go_quiet (fail)
 have hb1:Below w.heap.size w ((w.alloc (.cells f64C 100)).drewN nq):=below_drewN' (below_new _ _) nq;have hf1:Blk ((w.alloc (.cells f64C 100)).drewN nq) w.heap.size 100 f64C:=Blk.new _ _ _;have hz1:((w.alloc (.cells f64C 100)).drewN nq).heap.size=w.heap.size+1:=by simp
 generalize (w.alloc (.cells f64C 100)).drewN nq=W1 at *;have hr1:=HR.out.below hb1;generalize hgf:w.heap.size=gf at *;have HGF:=zY hgf
 have hst0:SumSt64 w gf [] (.slice (some ⟨W1.heap.size,0,none⟩) 0 0) (W1.alloc (.cells #[] 5)) :=
  ⟨hb1.alloc (by omega) _,hf1.alloc _,own_empty W1 (by omega)⟩
 have hr2:Rd (W1.alloc (.cells #[] 5)) gf A (bytesV data):=hr1.below ((Below.refl _ _).alloc (by omega) _);have HST0:=zY hst0;have HR2:=zY hr2;have HZ1:=zY hz1;clear hb1 hf1 hz1 hr1 hst0 hr2 hgf c0 HB0 HF0 HS0 HW;have HOWN0:Hid (OwnX (W1.alloc (.cells #[] 5)) (gf+1) 5 1 (.slice (some ⟨W1.heap.size,0,none⟩) 0 0) 0 []):=zY HST0.out.own
 go_wp2_with (first
  | (refine qaX (o:=⟨some 25,_,_,_,_,_⟩) sl_bytes rfl rfl HOWN0.out rfl rfl (by simp [bytesV]) HR2.out (by intro u hu; simp [bytesV,byteV] at hu; obtain ⟨_,_,rfl⟩:=hu; rfl) (by unfold maxLen; omega) (by omega) (by have:=HST0.out.form.lt; omega) ?_; intro A1 c1 w1 hown1 hg1 hn1; have HOWN1:Hid (OwnX w1 (gf+1) 5 1 (.slice A1 data.length c1) data.length (bytesV data)):=zY (by simpa using hown1); have H1281:Hid (gf+1≤w1.heap.size):=zY (by have:=hg1.size; have:=HZ1.out; simp at *; omega); have HG1:=zY hg1; clear hown1 hg1 hn1)
  | (refine qaL (o:=⟨some 28,_,_,_,_,_⟩) sl_bytes rfl rfl HOWN1.out rfl rfl rfl rfl (by unfold maxLen; omega) (by omega) H1281.out ?_; intro A2 c2 w2 hown2 hg2 hn2; have HOWN2:=zY hown2; have HG2:=zY hg2; clear hown2 hg2 hn2))
 have hst2:SumSt64 w gf (oneZ data 0) (.slice A2 (data.length+1) c2) w2 :=
  (HST0.out.grow (ys:=data) HG1.out HOWN1.out).grow HG2.out (by rw [qaZ,oneZ_zero,qbv]; exact HOWN2.out)
 have hzl:zeroN F64 data.length<128:=Nat.mod_lt _ (by decide);clear HST0 HOWN0 HR2 HZ1 HOWN1 H1281 HG1 HOWN2 HG2
 go_loopw [7] (fun v wr=>∃ (k n:Nat) (A3:Option Addr) (c3:Nat),k≤zeroN F64 data.length∧n=data.length+1+k∧v=.slice A3 n c3∧SumSt64 w gf (oneZ data k) (.slice A3 n c3) wr) (fun v _=>data.length+1+zeroN F64 data.length - lenOf v)
 case atStart=>exact ⟨0,data.length+1,A2,c2,Nat.zero_le _,rfl,rfl,hst2⟩
 case round =>
  obtain ⟨k,n,A3,c3,hk,hn,rfl,hst⟩:=hrel;clear hst2;have hn2:n≤50000:=by omega
  by_cases hlt:k<zeroN F64 data.length
  ·have hne:(((n:Nat):Int)%128 != 120)=true:=by rw [hn]; exact zero64_ne _ _ hlt
   have ho:OwnX wr (gf+1) 5 1 (.slice A3 n c3) n (bytesV (oneZ data k)):=by have:=hst.own; rwa [qaZ,← hn] at this
   have HO:=zY ho;have HN:=zY hn;have HST:=zY hst;clear ho hn hst;go_wp2_with (refine qaL (o:=⟨some 38,_,_,_,_,_⟩) sl_bytes rfl rfl HO.out rfl rfl rfl rfl (by unfold maxLen; omega) (by omega) (by have:=HST.out.form.lt; omega) ?_; intro A4 c4 w4 hown4 hg4 hn4; have HOWN4:=zY hown4; have HG4:=zY hg4; clear hown4 hg4 hn4);exact ⟨⟨k+1,n+1,A4,c4,hlt,by rw [HN.out]; omega,rfl,HST.out.grow HG4.out (by rw [qaZ,oneZ_succ,qbv,← Nat.add_assoc,← HN.out]; exact HOWN4.out)⟩,by simp only [lenOf]; have:=HN.out; omega⟩
  ·obtain rfl:k=zeroN F64 data.length:=by omega
   have hne:(((n:Nat):Int)%128 != 120)=false:=by rw [hn]; exact zero64_eq _
   have HN:=zY hn;have HST:=zY hst;clear hn hst;obtain ⟨pl,hpl⟩:=eX ((prepS F64 data).length);have hpl3:pl≤60000:=by rw [hpl]; exact prep64_le hl
   have hne2:((((n:Nat):Int)%128 != 120))=false:=hne
   go_upto_region 6 with (fail)
   go_cut [5,59] (fun s5 b wx=>∃ sz:Nat,sz=128∧s5=.int .i64 (sz:Int)∧b=.bool (decide (112≤data.length%128∧data.length%128<120))∧wx=wr)
   case first =>
    by_cases h1:112≤data.length%128
    ·have h1':(112:Int)≤(data.length:Int)%128:=by omega
     by_cases h2:data.length%128<120
     ·have h2':(data.length:Int)%128<120:=by omega
      go_wp2_with fail
      go_meet
      exact ⟨128,rfl,rfl,congrArg Value.bool (decide_eq_true ⟨h1,h2⟩).symm,rfl⟩
     ·have h2':¬ (data.length:Int)%128<120:=by omega
      go_wp2_with fail
      go_meet
      exact ⟨128,rfl,rfl,congrArg Value.bool (decide_eq_false (fun h=>h2 h.2)).symm,rfl⟩
    ·have h1':¬ (112:Int)≤(data.length:Int)%128:=by omega
     go_wp2_with fail
     go_meet
     exact ⟨128,rfl,rfl,congrArg Value.bool (decide_eq_false (fun h=>h1 h.1)).symm,rfl⟩
   case rest =>
   obtain ⟨sz,hsz,rfl,rfl,rfl⟩:=hcut;have H128:=zY hsz;clear hsz;obtain ⟨bb,hbb⟩:=eX (decide (112≤data.length%128∧data.length%128<120));rw [← hbb];have H64:=zY hbb;have HPL0:=zY hpl;clear hbb hpl
   go_upto_if 59 with (fail)
   go_cut [7] (fun v wx=>∃ A4 c4,v=.slice A4 pl c4∧SumSt64 w gf (prepS F64 data) (.slice A4 pl c4) wx)
   case first =>
    by_cases hbt:bb=true
    ·subst hbt;have hmore:moreN F64 data.length=128:=if_pos (show _∧_∧_ from ⟨by decide,(of_decide_eq_true H64.out.symm).1,(of_decide_eq_true H64.out.symm).2⟩);have HMORE:=zY hmore;clear hmore;have HO:Hid (OwnX wc (gf+1) 5 1 (.slice A3 n c3) n (bytesV (oneZ data (zeroN F64 data.length)))):=zY (by have:=HST.out.own; rwa [qaZ,← HN.out] at this);go_wp2_with (refine qbX (m:=sz) sl_bytes u8_zero Tryd.underlying3 rfl rfl HO.out rfl rfl (by have:=HN.out; omega) (by rw [H128.out]; decide) (by have:=H128.out; omega) (by have:=HST.out.form.lt; omega) ?_; intro A4 c4 w4 hown4 hg4 hn4; have HOWN4:=zY hown4; have HG4:=zY hg4; clear hown4 hg4 hn4)
     go_meet
     have hpe:pl=n+sz:=by rw [HPL0.out,qbC,List.length_append,qaZ,List.length_replicate,HMORE.out,H128.out,HN.out]
     refine ⟨A4,c4,by rw [hpe],HST.out.grow HG4.out ?_⟩;rw [← HPL0.out,hpe,qbC,HMORE.out,qaz,← H128.out];have h:=HOWN4.out
     rwa [show List.replicate sz (Value.int .u8 0)=bytesV (List.replicate sz 0) from by simp [bytesV,byteV]] at h
    ·have hbf:bb=false:=by simpa using hbt
     subst hbf;have hmore:moreN F64 data.length=0:=if_neg (fun h=>of_decide_eq_false H64.out.symm ⟨h.2.1,h.2.2⟩);have HMORE:=zY hmore;clear hmore hbt;go_wp2_with fail
     go_meet
     have hpe:pl=n:=by rw [HPL0.out,qbC,List.length_append,qaZ,List.length_replicate,HMORE.out,HN.out]; rfl
     refine ⟨A3,c3,by rw [hpe],?_⟩;have h:=HST.out;have e:prepS F64 data=oneZ data (zeroN F64 data.length):=by rw [qbC,HMORE.out]; simp
     rw [e,hpe];exact h
   case rest =>
   obtain ⟨A3,c3,rfl,hst3⟩:=hcut;obtain rfl:sz=128:=H128.out;rw [show ((128:Nat):Int)=128 from rfl];clear HST;obtain ⟨wr,rfl⟩:=eX wc
   have hst3':SumSt64 w gf (prepS F64 data++be8 (data.length*8) 0) (.slice A3 (pl+0) c3) wr:=by
    simp only [be8,List.append_nil];exact hst3
   clear hst3;obtain ⟨n,hn3⟩:=eX (pl+0);rw [show pl=n from hn3.symm];rw [← hn3] at hst3';have HST3:=zY hst3';have HN30:=zY hn3;clear hst3' hn3;go_wp2_with fail;have hst3:=HST3.out;have hn3:=HN30.out;have hpl:pl=(prepS F64 data).length:=HPL0.out;have hn:True:=trivial;have hn2:True:=trivial;have HPL:=zY hpl;have HN3:=zY hn3;clear hpl hn3 hn2 hn;obtain ⟨wo,rfl⟩:∃ wo:World,wo=wr:=⟨_,rfl⟩
   go_loopw [7,8] (fun v i wr=>∃ (k m:Nat) (A4:Option Addr) (c4:Nat),k≤8∧m=pl+k∧v=.slice A4 m c4∧i=.int .i64 (56 - 8*(k:Int))∧SumSt64 w gf (prepS F64 data++be8 (data.length*8) k) (.slice A4 m c4) wr) (fun _ i _=>(intOf i+8).toNat)
   case atStart=>exact ⟨0,n,A3,c3,by omega,HN3.out,rfl,rfl,hst3⟩
   case round =>
    obtain ⟨k,m,A4,c4,hk8,hm,rfl,rfl,hs4⟩:=hrel;clear hst3
    by_cases hlt8:k<8
    ·obtain ⟨sh,hsh⟩:∃ sh:Nat,(56 - 8*(k:Int))=(sh:Int):=⟨56 - 8*k,by omega⟩;rw [hsh];have hsh2:sh=56 - 8*k:=by omega
     have hsl:(sh:Int)<64:=by omega
     have HSH:=zY hsh2;have HM:=zY hm;have HS4:=zY hs4
     have ho4:OwnX wr (gf+1) 5 1 (.slice A4 m c4) m (bytesV (prepS F64 data++be8 (data.length*8) k)):=by
      have:=hs4.own
      rwa [List.length_append,qbu,← HPL.out,← hm] at this
     have HO4:=zY ho4;have hm3:m≤70000:=by omega
     clear hsh hsh2 hm hs4 ho4;go_wp2_with (refine qaL (o:=⟨some 76,_,_,_,_,_⟩) sl_bytes rfl rfl HO4.out rfl rfl rfl rfl (by unfold maxLen; omega) (by omega) (by have:=HS4.out.form.lt; omega) ?_; intro A5 c5 w5 hown5 hg5 hn5; have HOWN5:=zY hown5; have HG5:=zY hg5; clear hown5 hg5 hn5)
     have hfin:SumSt64 w gf (prepS F64 data++be8 (data.length*8) (k+1)) (.slice A5 (m+1) c5) w5:=by
      refine HS4.out.grow HG5.out ?_;have h:=HOWN5.out;rw [be8_val _ _ _ HSH.out,← qbv,List.append_assoc] at h;rw [List.length_append,qbu,← HPL.out,show pl+(k+1)=m+1 by rw [HM.out]; omega];exact h
     exact ⟨⟨k+1,m+1,A5,c5,hlt8,by rw [HM.out]; omega,rfl,by have:=HSH.out; exact congrArg (Value.int .i64) (by omega),hfin⟩,by have:=HSH.out; simp [intOf]; omega⟩
    ·obtain rfl:k=8:=by omega
     have HM:=zY hm;have HS4:=zY hs4;clear hm hs4;go_wp2_with fail;obtain ⟨A128,hA128⟩:=eX (padS F64 data);have hAll:A128=prepS F64 data++be8 (data.length*8) 8:=by rw [hA128]; rfl
     have hal:A128.length=m:=by rw [hAll,List.length_append,qbu,← HPL.out,HM.out]
     obtain ⟨gs,hgs⟩:=eX (wr.heap.size)
     have hst5:SumT64 w gf gs A4 A128 (setC .u64 (startS F64) 0) (wr.alloc (.cells (s8V .u64 ⟨0,0,0,0,0,0,0,0⟩) 109)) :=
      ⟨HS4.out.bel.alloc (by have:=HS4.out.form.lt; omega) _,HS4.out.form.alloc _,by
       have ho:OwnX wr (gf+1) 5 1 (.slice A4 m c4) m (bytesV A128):=by have:=HS4.out.own; rwa [← hAll,hal] at this
       have h:=Rd.of_own ho (Nat.le_refl _);rw [← hgs] at h;exact h.below ((Below.refl _ _).alloc (by omega) _),by rw [hgs]; exact Blk.new _ _ _,by have:=HS4.out.form.lt; omega⟩
     rw [← hgs];have HOWN4:Hid (OwnX wr (gf+1) 5 1 (.slice A4 m c4) m (bytesV A128)):=zY (by have:=HS4.out.own; rwa [← hAll,hal] at this);have HA128:=zY hA128;have HAL:=zY hal;have HGS:=zY hgs;have HS5:=zY hst5;clear hA128 hAll hal hgs hst5;refine qab (first_any _) ?_;rintro e w6 ⟨rfl,hb6⟩;have hst6:=HS5.out.next hb6;clear HS5 hb6;go_wp2_with fail;have hu42:=Tryd.underlying109;have hst6':=hst6;clear hst6
     go_loopw [78] (fun i wr=>∃ k:Nat,k≤8∧i=.int .i64 k∧SumT64 w gf gs A4 A128 (setC .u64 (startS F64) k) wr) (fun i _=>8 - (intOf i).toNat)
     case atStart=>exact ⟨0,by omega,rfl,hst6'⟩
     case round =>
      obtain ⟨k,hk,rfl,hsk⟩:=hrel;clear hst6'
      by_cases hk8:k<8
      ·have hk8':(k:Int)<8:=by omega
       obtain ⟨x,hx⟩:=eX (firstN.getD k 0);obtain ⟨y,hy⟩:=eX ((s8L (startS F64)).getD k 0);have hxl:x<18446744073709551616:=by rw [hx]; exact firstN_lt k
       have hxl':(x:Int)<18446744073709551616:=by omega
       have hyx:y=x:=by rw [hy,hx,startS_at _ _ hk8]; show _/1%18446744073709551616=_; have:=firstN_lt k; omega
       have hix:∀ u:World,(Instr.index 109 (.agg firstV) (.int .i64 (k:Int))).run Tryd.prog u=.ok (.int .u64 (x:Int)) u:=fun u =>
        qaH (n:=8) (e:=43) hu42 hk8 (by rw [hx]; exact firstV_at k hk8) (by kernel_rfl) (by kernel_rfl) ⟨_,Tryd.underlying43⟩
       have f0:=hsk.form.cell 0;simp [f64C] at f0;have d0:=hsk.s.cell k;rw [setC_at _ _ _ hk8] at d0;have g0:=hsk.s.free k
       have hfin:SumT64 w gf gs A4 A128 (setC .u64 (startS F64) (k+1)) (wr.setCell ⟨gs,k,none⟩ (.int .u64 (y:Int))) :=
        hsk.put (qaf _ _ _ _) (by have:=qag (i:=k) hsk.s (.int .u64 (y:Int)); rwa [hy,setC_set _ _ _ hk8,← hy] at this)
       have HFIN:=zY hfin;have HYX:=zY hyx;have HXL:=zY hxl;clear hfin hyx hxl hx hy hsk;go_wp2_with fail
       skip
       refine qab (qbH _ _ (by have:=HXL.out; omega)) ?_;rintro e w7 ⟨rfl,rfl⟩;rw [← HYX.out];go_wp2_with fail;exact ⟨⟨k+1,hk8,by go_num,HFIN.out⟩,by simp [intOf]; omega⟩
      ·have hge:¬ (k:Int)<8:=by omega
       obtain rfl:k=8:=by omega
       rw [setC_end] at hsk;obtain ⟨nb,hnb⟩:∃ nb,m=nb*128:=⟨m/128,by have:=pad64_blocks data; rw [← HA128.out,HAL.out] at this; omega⟩;have hm4:m≤70000:=by have:=HM.out; omega
       have hcap:m≤c4∧c4≤9223372036854775807:=by
        have ho:OwnX _ (gf+1) 5 1 (.slice A4 m c4) m (bytesV A128):=HOWN4.out;exact qcU ho
       obtain ⟨hcap1,hcap2⟩:=hcap;have hst8:SumT64 w gf gs A4 A128 (s8V .u64 (runS F64 A128 0)) wr:=hsk;have HNB:=zY hnb;have HS8:=zY hst8;clear hnb hst8 hsk hu42;obtain ⟨wo3,rfl⟩:∃ wo3:World,wo3=wr:=⟨_,rfl⟩;go_wp2_with fail
       go_loopw [12] (fun i wr=>∃ j a:Nat,j≤nb∧a=j*128∧i=.int .i64 (a:Int)∧SumT64 w gf gs A4 A128 (s8V .u64 (runS F64 A128 j)) wr) (fun i _=>m - (intOf i).toNat)
       case atStart=>exact ⟨0,0,by omega,rfl,rfl,HS8.out⟩
       case round =>
        obtain ⟨j,a,hj,ha,rfl,hsj⟩:=hrel
        by_cases hjn:j<nb
        ·have ham:a+128≤m:=by rw [HNB.out,ha]; omega
         have hlt:a<m:=by omega
         have hle1:a+128≤c4:=by omega
         obtain ⟨ad,hAd,_,_⟩:=(hsj.rd).at_ (k:=a) (by rw [qam,HAL.out]; omega);subst hAd;obtain ⟨bk,hbk⟩:=eX ((A128.drop a).take 128);have hbl:bk.length=128:=by rw [hbk]; simp; rw [HAL.out]; omega
         have HRB:Hid (∀ u,SumT64 w gf gs (some ad) A128 (s8V .u64 (runS F64 A128 j)) u→Rd u gs (some (ad.add a)) (bytesV bk)):=zY fun u hu=>by
          rw [hbk,bytesV,List.map_take,List.map_drop]; exact rd_take (rd_drop hu.rd a) 128
         obtain ⟨sj,hsj2⟩:=eX (runS F64 A128 j);obtain ⟨sn,hsn⟩:=eX (mixS F64 sj bk);have hsl:sj.Lt (2^64):=by rw [hsj2]; exact runS_lt F64 A128 j
         have hs1:runS F64 A128 (j+1)=sn:=by rw [hsn,hsj2,hbk,ha]; rfl
         rw [← hsj2] at hsj;have HRB2:Hid (∀ u,SumT64 w gf gs (some ad) A128 (s8V .u64 sj) u→Rd u gs (some (ad.add a)) (bytesV bk)):=zY (by rw [hsj2]; exact HRB.out);have HBL:=zY hbl;have HSN:=zY hsn;have HSL:=zY hsl;have HS1:=zY hs1;have HA:=zY ha;clear HRB hbl hsn hsl hs1 hbk hsj2 ha;have HC0:=hsj.drew;clear hsj;have hu8:=Tryd.underlying109;have hu:=Tryd.underlying100;go_wp2_with fail;refine qaj (fun u=>SumT64 w gf gs (some ad) A128 (s8V .u64 sj) u) (fun u=>SumT64 w gf gs (some ad) A128 (s8V .u64 sn) u) [(0,some 98),(1,some 99),(2,some 100),(3,some 101),(4,some 102),(5,some 103),(6,some 104),(7,some 105),(8,some 106),(9,none)] (by kernel_rfl) (by kernel_rfl) (by decide) (by kernel_rfl) (fun _=>rfl) HC0 ?_;apply yN_
         ·apply dP [];exact fun _=>rfl;rfl;rintro vals - w1 hC1 E hE;simp only [sP] at hE ⊢;refine qac hC1.form rfl rfl rfl hu rfl qaS ?_;go_wp2_with fail;exact .mk (hE _ hC1)
         apply yN_
         ·apply dP [];exact fun _=>rfl;rfl;rintro vals ⟨-,-⟩ w1 hC1 E hE;simp only [sP] at hE ⊢;refine qac hC1.s rfl rfl rfl hu8 rfl qaQ ?_;go_wp2_with fail;exact .mk (hE _ hC1)
         apply yN_
         ·apply dP [];exact fun _=>rfl;rfl;intro vals vq w1 hC1 E hE;clear vq;simp only [sP] at hE ⊢;go_wp2;exact .mk (hE _ hC1)
         apply yN_
         ·apply dP [];exact fun _=>rfl;rfl;intro vals vq w1 hC1 E hE;clear vq;simp only [sP] at hE ⊢;go_wp2;exact .mk (hE _ hC1)
         apply yN_
         ·apply dP [];exact fun _=>rfl;rfl;intro vals vq w1 hC1 E hE;clear vq;simp only [sP] at hE ⊢;go_wp2;exact .mk (hE _ hC1)
         apply yN_
         ·apply dP [];exact fun _=>rfl;rfl;intro vals vq w1 hC1 E hE;clear vq;simp only [sP] at hE ⊢;go_wp2;exact .mk (hE _ hC1)
         apply yN_
         ·apply dP [(4,some 102),(5,some 103)];exact fun _=>rfl;rfl;intro vals vq w1 hC1 E hE;simp only [sP,vq] at hE ⊢;clear vq;go_wp2;exact .mk (hE _ hC1)
         apply yN_
         ·apply dP [(2,some 100),(3,some 101),(6,some 104)];exact fun _=>rfl;rfl;intro vals vq w1 hC1 E hE;simp only [sP,vq] at hE ⊢;clear vq;go_wp2;rw [show a+128 - a=128 by omega];exact .mk (hE _ hC1)
         apply yN_
         ·apply dP [(0,some 98),(1,some 99),(7,some 105)];exact fun _=>rfl;rfl;intro vals vq w1 hC1 E hE;simp only [sP,vq] at hE ⊢;clear vq;go_wp2_with fail;have hmx:=mix64_any sj bk (some (ad.add a)) (c4 - a) gs w1 (HRB2.out _ hC1) (by have:=hC1.s.lt; omega) HBL.out (by rw [HBL.out]; omega) (by omega) HSL.out (HG.out.below hC1.bel (by rw [← HGF.out]; exact HG.out.size));rw [HBL.out] at hmx;refine qab hmx ?_;rintro e w2 ⟨rfl,hb2⟩;rw [← HSN.out];go_wp2_with fail;exact .mk (hE _ (hC1.next hb2))
         apply yL_ (v:=undef)
         ·apply dP [(8,some 106),(8,some 106),(0,some 98),(1,some 99),(2,some 100),(3,some 101),(4,some 102),(5,some 103),(6,some 104),(7,some 105),(8,some 106)];exact fun _=>rfl;rfl;intro vals vq w1 hC1 E hE;simp only [sP,vq] at hE ⊢;clear vq;refine qae hC1.s rfl rfl rfl rfl qaQ rfl (by simp [s8V,Value.oneCell']) ?_;intro w2 hb2 hw2;go_wp2_with fail;exact .mk (hE _ (hC1.put hw2 hb2))
         intro vals vq w1 hC1;simp only [sP,vq];clear vq;clear HC0;have hfin:SumT64 w gf gs (some ad) A128 (s8V .u64 (runS F64 A128 (j+1))) w1:=by rw [HS1.out]; exact hC1
         have HFIN:=zY hfin;clear hfin hC1;go_wp2_with fail;exact ⟨⟨j+1,a+128,hjn,by rw [HA.out]; omega,by go_num,HFIN.out⟩,by simp [intOf]; omega⟩
        ·obtain rfl:j=nb:=by omega
         have hge:¬ a<m:=by rw [HNB.out,ha]; omega
         have HA:=zY ha;obtain ⟨sv,hsv⟩:=eX (runS F64 A128 j);have hsl:sv.Lt (2^64):=by rw [hsv]; exact runS_lt F64 A128 j
         rw [← hsv] at hsj;have hu8:=Tryd.underlying109;have HSV:=zY hsv;have HSL:=zY hsl;clear ha hsv hsl;go_wp2_with (refine qac (x:=.tmp 9) hsj.s rfl rfl rfl hu8 rfl qaQ ?_);obtain ⟨g2,hg2⟩:=eX (wr.heap.size);have hso:SumO64 w gf (gf+1) [] (.slice none 0 0) wr:=⟨hsj.bel,hsj.form,World.ownsRow_nil _ _ _ _,by have:=hsj.form.lt; omega⟩;have HSO:=zY hso;clear hso hsj;obtain ⟨wo4,rfl⟩:∃ wo4:World,wo4=wr:=⟨_,rfl⟩
         go_loopw [13,108] (fun v i wr=>∃ (k q:Nat) (A5:Option Addr) (c5:Nat),k≤8∧q=k*8∧i=.int .i64 k∧v=.slice A5 q c5∧SumO64 w gf (gf+1) (outW 64 8 sv k) (.slice A5 q c5) wr) (fun _ i _=>8 - (intOf i).toNat)
         case atStart=>exact ⟨0,0,none,0,by omega,by omega,rfl,rfl,HSO.out⟩
         case round =>
          obtain ⟨k,q,A5,c5,hk,hq,rfl,rfl,hso⟩:=hrel
          by_cases hk8:k<8
          ·have hk8':(k:Int)<8:=by omega
           obtain ⟨x,hx⟩:=eX ((s8L sv).getD k 0);have hxl:x<2^64:=by rw [hx]; exact s8L_lt HSL.out (by decide) k
           have hxl':(x:Int)<18446744073709551616:=by omega
           have hix:∀ u:World,(Instr.index 109 (.agg (s8V .u64 sv)) (.int .i64 (k:Int))).run Tryd.prog u=.ok (.int .u64 (x:Int)) u:=fun u =>
            qaH (n:=8) (e:=43) hu8 hk8 (by rw [hx]; exact s8V_at .u64 sv k hk8) (by kernel_rfl) (by kernel_rfl) ⟨_,Tryd.underlying43⟩
           have f0:=hso.form.cell 0;simp [f64C] at f0;have hs6:SumO64 w gf (gf+1) (outW 64 8 sv k++wordB 64 x 0) (.slice A5 q c5) wr:=by simpa [wordB] using hso
           have HX:=zY hx;have HQ:=zY hq;have HS6:=zY hs6;have HU8:=zY hu8;have hq9:q≤64:=by omega
           clear hx hq hs6 hso hxl hu8;go_wp2_with fail;clear hix f0;obtain ⟨wo5,rfl⟩:∃ wo5:World,wo5=wr:=⟨_,rfl⟩
           go_loopw [13,16] (fun v i wr=>∃ (p r:Nat) (A6:Option Addr) (c6:Nat),p≤8∧r=q+p∧v=.slice A6 r c6∧i=.int .i64 (64 - 8 - 8*(p:Int))∧SumO64 w gf (gf+1) (outW 64 8 sv k++wordB 64 x p) (.slice A6 r c6) wr) (fun _ i _=>(intOf i+8).toNat)
           case atStart=>exact ⟨0,q,A5,c5,by omega,by omega,rfl,rfl,HS6.out⟩
           case round =>
            obtain ⟨p,r,A6,c6,hp,hr6,rfl,rfl,hs7⟩:=hrel
            by_cases hp8:p<8
            ·obtain ⟨sh,hsh⟩:∃ sh:Nat,(64 - 8 - 8*(p:Int))=(sh:Int):=⟨64 - 8 - 8*p,by omega⟩;rw [hsh];have hsh2:sh=64 - 8 - 8*p:=by omega
             have hsl:(sh:Int)<64:=by omega
             have HSH:=zY hsh2;have HR6:=zY hr6;have HS7:=zY hs7
             have ho7:wr.ownsRow (gf+1) 5 1 (.slice A6 r c6) r (bytesV (outW 64 8 sv k++wordB 64 x p)):=by
              have:=hs7.own
              rwa [List.length_append,qaA,outW_length _ _ _ _ (by omega),← HQ.out,← hr6] at this
             have HO7:=zY ho7;have hr9:r≤100:=by omega
             clear hsh hsh2 hr6 hs7 ho7;go_wp2_with (refine qb6 sl_bytes rfl rfl HO7.out rfl rfl rfl rfl (by unfold maxLen; omega) (by omega) HS7.out.lb ?_; intro A8 c8 w8 hown8 hg8; have HOWN8:=zY hown8; have HG8:=zY hg8; clear hown8 hg8)
             have hfin:SumO64 w gf (gf+1) (outW 64 8 sv k++wordB 64 x (p+1)) (.slice A8 (r+1) c8) w8:=by
              refine HS7.out.grow (by omega) HG8.out ?_;have h:=HOWN8.out;rw [wordB_val _ _ _ _ HSH.out,← qbv,List.append_assoc] at h;rw [List.length_append,qaA,outW_length _ _ _ _ (by omega),← HQ.out,show q+(p+1)=r+1 by rw [HR6.out]; omega];exact h
             exact ⟨⟨p+1,r+1,A8,c8,hp8,by rw [HR6.out]; omega,rfl,by have:=HSH.out; exact congrArg (Value.int .i64) (by omega),hfin⟩,by have:=HSH.out; simp [intOf]; omega⟩
            ·obtain rfl:p=8:=by omega
             have hfin:SumO64 w gf (gf+1) (outW 64 8 sv (k+1)) (.slice A6 r c6) wr:=by rw [outW_succ _ _ _ _ hk8,← HX.out]; exact hs7
             have HFIN:=zY hfin;have HR6:=zY hr6;clear hfin hr6 hs7;go_wp2_with fail;exact ⟨⟨k+1,r,A6,c6,hk8,by rw [HR6.out,HQ.out]; omega,by go_num,rfl,HFIN.out⟩,by simp [intOf]; omega⟩
          ·have hge:¬ (k:Int)<8:=by omega
           obtain rfl:k=8:=by omega
           have HSO:=zY hso;obtain rfl:q=8*8:=hq;clear hso;go_wp2_with fail;go_ret;refine ⟨A5,c5,rfl,?_,by rw [HGF.out]; exact HSO.out.bel⟩;have h:=HSO.out.own;rw [outW_length _ _ _ _ (by omega)] at h
           have hd:outW 64 8 sv 8=digS F64 data:=by
            rw [HSV.out,digS,← HA128.out,HAL.out,HNB.out];show _=(s8L (runS F64 A128 (j*128/128))).flatMap _;rw [Nat.mul_div_cancel _ (by decide)];rfl
           rw [← hd];exact own_mono h (by rw [HGF.out]; omega)
theorem p512_any (data:List UInt8) (A:Option Addr) (c B:Nat) (w:World) (hr:Rd w B A (bytesV data)) (hB:B≤w.heap.size) (hl:data.length≤40000) (hc:data.length≤c) (hcm:c≤9223372036854775807) (hG:TabG w) :
  Calls Tryd.prog 49 #[.slice A data.length c] w (SumPost64 data w):=by
 have hs:=sum64_any data A c B w hr hB hl hc hcm hG;rw [f64C] at hs;go_enter Tryd.func49,Tryd.ntmps49;go_wp2_with fail;refine qab hs ?_;rintro e w' ⟨A2,c2,rfl,ho,hb⟩;have HO:=zY ho;have HB:=zY hb;clear ho hb hs;go_wp2_with fail;go_ret;exact ⟨A2,c2,rfl,HO.out,HB.out⟩
end Go.Proofs.YtjmfkinedhmglaaDoor.Sh
namespace Go.Proofs.YtjmfkinedhmglaaDoor
set_option linter.unusedSimpArgs false
set_option linter.unusedVariables false
set_option maxRecDepth 100000
set_option maxHeartbeats 4000000
open Go.RowKit
theorem qb0 (bs:List (List UInt8)) (vs:List Value) (o:Nat) (w:World) (hs:Segs w bs vs) (hb:Blk w o 22 vs.toArray) (hl:bs.flatten.length≤40000) (hn:bs.length≤4) (hG:Sh.TabG w) :
  Calls Tryd.prog 22 #[.slice (some ⟨o,0,none⟩) bs.length bs.length] w (Sh.SumPost64 bs.flatten w):=by
 have hc:=concat_any bs vs o w hs hb hl hn;have HC:=zY hc;have HG:=zY hG;have HL:=zY hl;clear hc hG hl hn hs hb;obtain ⟨n,hn0⟩:=eX (bs.length);rw [← hn0] at HC ⊢;clear hn0;go_enter Tryd.func22,Tryd.ntmps22;go_wp2_with fail;refine qab HC.out ?_;rintro e w1 ⟨A1,c1,rfl,ho,hb⟩;have hcap:=qcU ho;have hs:=Sh.p512_any bs.flatten A1 c1 w1.heap.size w1 (Rd.of_own ho (Nat.le_refl _)) (Nat.le_refl _) HL.out hcap.1 hcap.2 (HG.out.below hb HG.out.size);have HS:=zY hs;have HB:=zY hb;clear hs hcap ho hb;obtain ⟨m,hm⟩:=eX (bs.flatten.length);rw [← hm] at HS ⊢;clear hm;go_wp2_with fail;refine qab HS.out ?_;rintro e w2 ⟨A2,c2,rfl,ho2,hb2⟩;have HF:=zY (And.intro (own_mono ho2 HB.out.size) (HB.out.trans (hb2.mono HB.out.size)));clear ho2 hb2;go_wp2_with fail;go_ret;exact ⟨A2,c2,rfl,HF.out⟩
theorem and248:∀ x,x<256→x &&& (255 - 7)=x - x%8:=by decide +kernel
theorem and127:∀ x,x<256→x &&& (255 - 128)=x%128:=by decide +kernel
theorem or64s:∀ x,x<256→(x%128) ||| 64=x%64+64:=by decide +kernel
theorem bits_an7 {x:Nat} (h:x<256):bits .andNot .u8 (x:Int) 7=((x - x%8:Nat):Int):=by
 rw [← and248 x h];exact u8_andNot_nat x 7 h (by decide)
theorem bits_an128 {x:Nat} (h:x<256):bits .andNot .u8 (x:Int) 128=((x%128:Nat):Int):=by
 rw [← and127 x h];exact u8_andNot_nat x 128 h (by decide)
theorem bits_or64 {x:Nat} (h:x<256):bits .or .u8 ((x%128:Nat):Int) 64=((x%64+64:Nat):Int):=by
 rw [← or64s x h];exact u8_or_nat (x%128) 64 (by omega) (by decide)
theorem segs1 {w:World} {b:List UInt8} {A:Option Addr} {c:Nat} (h:Rd w w.heap.size A (bytesV b)):Segs w [b] [.slice A b.length c] :=
 ⟨rfl,fun i x hi=>by
  match i with
  | 0=>injection hi with hi; subst hi; exact ⟨A,c,rfl,h⟩
  | i+1=>cases hi⟩
theorem ssecret_any (data:List UInt8) (A:Option Addr) (c:Nat) (w:World) (hr:Rd w w.heap.size A (bytesV data)) (hl:data.length≤200) (hc:data.length≤c) (hG:Sh.TabG w) :
  Calls Tryd.prog 31 #[.slice A data.length c] w (SecPost (secL data) w):=by
 obtain ⟨n,hn⟩:=eX (data.length);have HR:=zY hr;have HG:=zY hG;have HL:=zY hl;have HN:=zY hn;rw [← hn] at hc ⊢;clear hr hG hl hn;go_enter Tryd.func31,Tryd.ntmps31;go_wp2_with fail;obtain ⟨w0,hw0⟩:=eX (w.alloc (.cells #[.slice A n c] 22));have hb0:Below w.heap.size w w0:=by rw [hw0]; exact below_new _ _
 have hk0:Blk w0 w.heap.size 22 [Value.slice A n c].toArray:=by rw [hw0]; exact Blk.new _ _ _
 have hs0:=qb0 [data] [.slice A data.length c] w.heap.size w0 (segs1 (qan HR.out hb0)) (by rw [← HN.out]; exact hk0) (by simpa using Nat.le_trans HL.out (by decide)) (by show 1≤4; decide) (HG.out.below hb0 HG.out.size);rw [show [data].flatten=data by simp] at hs0;rw [← hw0];have HS:=zY hs0;have HB0:=zY hb0;clear hs0 hk0 hb0 hw0;refine qab HS.out ?_;rintro e w1 ⟨A1,c1,rfl,ho,hb⟩;have hcap:=qcU (OwnX.of ho);obtain ⟨g,ys,rfl,hg,_,hblk⟩:=OwnZ.blk ho (by decide)
 have hlen:(secD data).length=64:=by
  have h:=ho.1;rw [qam] at h;rw [secD,digs,List.length_map,h]
 rw [← qbt] at hblk;obtain ⟨L,hL⟩:=eX (secD data);have hdg:Dg L:=by rw [hL]; exact qbG _
 rw [← hL] at hlen;have hst:SecW w g ys L w1:=⟨HB0.out.trans (hb.mono HB0.out.size),by rw [hL]; exact hblk,Nat.le_trans HB0.out.size hg⟩;have hkl:secL data=clampL L:=by rw [hL]; rfl
 obtain ⟨x,hx⟩:=eX (L.getD 0 0);obtain ⟨y,hy⟩:=eX (L.getD 31 0);have hxl:x<256:=by rw [hx]; exact qaV hdg 0
 have hyl:y<256:=by rw [hy]; exact qaV hdg 31
 obtain ⟨s,hss⟩:=eX (x - x%8);obtain ⟨t,ht⟩:=eX (y%128);obtain ⟨z,hz⟩:=eX (y%64+64);have hb1:bits .andNot .u8 (x:Int) 7=(s:Int):=by rw [hss]; exact bits_an7 hxl
 have hb2:bits .andNot .u8 (y:Int) 128=(t:Int):=by rw [ht]; exact bits_an128 hyl
 have hb3:bits .or .u8 (t:Int) 64=(z:Int):=by rw [ht,hz]; exact bits_or64 hyl
 have hkl2:secL data=(((L.set 0 s).set 31 t).set 31 z):=by
  rw [hkl,clampL,← hx,← hy,← hss,← hz,List.set_set]
 have d0:w1.cell? ⟨g,0,none⟩=some (.int .u8 (x:Int)):=by rw [hst.x.cell,sec_cell (by omega),hx]
 have d1:∀ u,SecW w g ys (L.set 0 s) u→u.cell? ⟨g,31,none⟩=some (.int .u8 (y:Int)):=fun u h=>by
  rw [h.x.cell,sec_cell (by rw [List.length_set]; omega),List.getD_eq_getElem?_getD,List.getElem?_set_ne (by decide),← List.getD_eq_getElem?_getD,hy]
 have d2:∀ u,SecW w g ys ((L.set 0 s).set 31 t) u→u.cell? ⟨g,31,none⟩=some (.int .u8 (t:Int)):=fun u h=>by
  rw [h.x.cell,sec_cell (by rw [List.length_set,List.length_set]; omega),List.getD_eq_getElem?_getD,List.getElem?_set_self (by rw [List.length_set]; omega)];rfl
 have q0:=hst.x.free 0
 have hst1:SecW w g ys (L.set 0 s) (w1.setCell ⟨g,0,none⟩ (.int .u8 (s:Int))):=by
  refine hst.put (qaf _ _ _ _) ?_;have h:=qag (i:=0) hst.x (.int .u8 (s:Int));rw [sec_set (by omega)] at h;exact h
 have e1:=d1 _ hst1;have q1:=hst1.x.free 31
 have hst2:SecW w g ys ((L.set 0 s).set 31 t) ((w1.setCell ⟨g,0,none⟩ (.int .u8 (s:Int))).setCell ⟨g,31,none⟩ (.int .u8 (t:Int))):=by
  refine hst1.put (qaf _ _ _ _) ?_;have h:=qag (i:=31) hst1.x (.int .u8 (t:Int));rw [sec_set (by rw [List.length_set]; omega)] at h;exact h
 have e2:=d2 _ hst2;have q2:=hst2.x.free 31
 have hst3:SecW w g ys (secL data) (((w1.setCell ⟨g,0,none⟩ (.int .u8 (s:Int))).setCell ⟨g,31,none⟩ (.int .u8 (t:Int))).setCell ⟨g,31,none⟩ (.int .u8 (z:Int))):=by
  rw [hkl2];refine hst2.put (qaf _ _ _ _) ?_;have h:=qag (i:=31) hst2.x (.int .u8 (z:Int));rw [sec_set (by rw [List.length_set,List.length_set]; omega)] at h;exact h
 have hxl':(x:Int)<256:=by omega
 have hsl':(s:Int)<256:=by omega
 have hyl':(y:Int)<256:=by omega
 have htl':(t:Int)<256:=by omega
 have hzl':(z:Int)<256:=by omega
 have hc64:64≤c1:=hcap.1;have hc63:c1≤9223372036854775807:=hcap.2;have HST:=zY hst3;clear d1 d2 hst hst1 hst2 hst3 hkl hkl2 hx hy hss ht hz hL hdg hlen ho hb hg hblk hxl hyl hcap;go_wp2_with fail;have HC0:=HST.out.drew;refine qaj (fun u=>SecW w g ys (secL data) u) (fun u=>SecW w g ys (secL data) u) [(0,some 23),(1,some 24),(2,some 25),(3,some 26),(4,some 2),(5,some 3)] (by kernel_rfl) (by kernel_rfl) (by decide) (by kernel_rfl) (fun _=>rfl) HC0 ?_;apply yN_
 ·apply dP [];exact fun _=>rfl;rfl;rintro vals - w1 hC1 E hE;simp only [sP] at hE ⊢;go_wp2;exact .mk (hE _ hC1)
 apply yN_
 ·apply dP [(0,some 23)];exact fun _=>rfl;rfl;intro vals vq w1 hC1 E hE;simp only [sP,vq] at hE ⊢;clear vq;go_wp2;exact .mk (hE _ hC1)
 apply yN_
 ·apply dP [];exact fun _=>rfl;rfl;intro vals vq w1 hC1 E hE;clear vq;simp only [sP] at hE ⊢;go_wp2;exact .mk (hE _ hC1)
 apply yN_
 ·apply dP [(2,some 25)];exact fun _=>rfl;rfl;intro vals vq w1 hC1 E hE;simp only [sP,vq] at hE ⊢;clear vq;go_wp2;exact .mk (hE _ hC1)
 apply yN_
 ·apply dP [(1,some 24),(0,some 23),(1,some 24)];exact fun _=>rfl;rfl;intro vals vq w1 hC1 E hE;simp only [sP,vq] at hE ⊢;clear vq;go_wp2;exact .mk (hE _ hC1)
 apply yL_
 ·apply dP [(3,some 26),(4,some 2),(0,some 23),(1,some 24),(2,some 25),(3,some 26),(4,some 2)];exact fun _=>rfl;rfl;intro vals vq w1 hC1 E hE;simp only [sP,vq] at hE ⊢;clear vq;go_wp2;exact .mk (hE _ hC1)
 intro vals vq w1 hC1;simp only [sP,vq];clear vq;obtain ⟨h1,h2⟩:=sec_rd hC1.x;have HF:=zY (And.intro h1 (And.intro h2 hC1.bel));clear HC0 hC1 h1 h2 HST;go_wp2_with fail;go_ret2;exact ⟨_,_,_,_,rfl,by omega,by omega,HF.out⟩
def axN (p:Pt4):Nat:=(mulE p.x (invE p.z)).val%PN
theorem oddP_ax (p:Pt4):oddP p=decide (axN p%2=1):=rfl
theorem set_self {l:List Nat} {k:Nat} (h:k<l.length):l.set k (l.getD k 0)=l:=by
 rw [List.getD_eq_getElem?_getD,List.getElem?_eq_getElem h];exact List.set_getElem_self h
def ayN (p:Pt4):Nat:=(leastE (mulE p.y (invE p.z))).val
theorem bytP_ax (p:Pt4):bytP p=if oddP p then (byN (ayN p)).set 31 ((byN (ayN p)).getD 31 0 ||| 128) else byN (ayN p):=rfl
theorem bytP_length (p:Pt4):(bytP p).length=32:=by
 rw [bytP_ax]
 split
 ·rw [List.length_set,qaO]
 ·exact qaO _
end Go.Proofs.YtjmfkinedhmglaaDoor
namespace Go.Proofs.YtjmfkinedhmglaaDoor.Ed
set_option linter.unusedSimpArgs false
set_option linter.unusedVariables false
set_option maxRecDepth 100000
set_option maxHeartbeats 4000000
variable {n:Nat} [NeZero n]
structure Fld (n:Nat) [NeZero n] (d:Fin n) (iv:Fin n→Fin n):Prop where
 iv1:∀ a:Fin n,a≠0→a*iv a=1
 one:(1:Fin n)≠0
 two:(2:Fin n)≠0
 i:∃ i:Fin n,i*i=-1
 ns:∀ w:Fin n,w*w≠d
theorem Fld.inv {d:Fin n} {iv:Fin n→Fin n} (F:Fld n d iv) (a:Fin n) (h:a≠0):∃ b,a*b=1:=⟨iv a,F.iv1 a h⟩
theorem mul_ne {d:Fin n} {iv:Fin n→Fin n} (F:Fld n d iv) {a b:Fin n} (ha:a≠0) (hb:b≠0):a*b≠0:=by
 intro h;obtain ⟨a',h1⟩:=F.inv a ha;obtain ⟨b',h2⟩:=F.inv b hb;apply F.one
 grind
theorem cancel {d:Fin n} {iv:Fin n→Fin n} (F:Fld n d iv) {a b c:Fin n} (hc:c≠0) (h:a*c=b*c):a=b:=by
 obtain ⟨c',h1⟩:=F.inv c hc
 grind
def On (d x y:Fin n):Prop:=y*y - x*x=1+d*x*x*y*y
theorem no_sq {d:Fin n} {iv:Fin n→Fin n} (F:Fld n d iv) {u v:Fin n} (hv:v≠0) (h:u*u=d*(v*v)):False:=by
 obtain ⟨v',h1⟩:=F.inv v hv;apply F.ns (u*v')
 grind
theorem complete {d:Fin n} {iv:Fin n→Fin n} (F:Fld n d iv) {x1 y1 x2 y2 e:Fin n} (h1:On d x1 y1) (h2:On d x2 y2) (he:e*e=1) (hk:d*x1*x2*y1*y2=e):False:=by
 obtain ⟨i,hi⟩:=F.i;unfold On at h1 h2;have he0:e≠0:=by intro h; apply F.one; grind
 have hx1:x1≠0:=by intro h; apply he0; grind
 have hy1:y1≠0:=by intro h; apply he0; grind
 have hy2:y2≠0:=by intro h; apply he0; grind
 have a1:(i*x1+e*y1)*(i*x1+e*y1)=d*((x1*y1*(i*x2+y2))*(x1*y1*(i*x2+y2))):=by grind
 have a2:(i*x1 - e*y1)*(i*x1 - e*y1)=d*((x1*y1*(i*x2 - y2))*(x1*y1*(i*x2 - y2))):=by grind
 by_cases z1:i*x2+y2=0
 ·by_cases z2:i*x2 - y2=0
  ·apply mul_ne F F.two hy2; grind
  ·exact no_sq F (mul_ne F (mul_ne F hx1 hy1) z2) a2
 ·exact no_sq F (mul_ne F (mul_ne F hx1 hy1) z1) a1
theorem den_p {d:Fin n} {iv:Fin n→Fin n} (F:Fld n d iv) {x1 y1 x2 y2:Fin n} (h1:On d x1 y1) (h2:On d x2 y2):1+d*x1*x2*y1*y2≠0:=by
 intro h;exact complete F h1 h2 (e:=-1) (by grind) (by grind)
theorem den_m {d:Fin n} {iv:Fin n→Fin n} (F:Fld n d iv) {x1 y1 x2 y2:Fin n} (h1:On d x1 y1) (h2:On d x2 y2):1 - d*x1*x2*y1*y2≠0:=by
 intro h;exact complete F h1 h2 (e:=1) (by grind) (by grind)
structure Sum (d x1 y1 x2 y2 x y:Fin n):Prop where
 x:x*(1+d*x1*x2*y1*y2)=x1*y2+y1*x2
 y:y*(1 - d*x1*x2*y1*y2)=y1*y2+x1*x2
theorem on_key {d x1 y1 x2 y2:Fin n} (h1:y1*y1 - x1*x1=1+d*x1*x1*y1*y1) (h2:y2*y2 - x2*x2=1+d*x2*x2*y2*y2) :
 (y1*y2+x1*x2)*(y1*y2+x1*x2)*((1+d*x1*x2*y1*y2)*(1+d*x1*x2*y1*y2)) - (x1*y2+y1*x2)*(x1*y2+y1*x2)*((1 - d*x1*x2*y1*y2)*(1 - d*x1*x2*y1*y2))=(1+d*x1*x2*y1*y2)*(1+d*x1*x2*y1*y2)*((1 - d*x1*x2*y1*y2)*(1 - d*x1*x2*y1*y2))+d*(x1*y2+y1*x2)*(x1*y2+y1*x2)*(y1*y2+x1*x2)*(y1*y2+x1*x2):=by grind -lia
theorem sum_on {d:Fin n} {iv:Fin n→Fin n} (F:Fld n d iv) {x1 y1 x2 y2 x y:Fin n} (h1:On d x1 y1) (h2:On d x2 y2) (s:Sum d x1 y1 x2 y2 x y):On d x y:=by
 have p:=den_p F h1 h2;have m:=den_m F h1 h2;obtain ⟨sx,sy⟩:=s;have key:=on_key h1 h2;unfold On;generalize hk:d*x1*x2*y1*y2=k at *;generalize hX:x1*y2+y1*x2=X at *;generalize hY:y1*y2+x1*x2=Y at *;refine cancel F (c:=(1+k)*(1+k)*((1 - k)*(1 - k))) (mul_ne F (mul_ne F p p) (mul_ne F m m)) ?_;clear h1 h2 hk hX hY p m
 grind -lia
theorem assoc_x {d x1 y1 x2 y2 x3 y3:Fin n}
 (e1:On d x1 y1) (e2:On d x2 y2) (e3:On d x3 y3) :
 ((x1*y2+y1*x2)*(1 - d*x1*x2*y1*y2)*y3+(y1*y2+x1*x2)*(1+d*x1*x2*y1*y2)*x3)*((1 - d*x2*x3*y2*y3)*(1+d*x2*x3*y2*y3)+d*x1*y1*(x2*y3+y2*x3)*(y2*y3+x2*x3))
 = (x1*(y2*y3+x2*x3)*(1+d*x2*x3*y2*y3)+y1*(x2*y3+y2*x3)*(1 - d*x2*x3*y2*y3))*((1 - d*x1*x2*y1*y2)*(1+d*x1*x2*y1*y2)+d*(x1*y2+y1*x2)*(y1*y2+x1*x2)*x3*y3):=by
 unfold On at *
 grind
theorem assoc_y {d x1 y1 x2 y2 x3 y3:Fin n}
 (e1:On d x1 y1) (e2:On d x2 y2) (e3:On d x3 y3) :
 ((y1*y2+x1*x2)*(1+d*x1*x2*y1*y2)*y3+(x1*y2+y1*x2)*(1 - d*x1*x2*y1*y2)*x3)*((1 - d*x2*x3*y2*y3)*(1+d*x2*x3*y2*y3) - d*x1*y1*(x2*y3+y2*x3)*(y2*y3+x2*x3))
 = (y1*(y2*y3+x2*x3)*(1+d*x2*x3*y2*y3)+x1*(x2*y3+y2*x3)*(1 - d*x2*x3*y2*y3))*((1 - d*x1*x2*y1*y2)*(1+d*x1*x2*y1*y2) - d*(x1*y2+y1*x2)*(y1*y2+x1*x2)*x3*y3):=by
 unfold On at *
 grind
theorem fac {d:Fin n} {iv:Fin n→Fin n} (F:Fld n d iv) {a b:Fin n} (h:a*b=0) (hb:b≠0):a=0:=cancel F hb (by grind)
theorem sum_assoc {d:Fin n} {iv:Fin n→Fin n} (F:Fld n d iv) {x1 y1 x2 y2 x3 y3 xs ys xt yt x y x' y':Fin n} (h1:On d x1 y1) (h2:On d x2 y2) (h3:On d x3 y3)
  (s:Sum d x1 y1 x2 y2 xs ys) (l:Sum d xs ys x3 y3 x y) (t:Sum d x2 y2 x3 y3 xt yt) (r:Sum d x1 y1 xt yt x' y'):x=x'∧y=y':=by
 have ax:=assoc_x h1 h2 h3;have ay:=assoc_y h1 h2 h3;have hs:=sum_on F h1 h2 s;have ht:=sum_on F h2 h3 t;have p1:=den_p F h1 h2;have m1:=den_m F h1 h2;have p2:=den_p F h2 h3;have m2:=den_m F h2 h3;have pl:=den_p F hs h3;have ml:=den_m F hs h3;have pr:=den_p F h1 ht;have mr:=den_m F h1 ht;obtain ⟨sx,sy⟩:=s;obtain ⟨lx,ly⟩:=l;obtain ⟨tx,ty⟩:=t;obtain ⟨rx,ry⟩:=r;clear h1 h2 h3 hs ht;have c1:=mul_ne F p1 m1;have c2:=mul_ne F p2 m2
 have e1:(1+d*x1*x2*y1*y2)*(1 - d*x1*x2*y1*y2)*(1+d*xs*x3*ys*y3)=(1 - d*x1*x2*y1*y2)*(1+d*x1*x2*y1*y2)+d*(x1*y2+y1*x2)*(y1*y2+x1*x2)*x3*y3:=by
  rw [← sx,← sy]; grind -lia
 have e2:(1+d*x1*x2*y1*y2)*(1 - d*x1*x2*y1*y2)*(1 - d*xs*x3*ys*y3)=(1 - d*x1*x2*y1*y2)*(1+d*x1*x2*y1*y2) - d*(x1*y2+y1*x2)*(y1*y2+x1*x2)*x3*y3:=by
  rw [← sx,← sy]; grind -lia
 have e3:(1+d*x2*x3*y2*y3)*(1 - d*x2*x3*y2*y3)*(1+d*x1*xt*y1*yt)=(1 - d*x2*x3*y2*y3)*(1+d*x2*x3*y2*y3)+d*x1*y1*(x2*y3+y2*x3)*(y2*y3+x2*x3):=by
  rw [← tx,← ty]; grind -lia
 have e4:(1+d*x2*x3*y2*y3)*(1 - d*x2*x3*y2*y3)*(1 - d*x1*xt*y1*yt)=(1 - d*x2*x3*y2*y3)*(1+d*x2*x3*y2*y3) - d*x1*y1*(x2*y3+y2*x3)*(y2*y3+x2*x3):=by
  rw [← tx,← ty]; grind -lia
 rw [← e1,← e3,← sx,← sy,← tx,← ty] at ax;rw [← e2,← e4,← sx,← sy,← tx,← ty] at ay;clear e1 e2 e3 e4 sx sy tx ty;generalize 1+d*x1*x2*y1*y2=u1 at *;generalize 1 - d*x1*x2*y1*y2=v1 at *;generalize 1+d*x2*x3*y2*y3=u2 at *;generalize 1 - d*x2*x3*y2*y3=v2 at *;generalize 1+d*xs*x3*ys*y3=u3 at *;generalize 1 - d*xs*x3*ys*y3=v3 at *;generalize 1+d*x1*xt*y1*yt=u4 at *;generalize 1 - d*x1*xt*y1*yt=v4 at *;have q1:((xs*y3+ys*x3)*(u1*v1))*(u2*v2*u4)=((x1*yt+y1*xt)*(u2*v2))*(u1*v1*u3):=by grind -lia
 have q2:((ys*y3+xs*x3)*(u1*v1))*(u2*v2*v4)=((y1*yt+x1*xt)*(u2*v2))*(u1*v1*v3):=by grind -lia
 rw [← lx,← rx] at q1;rw [← ly,← ry] at q2
 constructor
 ·refine cancel F (c:=(u1*v1)*(u2*v2)*(u3*u4)) (mul_ne F (mul_ne F c1 c2) (mul_ne F pl pr)) ?_;clear ax ay q2 lx ly rx ry
  grind -lia
 ·refine cancel F (c:=(u1*v1)*(u2*v2)*(v3*v4)) (mul_ne F (mul_ne F c1 c2) (mul_ne F ml mr)) ?_;clear ax ay q1 lx ly rx ry
  grind -lia
theorem sum_one {d:Fin n} {iv:Fin n→Fin n} (F:Fld n d iv) {x1 y1 x2 y2 x y x' y':Fin n} (h1:On d x1 y1) (h2:On d x2 y2) (s:Sum d x1 y1 x2 y2 x y) (t:Sum d x1 y1 x2 y2 x' y'):x=x'∧y=y' :=
 ⟨cancel F (den_p F h1 h2) (s.x.trans t.x.symm),cancel F (den_m F h1 h2) (s.y.trans t.y.symm)⟩
theorem sum_comm {d x1 y1 x2 y2 x y:Fin n} (s:Sum d x1 y1 x2 y2 x y):Sum d x2 y2 x1 y1 x y:=by
 obtain ⟨sx,sy⟩:=s
 constructor
 ·grind -lia
 ·grind -lia
theorem zero_on (d:Fin n):On d 0 1:=by unfold On; grind -lia
theorem neg_on {d x y:Fin n} (h:On d x y):On d (-x) y:=by unfold On at *; grind -lia
theorem sum_zero (d x y:Fin n):Sum d x y 0 1 x y:=by constructor <;> grind -lia
theorem sum_neg {d x y:Fin n} (h:On d x y):Sum d x y (-x) y 0 1:=by unfold On at h; constructor <;> grind -lia
structure Pn (n:Nat) [NeZero n] (d:Fin n) where
 x:Fin n
 y:Fin n
 on:On d x y
theorem Pn.eq {d:Fin n} {P Q:Pn n d} (h:P.x=Q.x) (k:P.y=Q.y):P=Q:=by
 cases P; cases Q; subst h; subst k; rfl
def sumX (d:Fin n) (iv:Fin n→Fin n) (x1 y1 x2 y2:Fin n):Fin n:=(x1*y2+y1*x2)*iv (1+d*x1*x2*y1*y2)
def sumY (d:Fin n) (iv:Fin n→Fin n) (x1 y1 x2 y2:Fin n):Fin n:=(y1*y2+x1*x2)*iv (1 - d*x1*x2*y1*y2)
theorem sum_is {d:Fin n} {iv:Fin n→Fin n} (F:Fld n d iv) {x1 y1 x2 y2:Fin n} (h1:On d x1 y1) (h2:On d x2 y2):Sum d x1 y1 x2 y2 (sumX d iv x1 y1 x2 y2) (sumY d iv x1 y1 x2 y2):=by
 have ha:=F.iv1 _ (den_p F h1 h2);have hb:=F.iv1 _ (den_m F h1 h2)
 constructor
 ·unfold sumX; generalize iv (1+d*x1*x2*y1*y2)=v at *; grind -lia
 ·unfold sumY; generalize iv (1 - d*x1*x2*y1*y2)=v at *; grind -lia
section
variable {d:Fin n} {iv:Fin n→Fin n} (F:Fld n d iv)
def add (P Q:Pn n d):Pn n d:=⟨sumX d iv P.x P.y Q.x Q.y,sumY d iv P.x P.y Q.x Q.y,sum_on F P.on Q.on (sum_is F P.on Q.on)⟩
theorem add_sum (P Q:Pn n d):Sum d P.x P.y Q.x Q.y (add F P Q).x (add F P Q).y:=sum_is F P.on Q.on
theorem add_eq {P Q R:Pn n d} (h:Sum d P.x P.y Q.x Q.y R.x R.y):add F P Q=R:=Pn.eq (sum_one F P.on Q.on (add_sum F P Q) h).1 (sum_one F P.on Q.on (add_sum F P Q) h).2
def zero (d:Fin n):Pn n d:=⟨0,1,zero_on d⟩
def neg (P:Pn n d):Pn n d:=⟨-P.x,P.y,neg_on P.on⟩
theorem add_assoc (P Q R:Pn n d):add F (add F P Q) R=add F P (add F Q R) :=
 have h:=sum_assoc F P.on Q.on R.on (add_sum F P Q) (add_sum F (add F P Q) R) (add_sum F Q R) (add_sum F P (add F Q R))
 Pn.eq h.1 h.2
theorem add_comm (P Q:Pn n d):add F P Q=add F Q P:=add_eq F (sum_comm (add_sum F Q P))
theorem add_zero (P:Pn n d):add F P (zero d)=P:=add_eq F (sum_zero d P.x P.y)
theorem zero_add (P:Pn n d):add F (zero d) P=P:=by rw [add_comm,add_zero]
theorem add_neg (P:Pn n d):add F P (neg P)=zero d:=add_eq F (sum_neg P.on)
theorem add_right {P Q R:Pn n d} (h:add F P R=add F Q R):P=Q:=by
 rw [← add_zero F P,← add_zero F Q,← add_neg F R,← add_assoc,← add_assoc,h]
theorem neg_eq {P Q:Pn n d} (h:add F P Q=zero d):P=neg Q:=add_right F (h.trans ((add_comm F _ _).trans (add_neg F Q)).symm)
include F in
def mul (P:Pn n d):Nat→Pn n d
 | 0=>zero d
 | k+1=>add F (mul P k) P
theorem mul_add (P:Pn n d) (a:Nat):∀ b,mul F P (a+b)=add F (mul F P a) (mul F P b)
 | 0=>(add_zero F _).symm
 | b+1=>by
  show add F (mul F P (a+b)) P=add F (mul F P a) (add F (mul F P b) P);rw [mul_add P a b,add_assoc]
theorem mul_one (P:Pn n d):mul F P 1=P:=zero_add F P
theorem mul_two (P:Pn n d) (k:Nat):mul F P (2*k)=add F (mul F P k) (mul F P k):=by rw [Nat.two_mul,mul_add]
theorem mul_mul (P:Pn n d) (a:Nat):∀ b,mul F P (a*b)=mul F (mul F P a) b
 | 0=>rfl
 | b+1=>by rw [Nat.mul_succ,mul_add,mul_mul P a b]; rfl
theorem mul_zero:∀ b:Nat,mul F (zero d) b=zero d
 | 0=>rfl
 | b+1=>(add_zero F _).trans (mul_zero b)
end
theorem four {d:Fin n} {iv:Fin n→Fin n} (F:Fld n d iv) {x1 y1 z1 x2 y2 z2 x y a b c z e f g h X1 Y1 T1 X2 Y2 T2 tw:Fin n} (h1:On d x1 y1) (h2:On d x2 y2) (s:Sum d x1 y1 x2 y2 x y)
  (hz1:z1≠0) (hz2:z2≠0) (hX1:X1=x1*z1) (hY1:Y1=y1*z1) (hT1:T1=x1*y1*z1) (hX2:X2=x2*z2) (hY2:Y2=y2*z2) (hT2:T2=x2*y2*z2) (htw:tw=d+d)
  (ha:a=(Y1 - X1)*(Y2 - X2)) (hb:b=(Y1+X1)*(Y2+X2)) (hc:c=T1*tw*T2) (hz:z=z1*z2) (he:e=b - a) (hh:h=b+a) (hf:f=z+z - c) (hg:g=z+z+c) :
  f*g≠0∧e*f=x*(f*g)∧g*h=y*(f*g)∧e*h=x*y*(f*g):=by
 have p:=den_p F h1 h2;have m:=den_m F h1 h2;have h2z:=mul_ne F F.two (mul_ne F hz1 hz2);obtain ⟨sx,sy⟩:=s;subst ha hb hc hz he hh hf hg hX1 hY1 hT1 hX2 hY2 hT2 htw;have f1:z1*z2+z1*z2 - x1*y1*z1*(d+d)*(x2*y2*z2)=2*(z1*z2)*(1 - d*x1*x2*y1*y2):=by clear sx sy p m h2z; grind -lia
 have g1:z1*z2+z1*z2+x1*y1*z1*(d+d)*(x2*y2*z2)=2*(z1*z2)*(1+d*x1*x2*y1*y2):=by clear sx sy p m h2z; grind -lia
 have e1:(y1*z1+x1*z1)*(y2*z2+x2*z2) - (y1*z1 - x1*z1)*(y2*z2 - x2*z2)=2*(z1*z2)*(x*(1+d*x1*x2*y1*y2)):=by rw [sx]; clear sx sy p m h2z; grind -lia
 have i1:(y1*z1+x1*z1)*(y2*z2+x2*z2)+(y1*z1 - x1*z1)*(y2*z2 - x2*z2)=2*(z1*z2)*(y*(1 - d*x1*x2*y1*y2)):=by rw [sy]; clear sx sy p m h2z; grind -lia
 rw [f1,g1,e1,i1];clear sx sy f1 g1 e1 i1 h1 h2;generalize 1+d*x1*x2*y1*y2=u at *;generalize 1 - d*x1*x2*y1*y2=v at *;refine ⟨mul_ne F (mul_ne F h2z m) (mul_ne F h2z p),?_,?_,?_⟩ <;> clear F h2z m p hz1 hz2 <;> grind -lia
end Go.Proofs.YtjmfkinedhmglaaDoor.Ed
namespace Go.Proofs.YtjmfkinedhmglaaDoor
set_option linter.unusedSimpArgs false
set_option linter.unusedVariables false
set_option maxRecDepth 100000
set_option maxHeartbeats 4000000
open Go.RowKit
section
variable {n:Nat} [NeZero n]
theorem gn_add (a b:Nat):Fin.ofNat n (a+b)=Fin.ofNat n a+Fin.ofNat n b:=by
 apply Fin.ext;rw [Fin.val_add];simp only [Fin.ofNat];rw [← Nat.add_mod]
theorem gn_mul (a b:Nat):Fin.ofNat n (a*b)=Fin.ofNat n a*Fin.ofNat n b:=by
 apply Fin.ext;rw [Fin.val_mul];simp only [Fin.ofNat];rw [← Nat.mul_mod]
theorem gn_eq {a b:Nat}:Fin.ofNat n a=Fin.ofNat n b↔a%n=b%n:=by
 constructor
 ·intro h;have:=congrArg Fin.val h
  simpa only [Fin.ofNat] using this
 ·intro h;apply Fin.ext
  simpa only [Fin.ofNat] using h
theorem gn_val (x:Fin n):Fin.ofNat n x.val=x:=Fin.ext (Nat.mod_eq_of_lt x.isLt)
theorem gn_sub {a b c:Nat} (h:(a+b)%n=c%n):Fin.ofNat n a=Fin.ofNat n c - Fin.ofNat n b:=by
 have h1:Fin.ofNat n a+Fin.ofNat n b=Fin.ofNat n c:=by rw [← gn_add]; exact gn_eq.2 h
 rw [← h1];generalize Fin.ofNat n a=x;generalize Fin.ofNat n b=y
 grind -lia
end
instance:NeZero PN:=⟨by decide⟩
abbrev FP:=Fin PN
def fn (a:Nat):FP:=Fin.ofNat PN a
theorem fn_add (a b:Nat):fn (a+b)=fn a+fn b:=gn_add a b
theorem fn_mul (a b:Nat):fn (a*b)=fn a*fn b:=gn_mul a b
theorem fn_eq {a b:Nat}:fn a=fn b↔a%PN=b%PN:=gn_eq
theorem qc5 (x:FP):fn x.val=x:=gn_val x
theorem val_fn (a:Nat):(fn a).val=a%PN:=rfl
theorem fn_one:fn 1=1:=rfl
theorem fn_zero:fn 0=0:=rfl
theorem fn_ne {a:Nat}:fn a≠0↔a%PN≠0:=by
 rw [← fn_zero,Ne,fn_eq,Nat.zero_mod]
def dF:FP:=fn dN
def ivF (a:FP):FP:=fn (a.val^(PN - 2))
theorem iv_one (a:FP) (h:a≠0):a*ivF a=1:=by
 obtain ⟨e,he⟩:=eX (PN - 2);have he1:PN - 1=e+1:=by rw [he]; decide
 have h1:a.val%PN≠0:=by rw [← fn_ne,qc5]; exact h
 have h2:=fermatP a.val h1;rw [he1,Nat.pow_succ] at h2;rw [ivF,← he]
 conv=>lhs; lhs; rw [← qc5 a]
 rw [← fn_mul,← fn_one,fn_eq,Nat.mul_comm,h2]
 decide
def rootN:Nat:=19681161376707505956807079304988542015446066515923890162744021073123829784752
def halfL:List Nat:=(List.range 32).map fun j=>(PN - 1)/2/256^j%256
theorem half_val:leV halfL=(PN - 1)/2:=by decide
theorem d_half:dN^((PN - 1)/2)%PN=PN - 1:=by
 rw [← half_val,← pm_eq]
 decide
theorem d_none (w:FP):w*w≠dF:=by
 intro h;obtain ⟨k,hk⟩:=eX ((PN - 1)/2);have hk2:PN - 1=k+k:=by rw [hk]; decide
 have hd:=d_half;rw [← hk] at hd;have h1:w.val*w.val%PN=dN%PN:=by rw [← fn_eq,fn_mul,qc5]; exact h
 by_cases hw:w.val%PN=0
 ·rw [Nat.mul_mod,hw] at h1;exact absurd h1 (by decide)
 ·have h2:=fermatP w.val hw;rw [hk2,Nat.pow_add,← Nat.mul_pow,Nat.pow_mod,h1,← Nat.pow_mod,hd] at h2;exact absurd h2 (by decide)
theorem FF:Ed.Fld PN dF ivF where
 iv1:=iv_one
 one:=by decide
 two:=by decide
 i:=⟨fn rootN,by decide⟩
 ns:=d_none
abbrev PtF:=Ed.Pn PN dF
def fv (x:E5):FP:=fn x.val
theorem qc3 (x y:E5):fv (addE x y)=fv x+fv y:=by rw [fv,fv,fv,← fn_add]; exact fn_eq.2 (sm_add x y)
theorem qaK (x y:E5):fv (mulE x y)=fv x*fv y:=by rw [fv,fv,fv,← fn_mul]; exact fn_eq.2 (sm_mul x y)
theorem qbW {x y:E5} (hy:y.Ok):fv (subE x y)=fv x - fv y:=gn_sub (sm_sub hy)
theorem fv_inv (x:E5):fv (invE x)=ivF (fv x):=by
 rw [fv,fv,ivF];refine fn_eq.2 ?_;rw [invE_val,val_fn];generalize PN - 2=e;rw [Nat.pow_mod]
theorem fv_int (n:Nat):fv (intE (n:Int))=fn n:=by rw [fv,intE_nat,natE_val]
theorem fv_z:fv zE=0:=rfl
structure Is (p:Pt4) (P:PtF):Prop where
 z:fv p.z≠0
 x:fv p.x=P.x*fv p.z
 y:fv p.y=P.y*fv p.z
 t:fv p.t=P.x*P.y*fv p.z
def plus (P Q:PtF):PtF:=Ed.add FF P Q
def times (P:PtF) (k:Nat):PtF:=Ed.mul FF P k
def zeroF:PtF:=Ed.zero dF
theorem Is.sum {p q:Pt4} {P Q:PtF} {tw:E5} (hp:p.Ok) (hq:q.Ok) (hw:tw.Ok) (ht:fv tw=dF+dF) (h:Is p P) (k:Is q Q):Is (sumP p q tw) (plus P Q):=by
 have okA:=qaq (qaP hp.y hp.x) (qaP hq.y hq.x);have okC:=qaq (qaq hp.t hw) hq.t;obtain ⟨r1,r2,r3,r4⟩:=Ed.four FF P.on Q.on (Ed.add_sum FF P Q) h.z k.z h.x h.y h.t k.x k.y k.t ht rfl rfl rfl rfl rfl rfl rfl rfl;rw [← qbW hp.x,← qbW hq.x,← qc3,← qc3,← qaK,← qaK,← qaK,← qaK,← qaK,← qbW okA,← qc3,← qc3,← qbW okC,← qc3] at *;exact ⟨by rw [sumP,qaK]; exact r1,by rw [sumP,qaK,qaK]; exact r2,by rw [sumP,qaK,qaK]; exact r3,by rw [sumP,qaK,qaK]; exact r4⟩
theorem Is.neg {p:Pt4} {P:PtF} (hp:p.Ok) (h:Is p P):Is (negP p) (Ed.neg P):=by
 refine ⟨h.z,?_,h.y,?_⟩
 ·show fv (subE zE p.x)=-P.x*fv p.z;rw [qbW hp.x,fv_z,h.x]
  grind -lia
 ·show fv (subE zE p.t)=-P.x*P.y*fv p.z;rw [qbW hp.t,fv_z,h.t]
  grind -lia
theorem is_of {x y:E5} {P:PtF} (hx:fv x=P.x) (hy:fv y=P.y):Is (ofP x y) P:=by
 have h1:fv (intE 1)=1:=fv_int 1;refine ⟨?_,?_,?_,?_⟩
 ·show fv (intE 1)≠0;rw [h1]; exact FF.one
 ·show fv x=P.x*fv (intE 1);rw [h1,hx]; grind -lia
 ·show fv y=P.y*fv (intE 1);rw [h1,hy]; grind -lia
 ·show fv (mulE x y)=P.x*P.y*fv (intE 1);rw [h1,qaK,hx,hy]; grind -lia
theorem is_zero:Is zeroP zeroF:=is_of (fv_int 0) (fv_int 1)
theorem base_on:Ed.On dF (fn bxN) (fn byNN):=by unfold Ed.On; decide
def baseF:PtF:=⟨fn bxN,fn byNN,base_on⟩
theorem is_base:Is baseP baseF:=by
 have h:∀ x y,fn x.val=baseF.x→fn y.val=baseF.y→Is (ofP x y) baseF:=fun x y hx hy=>is_of hx hy;exact h _ _ (by rw [bx_val]; rfl) (by rw [by_val]; rfl)
theorem fv_d:fv dE=dF:=by rw [fv,dE_val,dF]
theorem fv_d2:fv (addE dE dE)=dF+dF:=by rw [qc3,fv_d]
theorem Is.add {p q:Pt4} {P Q:PtF} (hp:p.Ok) (hq:q.Ok) (h:Is p P) (k:Is q Q):Is (addP p q) (plus P Q):=Is.sum hp hq d2_ok fv_d2 h k
section
variable {p:Pt4} {P:PtF} {T:E5} (hT:T.Ok) (ht:fv T=dF+dF) (hp:p.Ok) (h:Is p P)
include hT ht hp h
theorem is_S {out:Pt4} {n bit:Nat} (ho:out.Ok) (k:Is out (times P n)) (hb:bit<2):Is (pmS T p out bit) (times P (2*n+bit)):=by
 have h2:Is (sumP out out T) (times P (2*n)):=by
  have:=Is.sum ho ho hT ht k k
  rwa [show plus (times P n) (times P n)=times P (2*n) from (Ed.mul_two FF P n).symm] at this
 unfold pmS
 split
 ·next e =>
  rw [e];exact Is.sum (qcj ho ho hT) hp hT ht h2 h
 ·next e =>
  obtain rfl:bit=0:=by omega
  exact h2
theorem is_B {out:Pt4} {n:Nat} (ho:out.Ok) (k:Is out (times P n)) (b:Nat):∀ j,j≤8→Is (pmB T p out b j) (times P (n*2^j+b%256/2^(8 - j)))
 | 0,_=>by
  have e:b%256/2^(8 - 0)=0:=Nat.div_eq_of_lt (Nat.mod_lt _ (by decide));rw [e,Nat.pow_zero,Nat.mul_one,Nat.add_zero];exact k
 | j+1,hj=>by
  have ih:=is_B ho k b j (by omega);have e:=is_S hT ht hp h (bit:=b/2^(7 - j)%2) (pmB_ok hT hp ho b j) ih (Nat.mod_lt _ (by decide));rw [pmB];have hp:2^(8 - j)=2^(7 - j)*2:=by rw [← Nat.pow_succ]; congr 1; omega
  have h1:b%256/2^(8 - j)=b%256/2^(7 - j)/2:=by rw [hp,Nat.div_div_eq_div_mul]
  have h2:b/2^(7 - j)%2=b%256/2^(7 - j)%2:=by
   obtain ⟨d,hd⟩:∃ d,8=(7 - j)+(1+d):=⟨j,by omega⟩
   have h8:2^(7 - j)*(2*2^d)=256:=by
    have h9:2^((7 - j)+(1+d))=256:=by rw [← hd]
    rw [Nat.pow_add,Nat.pow_add,Nat.pow_one] at h9;exact h9
   obtain ⟨c,hc⟩:=eX (b/256);have e4:2^(7 - j)*(2*(2^d*c))=256*c:=by rw [← h8]; simp only [Nat.mul_assoc]
   have e3:b=b%256+2^(7 - j)*(2*(2^d*c)):=by rw [e4,hc]; exact (Nat.mod_add_div b 256).symm
   conv=>lhs; rw [e3,Nat.add_mul_div_left _ _ (Nat.two_pow_pos _),Nat.add_mul_mod_self_left]
  have e6:2*(n*2^j+b%256/2^(8 - j))+b/2^(7 - j)%2=n*2^(j+1)+b%256/2^(8 - (j+1)):=by
   rw [h1,h2,show 8 - (j+1)=7 - j by omega,Nat.pow_succ]
   have e5:2*(n*2^j+b%256/2^(7 - j)/2)=n*(2^j*2)+2*(b%256/2^(7 - j)/2):=by
    rw [Nat.mul_add,← Nat.mul_assoc n,Nat.mul_comm 2 (n*2^j)]
   rw [e5];omega
  rwa [e6] at e
theorem is_L (l:List Nat) (hl:∀ d ∈ l,d<256):∀ j,j≤l.length→Is (pmL T p l j) (times P (leV (l.drop (l.length - j))))
 | 0,_=>by
  rw [Nat.sub_zero,List.drop_length,leV,pmL];exact is_zero
 | j+1,hj=>by
  have hlt:l.length - 1 - j<l.length:=by omega
  have hd:l.getD (l.length - 1 - j) 0=l[l.length - 1 - j]:=by rw [List.getD_eq_getElem?_getD,List.getElem?_eq_getElem hlt]; rfl
  have hb:l[l.length - 1 - j]<256:=hl _ (List.getElem_mem hlt);have e:=is_B hT ht hp h (pmL_ok hT hp l j) (is_L l hl j (by omega)) l[l.length - 1 - j] 8 (Nat.le_refl _);rw [pmL,hd,show l.length - (j+1)=l.length - 1 - j by omega,List.drop_eq_getElem_cons hlt,leV,show l.length - 1 - j+1=l.length - j by omega];rw [Nat.mod_eq_of_lt hb,show 8 - 8=0 from rfl,Nat.pow_zero,Nat.div_one,show (2:Nat)^8=256 from rfl,Nat.mul_comm,Nat.add_comm] at e;exact e
end
theorem Is.mul {p:Pt4} {P:PtF} (hp:p.Ok) (h:Is p P) (l:List UInt8):Is (mulP p l) (times P (leV (digs (l.take 32)))):=by
 have e:=is_L d2_ok fv_d2 hp h (digs (l.take 32)) (qbn _) (min l.length 32) (by rw [digs,List.length_map,List.length_take,Nat.min_comm]; exact Nat.le_refl _);rw [show (digs (l.take 32)).length - min l.length 32=0 by rw [digs,List.length_map,List.length_take,Nat.min_comm,Nat.sub_self],List.drop_zero] at e;exact e
section
variable {n:Nat} [NeZero n]
def pwG (x:Fin n):Nat→Fin n
 | 0=>1
 | k+1=>pwG x k*x
theorem pwG_one (x:Fin n):pwG x 1=x:=by show 1*x=x; grind -lia
theorem pwG_add (x:Fin n) (a:Nat):∀ b,pwG x (a+b)=pwG x a*pwG x b
 | 0=>by show pwG x a=pwG x a*1; grind -lia
 | b+1=>by
  show pwG x (a+b)*x=pwG x a*(pwG x b*x);rw [pwG_add x a b]
  grind -lia
theorem pwG_pw (x:Fin n) (a:Nat):∀ b,pwG x (a*b)=pwG (pwG x a) b
 | 0=>rfl
 | b+1=>by rw [Nat.mul_succ,pwG_add,pwG_pw x a b]; rfl
theorem gn_pow (a:Nat):∀ k,Fin.ofNat n (a^k)=pwG (Fin.ofNat n a) k
 | 0=>rfl
 | k+1=>by rw [Nat.pow_succ,gn_mul,gn_pow a k]; rfl
end
def pw (x:FP) (k:Nat):FP:=pwG x k
theorem fn_pow (a k:Nat):fn (a^k)=pw (fn a) k:=gn_pow a k
theorem pw_pw (x:FP) (a b:Nat):pw x (a*b)=pw (pw x a) b:=pwG_pw x a b
theorem pw_add (x:FP) (a b:Nat):pw x (a+b)=pw x a*pw x b:=pwG_add x a b
theorem pw_one (x:FP):pw x 1=x:=pwG_one x
theorem pw_fermat {x:FP} (h:x≠0):pw x (PN - 1)=1:=by
 have h1:x.val%PN≠0:=by rw [← fn_ne,qc5]; exact h
 have h2:=fermatP x.val h1;rw [← qc5 x,← fn_pow,← fn_one,fn_eq,h2]
 decide
section
variable {n:Nat} [NeZero n] {d:Fin n} {iv:Fin n→Fin n} (F:Ed.Fld n d iv)
include F
theorem g_zero {a b:Fin n} (h:a*b=0):a=0∨b=0:=by
 by_cases hb:b=0
 ·exact .inr hb
 ·exact .inl (Ed.fac F h hb)
theorem g_one {w:Fin n} (h:w*w=1):w=1∨w=-1:=by
 have h1:(w - 1)*(w+1)=0:=by grind -lia
 rcases g_zero F h1 with h2 | h2
 ·left; clear h1 h; grind -lia
 ·right; clear h1 h; grind -lia
theorem g_two {v x y u:Fin n} (hv:v≠0) (h:v*(x*x)=u) (k:v*(y*y)=u):y=x∨y=-x:=by
 have h1:(y - x)*(y+x)*v=0:=by grind -lia
 have h2:=Ed.fac F h1 hv
 rcases g_zero F h2 with h3 | h3
 ·left; clear h1 h2 h k; grind -lia
 ·right; clear h1 h2 h k; grind -lia
theorem g_den (y:Fin n):y*y*d+1≠0:=by
 intro h;obtain ⟨i,hi⟩:=F.i
 by_cases hy:y=0
 ·apply F.one; subst hy; grind -lia
 ·exact Ed.no_sq F (u:=i) (v:=y) hy (by grind -lia)
omit F
theorem g_on (x y:Fin n):Ed.On d x y↔(y*y*d+1)*(x*x)=y*y - 1:=by
 unfold Ed.On
 constructor
 ·intro h; grind -lia
 ·intro h; grind -lia
theorem g_h1 {u v x t:Fin n} (ht:t*t=-1) (h:v*x*x=u):v*(x*x)=u:=by grind -lia
theorem g_h2 {u v x t:Fin n} (ht:t*t=-1) (h:v*x*x=0 - u):v*((x*t)*(x*t))=u:=by grind -lia
theorem g_pow {u v p:Fin n}:v*(u*(v*v*v)*p)*(u*(v*v*v)*p)=u*(p*p*(u*(v*v*v)*(v*v*v)*v)):=by grind -lia
theorem g_sq {u v z:Fin n} (h:v*(z*z)=u):u*(v*v*v)*(v*v*v)*v=(z*(v*v*v*v))*(z*(v*v*v*v)):=by rw [← h]; grind -lia
theorem g_mul1 (x:Fin n):x*1=x:=by grind -lia
theorem g_mulm (x:Fin n):x*-1=0 - x:=by grind -lia
theorem g_mz (x:Fin n):x*0=0:=by grind -lia
theorem g_zm (x:Fin n):0*x=0:=by grind -lia
theorem g_z0 (x:Fin n):(0:Fin n) - x=-x:=by grind -lia
end
theorem f_one {w:FP} (h:w*w=1):w=1∨w=-1:=g_one FF h
def kQ:Nat:=(PN - 1)/4
theorem kQ4:kQ*4=PN - 1:=by decide
theorem pw_quarter {z:FP} (h:z≠0):pw z (kQ*2)=1∨pw z (kQ*2)=-1:=by
 refine f_one ?_;rw [← pw_add,← Nat.mul_add,kQ4];exact pw_fermat h
def byP (x y:Nat):List Nat:=if x%2=1 then (byN y).set 31 ((byN y).getD 31 0+128) else byN y
theorem byN_high {V:Nat} (h:V<PN):(byN V).getD 31 0<128:=by
 have e:=byN_at V 31 (by decide);rw [List.getD_eq_getElem?_getD,e];show V/256^31%256<128;have h2:V/256^31<128:=Nat.div_lt_of_lt_mul (Nat.lt_trans h (by decide));omega
theorem or_add:∀ x,x<128→x ||| 128=x+128:=by decide
def byF (P:PtF):List Nat:=byP P.x.val P.y.val
theorem ax_is {p:Pt4} {P:PtF} (h:Is p P):axN p=P.x.val:=by
 have e:fv (mulE p.x (invE p.z))=P.x:=by
  rw [qaK,fv_inv,h.x];have:=FF.iv1 _ h.z;generalize ivF (fv p.z)=i at *;generalize fv p.z=z at *;rw [Fin.mul_assoc,this,g_mul1]
 rw [← e]; rfl
theorem ay_is {p:Pt4} {P:PtF} (hp:p.Ok) (h:Is p P):ayN p=P.y.val:=by
 have e:fv (mulE p.y (invE p.z))=P.y:=by
  rw [qaK,fv_inv,h.y];have:=FF.iv1 _ h.z;generalize ivF (fv p.z)=i at *;generalize fv p.z=z at *;rw [Fin.mul_assoc,this,g_mul1]
 rw [ayN,qbE (qaq hp.y (invE_ok hp.z)).big,← e]; rfl
theorem bytP_is {p:Pt4} {P:PtF} (hp:p.Ok) (h:Is p P):bytP p=byF P:=by
 rw [bytP_ax,oddP_ax,ax_is h,ay_is hp h,byF,byP];have hx:=byN_high P.y.isLt;rw [or_add _ hx]
 by_cases ho:P.x.val%2=1
 ·rw [if_pos ho,if_pos (decide_eq_true ho)]
 ·rw [if_neg ho,if_neg (by simpa using ho)]
theorem byP_len (x y:Nat):(byP x y).length=32:=by
 rw [byP]
 split
 ·rw [List.length_set,qaO]
 ·exact qaO _
theorem byP_dg {x y:Nat} (hy:y<PN):Dg (byP x y):=by
 rw [byP]
 split
 ·exact dg_set (byN_lt _) _ _ (by have:=byN_high hy; omega)
 ·exact byN_lt _
theorem fn_val_lt {a:Nat} (h:a<PN):(fn a).val=a:=by rw [val_fn,Nat.mod_eq_of_lt h]
def LN:Nat:=7237005577332262213973186563042994240857116359379907606001950938285454250989
def oL (l:List Nat) (j:Nat):List Nat:=l.take j++(List.replicate (31 - j) 0++[16])
structure LS (w0:World) (o:Nat) (l:List Nat) (ad:Addr) (j:Nat) (u:World):Prop where
 bel:Below w0.heap.size w0 u
 out:Blk u o 3 (dV (oL l j)).toArray
 s:Rd u u.heap.size (some ad) (dV l)
theorem LS.drew {w0 u:World} {o:Nat} {l:List Nat} {ad:Addr} {j:Nat} (k:LS w0 o l ad j u):LS w0 o l ad j u.drew:=⟨k.bel.drew,k.out,k.s⟩
def vI:List Int→Int
 | []=>0
 | x :: r=>x+256*vI r
theorem qcL:∀ (l:List Int) (j:Nat) (v:Int),j<l.length→vI (l.set j v)=vI l+(v - l.getD j 0)*256^j
 | [],_,_,h=>absurd h (Nat.not_lt_zero _)
 | x :: r,0,v,_=>by simp [vI]; omega
 | x :: r,j+1,v,h=>by
  have ih:=qcL r j v (by simpa using h);show x+256*vI (r.set j v)=x+256*vI r+(v - (x :: r).getD (j+1) 0)*256^(j+1);rw [ih,show (x :: r).getD (j+1) 0=r.getD j 0 by simp,Int.pow_succ];generalize v - r.getD j 0=t;generalize (256:Int)^j=p
  grind
theorem qay {l:List Int} {j:Nat} (v:Int) (h:j<l.length):(l.set j v).getD j 0=v:=by
 rw [List.getD_eq_getElem?_getD,List.getElem?_set_self h]; rfl
theorem qaE {l:List Int} {j m:Nat} (v:Int) (h:j≠m):(l.set j v).getD m 0=l.getD m 0:=by
 rw [List.getD_eq_getElem?_getD,List.getElem?_set_ne h,← List.getD_eq_getElem?_getD]
def odL:List Int:=[237,211,245,92,26,99,18,88,214,156,247,162,222,249,222,20,0,0,0,0,0,0,0,0,0,0,0,0,0,0,0,16]
theorem od_lt:∀ k,0≤odL.getD k 0∧odL.getD k 0≤255:=fun k=>by
 by_cases h:k<32
 ·revert k; decide
 ·rw [List.getD_eq_getElem?_getD,List.getElem?_eq_none (by simp [odL]; omega)]; decide
theorem od_zero':∀ k,k<31→16≤k→odL.getD k 0=0:=by decide
theorem od_zero (k:Nat) (h:16≤k) (h2:k<31):odL.getD k 0=0:=od_zero' k h2 h
def lowV:Nat→Int
 | 0=>0
 | k+1=>lowV k+odL.getD k 0*256^k
theorem low_end:16*lowV 20+256^32=16*(LN:Int):=by decide
theorem od_sum:lowV 32=(LN:Int):=by decide
def inS (X:List Int) (j:Nat) (y c:Int):List Int × Int :=
 (X.set j (X.getD j 0+(c - y) - (X.getD j 0+(c - y)+128)/256*256),(X.getD j 0+(c - y)+128)/256)
def inL (X:List Int) (i:Nat):Nat→List Int × Int
 | 0=>(X,0)
 | k+1=>inS (inL X i k).1 (i - 32+k) (16*X.getD i 0*odL.getD k 0) (inL X i k).2
def outS (X:List Int) (i:Nat):List Int:=((inL X i 20).1.set (i - 12) ((inL X i 20).1.getD (i - 12) 0+(inL X i 20).2)).set i 0
def ph1 (X:List Int):Nat→List Int
 | 0=>X
 | n+1=>outS (ph1 X n) (63 - n)
def cB (s:Bool) (k:Nat):Int:=if k≤16 then 268435456 else if k=17 then 2097152 else if s then (if k=18 then 8194 else if k=19 then 34 else 1) else 65536
structure In (X:List Int) (i k:Nat) (s:Bool):Prop where
 len:(inL X i k).1.length=64
 out:∀ j,j<i - 32∨i - 32+k≤j→(inL X i k).1.getD j 0=X.getD j 0
 norm:∀ j,i - 32≤j→j<i - 32+k→-128≤(inL X i k).1.getD j 0∧(inL X i k).1.getD j 0≤127
 car:-cB s k≤(inL X i k).2∧(inL X i k).2≤cB s k
 val:vI (inL X i k).1+(inL X i k).2*256^(i - 32+k)=vI X - 16*X.getD i 0*256^(i - 32)*lowV k
structure Pre (X:List Int) (i:Nat) (s:Bool):Prop where
 len:X.length=64
 big:∀ j,-8388608≤X.getD j 0∧X.getD j 0≤8388608
 sml:s=true→∀ j,i - 31≤j→j≤i - 12→-128≤X.getD j 0∧X.getD j 0≤127
theorem prod_bound {x o:Int} (h:-8388608≤x∧x≤8388608) (k:0≤o∧o≤255):-34225520640≤16*x*o∧16*x*o≤34225520640:=by
 obtain ⟨h1,h2⟩:=h;obtain ⟨k1,k2⟩:=k;have a1:16*x*o≤134217728*o:=Int.mul_le_mul_of_nonneg_right (by omega) k1;have a2:-134217728*o≤16*x*o:=Int.mul_le_mul_of_nonneg_right (by omega) k1;omega
theorem in_step {X:List Int} {i k:Nat} {s:Bool} (hi:32≤i) (hi2:i≤63) (hk:k<20) (P:Pre X i s) (h:In X i k s):In X i (k+1) s:=by
 obtain ⟨hl,ho,hn,hc,hv⟩:=h;have hj:(inL X i k).1.getD (i - 32+k) 0=X.getD (i - 32+k) 0:=ho _ (.inr (Nat.le_refl _));have hb:=P.big (i - 32+k);have hp:=prod_bound (P.big i) (od_lt k);obtain ⟨Y,hY⟩:=eX ((inL X i k).1);obtain ⟨c,hcc⟩:=eX ((inL X i k).2);obtain ⟨y,hy⟩:=eX (16*X.getD i 0*odL.getD k 0);obtain ⟨r,hr⟩:=eX (Y.getD (i - 32+k) 0+(c - y));have hE:inL X i (k+1)=(Y.set (i - 32+k) (r - (r+128)/256*256),(r+128)/256):=by rw [hr,hY,hcc,hy]; rfl
 have hjl:i - 32+k<Y.length:=by rw [hY,hl]; omega
 rw [← hY] at hl ho hn hv hj;rw [← hcc] at hc hv;rw [← hy] at hp;have hrv:r=X.getD (i - 32+k) 0+(c - y):=by rw [hr,hj]
 constructor
 ·rw [hE,List.length_set]; exact hl
 ·intro j h;rw [hE,qaE _ (by omega)];exact ho j (by omega)
 ·intro j h1 h2;rw [hE]
  by_cases hjj:j=i - 32+k
  ·subst hjj;rw [qay _ hjl];omega
  ·rw [qaE _ (by omega)];exact hn j h1 (by omega)
 ·rw [hE];show -cB s (k+1)≤(r+128)/256∧(r+128)/256≤cB s (k+1)
  by_cases h16:k<16
  ·have e1:cB s k=268435456:=by rw [cB,if_pos (by omega)]
   have e2:cB s (k+1)=268435456:=by rw [cB,if_pos (by omega)]
   rw [e1] at hc;rw [e2];omega
  ·have hz:y=0:=by rw [hy,od_zero k (by omega) (by omega),Int.mul_zero]
   rw [hz] at hrv;have hs:s=true→k≠16∨True→-128≤X.getD (i - 32+k) 0∧X.getD (i - 32+k) 0≤127:=fun h _=>P.sml h _ (by omega) (by omega);have hk4:k=16∨k=17∨k=18∨k=19:=by omega
   cases s
   ·rcases hk4 with rfl | rfl | rfl | rfl <;> simp [cB] at hc ⊢ <;> omega
   ·have hs2:=hs rfl (.inr trivial)
    rcases hk4 with rfl | rfl | rfl | rfl <;> simp [cB] at hc ⊢ <;> omega
 ·rw [hE,qcL _ _ _ hjl];show vI Y+(r - (r+128)/256*256 - Y.getD (i - 32+k) 0)*256^(i - 32+k)+(r+128)/256*256^(i - 32+k+1)=_;rw [lowV,Int.mul_add,← Int.sub_sub,← hv,hr,hy,Int.pow_add (256:Int) (i - 32) k,Int.pow_succ,Int.pow_add];generalize (Y.getD (i - 32+k) 0+(c - 16*X.getD i 0*odL.getD k 0)+128)/256=q;generalize Y.getD (i - 32+k) 0=a;generalize (256:Int)^(i - 32)=p;generalize (256:Int)^k=t;generalize X.getD i 0=x;generalize odL.getD k 0=o
  grind
theorem in_all {X:List Int} {i:Nat} {s:Bool} (hi:32≤i) (hi2:i≤63) (P:Pre X i s):∀ k,k≤20→In X i k s
 | 0,_=>⟨P.len,fun _ _=>rfl,fun j h1 h2=>by omega,by simp [inL,cB],by simp [inL,lowV]⟩
 | k+1,h=>in_step hi hi2 (by omega) P (in_all hi hi2 P k (by omega))
structure Aft (X:List Int) (i:Nat):Prop where
 len:X.length=64
 big:∀ j,-8388608≤X.getD j 0∧X.getD j 0≤8388608
 top:∀ j,i<j→X.getD j 0=0
 low:i≤62→∀ j,i - 31≤j→j≤i - 12→-128≤X.getD j 0∧X.getD j 0≤127
 mid:i≤62→∀ j,i - 12<j→j≤50→-129≤X.getD j 0∧X.getD j 0≤129
theorem fin_alg {Y X c t x p w m L a:Int} (hv:Y+c*t=X - 16*x*p*w) (e3:16*w+m=16*L):Y+(a+c - a)*t+(0 - x)*(p*m)=X - 16*x*p*L:=by grind
theorem out_step {X:List Int} {i:Nat} (hi:32≤i) (hi2:i≤63) (A:Aft X i) (h51:i=63→∀ j,-4194304≤X.getD j 0∧X.getD j 0≤4194304) :
  Aft (outS X i) (i - 1)∧∃ q:Int,vI (outS X i)=vI X - q*(LN:Int):=by
 obtain ⟨s,hs⟩:=eX (decide (i≤62));have P:Pre X i s:=⟨A.len,A.big,fun h=>A.low (by rw [hs] at h; exact of_decide_eq_true h)⟩;have I:=in_all hi hi2 P 20 (Nat.le_refl _);obtain ⟨Y,hY⟩:=eX ((inL X i 20).1);obtain ⟨c,hcc⟩:=eX ((inL X i 20).2);obtain ⟨hl,ho,hn,hc,hv⟩:=I;have hE:outS X i=(Y.set (i - 12) (Y.getD (i - 12) 0+c)).set i 0:=by rw [outS,hY,hcc]
 rw [← hY] at hl ho hn hv;rw [← hcc] at hc hv;have h12:Y.getD (i - 12) 0=X.getD (i - 12) 0:=ho _ (.inr (by omega));have hxi:Y.getD i 0=X.getD i 0:=ho _ (.inr (by omega));have hl1:i - 12<Y.length:=by rw [hl]; omega
 have hl2:i<(Y.set (i - 12) (Y.getD (i - 12) 0+c)).length:=by rw [List.length_set,hl]; omega
 have hat:∀ j,(outS X i).getD j 0=if j=i then 0 else if j=i - 12 then X.getD (i - 12) 0+c else Y.getD j 0:=fun j=>by
  rw [hE]
  by_cases h1:j=i
  ·subst h1; rw [if_pos rfl,qay _ hl2]
  ·rw [if_neg h1,qaE _ (by omega)]
   by_cases h2:j=i - 12
   ·subst h2; rw [if_pos rfl,qay _ hl1,h12]
   ·rw [if_neg h2,qaE _ (by omega)]
 have hcar:(i≤62→-1≤c∧c≤1)∧-65536≤c∧c≤65536:=by
  rw [hs] at hc
  by_cases h:i≤62
  ·rw [decide_eq_true h] at hc;simp [cB] at hc;omega
  ·rw [decide_eq_false h] at hc;simp [cB] at hc;omega
 have hY':∀ j,(i - 32≤j∧j<i - 12→-128≤Y.getD j 0∧Y.getD j 0≤127)∧(j<i - 32∨i - 12≤j→Y.getD j 0=X.getD j 0):=fun j =>
  ⟨fun h=>hn j h.1 (by omega),fun h=>ho j (by omega)⟩
 refine ⟨⟨by rw [hE,List.length_set,List.length_set]; exact hl,fun j=>?_,fun j hj=>?_,fun _ j h1 h2=>?_,fun _ j h1 h2=>?_⟩,16*X.getD i 0*256^(i - 32),?_⟩
 ·rw [hat];have hb:=A.big j;have hy:=hY' j;have hb12:=A.big (i - 12)
  split
  ·omega
  ·split
   ·by_cases h62:i≤62
    ·have:=A.low h62 (i - 12) (by omega) (Nat.le_refl _);have:=hcar.1 h62;omega
    ·have:=h51 (by omega) (i - 12);have:=hcar.2;omega
   ·by_cases h:i - 32≤j∧j<i - 12
    ·have:=hy.1 h; omega
    ·rw [hy.2 (by omega)]; exact hb
 ·rw [hat]
  by_cases h1:j=i
  ·rw [if_pos h1]
  ·rw [if_neg h1,if_neg (by omega),(hY' j).2 (by omega)];exact A.top j (by omega)
 ·rw [hat,if_neg (by omega),if_neg (by omega)];exact (hY' j).1 (by omega)
 ·rw [hat]
  by_cases h3:j=i
  ·rw [if_pos h3]; omega
  ·rw [if_neg h3]
   by_cases h4:j=i - 12
   ·rw [if_pos h4];have h62:i≤62:=by omega
    have:=A.low h62 (i - 12) (by omega) (Nat.le_refl _);have:=hcar.1 h62;omega
   ·rw [if_neg h4,(hY' j).2 (by omega)]
    by_cases h62:i≤62
    ·exact A.mid h62 j (by omega) h2
    ·omega
 ·rw [hE,qcL _ _ _ hl2,qcL _ _ _ hl1,qaE _ (by omega),hxi];have e1:i - 32+20=i - 12:=by omega
  rw [e1] at hv;have e2:(256:Int)^i=256^(i - 32)*256^32:=by rw [← Int.pow_add,Nat.sub_add_cancel hi]
  rw [e2];exact fin_alg hv low_end
theorem ph1_all {X:List Int} (hl:X.length=64) (hb:∀ j,-4194304≤X.getD j 0∧X.getD j 0≤4194304):∀ n,n≤32→Aft (ph1 X n) (63 - n)∧∃ q:Int,vI (ph1 X n)=vI X - q*(LN:Int)
 | 0,_=>⟨⟨hl,fun j=>(show -8388608≤X.getD j 0∧X.getD j 0≤8388608 by have:=hb j; omega),fun j hj=>by
   show X.getD j 0=0;rw [List.getD_eq_getElem?_getD,List.getElem?_eq_none (by omega)]; rfl,fun h=>by omega,fun h=>by omega⟩,0,by simp [ph1]⟩
 | n+1,h=>by
  obtain ⟨A,q,hq⟩:=ph1_all hl hb n (by omega)
  obtain ⟨B,r,hr⟩:=out_step (X:=ph1 X n) (i:=63 - n) (by omega) (by omega) A (fun h0=>by
   obtain rfl:n=0:=by omega
   exact hb)
  refine ⟨by rw [show 63 - (n+1)=63 - n - 1 by omega]; exact B,q+r,?_⟩;show vI (outS (ph1 X n) (63 - n))=_;rw [hr,hq];generalize (LN:Int)=L
  grind
theorem vI_zero:∀ (l:List Int),(∀ j,l.getD j 0=0)→vI l=0
 | [],_=>rfl
 | x :: r,h=>by
  have h0:x=0:=h 0;have ih:=vI_zero r fun j=>by have:=h (j+1); simpa using this
  rw [vI,h0,ih]; rfl
theorem vI_split:∀ (l:List Int) (k:Nat),vI l=vI (l.take k)+256^k*vI (l.drop k)
 | l,0=>by simp [vI]
 | [],k+1=>by simp [vI]
 | x :: r,k+1=>by
  have ih:=vI_split r k;rw [List.take_succ_cons,List.drop_succ_cons,vI,vI,ih,Int.pow_succ];generalize vI (r.take k)=a;generalize vI (r.drop k)=b;generalize (256:Int)^k=p
  grind
theorem vI_bound (lo hi:Int):∀ (l:List Int),(∀ j,j<l.length→lo≤l.getD j 0∧l.getD j 0≤hi)→lo*(256^l.length - 1)≤255*vI l∧255*vI l≤hi*(256^l.length - 1)
 | [],_=>by simp [vI]
 | x :: r,h=>by
  have h0:lo≤x∧x≤hi:=h 0 (by simp);have ih:=vI_bound lo hi r fun j hj=>by have:=h (j+1) (by simpa using hj); simpa using this
  rw [vI,List.length_cons,Int.pow_succ];generalize (256:Int)^r.length=p at *;generalize vI r=v at *;have e1:lo*(p*256 - 1)=256*(lo*(p - 1))+255*lo:=by grind
  have e2:hi*(p*256 - 1)=256*(hi*(p - 1))+255*hi:=by grind
  rw [e1,e2];omega
theorem getD_take {l:List Int} {k j:Nat} (h:j<k):(l.take k).getD j 0=l.getD j 0:=by
 rw [List.getD_eq_getElem?_getD,List.getElem?_take,if_pos h,← List.getD_eq_getElem?_getD]
theorem getD_drop' {l:List Int} {k j:Nat}:(l.drop k).getD j 0=l.getD (k+j) 0:=by
 rw [List.getD_eq_getElem?_getD,List.getElem?_drop,← List.getD_eq_getElem?_getD]
def p2 (X:List Int) (t:Int):Nat→List Int × Int
 | 0=>(X,0)
 | j+1=>((p2 X t j).1.set j (((p2 X t j).1.getD j 0+((p2 X t j).2 - t*odL.getD j 0))%256),((p2 X t j).1.getD j 0+((p2 X t j).2 - t*odL.getD j 0))/256)
structure P2 (X:List Int) (t:Int) (k:Nat):Prop where
 len:(p2 X t k).1.length=64
 out:∀ j,k≤j→(p2 X t k).1.getD j 0=X.getD j 0
 norm:∀ j,j<k→0≤(p2 X t k).1.getD j 0∧(p2 X t k).1.getD j 0≤255
 car:-20≤(p2 X t k).2∧(p2 X t k).2≤20
 val:vI (p2 X t k).1+(p2 X t k).2*256^k=vI X - t*lowV k
theorem t_bound {t o:Int} (h:-9≤t∧t≤9) (k:0≤o∧o≤255):-2295≤t*o∧t*o≤2295:=by
 obtain ⟨h1,h2⟩:=h;obtain ⟨k1,k2⟩:=k;have a1:t*o≤9*o:=Int.mul_le_mul_of_nonneg_right h2 k1;have a2:-9*o≤t*o:=Int.mul_le_mul_of_nonneg_right h1 k1;omega
theorem p2_all {X:List Int} {t:Int} (hl:X.length=64) (hb:∀ j,j<32→-129≤X.getD j 0∧X.getD j 0≤129) (ht:-9≤t∧t≤9):∀ k,k≤32→P2 X t k
 | 0,_=>⟨hl,fun _ _=>rfl,fun j h=>by omega,by simp [p2],by simp [p2,lowV]⟩
 | k+1,h=>by
  obtain ⟨h1,h2,h3,h4,h5⟩:=p2_all hl hb ht k (by omega);have hj:(p2 X t k).1.getD k 0=X.getD k 0:=h2 k (Nat.le_refl _);have hbk:=hb k (by omega);have htb:=t_bound ht (od_lt k);obtain ⟨Y,hY⟩:=eX ((p2 X t k).1);obtain ⟨c,hcc⟩:=eX ((p2 X t k).2);obtain ⟨y,hy⟩:=eX (t*odL.getD k 0);obtain ⟨r,hr⟩:=eX (Y.getD k 0+(c - y));have hE:p2 X t (k+1)=(Y.set k (r%256),r/256):=by rw [hr,hY,hcc,hy]; rfl
  rw [← hY] at h1 h2 h3 h5 hj;rw [← hcc] at h4 h5;rw [← hy] at htb;have hkl:k<Y.length:=by rw [h1]; omega
  have hrv:r=X.getD k 0+(c - y):=by rw [hr,hj]
  constructor
  ·rw [hE,List.length_set]; exact h1
  ·intro j h;rw [hE,qaE _ (by omega)];exact h2 j (by omega)
  ·intro j h;rw [hE]
   by_cases hjj:j=k
   ·subst hjj; rw [qay _ hkl]; omega
   ·rw [qaE _ (by omega)]; exact h3 j (by omega)
  ·rw [hE];show -20≤r/256∧r/256≤20;omega
  ·rw [hE,qcL _ _ _ hkl];show vI Y+(r%256 - Y.getD k 0)*256^k+r/256*256^(k+1)=_;have em:r%256=r - 256*(r/256):=by omega
   rw [lowV,Int.mul_add,← Int.sub_sub,← h5,em,hr,hy,Int.pow_succ];generalize (Y.getD k 0+(c - t*odL.getD k 0))/256=q;generalize Y.getD k 0=a;generalize (256:Int)^k=p;generalize odL.getD k 0=o
   grind
def p3 (X:List Int) (c:Int):Nat→List Int
 | 0=>X
 | j+1=>(p3 X c j).set j ((p3 X c j).getD j 0 - c*odL.getD j 0)
structure P3 (X:List Int) (c:Int) (k:Nat):Prop where
 len:(p3 X c k).length=64
 out:∀ j,k≤j→(p3 X c k).getD j 0=X.getD j 0
 norm:∀ j,j<k→0≤(p3 X c k).getD j 0∧(p3 X c k).getD j 0≤510
 val:vI (p3 X c k)=vI X - c*lowV k
theorem p3_all {X:List Int} {c:Int} (hl:X.length=64) (hb:∀ j,j<32→0≤X.getD j 0∧X.getD j 0≤255) (hc:c=0∨c=-1):∀ k,k≤32→P3 X c k
 | 0,_=>⟨hl,fun _ _=>rfl,fun j h=>by omega,by simp [p3,lowV]⟩
 | k+1,h=>by
  obtain ⟨h1,h2,h3,h5⟩:=p3_all hl hb hc k (by omega);have hj:(p3 X c k).getD k 0=X.getD k 0:=h2 k (Nat.le_refl _);have hbk:=hb k (by omega);have hod:=od_lt k;have hkl:k<(p3 X c k).length:=by rw [h1]; omega
  have hE:p3 X c (k+1)=(p3 X c k).set k ((p3 X c k).getD k 0 - c*odL.getD k 0):=rfl
  constructor
  ·rw [hE,List.length_set]; exact h1
  ·intro j h;rw [hE,qaE _ (by omega)];exact h2 j (by omega)
  ·intro j h;rw [hE]
   by_cases hjj:j=k
   ·subst hjj;rw [qay _ hkl,hj]
    rcases hc with rfl | rfl <;> omega
   ·rw [qaE _ (by omega)]; exact h3 j (by omega)
  ·rw [hE,qcL _ _ _ hkl,h5,lowV];generalize (p3 X c k).getD k 0=a;generalize odL.getD k 0=o;generalize (256:Int)^k=p;generalize lowV k=w
   grind
def p4 (X:List Int):Nat→List Int × List Nat
 | 0=>(X,[])
 | i+1=>((p4 X i).1.set (i+1) ((p4 X i).1.getD (i+1) 0+(p4 X i).1.getD i 0/256),(p4 X i).2++[((p4 X i).1.getD i 0%256).toNat])
structure P4 (X:List Int) (k:Nat):Prop where
 len:(p4 X k).1.length=64
 out:∀ j,k<j→(p4 X k).1.getD j 0=X.getD j 0
 cur:0≤(p4 X k).1.getD k 0∧(p4 X k).1.getD k 0≤520
 ol:(p4 X k).2.length=k
 dg:Dg (p4 X k).2
 val:(leV (p4 X k).2:Int)+256^k*vI ((p4 X k).1.drop k)=vI X
theorem qcd {l:List Int} {k:Nat} (h:k<l.length):l.drop k=l.getD k 0 :: l.drop (k+1):=by
 rw [List.drop_eq_getElem_cons h,List.getD_eq_getElem?_getD,List.getElem?_eq_getElem h]; rfl
theorem p4_all {X:List Int} (hl:X.length=64) (hb:∀ j,0≤X.getD j 0∧X.getD j 0≤510):∀ k,k≤32→P4 X k
 | 0,_=>⟨hl,fun _ _=>rfl,by have:=hb 0; simp [p4]; exact ⟨this.1,Int.le_trans this.2 (by decide)⟩,rfl,fun d h=>by simp [p4] at h,by simp [p4,leV]⟩
 | k+1,h=>by
  obtain ⟨h1,h2,h3,h4,h5,h6⟩:=p4_all hl hb k (by omega);obtain ⟨Y,hY⟩:=eX ((p4 X k).1);obtain ⟨o,ho⟩:=eX ((p4 X k).2);obtain ⟨x,hx⟩:=eX (Y.getD k 0);have hE:p4 X (k+1)=(Y.set (k+1) (Y.getD (k+1) 0+x/256),o++[(x%256).toNat]):=by rw [hx,hY,ho]; rfl
  rw [← hY] at h1 h2 h3 h6;rw [← ho] at h4 h5 h6;rw [← hx] at h3;have hkl:k+1<Y.length:=by rw [h1]; omega
  have hn:Y.getD (k+1) 0=X.getD (k+1) 0:=h2 (k+1) (Nat.lt_succ_self _);have hbn:=hb (k+1)
  constructor
  ·rw [hE,List.length_set]; exact h1
  ·intro j h;rw [hE,qaE _ (by omega)];exact h2 j (by omega)
  ·rw [hE,qay _ hkl,hn];omega
  ·rw [hE,List.length_append,h4]; rfl
  ·rw [hE];exact dg_snoc h5 (by omega)
  ·rw [hE,← h6,qbP,h4];show ((leV o+256^k*leV [(x%256).toNat]:Nat):Int)+256^(k+1)*vI ((Y.set (k+1) (Y.getD (k+1) 0+x/256)).drop (k+1))=_;rw [qcd (l:=Y) (k:=k) (by omega),← hx,qcd (l:=Y) hkl,qcd (by rw [List.length_set]; exact hkl),qay _ hkl,List.drop_set_of_lt (by omega)]
   have e:((leV [(x%256).toNat]:Nat):Int)=x - 256*(x/256):=by
    simp [leV];omega
   have e0:((leV o+256^k*leV [(x%256).toNat]:Nat):Int)=(leV o:Int)+256^k*((leV [(x%256).toNat]:Nat):Int):=by rw [Int.natCast_add,Int.natCast_mul,Int.natCast_pow]; rfl
   rw [e0,e,vI,vI,vI,Int.pow_succ];generalize x/256=q;generalize Y.getD (k+1) 0=a;generalize vI (Y.drop (k+1+1))=v;generalize (256:Int)^k=p;generalize (leV o:Int)=w
   grind
def topD (X:List Int):Int:=(ph1 X 32).getD 31 0/16
def ph2 (X:List Int):List Int × Int:=p2 (ph1 X 32) (topD X) 32
def leftL (X:List Int):List Nat:=(p4 (p3 (ph2 X).1 (ph2 X).2 32) 32).2
theorem small_low:(LN:Int)=16*256^31+27742317777372353535851937790883648493:=by decide
structure LeftP (X:List Int):Prop where
 aft:Aft (ph1 X 32) 31
 top:-9≤topD X∧topD X≤9
 q2:∀ k,k≤32→P2 (ph1 X 32) (topD X) k
 car:(ph2 X).2=0∨(ph2 X).2=-1
 q3:∀ k,k≤32→P3 (ph2 X).1 (ph2 X).2 k
 q4:∀ k,k≤32→P4 (p3 (ph2 X).1 (ph2 X).2 32) k
 val:(leV (leftL X):Int)=vI X%(LN:Int)
theorem mod_pick {v q L:Int} (h1:-L<v) (h2:v<L):(if v<0 then v+L else v)=(v+q*L)%L:=by
 rw [Int.add_mul_emod_self_right]
 split
 ·rw [← Int.add_emod_right,Int.emod_eq_of_lt (by omega) (by omega)]
 ·rw [Int.emod_eq_of_lt (by omega) (by omega)]
theorem left_ok {X:List Int} (hl:X.length=64) (hb:∀ j,-4194304≤X.getD j 0∧X.getD j 0≤4194304):LeftP X:=by
 obtain ⟨A,q,hq⟩:=ph1_all hl hb 32 (Nat.le_refl _);rw [show 63 - 32=31 from rfl] at A;obtain ⟨Y,hY⟩:=eX (ph1 X 32);obtain ⟨t,ht⟩:=eX (topD X);have ht2:t=Y.getD 31 0/16:=by rw [ht,hY]; rfl
 rw [← hY] at A hq
 have hY129:∀ j,j<32→-129≤Y.getD j 0∧Y.getD j 0≤129:=fun j hj=>by
  by_cases h:j≤19
  ·have:=A.low (by omega) j (by omega) (by omega); omega
  ·exact A.mid (by omega) j (by omega) (by omega)
 have ht9:-9≤t∧t≤9:=by
  have:=hY129 31 (by omega);rw [ht2]; omega
 have H2:=p2_all A.len hY129 ht9;have h2:=H2 32 (Nat.le_refl _);obtain ⟨Z,hZ⟩:=eX ((p2 Y t 32).1);obtain ⟨c,hc⟩:=eX ((p2 Y t 32).2);obtain ⟨z1,z2,z3,z4,z5⟩:=h2;rw [← hZ] at z1 z2 z3 z5;rw [← hc] at z4 z5;rw [od_sum] at z5;obtain ⟨v,hv⟩:=eX (vI Y - t*(LN:Int));have hsplit:=vI_split Y 31
 have hdrop:vI (Y.drop 31)=Y.getD 31 0:=by
  rw [qcd (by rw [A.len]; omega),vI,vI_zero _ fun j=>by rw [getD_drop']; exact A.top _ (by omega)];omega
 have hlow:=vI_bound (-129) 129 (Y.take 31) (fun j hj=>by
  rw [List.length_take,A.len] at hj;rw [getD_take (by omega)];exact hY129 j (by omega))
 rw [List.length_take,A.len,show min 31 64=31 from rfl] at hlow
 have hrange:-(LN:Int)<v∧v<(LN:Int):=by
  rw [hv,hsplit,hdrop,small_low];generalize vI (Y.take 31)=w at *;have hm:Y.getD 31 0=16*t+Y.getD 31 0%16:=by rw [ht2]; omega
  have hs:0≤Y.getD 31 0%16∧Y.getD 31 0%16≤15:=by omega
  generalize Y.getD 31 0%16=s at *;rw [hm]
  have e:w+256^31*(16*t+s) - t*(16*256^31+27742317777372353535851937790883648493)=w+256^31*s - t*27742317777372353535851937790883648493:=by
   generalize (256:Int)^31=p
   grind
  rw [e];have hp:(256:Int)^31=452312848583266388373324160190187140051835877600158453279131187530910662656:=by decide
  rw [hp] at hlow ⊢;omega
 have hzl:vI Z=vI (Z.take 32):=by
  rw [vI_split Z 32,vI_zero (Z.drop 32) fun j=>by rw [getD_drop',z2 _ (by omega)]; exact A.top _ (by omega)];omega
 have hzb:=vI_bound 0 255 (Z.take 32) (fun j hj=>by
  rw [List.length_take,z1] at hj;rw [getD_take (by omega)];exact z3 j (by omega))
 rw [List.length_take,z1,show min 32 64=32 from rfl,← hzl] at hzb;have hp32:(256:Int)^32=115792089237316195423570985008687907853269984665640564039457584007913129639936:=by decide
 have hLN:(LN:Int)=7237005577332262213973186563042994240857116359379907606001950938285454250989:=by decide
 rw [← hv] at z5
 have hc01:(v<0∧c=-1)∨(0≤v∧c=0):=by
  rw [hp32] at hzb z5;rw [hLN] at hrange;omega
 have hc0:c=0∨c=-1:=by omega
 have H3:=p3_all (X:=Z) (c:=c) z1 z3 hc0;have h3:=H3 32 (Nat.le_refl _);obtain ⟨T,hT⟩:=eX (p3 Z c 32);obtain ⟨y1,y2,y3,y5⟩:=h3;rw [← hT] at y1 y2 y3 y5;rw [od_sum] at y5
 have H4:=p4_all (X:=T) y1 (fun j=>by
  by_cases h:j<32
  ·exact y3 j h
  ·rw [y2 j (by omega),z2 j (by omega),A.top j (by omega)]; decide)
 have h4:=H4 32 (Nat.le_refl _);obtain ⟨O,hO⟩:=eX ((p4 T 32).2)
 have hval:(leV O:Int)=if v<0 then v+(LN:Int) else v:=by
  have hle:=leV_lt O (by rw [hO]; exact h4.dg);rw [show O.length=32 by rw [hO]; exact h4.ol] at hle;have h6:=h4.val;rw [← hO,y5] at h6;generalize vI ((p4 T 32).1.drop 32)=d at *;rw [show (256:Nat)^32=115792089237316195423570985008687907853269984665640564039457584007913129639936 by decide] at hle;have hle2:(leV O:Int)<115792089237316195423570985008687907853269984665640564039457584007913129639936:=by omega
  rw [hp32] at h6 z5
  split
  ·obtain rfl:c=-1:=by omega
   omega
  ·obtain rfl:c=0:=by omega
   omega
 have hph:ph2 X=(Z,c):=by rw [ph2,← hY,← ht,hZ,hc]
 have hleft:leftL X=O:=by rw [leftL,hph,← hT,hO]
 refine ⟨by rw [← hY]; exact A,by rw [← ht]; exact ht9,by rw [← hY,← ht]; exact H2,by rw [hph]; exact hc0,by rw [hph]; exact H3,by rw [hph,← hT]; exact H4,?_⟩;rw [hleft,hval]
 have hvX:vI X=v+(q+t)*(LN:Int):=by
  rw [hv,hq];generalize (LN:Int)=L
  grind
 rw [hvX];exact mod_pick hrange.1 hrange.2
theorem leftL_len {X:List Int} (h:LeftP X):(leftL X).length=32:=(h.q4 32 (Nat.le_refl _)).ol
theorem leftL_dg {X:List Int} (h:LeftP X):Dg (leftL X):=(h.q4 32 (Nat.le_refl _)).dg
theorem and255 (r:Int):Go.bits .and .i64 r 255=r%256:=by
 have h2:(BitVec.ofInt 64 (255:Int)).toNat=255:=by decide
 show IntKind.i64.wrap ((BitVec.ofInt 64 r &&& BitVec.ofInt 64 255).toNat:Int)=_;rw [BitVec.toNat_and,h2,BitVec.toNat_ofInt,show (255:Nat)=2^8 - 1 from rfl,Nat.and_two_pow_sub_one_eq_mod]
 have h3:((r%((2^64:Nat):Int)).toNat:Int)=r%18446744073709551616:=by
  rw [Int.toNat_of_nonneg (Int.emod_nonneg _ (by decide))]; rfl
 have h4:(((r%((2^64:Nat):Int)).toNat%2^8:Nat):Int)=r%256:=by
  rw [show (2:Nat)^8=256 from rfl];omega
 rw [h4,IntKind.wrap_i64];omega
def iV (l:List Int):List Value:=l.map fun x=>Value.int .i64 x
theorem iV_at {l:List Int} {k:Nat} (h:k<l.length):(iV l).toArray[k]?=some (.int .i64 (l.getD k 0)):=by
 simp [iV,List.getD_eq_getElem?_getD,List.getElem?_eq_getElem h]
theorem qbF (l:List Int) (j:Nat) (n:Int):(iV l).toArray.setIfInBounds j (.int .i64 n)=(iV (l.set j n)).toArray:=by simp [iV,List.map_set]
theorem qc0 (l:List Int):(iV l).toArray.size=l.length:=by simp [iV]
theorem oarr_size:(Tryd.prog.info? 93).map (·.size)=some (iV odL).toArray.size:=by rw [qc0]; kernel_rfl
theorem order_build (u:World):(Instr.build 93 #[(0,.int .i64 237),(1,.int .i64 211),(2,.int .i64 245),(3,.int .i64 92),(4,.int .i64 26),(5,.int .i64 99),(6,.int .i64 18),(7,.int .i64 88),(8,.int .i64 214),(9,.int .i64 156),(10,.int .i64 247),(11,.int .i64 162),(12,.int .i64 222),(13,.int .i64 249),(14,.int .i64 222),(15,.int .i64 20),(31,.int .i64 16)]).run Tryd.prog u=.ok (.agg (iV odL).toArray) u:=by kernel_rfl
theorem qcK {w:World} {ops:Array Oper} {rest:List Oper} {o:Oper} {a:Act} {Q:Exit→Act→World→Prop} {od:Array Value} (hod:od=(iV odL).toArray)
  (hgd:o.guard=none) (ho:o.op=.build 93 #[(0,.const (.int .i64 237)),(1,.const (.int .i64 211)),(2,.const (.int .i64 245)),(3,.const (.int .i64 92)),(4,.const (.int .i64 26)),(5,.const (.int .i64 99)),(6,.const (.int .i64 18)),(7,.const (.int .i64 88)),(8,.const (.int .i64 214)),(9,.const (.int .i64 156)),(10,.const (.int .i64 247)),(11,.const (.int .i64 162)),(12,.const (.int .i64 222)),(13,.const (.int .i64 249)),(14,.const (.int .i64 222)),(15,.const (.int .i64 20)),(31,.const (.int .i64 16))])
  (h:wpList Tryd.prog ops Q rest (a.put o.dst (.agg od)) w):wpList Tryd.prog ops Q (o :: rest) a w:=by
 refine wpList_plain hgd fun K hK=>?_;unfold Oper.wp execOp;simp only [ho,List.map_toArray,List.map_cons,List.map_nil,Act.eval,Sem.run_bind,Sem.run_pure,Result.andThen_ok,order_build];rw [← hod];exact hK _ _ h
theorem order_new (w:World):Blk (w.alloc (.cells (iV (List.replicate 32 0)).toArray 93)) w.heap.size 93 (iV (List.replicate 32 0)).toArray:=Blk.new _ _ _
theorem order_any (w:World):Calls Tryd.prog 66 #[] w (fun e w'=>e=.returned (.agg (iV odL).toArray)∧Below w.heap.size w w'):=by
 have hu:=Tryd.underlying93;have HB:=zY (order_new w);obtain ⟨od,hod⟩:=eX ((iV odL).toArray);have hsz:(Tryd.prog.info? 93).map (·.size)=some od.size:=by rw [hod]; exact oarr_size
 have h32:(iV (List.replicate 32 0)).toArray.size=od.size:=by rw [hod,qc0,qc0]; rfl
 have hall:od.all (·.oneCell')=true:=by rw [hod]; simp [iV,odL,Value.oneCell']
 rw [← hod];have HOD:=zY hod;have HALL:=zY hall;have H32:=zY h32;have HSZ:=zY hsz;clear hod hall h32 hsz;go_enter Tryd.func66,Tryd.ntmps66
 go_wp2_with (first
  | (refine qcK HOD.out rfl rfl ?_)
  | (refine qae (cells:=od) HB.out rfl rfl rfl rfl HSZ.out H32.out HALL.out ?_; intro w5 hb5 hw5))
 refine bodyPost_ret (qap (P:=Tryd.prog) rfl rfl hb5 hu rfl HSZ.out) rfl ⟨rfl,hw5.below (below_new w _) (Nat.le_refl _) (by simp)⟩
structure LW (w0:World) (g o:Nat) (OD:Array Value) (X:List Int) (u:World):Prop where
 bel:Below g w0 u
 x:Blk u g 76 (iV X).toArray
 l:Blk u o 93 OD
 lo:w0.heap.size≤o
 gl:g<w0.heap.size
theorem LW.sz {w0 u:World} {g o:Nat} {OD:Array Value} {X:List Int} (k:LW w0 g o OD X u):w0.heap.size≤u.heap.size:=by
 have:=k.l.lt; have:=k.lo; have:=k.bel.size; omega
theorem LW.put {w0 u u':World} {g o:Nat} {OD:Array Value} {X X':List Int} (k:LW w0 g o OD X u) (hw:Wrote g u u') (hb:Blk u' g 76 (iV X').toArray):LW w0 g o OD X' u' :=
 ⟨hw.below k.bel (Nat.le_refl _) (Nat.le_of_lt (Nat.lt_of_lt_of_le k.gl k.sz)),hb,hw.blk k.l (by have:=k.lo; have:=k.gl; omega),k.lo,k.gl⟩
theorem LW.drew {w0 u:World} {g o:Nat} {OD:Array Value} {X:List Int} (k:LW w0 g o OD X u):LW w0 g o OD X u.drew:=⟨k.bel.drew,k.x,k.l,k.lo,k.gl⟩
structure LV (w0:World) (g o oo:Nat) (OD:Array Value) (X:List Int) (L:List Nat) (u:World):Prop where
 a:LW w0 g o OD X u
 out:Blk u oo 5 (bnV L).toArray
 lo:w0.heap.size≤oo
 ne:o≠oo
theorem LV.gne {w0 u:World} {g o oo:Nat} {OD:Array Value} {X:List Int} {L:List Nat} (k:LV w0 g o oo OD X L u):oo≠g:=by have:=k.lo; have:=k.a.gl; omega
theorem LV.put {w0 u u':World} {g o oo:Nat} {OD:Array Value} {X X':List Int} {L:List Nat} (k:LV w0 g o oo OD X L u) (hw:Wrote g u u') (hb:Blk u' g 76 (iV X').toArray):LV w0 g o oo OD X' L u' :=
 ⟨k.a.put hw hb,hw.blk k.out k.gne,k.lo,k.ne⟩
theorem LV.putO {w0 u u':World} {g o oo:Nat} {OD:Array Value} {X:List Int} {L L':List Nat} (k:LV w0 g o oo OD X L u) (hw:Wrote oo u u') (hb:Blk u' oo 5 (bnV L').toArray):LV w0 g o oo OD X L' u' :=
 ⟨⟨hw.below k.a.bel (by have:=k.lo; have:=k.a.gl; omega) (Nat.le_of_lt (Nat.lt_of_lt_of_le k.a.gl k.a.sz)),hw.blk k.a.x (Ne.symm k.gne),hw.blk k.a.l k.ne,k.a.lo,k.a.gl⟩,hb,k.lo,k.ne⟩
theorem LV.drew {w0 u:World} {g o oo:Nat} {OD:Array Value} {X:List Int} {L:List Nat} (k:LV w0 g o oo OD X L u):LV w0 g o oo OD X L u.drew:=⟨k.a.drew,k.out,k.lo,k.ne⟩
theorem lv_new {w0 u:World} {g o:Nat} {OD:Array Value} {X:List Int} {L:List Nat} (k:LW w0 g o OD X u):LV w0 g o u.heap.size OD X L (u.alloc (.cells (bnV L).toArray 5)) :=
 ⟨⟨k.bel.alloc (Nat.le_of_lt (Nat.lt_of_lt_of_le k.gl k.sz)) _,k.x.alloc _,k.l.alloc _,k.lo,k.gl⟩,Blk.new _ _ _,k.sz,Nat.ne_of_lt k.l.lt⟩
theorem cB_le (s:Bool) (k:Nat):cB s k≤268435456:=by
 unfold cB
 repeat' split
 all_goals decide
theorem aft_pre {X:List Int} {i:Nat} (A:Aft X i):Pre X i (decide (i≤62)):=⟨A.len,A.big,fun h=>A.low (of_decide_eq_true h)⟩
def LeftPost (g:Nat) (X:List Int) (w:World) (e:Ending) (w':World):Prop :=
 ∃ o,e=.returned (.slice (some ⟨o,0,none⟩) 32 32)∧w.heap.size≤o∧Blk w' o 5 (bnV (leftL X)).toArray∧Below g w w'
theorem left_any (X:List Int) (hl:X.length=64) (hb:∀ j,-4194304≤X.getD j 0∧X.getD j 0≤4194304) (g:Nat) (w:World) (hx:Blk w g 76 (iV X).toArray) :
  Calls Tryd.prog 48 #[.pointer (some ⟨g,0,none⟩)] w (LeftPost g X w):=by
 have hu:=Tryd.underlying93;have LP:=zY (left_ok hl hb);have PH:=zY (fun n (h:n≤32)=>(ph1_all hl hb n h).1);have HX0:=zY hx;have HG:=zY hx.lt;have HSZ:=oarr_size;have hoc:∀ k,k<32→(iV odL).toArray[k]?=some (.int .i64 (odL.getD k 0)):=fun k h=>iV_at h;have h32:(iV (List.replicate 32 0)).toArray.size=(iV odL).toArray.size:=by rw [qc0,qc0]; rfl
 have hall:(iV odL).toArray.all (·.oneCell')=true:=by simp [iV,odL,Value.oneCell']
 have CO:=order_any;generalize (iV odL).toArray=OD at CO HSZ hoc h32 hall;have HOC:=zY hoc;have H32:=zY h32;have HALL:=zY hall;have HSZ':=zY HSZ;have CO':=zY CO;clear hl hb hx hoc h32 hall HSZ CO;go_enter Tryd.func48,Tryd.ntmps48;go_wp2_with fail;refine qab (CO'.out _) ?_;rintro e w1 ⟨rfl,hb1⟩;have HX1:=zY (HX0.out.below hb1 HX0.out.lt);have HB1:=zY hb1;have HO1:=zY (order_new w1);clear hb1 HX0;go_wp2_with (refine qae (cells:=OD) HO1.out rfl rfl rfl rfl HSZ'.out H32.out HALL.out ?_; intro w5 hb5 hw5; have HB5:=zY hb5; have HW5:=zY hw5; clear hb5 hw5);generalize ho:w1.heap.size=o at HB5 HW5 HO1 ⊢
 have hst0:LW w g o OD (ph1 X 0) w5:=by
  have hg:=HG.out;have hs:=HB1.out.size;exact ⟨HW5.out.below ((HB1.out.mono (Nat.le_of_lt hg)).alloc (by omega) _) (by omega) (by simp; omega),HW5.out.blk (HX1.out.alloc _) (by omega),HB5.out,by omega,hg⟩
 have HST0:=zY hst0;clear hst0 HB5 HW5 HO1 HX1 HB1 ho
 go_loopw [4] (fun iv wr=>∃ n i:Nat,n≤32∧i+n=63∧iv=.int .i64 (i:Int)∧LW w g o OD (ph1 X n) wr) (fun iv _=>(intOf iv - 31).toNat)
 case atStart=>exact ⟨0,63,by omega,by omega,rfl,HST0.out⟩
 case round =>
  clear HST0;obtain ⟨n,i,hn,hin,rfl,hst⟩:=hrel
  by_cases hlt:n<32
  ·have hge:(32:Int)≤(i:Int):=by omega
   have hi63:(i:Int)≤63:=by omega
   obtain ⟨b,hbb⟩:∃ b:Nat,b+32=i:=⟨i - 32,by omega⟩;have hbi:(i:Int) - 32=(b:Int):=by omega
   have hb31:(b:Int)≤31:=by omega
   obtain ⟨Z,hZ⟩:=eX (ph1 X n);have hA:Aft Z i:=by have h:=PH.out n hn; rw [show 63 - n=i by omega,← hZ] at h; exact h
   have hI:=in_all (by omega) (by omega) (aft_pre hA);have hnx:ph1 X (n+1)=outS Z i:=by rw [hZ,show i=63 - n by omega]; rfl
   rw [← hZ] at hst;have HA:=zY hA;have HI:=zY hI;have HNX:=zY hnx;have HST:=zY hst;have HIN:=zY hin;have HBB:=zY hbb;clear hA hI hnx hst hZ hin hbb;go_wp2_with fail;obtain ⟨wo,rfl⟩:∃ x:World,x=wr:=⟨_,rfl⟩
   go_loopw [5,6] (fun cv jv wr=>∃ (k p:Nat) (c:Int) (Y:List Int),k≤20∧p=b+k∧jv=.int .i64 (p:Int)∧cv=.int .i64 c∧(Y,c)=inL Z i k∧LW w g o OD Y wr) (fun _ jv _=>((b:Int)+20 - intOf jv).toNat)
   case atStart=>exact ⟨0,b,0,Z,by omega,by omega,rfl,rfl,rfl,HST.out⟩
   case round =>
    clear HST;obtain ⟨k,p,c,Y,hk,hp,rfl,rfl,hY,hst⟩:=hrel;obtain ⟨hY1,hY2⟩:Y=(inL Z i k).1∧c=(inL Z i k).2:=by rw [← hY]; exact ⟨rfl,rfl⟩
    have I:=HI.out k hk;have hYl:Y.length=64:=by rw [hY1]; exact I.len
    have hbb:=HBB.out;have hyi:Y.getD i 0=Z.getD i 0:=by rw [hY1]; exact I.out i (.inr (by omega))
    have hyp:Y.getD p 0=Z.getD p 0:=by rw [hY1]; exact I.out p (.inr (by omega))
    have hcl:-268435456≤c∧c≤268435456:=by have h:=I.car; rw [← hY2] at h; have:=cB_le (decide (i≤62)) k; omega
    by_cases hlt2:k<20
    ·have hpl:(p:Int)<(b:Int)+20:=by omega
     have hpb:(p:Int) - (b:Int)=(k:Int):=by omega
     have hk32:(k:Int)<32:=by omega
     have hp64:(p:Int)<64:=by omega
     have hip:i - 32+k=p:=by omega
     obtain ⟨xi,hxi⟩:=eX (Z.getD i 0);obtain ⟨a,ha⟩:=eX (Z.getD p 0);obtain ⟨d,hd⟩:=eX (odL.getD k 0);have hxb:=HA.out.big i;have hab:=HA.out.big p;have hdb:=od_lt k;have hyb:=prod_bound hxb hdb;rw [← hxi] at hxb hyb hyi;rw [← ha] at hab hyp;rw [← hd] at hdb hyb;obtain ⟨x16,hx16⟩:∃ z,16*xi=z:=⟨_,rfl⟩;have hx16b:-134217728≤x16∧x16≤134217728:=by omega
     obtain ⟨y,hy⟩:∃ z,x16*d=z:=⟨_,rfl⟩;rw [hx16,hy] at hyb;obtain ⟨s,hs⟩:∃ z,c - y=z:=⟨_,rfl⟩;have hsb:-35000000000≤s∧s≤35000000000:=by omega
     obtain ⟨r,hr⟩:∃ z,a+s=z:=⟨_,rfl⟩;have hrb:-36000000000≤r∧r≤36000000000:=by omega
     obtain ⟨c2,hc2⟩:∃ z,(r+128)/256=z:=⟨_,rfl⟩;have hc2b:-200000000≤c2∧c2≤200000000:=by omega
     obtain ⟨v,hv⟩:∃ z,r - c2*256=z:=⟨_,rfl⟩
     have hstep:inL Z i (k+1)=(Y.set p v,c2):=by
      show inS (inL Z i k).1 (i - 32+k) (16*Z.getD i 0*odL.getD k 0) (inL Z i k).2=_;rw [← hY1,← hY2,hip,← hxi,← hd,hx16,hy,inS,hyp,hs,hr,hc2,hv]
     have d0:∀ u,LW w g o OD Y u→u.cell? ⟨g,p,none⟩=some (.int .i64 a):=fun u h=>by rw [h.x.cell,iV_at (by omega),hyp]
     have d1:∀ u,LW w g o OD Y u→u.cell? ⟨g,i,none⟩=some (.int .i64 xi):=fun u h=>by rw [h.x.cell,iV_at (by omega),hyi]
     have d2:∀ u,LW w g o OD Y u→u.cell? ⟨o,k,none⟩=some (.int .i64 d):=fun u h=>by rw [h.l.cell,HOC.out k (by omega),hd]
     have d3:∀ z u,LW w g o OD (Y.set p z) u→u.cell? ⟨g,p,none⟩=some (.int .i64 z):=fun z u h=>by rw [h.x.cell,iV_at (by rw [List.length_set]; omega),qay _ (by omega)]
     have D0:=zY d0;have D1:=zY d1;have D2:=zY d2;have D3:=zY d3;have HSTEP:=zY hstep;have HP:=zY hp;have HK:=zY hlt2;have HC0:=hst.drew;obtain ⟨lx,hx1⟩:=hx16b;obtain ⟨ly,hy1⟩:=hyb;obtain ⟨ls,hs1⟩:=hsb;obtain ⟨lr,hr1⟩:=hrb;obtain ⟨lc,hc1⟩:=hc2b;obtain ⟨la,ha1⟩:=hab;obtain ⟨lxb,hxb1⟩:=hxb;obtain ⟨ldb,hdb1⟩:=hdb;obtain ⟨lcb,hcb1⟩:=hcl;have HC2:=zY hc2;have HV:=zY hv;clear d0 d1 d2 d3 hstep hst hY hY1 hY2 hyi hyp hxi ha hd I hYl hp hk hlt2 hip hbb;go_wp2_with fail;refine qaj (fun u=>LW w g o OD Y u) (fun u=>LW w g o OD (Y.set p r) u) [(0,some 27),(1,some 28),(2,some 29),(3,some 30),(4,some 31),(5,some 32),(6,some 33),(7,some 34),(8,some 35),(9,some 36),(10,some 37),(11,some 38),(12,some 39),(13,some 40),(14,some 41),(15,some 42),(16,some 43),(17,some 44),(18,some 45),(19,some 46),(20,some 47),(21,some 48),(22,some 49),(23,none)] (by kernel_rfl) (by kernel_rfl) (by decide) (by kernel_rfl) (fun _=>rfl) HC0 ?_;apply yN_
     ·apply dP [];exact fun _=>rfl;rfl;rintro vals - w1 hC1 E hE;simp only [sP] at hE ⊢;go_wp2;exact .mk (hE _ hC1)
     apply yN_
     ·apply dP [];exact fun _=>rfl;rfl;rintro vals ⟨-,-⟩ w1 hC1 E hE;simp only [sP] at hE ⊢;go_wp2;exact .mk (hE _ hC1)
     apply yN_
     ·apply dP [(0,some 27)];exact fun _=>rfl;rfl;intro vals vq w1 hC1 E hE;simp only [sP,vq] at hE ⊢;clear vq;go_wp2;exact .mk (hE _ hC1)
     apply yN_
     ·apply dP [(2,some 29),(1,some 28)];exact fun _=>rfl;rfl;intro vals vq w1 hC1 E hE;simp only [sP,vq] at hE ⊢;clear vq;go_wp2;exact .mk (hE _ hC1)
     apply yN_
     ·apply dP [(3,some 30)];exact fun _=>rfl;rfl;intro vals vq w1 hC1 E hE;have d0:=D0.out _ hC1;simp only [sP,vq] at hE ⊢;clear vq;go_wp2;exact .mk (hE _ hC1)
     apply yN_
     ·apply dP [];exact fun _=>rfl;rfl;intro vals vq w1 hC1 E hE;clear vq;simp only [sP] at hE ⊢;go_wp2;exact .mk (hE _ hC1)
     apply yN_
     ·apply dP [];exact fun _=>rfl;rfl;intro vals vq w1 hC1 E hE;clear vq;simp only [sP] at hE ⊢;go_wp2;exact .mk (hE _ hC1)
     apply yN_
     ·apply dP [];exact fun _=>rfl;rfl;intro vals vq w1 hC1 E hE;clear vq;simp only [sP] at hE ⊢;go_wp2;exact .mk (hE _ hC1)
     apply yN_
     ·apply dP [(6,some 33)];exact fun _=>rfl;rfl;intro vals vq w1 hC1 E hE;simp only [sP,vq] at hE ⊢;clear vq;go_wp2;exact .mk (hE _ hC1)
     apply yN_
     ·apply dP [(8,some 35),(7,some 34)];exact fun _=>rfl;rfl;intro vals vq w1 hC1 E hE;simp only [sP,vq] at hE ⊢;clear vq;go_wp2;exact .mk (hE _ hC1)
     apply yN_
     ·apply dP [(9,some 36)];exact fun _=>rfl;rfl;intro vals vq w1 hC1 E hE;have d0:=D1.out _ hC1;simp only [sP,vq] at hE ⊢;clear vq;go_wp2;exact .mk (hE _ hC1)
     apply yN_
     ·apply dP [(10,some 37)];exact fun _=>rfl;rfl;intro vals vq w1 hC1 E hE;simp only [sP,vq] at hE ⊢;clear vq;go_wp2;exact .mk (hE _ hC1)
     apply yN_
     ·apply dP [];exact fun _=>rfl;rfl;intro vals vq w1 hC1 E hE;clear vq;simp only [sP] at hE ⊢;go_wp2;exact .mk (hE _ hC1)
     apply yN_
     ·apply dP [];exact fun _=>rfl;rfl;intro vals vq w1 hC1 E hE;clear vq;simp only [sP] at hE ⊢;go_wp2;exact .mk (hE _ hC1)
     apply yN_
     ·apply dP [(13,some 40)];exact fun _=>rfl;rfl;intro vals vq w1 hC1 E hE;simp only [sP,vq] at hE ⊢;clear vq;go_wp2;exact .mk (hE _ hC1)
     apply yN_
     ·apply dP [(12,some 39),(14,some 41)];exact fun _=>rfl;rfl;intro vals vq w1 hC1 E hE;simp only [sP,vq] at hE ⊢;clear vq;go_wp2;exact .mk (hE _ hC1)
     apply yN_
     ·apply dP [(15,some 42)];exact fun _=>rfl;rfl;intro vals vq w1 hC1 E hE;simp only [sP,vq] at hE ⊢;clear vq;go_wp2;exact .mk (hE _ hC1)
     apply yN_
     ·apply dP [(16,some 43)];exact fun _=>rfl;rfl;intro vals vq w1 hC1 E hE;have d0:=D2.out _ hC1;simp only [sP,vq] at hE ⊢;clear vq;go_wp2;exact .mk (hE _ hC1)
     apply yN_
     ·apply dP [(11,some 38),(17,some 44)];exact fun _=>rfl;rfl;intro vals vq w1 hC1 E hE;simp only [sP,vq] at hE ⊢;clear vq;go_wp2;exact .mk (hE _ hC1)
     apply yN_
     ·apply dP [(5,some 32),(18,some 45)];exact fun _=>rfl;rfl;intro vals vq w1 hC1 E hE;simp only [sP,vq] at hE ⊢;clear vq;go_wp2;exact .mk (hE _ hC1)
     apply yN_
     ·apply dP [(4,some 31),(19,some 46)];exact fun _=>rfl;rfl;intro vals vq w1 hC1 E hE;simp only [sP,vq] at hE ⊢;clear vq;go_wp2;exact .mk (hE _ hC1)
     apply yN_
     ·apply dP [(0,some 27)];exact fun _=>rfl;rfl;intro vals vq w1 hC1 E hE;simp only [sP,vq] at hE ⊢;clear vq;go_wp2;exact .mk (hE _ hC1)
     apply yN_
     ·apply dP [(21,some 48),(1,some 28),(0,some 27),(1,some 28),(2,some 29),(3,some 30),(4,some 31),(5,some 32),(6,some 33),(7,some 34),(8,some 35),(9,some 36),(10,some 37),(11,some 38),(12,some 39),(13,some 40),(14,some 41),(15,some 42),(16,some 43),(17,some 44),(18,some 45),(19,some 46),(20,some 47)];exact fun _=>rfl;rfl;intro vals vq w1 hC1 E hE;simp only [sP,vq] at hE ⊢;clear vq;go_wp2;exact .mk (hE _ hC1)
     apply yL_ (v:=undef)
     ·apply dP [(22,some 49),(20,some 47),(0,some 27),(1,some 28),(2,some 29),(3,some 30),(4,some 31),(5,some 32),(6,some 33),(7,some 34),(8,some 35),(9,some 36),(10,some 37),(11,some 38),(12,some 39),(13,some 40),(14,some 41),(15,some 42),(16,some 43),(17,some 44),(18,some 45),(19,some 46),(20,some 47)];exact fun _=>rfl;rfl;intro vals vq w1 hC1 E hE;have d0:=D0.out _ hC1;have q0:=hC1.x.free p;simp only [sP,vq] at hE ⊢;clear vq;go_wp2;refine .mk (hE _ (hC1.put (qaf _ _ _ _) ?_));have h:=qag (i:=p) hC1.x (.int .i64 r);rw [qbF] at h;exact h
     intro vals vq w1 hC1;simp only [sP,vq];clear vq;have d0:=D3.out _ _ hC1;have HW1:=zY hC1;clear HC0 hC1;go_wp2_with fail;have HC0:=HW1.out.drew;clear HW1 d0;refine qaj (fun u=>LW w g o OD (Y.set p r) u) (fun u=>LW w g o OD (Y.set p v) u) [(0,some 57),(1,some 58),(2,some 59),(3,some 60),(4,some 61),(5,some 62),(6,some 63),(7,some 64),(8,some 65),(9,some 66),(10,none)] (by kernel_rfl) (by kernel_rfl) (by decide) (by kernel_rfl) (fun _=>rfl) HC0 ?_;apply yN_
     ·apply dP [];exact fun _=>rfl;rfl;rintro vals - w1 hC1 E hE;simp only [sP] at hE ⊢;go_wp2;exact .mk (hE _ hC1)
     apply yN_
     ·apply dP [];exact fun _=>rfl;rfl;rintro vals ⟨-,-⟩ w1 hC1 E hE;simp only [sP] at hE ⊢;go_wp2;exact .mk (hE _ hC1)
     apply yN_
     ·apply dP [(0,some 57)];exact fun _=>rfl;rfl;intro vals vq w1 hC1 E hE;simp only [sP,vq] at hE ⊢;clear vq;go_wp2;exact .mk (hE _ hC1)
     apply yN_
     ·apply dP [(2,some 59),(1,some 58)];exact fun _=>rfl;rfl;intro vals vq w1 hC1 E hE;simp only [sP,vq] at hE ⊢;clear vq;go_wp2;exact .mk (hE _ hC1)
     apply yN_
     ·apply dP [(3,some 60)];exact fun _=>rfl;rfl;intro vals vq w1 hC1 E hE;have d0:=D3.out _ _ hC1;simp only [sP,vq] at hE ⊢;clear vq;go_wp2;exact .mk (hE _ hC1)
     apply yN_
     ·apply dP [];exact fun _=>rfl;rfl;intro vals vq w1 hC1 E hE;clear vq;simp only [sP] at hE ⊢;go_wp2;exact .mk (hE _ hC1)
     apply yN_
     ·apply dP [(5,some 62)];exact fun _=>rfl;rfl;intro vals vq w1 hC1 E hE;simp only [sP,vq] at hE ⊢;clear vq;go_wp2;exact .mk (hE _ hC1)
     apply yN_
     ·apply dP [(4,some 61),(6,some 63)];exact fun _=>rfl;rfl;intro vals vq w1 hC1 E hE;simp only [sP,vq] at hE ⊢;clear vq;go_wp2;exact .mk (hE _ hC1)
     apply yN_
     ·apply dP [(0,some 57)];exact fun _=>rfl;rfl;intro vals vq w1 hC1 E hE;simp only [sP,vq] at hE ⊢;clear vq;go_wp2;exact .mk (hE _ hC1)
     apply yN_
     ·apply dP [(8,some 65),(1,some 58),(0,some 57),(1,some 58),(2,some 59),(3,some 60),(4,some 61),(5,some 62),(6,some 63),(7,some 64)];exact fun _=>rfl;rfl;intro vals vq w1 hC1 E hE;simp only [sP,vq] at hE ⊢;clear vq;go_wp2;exact .mk (hE _ hC1)
     apply yL_ (v:=undef)
     ·apply dP [(9,some 66),(7,some 64),(0,some 57),(1,some 58),(2,some 59),(3,some 60),(4,some 61),(5,some 62),(6,some 63),(7,some 64)];exact fun _=>rfl;rfl;intro vals vq w1 hC1 E hE;have d0:=D3.out _ _ hC1;have q0:=hC1.x.free p;simp only [sP,vq] at hE ⊢;clear vq;go_wp2;refine .mk (hE _ (hC1.put (qaf _ _ _ _) ?_));have h:=qag (i:=p) hC1.x (.int .i64 v);rw [qbF,List.set_set] at h;exact h
     intro vals vq w1 hC1;simp only [sP,vq];clear vq;have HW2:=zY hC1;clear HC0 hC1;go_wp2_with fail;refine ⟨⟨k+1,p+1,c2,Y.set p v,HK.out,by rw [HP.out]; omega,by go_num,rfl,HSTEP.out.symm,HW2.out⟩,by have:=HK.out; simp [intOf]; omega⟩
    ·obtain rfl:k=20:=by omega
     have hpl:¬ (p:Int)<(b:Int)+20:=by omega
     have hpi:(b:Int)+20=(p:Int):=by omega
     have hp64:(p:Int)<64:=by omega
     obtain ⟨a,ha⟩:=eX (Z.getD p 0);have hab:=HA.out.big p;rw [← ha] at hab hyp;obtain ⟨r,hr⟩:∃ z,a+c=z:=⟨_,rfl⟩;have hrb:-36000000000≤r∧r≤36000000000:=by omega
     have hip:i - 12=p:=by omega
     have hstep:outS Z i=(Y.set p r).set i 0:=by
      rw [outS,← hY1,← hY2,hip,hyp,hr]
     have d0:∀ u,LW w g o OD Y u→u.cell? ⟨g,p,none⟩=some (.int .i64 a):=fun u h=>by rw [h.x.cell,iV_at (by omega),hyp]
     have d1:∀ u,LW w g o OD (Y.set p r) u→∃ z,u.cell? ⟨g,i,none⟩=some (.int .i64 z):=fun u h=>⟨_,by rw [h.x.cell,iV_at (by rw [List.length_set]; omega)]⟩;have D0:=zY d0;have D1:=zY d1;have HSTEP:=zY hstep;have HC0:=hst.drew;obtain ⟨lr,hr1⟩:=hrb;obtain ⟨la,ha1⟩:=hab;obtain ⟨lcb,hcb1⟩:=hcl;clear d0 d1 hstep hst hY hY1 hY2 hyi hyp ha I hYl hp hip hbb;go_wp2_with fail;refine qaj (fun u=>LW w g o OD Y u) (fun u=>LW w g o OD (Y.set p r) u) [(0,some 67),(1,some 68),(2,some 69),(3,some 70),(4,some 71),(5,some 72),(6,some 73),(7,some 74),(8,some 75),(9,some 76),(10,some 77),(11,none)] (by kernel_rfl) (by kernel_rfl) (by decide) (by kernel_rfl) (fun _=>rfl) HC0 ?_;apply yN_
     ·apply dP [];exact fun _=>rfl;rfl;rintro vals - w1 hC1 E hE;simp only [sP] at hE ⊢;go_wp2;exact .mk (hE _ hC1)
     apply yN_
     ·apply dP [];exact fun _=>rfl;rfl;rintro vals ⟨-,-⟩ w1 hC1 E hE;simp only [sP] at hE ⊢;go_wp2;exact .mk (hE _ hC1)
     apply yN_
     ·apply dP [(1,some 68)];exact fun _=>rfl;rfl;intro vals vq w1 hC1 E hE;simp only [sP,vq] at hE ⊢;clear vq;go_wp2;exact .mk (hE _ hC1)
     apply yN_
     ·apply dP [(2,some 69)];exact fun _=>rfl;rfl;intro vals vq w1 hC1 E hE;simp only [sP,vq] at hE ⊢;clear vq;go_wp2;exact .mk (hE _ hC1)
     apply yN_
     ·apply dP [(0,some 67)];exact fun _=>rfl;rfl;intro vals vq w1 hC1 E hE;simp only [sP,vq] at hE ⊢;clear vq;go_wp2;exact .mk (hE _ hC1)
     apply yN_
     ·apply dP [(4,some 71),(3,some 70)];exact fun _=>rfl;rfl;intro vals vq w1 hC1 E hE;simp only [sP,vq] at hE ⊢;clear vq;go_wp2;exact .mk (hE _ hC1)
     apply yN_
     ·apply dP [(5,some 72)];exact fun _=>rfl;rfl;intro vals vq w1 hC1 E hE;have d0:=D0.out _ hC1;simp only [sP,vq] at hE ⊢;clear vq;go_wp2;exact .mk (hE _ hC1)
     apply yN_
     ·apply dP [];exact fun _=>rfl;rfl;intro vals vq w1 hC1 E hE;clear vq;simp only [sP] at hE ⊢;go_wp2;exact .mk (hE _ hC1)
     apply yN_
     ·apply dP [(6,some 73),(7,some 74)];exact fun _=>rfl;rfl;intro vals vq w1 hC1 E hE;simp only [sP,vq] at hE ⊢;clear vq;go_wp2;exact .mk (hE _ hC1)
     apply yN_
     ·apply dP [(0,some 67)];exact fun _=>rfl;rfl;intro vals vq w1 hC1 E hE;simp only [sP,vq] at hE ⊢;clear vq;go_wp2;exact .mk (hE _ hC1)
     apply yN_
     ·apply dP [(9,some 76),(3,some 70),(0,some 67),(1,some 68),(2,some 69),(3,some 70),(4,some 71),(5,some 72),(6,some 73),(7,some 74),(8,some 75)];exact fun _=>rfl;rfl;intro vals vq w1 hC1 E hE;simp only [sP,vq] at hE ⊢;clear vq;go_wp2;exact .mk (hE _ hC1)
     apply yL_ (v:=undef)
     ·apply dP [(10,some 77),(8,some 75),(0,some 67),(1,some 68),(2,some 69),(3,some 70),(4,some 71),(5,some 72),(6,some 73),(7,some 74),(8,some 75)];exact fun _=>rfl;rfl;intro vals vq w1 hC1 E hE;have d0:=D0.out _ hC1;have q0:=hC1.x.free p;simp only [sP,vq] at hE ⊢;clear vq;go_wp2;refine .mk (hE _ (hC1.put (qaf _ _ _ _) ?_));have h:=qag (i:=p) hC1.x (.int .i64 r);rw [qbF] at h;exact h
     intro vals vq w1 hC1;simp only [sP,vq];clear vq;obtain ⟨z0,d0⟩:=D1.out _ hC1;have q0:=hC1.x.free i;have HW1:=zY hC1;have hi64:(i:Int)<64:=by omega
     clear HC0 hC1;go_wp2_with fail;refine ⟨⟨n+1,i - 1,by omega,by have:=HIN.out; omega,by go_num,?_⟩,by simp [intOf]; omega⟩;have h:=qag (i:=i) HW1.out.x (.int .i64 0);rw [qbF] at h;rw [HNX.out,HSTEP.out];exact HW1.out.put (qaf _ _ _ _) h
  ·obtain rfl:n=32:=by omega
   obtain rfl:i=31:=by omega
   obtain ⟨X1,hX1⟩:=eX (ph1 X 32);obtain ⟨tp,htp⟩:=eX (topD X);have hA:Aft X1 31:=by rw [hX1]; exact LP.out.aft
   have ht9:=LP.out.top;rw [← htp] at ht9;obtain ⟨a,ha⟩:=eX (X1.getD 31 0);have hat:a/16=tp:=by rw [ha,hX1,htp]; rfl
   have hab:=hA.big 31;rw [← ha] at hab;rw [← hX1] at hst;have d0:∀ u,LW w g o OD X1 u→u.cell? ⟨g,31,none⟩=some (.int .i64 a):=fun u h=>by rw [h.x.cell,iV_at (by rw [hA.len]; decide),ha]
   have D0:=zY d0;have HQ2:=zY (show ∀ k,k≤32→P2 X1 tp k by rw [hX1,htp]; exact LP.out.q2);have HP2:=zY (show ph2 X=p2 X1 tp 32 by rw [hX1,htp]; rfl);have HA:=zY hA;have HTB:=zY ht9;have HC0:=hst.drew;obtain ⟨la,ha1⟩:=hab;obtain ⟨lt1,ht1⟩:=ht9;clear d0 hX1 htp hA ha hst;go_wp2_with fail;refine qaj (fun u=>LW w g o OD X1 u) (fun u=>LW w g o OD X1 u) [(0,some 82),(1,some 83),(2,some 84),(3,some 85),(4,some 86),(5,some 7),(6,some 8)] (by kernel_rfl) (by kernel_rfl) (by decide) (by kernel_rfl) (fun _=>rfl) HC0 ?_;apply yN_
   ·apply dP [];exact fun _=>rfl;rfl;rintro vals - w1 hC1 E hE;simp only [sP] at hE ⊢;go_wp2;exact .mk (hE _ hC1)
   apply yN_
   ·apply dP [(0,some 82)];exact fun _=>rfl;rfl;intro vals vq w1 hC1 E hE;simp only [sP,vq] at hE ⊢;clear vq;go_wp2;exact .mk (hE _ hC1)
   apply yN_
   ·apply dP [(1,some 83)];exact fun _=>rfl;rfl;intro vals vq w1 hC1 E hE;simp only [sP,vq] at hE ⊢;clear vq;go_wp2;exact .mk (hE _ hC1)
   apply yN_
   ·apply dP [(2,some 84)];exact fun _=>rfl;rfl;intro vals vq w1 hC1 E hE;have d0:=D0.out _ hC1;simp only [sP,vq] at hE ⊢;clear vq;go_wp2;exact .mk (hE _ hC1)
   apply yN_
   ·apply dP [(3,some 85)];exact fun _=>rfl;rfl;intro vals vq w1 hC1 E hE;simp only [sP,vq] at hE ⊢;clear vq;go_wp2;exact .mk (hE _ hC1)
   apply yN_
   ·apply dP [];exact fun _=>rfl;rfl;intro vals vq w1 hC1 E hE;clear vq;simp only [sP] at hE ⊢;go_wp2;exact .mk (hE _ hC1)
   apply yL_
   ·apply dP [(4,some 86),(5,some 7),(0,some 82),(1,some 83),(2,some 84),(3,some 85),(4,some 86),(5,some 7)];exact fun _=>rfl;rfl;intro vals vq w1 hC1 E hE;simp only [sP,vq] at hE ⊢;clear vq;go_wp2;exact .mk (hE _ hC1)
   intro vals vq w1 hC1;simp only [sP,vq];clear vq;have HST:=zY hC1;clear HC0 hC1 D0;go_wp2_with fail;obtain ⟨wo,rfl⟩:∃ x:World,x=w1:=⟨_,rfl⟩
   go_loopw [7,87] (fun cv jv wr=>∃ (k:Nat) (c:Int) (Y:List Int),k≤32∧jv=.int .i64 (k:Int)∧cv=.int .i64 c∧(Y,c)=p2 X1 tp k∧LW w g o OD Y wr) (fun _ jv _=>(32 - intOf jv).toNat)
   case atStart=>exact ⟨0,0,X1,by omega,rfl,rfl,rfl,HST.out⟩
   case round =>
    clear HST;obtain ⟨k,c,Y,hk,rfl,rfl,hY,hst⟩:=hrel;obtain ⟨hY1,hY2⟩:Y=(p2 X1 tp k).1∧c=(p2 X1 tp k).2:=by rw [← hY]; exact ⟨rfl,rfl⟩
    have I:=HQ2.out k hk;have hYl:Y.length=64:=by rw [hY1]; exact I.len
    have hcl:=I.car;rw [← hY2] at hcl
    by_cases hlt2:k<32
    ·have hk32:(k:Int)<32:=by omega
     have hk64:(k:Int)<64:=by omega
     have hyp:Y.getD k 0=X1.getD k 0:=by rw [hY1]; exact I.out k (Nat.le_refl _)
     obtain ⟨a,ha⟩:=eX (X1.getD k 0);obtain ⟨d,hd⟩:=eX (odL.getD k 0);have hab:=HA.out.big k;have hdb:=od_lt k;have hyb:=t_bound HTB.out hdb;rw [← ha] at hab hyp;rw [← hd] at hdb hyb;obtain ⟨y,hy⟩:∃ z,tp*d=z:=⟨_,rfl⟩;rw [hy] at hyb;obtain ⟨s,hs⟩:∃ z,c - y=z:=⟨_,rfl⟩;have hsb:-3000≤s∧s≤3000:=by omega
     obtain ⟨r,hr⟩:∃ z,a+s=z:=⟨_,rfl⟩;have hrb:-9000000≤r∧r≤9000000:=by omega
     obtain ⟨c2,hc2⟩:∃ z,r/256=z:=⟨_,rfl⟩;obtain ⟨v,hv⟩:∃ z,r%256=z:=⟨_,rfl⟩;have han:Go.bits .and .i64 r 255=v:=by rw [and255,hv]
     have hstep:p2 X1 tp (k+1)=(Y.set k v,c2):=by
      rw [p2,← hY1,← hY2,hyp,← hd,hy,hs,hr,hc2,hv]
     have d0:∀ u,LW w g o OD Y u→u.cell? ⟨g,k,none⟩=some (.int .i64 a):=fun u h=>by rw [h.x.cell,iV_at (by omega),hyp]
     have d2:∀ u,LW w g o OD Y u→u.cell? ⟨o,k,none⟩=some (.int .i64 d):=fun u h=>by rw [h.l.cell,HOC.out k (by omega),hd]
     have d3:∀ z u,LW w g o OD (Y.set k z) u→u.cell? ⟨g,k,none⟩=some (.int .i64 z):=fun z u h=>by rw [h.x.cell,iV_at (by rw [List.length_set]; omega),qay _ (by omega)]
     have D0:=zY d0;have D2:=zY d2;have D3:=zY d3;have HSTEP:=zY hstep;have HK:=zY hlt2;have HAN:=zY han;have HC0:=hst.drew;obtain ⟨ly,hy1⟩:=hyb;obtain ⟨ls,hs1⟩:=hsb;obtain ⟨lr,hr1⟩:=hrb;obtain ⟨la,ha1⟩:=hab;obtain ⟨ldb,hdb1⟩:=hdb;obtain ⟨lcb,hcb1⟩:=hcl;clear d0 d2 d3 hstep hst hY hY1 hY2 hyp ha hd I hYl hk hlt2 hv han;go_wp2_with fail;refine qaj (fun u=>LW w g o OD Y u) (fun u=>LW w g o OD (Y.set k r) u) [(0,some 90),(1,some 91),(2,some 92),(3,some 93),(4,some 94),(5,some 95),(6,some 96),(7,some 97),(8,some 98),(9,some 99),(10,some 100),(11,some 101),(12,some 102),(13,some 103),(14,some 104),(15,none)] (by kernel_rfl) (by kernel_rfl) (by decide) (by kernel_rfl) (fun _=>rfl) HC0 ?_;apply yN_
     ·apply dP [];exact fun _=>rfl;rfl;rintro vals - w1 hC1 E hE;simp only [sP] at hE ⊢;go_wp2;exact .mk (hE _ hC1)
     apply yN_
     ·apply dP [];exact fun _=>rfl;rfl;rintro vals ⟨-,-⟩ w1 hC1 E hE;simp only [sP] at hE ⊢;go_wp2;exact .mk (hE _ hC1)
     apply yN_
     ·apply dP [(0,some 90)];exact fun _=>rfl;rfl;intro vals vq w1 hC1 E hE;simp only [sP,vq] at hE ⊢;clear vq;go_wp2;exact .mk (hE _ hC1)
     apply yN_
     ·apply dP [(2,some 92),(1,some 91)];exact fun _=>rfl;rfl;intro vals vq w1 hC1 E hE;simp only [sP,vq] at hE ⊢;clear vq;go_wp2;exact .mk (hE _ hC1)
     apply yN_
     ·apply dP [(3,some 93)];exact fun _=>rfl;rfl;intro vals vq w1 hC1 E hE;have d0:=D0.out _ hC1;simp only [sP,vq] at hE ⊢;clear vq;go_wp2;exact .mk (hE _ hC1)
     apply yN_
     ·apply dP [];exact fun _=>rfl;rfl;intro vals vq w1 hC1 E hE;clear vq;simp only [sP] at hE ⊢;go_wp2;exact .mk (hE _ hC1)
     apply yN_
     ·apply dP [];exact fun _=>rfl;rfl;intro vals vq w1 hC1 E hE;clear vq;simp only [sP] at hE ⊢;go_wp2;exact .mk (hE _ hC1)
     apply yN_
     ·apply dP [];exact fun _=>rfl;rfl;intro vals vq w1 hC1 E hE;clear vq;simp only [sP] at hE ⊢;go_wp2;exact .mk (hE _ hC1)
     apply yN_
     ·apply dP [(7,some 97)];exact fun _=>rfl;rfl;intro vals vq w1 hC1 E hE;simp only [sP,vq] at hE ⊢;clear vq;go_wp2;exact .mk (hE _ hC1)
     apply yN_
     ·apply dP [(8,some 98)];exact fun _=>rfl;rfl;intro vals vq w1 hC1 E hE;have d0:=D2.out _ hC1;simp only [sP,vq] at hE ⊢;clear vq;go_wp2;exact .mk (hE _ hC1)
     apply yN_
     ·apply dP [(6,some 96),(9,some 99)];exact fun _=>rfl;rfl;intro vals vq w1 hC1 E hE;simp only [sP,vq] at hE ⊢;clear vq;go_wp2;exact .mk (hE _ hC1)
     apply yN_
     ·apply dP [(5,some 95),(10,some 100)];exact fun _=>rfl;rfl;intro vals vq w1 hC1 E hE;simp only [sP,vq] at hE ⊢;clear vq;go_wp2;exact .mk (hE _ hC1)
     apply yN_
     ·apply dP [(4,some 94),(11,some 101)];exact fun _=>rfl;rfl;intro vals vq w1 hC1 E hE;simp only [sP,vq] at hE ⊢;clear vq;go_wp2;exact .mk (hE _ hC1)
     apply yN_
     ·apply dP [(0,some 90)];exact fun _=>rfl;rfl;intro vals vq w1 hC1 E hE;simp only [sP,vq] at hE ⊢;clear vq;go_wp2;exact .mk (hE _ hC1)
     apply yN_
     ·apply dP [(13,some 103),(1,some 91),(0,some 90),(1,some 91),(2,some 92),(3,some 93),(4,some 94),(5,some 95),(6,some 96),(7,some 97),(8,some 98),(9,some 99),(10,some 100),(11,some 101),(12,some 102)];exact fun _=>rfl;rfl;intro vals vq w1 hC1 E hE;simp only [sP,vq] at hE ⊢;clear vq;go_wp2;exact .mk (hE _ hC1)
     apply yL_ (v:=undef)
     ·apply dP [(14,some 104),(12,some 102),(0,some 90),(1,some 91),(2,some 92),(3,some 93),(4,some 94),(5,some 95),(6,some 96),(7,some 97),(8,some 98),(9,some 99),(10,some 100),(11,some 101),(12,some 102)];exact fun _=>rfl;rfl;intro vals vq w1 hC1 E hE;have d0:=D0.out _ hC1;have q0:=hC1.x.free k;simp only [sP,vq] at hE ⊢;clear vq;go_wp2;refine .mk (hE _ (hC1.put (qaf _ _ _ _) ?_));have h:=qag (i:=k) hC1.x (.int .i64 r);rw [qbF] at h;exact h
     intro vals vq w1 hC1;simp only [sP,vq];clear vq;have d0:=D3.out _ _ hC1;have HW1:=zY hC1;clear HC0 hC1;go_wp2_with fail;have HC0:=HW1.out.drew;clear HW1 d0;refine qaj (fun u=>LW w g o OD (Y.set k r) u) (fun u=>LW w g o OD (Y.set k v) u) [(0,some 111),(1,some 112),(2,some 113),(3,some 114),(4,some 115),(5,some 116),(6,some 117),(7,some 118),(8,none)] (by kernel_rfl) (by kernel_rfl) (by decide) (by kernel_rfl) (fun _=>rfl) HC0 ?_;apply yN_
     ·apply dP [];exact fun _=>rfl;rfl;rintro vals - w1 hC1 E hE;simp only [sP] at hE ⊢;go_wp2;exact .mk (hE _ hC1)
     apply yN_
     ·apply dP [];exact fun _=>rfl;rfl;rintro vals ⟨-,-⟩ w1 hC1 E hE;simp only [sP] at hE ⊢;go_wp2;exact .mk (hE _ hC1)
     apply yN_
     ·apply dP [(0,some 111)];exact fun _=>rfl;rfl;intro vals vq w1 hC1 E hE;simp only [sP,vq] at hE ⊢;clear vq;go_wp2;exact .mk (hE _ hC1)
     apply yN_
     ·apply dP [(2,some 113),(1,some 112)];exact fun _=>rfl;rfl;intro vals vq w1 hC1 E hE;simp only [sP,vq] at hE ⊢;clear vq;go_wp2;exact .mk (hE _ hC1)
     apply yN_
     ·apply dP [(3,some 114)];exact fun _=>rfl;rfl;intro vals vq w1 hC1 E hE;have d0:=D3.out _ _ hC1;simp only [sP,vq] at hE ⊢;clear vq;go_wp2;exact .mk (hE _ hC1)
     apply yN_
     ·apply dP [(4,some 115)];exact fun _=>rfl;rfl;intro vals vq w1 hC1 E hE;simp only [sP,vq] at hE ⊢;clear vq;go_wp2;rw [HAN.out];exact .mk (hE _ hC1)
     apply yN_
     ·apply dP [(0,some 111)];exact fun _=>rfl;rfl;intro vals vq w1 hC1 E hE;simp only [sP,vq] at hE ⊢;clear vq;go_wp2;exact .mk (hE _ hC1)
     apply yN_
     ·apply dP [(6,some 117),(1,some 112),(0,some 111),(1,some 112),(2,some 113),(3,some 114),(4,some 115),(5,some 116)];exact fun _=>rfl;rfl;intro vals vq w1 hC1 E hE;simp only [sP,vq] at hE ⊢;clear vq;go_wp2;exact .mk (hE _ hC1)
     apply yL_ (v:=undef)
     ·apply dP [(7,some 118),(5,some 116),(0,some 111),(1,some 112),(2,some 113),(3,some 114),(4,some 115),(5,some 116)];exact fun _=>rfl;rfl;intro vals vq w1 hC1 E hE;have d0:=D3.out _ _ hC1;have q0:=hC1.x.free k;simp only [sP,vq] at hE ⊢;clear vq;go_wp2;refine .mk (hE _ (hC1.put (qaf _ _ _ _) ?_));have h:=qag (i:=k) hC1.x (.int .i64 v);rw [qbF,List.set_set] at h;exact h
     intro vals vq w1 hC1;simp only [sP,vq];clear vq;have HW2:=zY hC1;clear HC0 hC1;go_wp2_with fail;refine ⟨⟨k+1,c2,Y.set k v,HK.out,by go_num,rfl,HSTEP.out.symm,HW2.out⟩,by have:=HK.out; simp [intOf]; omega⟩
    ·obtain rfl:k=32:=by omega
     have hc0:=LP.out.car;have hq3:=LP.out.q3;have hq4:=LP.out.q4;have hlf:leftL X=(p4 (p3 Y c 32) 32).2:=by rw [leftL,HP2.out,← hY1,← hY2]
     rw [HP2.out,← hY1,← hY2] at hq4;rw [HP2.out,← hY2] at hc0;rw [HP2.out,← hY1,← hY2] at hq3;have hcb:-1≤c∧c≤0:=by omega
     have hyb:∀ j,j<32→0≤Y.getD j 0∧Y.getD j 0≤255:=fun j h=>by rw [hY1]; exact I.norm j h
     have hpd:∀ k,-255≤c*odL.getD k 0∧c*odL.getD k 0≤0:=fun k=>by
      have:=od_lt k
      rcases hc0 with h | h <;> rw [h] <;> omega
     have hyg:∀ j,32≤j→-8388608≤Y.getD j 0∧Y.getD j 0≤8388608:=fun j h=>by rw [hY1,I.out j h]; exact HA.out.big j
     have HYG:=zY hyg;have HQ3:=zY hq3;have HQ4:=zY hq4;have HLF:=zY hlf;have HPD:=zY hpd;have HYB:=zY hyb;have HYL:=zY hYl;have HST:=zY (show LW w g o OD (p3 Y c 0) wr from hst);obtain ⟨lcb,hcb1⟩:=hcb;clear hyg hc0 hq3 hq4 hlf hpd hyb hY hY1 hY2 I hYl hcl hst;go_wp2_with fail;obtain ⟨wo2,rfl⟩:∃ x:World,x=wr:=⟨_,rfl⟩
     go_loopw [120] (fun jv wr=>∃ k:Nat,k≤32∧jv=.int .i64 (k:Int)∧LW w g o OD (p3 Y c k) wr) (fun jv _=>(32 - intOf jv).toNat)
     case atStart=>exact ⟨0,by omega,rfl,HST.out⟩
     case round =>
      clear HST;obtain ⟨k,hk,rfl,hst⟩:=hrel;obtain ⟨V,hV⟩:=eX (p3 Y c k);have I:=HQ3.out k hk;rw [← hV] at hst;have hVl:V.length=64:=by rw [hV]; exact I.len
      by_cases hlt3:k<32
      ·have hk32:(k:Int)<32:=by omega
       have hk64:(k:Int)<64:=by omega
       have hyp:V.getD k 0=Y.getD k 0:=by rw [hV]; exact I.out k (Nat.le_refl _)
       obtain ⟨a,ha⟩:=eX (Y.getD k 0);obtain ⟨d,hd⟩:=eX (odL.getD k 0);have hab:=HYB.out k hlt3;have hyb:=HPD.out k;have hdb:=od_lt k;rw [← ha] at hab hyp;rw [← hd] at hyb hdb;obtain ⟨y,hy⟩:∃ z,c*d=z:=⟨_,rfl⟩;rw [hy] at hyb;obtain ⟨r,hr⟩:∃ z,a - y=z:=⟨_,rfl⟩;have hrb:-9000000≤r∧r≤9000000:=by omega
       have hstep:p3 Y c (k+1)=V.set k r:=by rw [p3,← hV,hyp,← hd,hy,hr]
       have d0:∀ u,LW w g o OD V u→u.cell? ⟨g,k,none⟩=some (.int .i64 a):=fun u h=>by rw [h.x.cell,iV_at (by omega),hyp]
       have d2:∀ u,LW w g o OD V u→u.cell? ⟨o,k,none⟩=some (.int .i64 d):=fun u h=>by rw [h.l.cell,HOC.out k (by omega),hd]
       have D0:=zY d0;have D2:=zY d2;have HSTEP:=zY hstep;have HK:=zY hlt3;have HC0:=hst.drew;obtain ⟨ly,hy1⟩:=hyb;obtain ⟨lr,hr1⟩:=hrb;obtain ⟨la,ha1⟩:=hab;obtain ⟨ldb,hdb1⟩:=hdb;clear d0 d2 hstep hst hV hyp ha hd I hVl hk hlt3;go_wp2_with fail;refine qaj (fun u=>LW w g o OD V u) (fun u=>LW w g o OD (V.set k r) u) [(0,some 123),(1,some 124),(2,some 125),(3,some 126),(4,some 127),(5,some 128),(6,some 129),(7,some 130),(8,some 131),(9,some 132),(10,some 133),(11,some 134),(12,some 135),(13,none)] (by kernel_rfl) (by kernel_rfl) (by decide) (by kernel_rfl) (fun _=>rfl) HC0 ?_;apply yN_
       ·apply dP [];exact fun _=>rfl;rfl;rintro vals - w1 hC1 E hE;simp only [sP] at hE ⊢;go_wp2;exact .mk (hE _ hC1)
       apply yN_
       ·apply dP [];exact fun _=>rfl;rfl;rintro vals ⟨-,-⟩ w1 hC1 E hE;simp only [sP] at hE ⊢;go_wp2;exact .mk (hE _ hC1)
       apply yN_
       ·apply dP [(0,some 123)];exact fun _=>rfl;rfl;intro vals vq w1 hC1 E hE;simp only [sP,vq] at hE ⊢;clear vq;go_wp2;exact .mk (hE _ hC1)
       apply yN_
       ·apply dP [(2,some 125),(1,some 124)];exact fun _=>rfl;rfl;intro vals vq w1 hC1 E hE;simp only [sP,vq] at hE ⊢;clear vq;go_wp2;exact .mk (hE _ hC1)
       apply yN_
       ·apply dP [(3,some 126)];exact fun _=>rfl;rfl;intro vals vq w1 hC1 E hE;have d0:=D0.out _ hC1;simp only [sP,vq] at hE ⊢;clear vq;go_wp2;exact .mk (hE _ hC1)
       apply yN_
       ·apply dP [];exact fun _=>rfl;rfl;intro vals vq w1 hC1 E hE;clear vq;simp only [sP] at hE ⊢;go_wp2;exact .mk (hE _ hC1)
       apply yN_
       ·apply dP [];exact fun _=>rfl;rfl;intro vals vq w1 hC1 E hE;clear vq;simp only [sP] at hE ⊢;go_wp2;exact .mk (hE _ hC1)
       apply yN_
       ·apply dP [(6,some 129)];exact fun _=>rfl;rfl;intro vals vq w1 hC1 E hE;simp only [sP,vq] at hE ⊢;clear vq;go_wp2;exact .mk (hE _ hC1)
       apply yN_
       ·apply dP [(7,some 130)];exact fun _=>rfl;rfl;intro vals vq w1 hC1 E hE;have d0:=D2.out _ hC1;simp only [sP,vq] at hE ⊢;clear vq;go_wp2;exact .mk (hE _ hC1)
       apply yN_
       ·apply dP [(5,some 128),(8,some 131)];exact fun _=>rfl;rfl;intro vals vq w1 hC1 E hE;simp only [sP,vq] at hE ⊢;clear vq;go_wp2;exact .mk (hE _ hC1)
       apply yN_
       ·apply dP [(4,some 127),(9,some 132)];exact fun _=>rfl;rfl;intro vals vq w1 hC1 E hE;simp only [sP,vq] at hE ⊢;clear vq;go_wp2;exact .mk (hE _ hC1)
       apply yN_
       ·apply dP [(0,some 123)];exact fun _=>rfl;rfl;intro vals vq w1 hC1 E hE;simp only [sP,vq] at hE ⊢;clear vq;go_wp2;exact .mk (hE _ hC1)
       apply yN_
       ·apply dP [(11,some 134),(1,some 124),(0,some 123),(1,some 124),(2,some 125),(3,some 126),(4,some 127),(5,some 128),(6,some 129),(7,some 130),(8,some 131),(9,some 132),(10,some 133)];exact fun _=>rfl;rfl;intro vals vq w1 hC1 E hE;simp only [sP,vq] at hE ⊢;clear vq;go_wp2;exact .mk (hE _ hC1)
       apply yL_ (v:=undef)
       ·apply dP [(12,some 135),(10,some 133),(0,some 123),(1,some 124),(2,some 125),(3,some 126),(4,some 127),(5,some 128),(6,some 129),(7,some 130),(8,some 131),(9,some 132),(10,some 133)];exact fun _=>rfl;rfl;intro vals vq w1 hC1 E hE;have d0:=D0.out _ hC1;have q0:=hC1.x.free k;simp only [sP,vq] at hE ⊢;clear vq;go_wp2;refine .mk (hE _ (hC1.put (qaf _ _ _ _) ?_));have h:=qag (i:=k) hC1.x (.int .i64 r);rw [qbF] at h;exact h
       intro vals vq w1 hC1;simp only [sP,vq];clear vq;have HW2:=zY hC1;clear HC0 hC1;go_wp2_with fail;refine ⟨⟨k+1,HK.out,by go_num,by rw [HSTEP.out]; exact HW2.out⟩,by have:=HK.out; simp [intOf]; omega⟩
      ·obtain rfl:k=32:=by omega
       have hmk:∀ u:World,(Instr.makeSlice 22 (.int .i64 32) (.int .i64 32)).run Tryd.prog u=.ok (.slice (some ⟨u.heap.size,0,none⟩) 32 32) (u.alloc (.cells (bnV (partL [] 32)).toArray 5)):=fun _=>by kernel_rfl
       have hvb:∀ j,-8388608≤V.getD j 0∧V.getD j 0≤8388608:=fun j=>by
        by_cases h:j<32
        ·have:=I.norm j h; rw [← hV] at this; omega
        ·have h2:=I.out j (by omega); rw [← hV] at h2; rw [h2]; exact HYG.out j (by omega)
       have HVB:=zY hvb;have HQ4':=zY (show ∀ k,k≤32→P4 V k by rw [hV]; exact HQ4.out);have HLF':=zY (show leftL X=(p4 V 32).2 by rw [hV]; exact HLF.out);have hst':LV w g o wr.heap.size OD V (partL [] 32) (wr.alloc (.cells (bnV (partL [] 32)).toArray 5)):=lv_new hst;have HST:=zY hst';clear hvb hst hst' I hVl hV HQ4 HLF HQ3 HPD HYB HYL;go_wp2_with fail;clear hmk;generalize hoo:wr.heap.size=oo at HST ⊢;clear hoo
       go_loopw [138] (fun jv wr=>∃ k:Nat,k≤32∧jv=.int .i64 (k:Int)∧LV w g o oo OD (p4 V k).1 (partL (p4 V k).2 32) wr) (fun jv _=>(32 - intOf jv).toNat)
       case atStart=>exact ⟨0,by omega,rfl,HST.out⟩
       case round =>
        clear HST;obtain ⟨k,hk,rfl,hst⟩:=hrel;obtain ⟨Z,hZ⟩:=eX ((p4 V k).1);obtain ⟨L,hL⟩:=eX ((p4 V k).2);have I:=HQ4'.out k hk;rw [← hZ,← hL] at hst;have hZl:Z.length=64:=by rw [hZ]; exact I.len
        have hLl:L.length=k:=by rw [hL]; exact I.ol
        by_cases hlt4:k<32
        ·have hk32:(k:Int)<32:=by omega
         have hk64:(k:Int)<63:=by omega
         have hyp:Z.getD (k+1) 0=V.getD (k+1) 0:=by rw [hZ]; exact I.out _ (Nat.lt_succ_self _)
         have hcur:=I.cur;rw [← hZ] at hcur;obtain ⟨a,ha⟩:=eX (V.getD (k+1) 0);obtain ⟨e,he⟩:=eX (Z.getD k 0);obtain ⟨k1,hk1⟩:=eX (k+1);have hk1i:(k:Int)+1=(k1:Int):=by omega
         have hk164:(k1:Int)<64:=by omega
         have hab:=HVB.out (k+1);rw [← ha] at hab hyp;rw [← he] at hcur;obtain ⟨f,hf⟩:∃ z,e/256=z:=⟨_,rfl⟩;have hfb:0≤f∧f≤3:=by omega
         obtain ⟨r,hr⟩:∃ z,a+f=z:=⟨_,rfl⟩;have hrb:-9000000≤r∧r≤9000000:=by omega
         obtain ⟨dn,hdn⟩:=eX ((e%256).toNat);have hdi:e%256=(dn:Int):=by omega
         have hstep:p4 V (k+1)=(Z.set k1 r,L++[dn]):=by rw [p4,← hZ,← hL,hyp,← he,hf,hr,← hdn,← hk1]
         have hset:(partL L 32).set k dn=partL (L++[dn]) 32:=partL_set L 32 k dn hLl hlt4;rw [← hk1] at hyp;have d0:∀ u,LV w g o oo OD Z (partL L 32) u→u.cell? ⟨g,k1,none⟩=some (.int .i64 a):=fun u h=>by rw [h.a.x.cell,iV_at (by omega),hyp]
         have d1:∀ u,LV w g o oo OD Z (partL L 32) u→u.cell? ⟨g,k,none⟩=some (.int .i64 e):=fun u h=>by rw [h.a.x.cell,iV_at (by omega),he]
         have d2:∀ u,LV w g o oo OD (Z.set k1 r) (partL L 32) u→u.cell? ⟨g,k,none⟩=some (.int .i64 e):=fun u h=>by rw [h.a.x.cell,iV_at (by rw [List.length_set]; omega),qaE _ (by omega),he]
         have d3:∀ u,LV w g o oo OD (Z.set k1 r) (partL L 32) u→∃ z,u.cell? ⟨oo,k,none⟩=some z:=fun u h=>by
          have h9:=h.out.cell k;rw [List.getElem?_toArray,List.getElem?_eq_getElem (by rw [bnV,List.length_map,qct _ _ (by omega)]; exact hlt4)] at h9;exact ⟨_,h9⟩
         have D0:=zY d0;have D1:=zY d1;have D2:=zY d2;have D3:=zY d3;have HSTEP:=zY hstep;have HSET:=zY hset;have HK:=zY hlt4;have HC0:=hst.drew;obtain ⟨lr,hr1⟩:=hrb;obtain ⟨la,ha1⟩:=hab;obtain ⟨lf,hf1⟩:=hfb;obtain ⟨lc2,hc21⟩:=hcur;clear d0 d1 d2 d3 hstep hset hst hZ hL hyp ha he I hZl hLl hk hlt4 hdn hk1;go_wp2_with fail;refine qaj (fun u=>LV w g o oo OD Z (partL L 32) u) (fun u=>LV w g o oo OD (Z.set k1 r) (partL L 32) u) [(0,some 141),(1,some 142),(2,some 143),(3,some 144),(4,some 145),(5,some 146),(6,some 147),(7,some 148),(8,some 149),(9,some 150),(10,some 151),(11,some 152),(12,some 153),(13,some 154),(14,some 155),(15,none)] (by kernel_rfl) (by kernel_rfl) (by decide) (by kernel_rfl) (fun _=>rfl) HC0 ?_;apply yN_
         ·apply dP [];exact fun _=>rfl;rfl;rintro vals - w1 hC1 E hE;simp only [sP] at hE ⊢;go_wp2;exact .mk (hE _ hC1)
         apply yN_
         ·apply dP [];exact fun _=>rfl;rfl;rintro vals ⟨-,-⟩ w1 hC1 E hE;simp only [sP] at hE ⊢;go_wp2;exact .mk (hE _ hC1)
         apply yN_
         ·apply dP [(1,some 142)];exact fun _=>rfl;rfl;intro vals vq w1 hC1 E hE;simp only [sP,vq] at hE ⊢;clear vq;go_wp2;exact .mk (hE _ hC1)
         apply yN_
         ·apply dP [(0,some 141)];exact fun _=>rfl;rfl;intro vals vq w1 hC1 E hE;simp only [sP,vq] at hE ⊢;clear vq;go_wp2;exact .mk (hE _ hC1)
         apply yN_
         ·apply dP [(3,some 144),(2,some 143)];exact fun _=>rfl;rfl;intro vals vq w1 hC1 E hE;simp only [sP,vq] at hE ⊢;clear vq;go_wp2;exact .mk (hE _ hC1)
         apply yN_
         ·apply dP [(4,some 145)];exact fun _=>rfl;rfl;intro vals vq w1 hC1 E hE;have d0:=D0.out _ hC1;simp only [sP,vq] at hE ⊢;clear vq;go_wp2;exact .mk (hE _ hC1)
         apply yN_
         ·apply dP [];exact fun _=>rfl;rfl;intro vals vq w1 hC1 E hE;clear vq;simp only [sP] at hE ⊢;go_wp2;exact .mk (hE _ hC1)
         apply yN_
         ·apply dP [];exact fun _=>rfl;rfl;intro vals vq w1 hC1 E hE;clear vq;simp only [sP] at hE ⊢;go_wp2;exact .mk (hE _ hC1)
         apply yN_
         ·apply dP [(6,some 147)];exact fun _=>rfl;rfl;intro vals vq w1 hC1 E hE;simp only [sP,vq] at hE ⊢;clear vq;go_wp2;exact .mk (hE _ hC1)
         apply yN_
         ·apply dP [(8,some 149),(7,some 148)];exact fun _=>rfl;rfl;intro vals vq w1 hC1 E hE;simp only [sP,vq] at hE ⊢;clear vq;go_wp2;exact .mk (hE _ hC1)
         apply yN_
         ·apply dP [(9,some 150)];exact fun _=>rfl;rfl;intro vals vq w1 hC1 E hE;have d0:=D1.out _ hC1;simp only [sP,vq] at hE ⊢;clear vq;go_wp2;exact .mk (hE _ hC1)
         apply yN_
         ·apply dP [(10,some 151)];exact fun _=>rfl;rfl;intro vals vq w1 hC1 E hE;simp only [sP,vq] at hE ⊢;clear vq;go_wp2;exact .mk (hE _ hC1)
         apply yN_
         ·apply dP [(5,some 146),(11,some 152)];exact fun _=>rfl;rfl;intro vals vq w1 hC1 E hE;simp only [sP,vq] at hE ⊢;clear vq;go_wp2;exact .mk (hE _ hC1)
         apply yN_
         ·apply dP [(0,some 141)];exact fun _=>rfl;rfl;intro vals vq w1 hC1 E hE;simp only [sP,vq] at hE ⊢;clear vq;go_wp2;exact .mk (hE _ hC1)
         apply yN_
         ·apply dP [(13,some 154),(2,some 143),(0,some 141),(1,some 142),(2,some 143),(3,some 144),(4,some 145),(5,some 146),(6,some 147),(7,some 148),(8,some 149),(9,some 150),(10,some 151),(11,some 152),(12,some 153)];exact fun _=>rfl;rfl;intro vals vq w1 hC1 E hE;simp only [sP,vq] at hE ⊢;clear vq;go_wp2;exact .mk (hE _ hC1)
         apply yL_ (v:=undef)
         ·apply dP [(14,some 155),(12,some 153),(0,some 141),(1,some 142),(2,some 143),(3,some 144),(4,some 145),(5,some 146),(6,some 147),(7,some 148),(8,some 149),(9,some 150),(10,some 151),(11,some 152),(12,some 153)];exact fun _=>rfl;rfl;intro vals vq w1 hC1 E hE;have d0:=D0.out _ hC1;have q0:=hC1.a.x.free k1;simp only [sP,vq] at hE ⊢;clear vq;go_wp2;refine .mk (hE _ (hC1.put (qaf _ _ _ _) ?_));have h:=qag (i:=k1) hC1.a.x (.int .i64 r);rw [qbF] at h;exact h
         intro vals vq w1 hC1;simp only [sP,vq];clear vq;have d0:=D2.out _ hC1;obtain ⟨z0,d1⟩:=D3.out _ hC1;have q0:=hC1.out.free k;have HW2:=zY hC1;clear HC0 hC1;go_wp2_with fail;refine ⟨⟨k+1,HK.out,by go_num,?_⟩,by have:=HK.out; simp [intOf]; omega⟩;have h:=qag (i:=k) HW2.out.out (.int .u8 (dn:Int));rw [qbf,HSET.out] at h;rw [HSTEP.out];exact HW2.out.putO (qaf _ _ _ _) h
        ·obtain rfl:k=32:=by omega
         have hpl:partL L 32=leftL X:=by rw [HLF'.out,← hL]; exact partL_full _ _ hLl
         rw [hpl] at hst;have HST:=zY hst;clear hst hpl hZ hL I hZl hLl;go_wp2_with fail;go_ret;exact ⟨oo,rfl,HST.out.lo,HST.out.out,HST.out.a.bel⟩
def padI (l:List Nat):List Int:=(partL l 64).map fun n:Nat=>(n:Int)
theorem qb8 {l:List Nat} (h:l.length≤64):(padI l).length=64:=by rw [padI,List.length_map,qct _ _ h]
theorem padI_set (l:List Nat) (k d:Nat) (hk:l.length=k) (h:k<64):(padI l).set k (d:Int)=padI (l++[d]):=by
 rw [padI,padI,← partL_set l 64 k d hk h,List.map_set]
theorem vI_map:∀ l:List Nat,vI (l.map fun n:Nat=>(n:Int))=(leV l:Int)
 | []=>rfl
 | x :: r=>by
  show (x:Int)+256*vI (r.map _)=((x+256*leV r:Nat):Int);rw [vI_map r]; omega
theorem leV_part (l:List Nat) (n:Nat):leV (partL l n)=leV l:=by rw [partL,qbP,leV_replicate,Nat.mul_zero,Nat.add_zero]
theorem padI_val (l:List Nat):vI (padI l)=(leV l:Int):=by rw [padI,vI_map,leV_part]
theorem part_dg {l:List Nat} (h:Dg l) (n:Nat):Dg (partL l n):=fun d hd=>by
 rcases List.mem_append.1 hd with h1 | h1
 ·exact h d h1
 ·rw [List.eq_of_mem_replicate h1]; decide
theorem getD_mapI (l:List Nat) (j:Nat):(l.map fun n:Nat=>(n:Int)).getD j 0=((l.getD j 0:Nat):Int):=by
 rw [List.getD_eq_getElem?_getD,List.getD_eq_getElem?_getD,List.getElem?_map]
 cases l[j]? <;> rfl
theorem padI_bd {l:List Nat} (h:Dg l) (j:Nat):-4194304≤(padI l).getD j 0∧(padI l).getD j 0≤4194304:=by
 rw [padI,getD_mapI];have:=qaV (part_dg h 64) j;omega
theorem ln_pos:0<LN:=by decide
theorem left_val {X:List Int} {N:Nat} (P:LeftP X) (h:vI X=(N:Int)):leftL X=digN 32 (N%LN):=by
 refine digN_eq (leftL_dg P) (leftL_len P) ?_;have h1:=P.val;rw [h,← Int.natCast_emod] at h1;exact Int.ofNat_inj.1 h1
structure D64 (w0:World) (g:Nat) (X:List Int) (u:World):Prop where
 bel:Below w0.heap.size w0 u
 x:Blk u g 76 (iV X).toArray
 lo:w0.heap.size≤g
theorem D64.put {w0 u u':World} {g:Nat} {X X':List Int} (k:D64 w0 g X u) (hw:Wrote g u u') (hb:Blk u' g 76 (iV X').toArray):D64 w0 g X' u' :=
 ⟨hw.below k.bel k.lo k.bel.size,hb,k.lo⟩
theorem D64.drew {w0 u:World} {g:Nat} {X:List Int} (k:D64 w0 g X u):D64 w0 g X u.drew:=⟨k.bel.drew,k.x,k.lo⟩
def SclPost (N:Nat) (w:World) (e:Ending) (w':World):Prop :=
 ∃ o,e=.returned (.slice (some ⟨o,0,none⟩) 32 32)∧w.heap.size≤o∧Blk w' o 5 (bnV (digN 32 N)).toArray∧Below w.heap.size w w'
theorem qcr {w:World} {A:Option Addr} {l:List Nat} {B:Nat} (h:Rd w B A (bnV l)) {k:Nat} (hk:k<l.length):∃ ad,A=some ad∧w.cell? (ad.add k)=some (.int .u8 ((l.getD k 0:Nat):Int)):=by
 obtain ⟨ad,rfl,_,hcell⟩:=h.at_ (k:=k) (by rw [bnV,List.length_map]; exact hk);refine ⟨ad,rfl,?_⟩;rw [hcell,List.getD_eq_getElem?_getD,List.getElem?_eq_getElem hk];simp [bnV]
theorem min_run (n m:Nat) (h:min n 64=m) (ts:Array TypeId) (t:TypeId) (u:World):(Builtin.min_ ts t #[.int .i64 (n:Int),.int .i64 64]).run Tryd.prog u=.ok (.int .i64 (m:Int)) u:=by
 by_cases h1:n≤64
 ·obtain rfl:m=n:=by omega
  have h2:(m:Int)≤64:=by omega
  have h3:¬ (64:Int)<(m:Int):=by omega
  simp [Builtin.min_,Builtin.min2,List.foldlM]
  try omega
 ·obtain rfl:m=64:=by omega
  have h2:¬ (n:Int)≤64:=by omega
  have h3:(64:Int)<(n:Int):=by omega
  simp [Builtin.min_,Builtin.min2,List.foldlM]
  try omega
theorem scl_new (w:World):D64 w w.heap.size (padI []) (w.alloc (.cells (iV (padI [])).toArray 76)):=⟨below_new _ _,Blk.new _ _ _,Nat.le_refl _⟩
theorem scl_reduce (l:List Nat) (hd:Dg l) (A:Option Addr) (c:Nat) (w:World) (hr:Rd w w.heap.size A (bnV l)) (hl:l.length≤1000000) :
  Calls Tryd.prog 21 #[.slice A l.length c] w (SclPost (leV (l.take 64)%LN) w):=by
 obtain ⟨n,hn⟩:=eX (l.length);obtain ⟨m,hm⟩:=eX ((l.take 64).length);have hmn:m≤n:=by rw [hm,hn,List.length_take]; exact Nat.min_le_right _ _
 have hm64:m≤64:=by rw [hm,List.length_take]; exact Nat.min_le_left _ _
 rw [← hn];have hn63:(n:Int)≤1000000:=by omega
 have hmin:=min_run n m (by rw [hm,List.length_take,← hn]; omega);have hst0:=scl_new w;have HR:=zY hr;have HD:=zY hd;have HN:=zY hn;have HM:=zY hm;have HMN:=zY hmn;have HST0:=zY hst0;clear hr hd hn hm hl hst0 hmn;go_enter Tryd.func21,Tryd.ntmps21;go_wp2_with fail;generalize hg:w.heap.size=g at HST0 HR ⊢;have HG:=zY hg;clear hg hmin
 change Code.wp Tryd.prog _ _ _ (w.alloc (.cells (iV (padI [])).toArray 76))
 generalize w.alloc (.cells (iV (padI [])).toArray 76)=w9 at HST0 ⊢
 go_loopw [8] (fun jv wr=>∃ k:Nat,k≤m∧jv=.int .i64 (k:Int)∧D64 w g (padI (l.take k)) wr) (fun jv _=>((m:Int) - intOf jv).toNat)
 case atStart=>exact ⟨0,by omega,rfl,HST0.out⟩
 case round =>
  clear HST0;obtain ⟨k,hk,rfl,hst⟩:=hrel
  by_cases hlt:k<m
  ·have hlt':(k:Int)<(m:Int):=by omega
   have hk64:(k:Int)<64:=by omega
   have hkn:(k:Int)<(n:Int):=by have:=HMN.out; omega
   have hkl:k<l.length:=by rw [← HN.out]; omega
   have hrd:=HR.out.below (by have h:=hst.bel; rw [HG.out] at h; exact h);obtain ⟨ad,rfl,d1⟩:=qcr hrd hkl;obtain ⟨b,hb⟩:=eX (l.getD k 0);have hbl:(b:Int)<256:=by have:=qaV HD.out k; rw [← hb] at this; omega
   rw [← hb] at d1;have htl:(l.take k).length=k:=by rw [List.length_take]; omega
   have hset:(padI (l.take k)).set k (b:Int)=padI (l.take (k+1)):=by
    rw [padI_set _ k b htl (by omega),qcM hkl,hb,List.getD_eq_getElem?_getD,List.getElem?_eq_getElem hkl]; rfl
   have hd0:∃ z,wr.cell? ⟨g,k,none⟩=some (.int .i64 z):=⟨_,by rw [hst.x.cell,iV_at (by rw [qb8 (by rw [htl]; omega)]; omega)]⟩;obtain ⟨z0,d0⟩:=hd0;have q0:=hst.x.free k;have HSET:=zY hset;have HST:=zY hst;have HK:=zY hlt;clear hst hset hrd hb hkl htl hk hlt;go_wp2_with fail;refine ⟨⟨k+1,HK.out,by go_num,?_⟩,by have:=HK.out; simp [intOf]; omega⟩;have h:=qag (i:=k) HST.out.x (.int .i64 (b:Int));rw [qbF,HSET.out] at h;exact HST.out.put (qaf _ _ _ _) h
  ·obtain rfl:k=m:=by omega
   obtain ⟨T,hT⟩:=eX (l.take 64)
   have htk:l.take k=T:=by
    rw [hT,HM.out,List.length_take]
    by_cases h:64≤l.length
    ·rw [Nat.min_eq_left h]
    ·rw [Nat.min_eq_right (by omega),List.take_of_length_le (Nat.le_refl _),List.take_of_length_le (by omega)]
   have hTd:Dg T:=fun d h=>HD.out d (List.mem_of_mem_take (by rw [hT] at h; exact h));have hTl:T.length≤64:=by rw [hT,List.length_take]; exact Nat.min_le_left _ _
   rw [htk] at hst;have hpost:=left_any (padI T) (qb8 hTl) (padI_bd hTd) g wr hst.x;have hval:=left_val (left_ok (qb8 hTl) (padI_bd hTd)) (padI_val T);have HT:=zY hT;have HST:=zY hst;have HPOST:=zY hpost;have HVAL:=zY hval;clear hst hpost hval hT htk hTd hTl;go_wp2_with fail;refine qab HPOST.out ?_;rintro e w2 ⟨o,rfl,ho,hbk,hb2⟩;rw [HVAL.out] at hbk
   have HF:=zY (show w.heap.size≤o∧Blk w2 o 5 (bnV (digN 32 (leV T%LN))).toArray∧Below w.heap.size w w2 from
    ⟨Nat.le_trans HST.out.bel.size ho,hbk,HST.out.bel.trans (hb2.mono HST.out.lo)⟩)
   clear ho hbk hb2;go_wp2_with fail;go_ret;have hf:=HF.out;rw [HT.out] at hf;exact ⟨o,rfl,hf⟩
def hshN (d:List UInt8):Nat:=leV (secD d)%LN
def keyN (b:List UInt8):Nat:=leV ((secL b).take 32)
def pubL (n:Nat):List Nat:=byF (times baseF n)
theorem digS_len (b:List UInt8):(Sh.digS Sh.F64 b).length=64:=Sh.outW_length 64 8 (Sh.runS Sh.F64 (Sh.padS Sh.F64 b) ((Sh.padS Sh.F64 b).length/(2*Sh.F64.bits))) 8 (Nat.le_refl _)
theorem secD_len (b:List UInt8) (h:(Sh.digS Sh.F64 b).length=64):(secL b).length=64:=by rw [secL,clampL_len,secD,digs,List.length_map,h]
def prefB (b:List UInt8):List UInt8:=bsN ((secL b).drop 32)
def secN (b m:List UInt8):Nat:=hshN (prefB b++m++[])
def ptB (n:Nat):List UInt8:=bsN (pubL n)
def sigN (b m:List UInt8):Nat:=(hshN (ptB (secN b m)++ptB (keyN b)++m)*keyN b+secN b m)%LN
def sigB (b m:List UInt8):List UInt8:=ptB (secN b m)++byB (sigN b m)
theorem secL_dg (b:List UInt8):Dg (secL b):=clampL_dg (qbG _)
theorem pubL_dg (n:Nat):Dg (pubL n):=byP_dg (times baseF n).y.isLt
theorem pubL_len (n:Nat):(pubL n).length=32:=byP_len _ _
theorem qcn (n:Nat):(ptB n).length=32:=by rw [ptB,bsN,List.length_map,pubL_len]
theorem qbe {N:Nat} (h:N<LN):leV (digs (byB N))=N:=by
 rw [qcG];exact leV_byN N (Nat.lt_trans h (by decide))
theorem hshN_lt (d:List UInt8):hshN d<LN:=Nat.mod_lt _ ln_pos
theorem bsN_val {l:List Nat} (h:Dg l):leV (digs (bsN l))=leV l:=by rw [qce h]
theorem qcB (b m:List UInt8):(sigB b m).length=64:=by rw [sigB,List.length_append,qcn,qaU]
theorem sigB_take (b m:List UInt8):(sigB b m).take 32=ptB (secN b m):=by rw [sigB,List.take_left' (qcn _)]
theorem sigB_drop (b m:List UInt8):(sigB b m).drop 32=byB (sigN b m):=by rw [sigB,List.drop_left' (qcn _)]
theorem sigN_lt (b m:List UInt8):sigN b m<LN:=Nat.mod_lt _ ln_pos
def bmP (kb:List UInt8):Pt4:=mulP baseP kb
theorem bmP_ok (kb:List UInt8):(bmP kb).Ok:=mulP_ok baseP_ok kb
theorem bmP_is {kb:List UInt8} (h:kb.length=32):Is (bmP kb) (times baseF (leV (digs kb))):=by
 have e:=Is.mul baseP_ok is_base kb;rw [List.take_of_length_le (by omega)] at e;exact e
theorem bmP_bytes {kb:List UInt8} (h:kb.length=32):bytP (bmP kb)=pubL (leV (digs kb)):=bytP_is (bmP_ok kb) (bmP_is h)
theorem bm_any (kb:List UInt8) (h:kb.length=32) (A:Option Addr) (c:Nat) (u:World) (hr:Rd u u.heap.size A (bytesV kb)) (hc:32≤c) :
  Calls Tryd.prog 24 #[.agg (ptV baseP),.slice A 32 c] u (PtPost (bmP kb) u):=by
 have e:=pmul_any baseP baseP_ok kb A c u hr (by omega);rw [h] at e;exact e
theorem bb_any (kb:List UInt8) (h:kb.length=32) (u:World):Calls Tryd.prog 28 #[.agg (ptV (bmP kb))] u
  (fun e w'=>∃ o,e=.returned (.slice (some ⟨o,0,none⟩) 32 32)∧u.heap.size≤o∧Blk w' o 5 (bnV (pubL (leV (digs kb)))).toArray∧Below u.heap.size u w'):=by
 have e:=pbytes_any (bmP kb) (bmP_ok kb) u;unfold PbyPost at e;rw [bmP_bytes h] at e;exact e
theorem ssec_any (b:List UInt8) (lb:b.length=32) (A:Option Addr) (c:Nat) (w:World) (hr:Rd w w.heap.size A (bytesV b)) (hc:32≤c) (hG:Sh.TabG w) :
  Calls Tryd.prog 31 #[.slice A 32 c] w (fun e w'=>∃ A c B d,e=.returned (.tuple #[.slice A 32 c,.slice B 32 d])∧32≤c∧32≤d∧Rd w' w'.heap.size A (bytesV (bsN ((secL b).take 32)))∧Rd w' w'.heap.size B (bytesV (prefB b))∧Below w.heap.size w w'):=by
 have hS:=ssecret_any b A c w hr (by rw [lb]; decide) (by rw [lb]; exact hc) hG;rw [lb] at hS;refine Calls.mono hS fun e w' q=>?_;obtain ⟨A1,c1,B1,d1,q1,q2,q3,q4,q5,q6⟩:=q;exact ⟨A1,c1,B1,d1,q1,q2,q3,by rw [← qbJ (fun d hd=>secL_dg b d (List.mem_of_mem_take hd))]; exact q4,by rw [prefB,← qbJ (fun d hd=>secL_dg b d (List.mem_of_mem_drop hd))]; exact q5,q6⟩
theorem keyB_val (b:List UInt8):leV (digs (bsN ((secL b).take 32)))=keyN b:=by rw [bsN_val (fun d hd=>secL_dg b d (List.mem_of_mem_take hd)),keyN]
theorem keyB_len (b:List UInt8):(bsN ((secL b).take 32)).length=32:=by rw [bsN,List.length_map,List.length_take,secD_len b (digS_len b)]; rfl
theorem prefB_len (b:List UInt8):(prefB b).length=32:=by rw [prefB,bsN,List.length_map,List.length_drop,secD_len b (digS_len b)]
def SpuPost (L:List Nat) (w:World) (e:Ending) (w':World):Prop :=
 ∃ o,e=.returned (.tuple #[.slice (some ⟨o,0,none⟩) 32 32,.int .i64 0])∧w.heap.size≤o∧Blk w' o 5 (bnV L).toArray∧Below w.heap.size w w'
theorem qcP (b:List UInt8) (lb:b.length=32) (A:Option Addr) (c:Nat) (w:World) (hr:Rd w w.heap.size A (bytesV b)) (hc:32≤c) (hG:Sh.TabG w) :
  Calls Tryd.prog 14 #[.slice A 32 c] w (SpuPost (pubL (keyN b)) w):=by
 have HS:=zY (ssec_any b lb A c w hr hc hG);obtain ⟨K,hK⟩:=eX (bsN ((secL b).take 32));have hKl:K.length=32:=by rw [hK]; exact keyB_len b
 have hkv:leV (digs K)=keyN b:=by rw [hK]; exact keyB_val b
 rw [← hK] at HS;rw [← hkv];obtain ⟨B,hB⟩:=eX baseP;obtain ⟨P,hP⟩:=eX (bmP K);have CB:=zY (show ∀ u,Calls Tryd.prog 23 #[] u (PtPost B u) from fun u=>by rw [hB]; exact base_any u);have CM:=zY (show ∀ A c u,Rd u u.heap.size A (bytesV K)→32≤c→Calls Tryd.prog 24 #[.agg (ptV B),.slice A 32 c] u (PtPost P u) from fun A c u h1 h2=>by rw [hB,hP]; exact bm_any K hKl A c u h1 h2);have CY:=zY (show ∀ u,Calls Tryd.prog 28 #[.agg (ptV P)] u (fun e w'=>∃ o,e=.returned (.slice (some ⟨o,0,none⟩) 32 32)∧u.heap.size≤o∧Blk w' o 5 (bnV (pubL (leV (digs K)))).toArray∧Below u.heap.size u w') from fun u=>by rw [hP]; exact bb_any K hKl u);obtain ⟨L,hL⟩:=eX (pubL (leV (digs K)));rw [← hL] at CY ⊢;clear hr hc hG hK hKl hkv hB hP hL lb;go_enter Tryd.func14,Tryd.ntmps14;go_wp2_with fail;refine qab HS.out ?_;rintro e w1 ⟨A1,c1,B1,d1,rfl,hc1,hd1,r1,r2,hb1⟩;have R1:=zY r1;have HB:=zY hb1;have HC1:=zY hc1;clear r1 r2 hb1 hc1 hd1;go_wp2_with fail;refine qab (CB.out _) ?_;rintro e w2 ⟨rfl,hb⟩;replace R1:=zY (qan R1.out hb);replace HB:=zY (HB.out.trans (hb.mono HB.out.size));clear hb;go_wp2_with fail;refine qab (CM.out _ _ _ R1.out HC1.out) ?_;rintro e w3 ⟨rfl,hb⟩;replace HB:=zY (HB.out.trans (hb.mono HB.out.size));clear hb;go_wp2_with fail;refine qab (CY.out _) ?_;rintro e w4 ⟨o,rfl,ho,hk,hb⟩;have HF:=zY (And.intro (Nat.le_trans HB.out.size ho) (And.intro hk (HB.out.trans (hb.mono HB.out.size))));clear ho hk hb;go_wp2_with fail;go_ret2;exact ⟨o,rfl,HF.out⟩
theorem spublic_bad (n:Nat) (hn:n≠32) (hl:n≤1000) (A:Option Addr) (c:Nat) (w:World) :
  Calls Tryd.prog 14 #[.slice A n c] w (fun e w'=>e=.returned (.tuple #[.slice none 0 0,.int .i64 1])∧w'=w):=by
 have h1:¬ (n:Int)=32:=by omega
 have h2:(n:Int)≤1000:=by omega
 clear hn hl;go_enter Tryd.func14,Tryd.ntmps14;go_wp2_with fail;go_ret2;exact ⟨rfl,rfl⟩
theorem min_run32 (n m:Nat) (h:min n 32=m) (ts:Array TypeId) (t:TypeId) (u:World):(Builtin.min_ ts t #[.int .i64 (n:Int),.int .i64 32]).run Tryd.prog u=.ok (.int .i64 (m:Int)) u:=by
 by_cases h1:n≤32
 ·obtain rfl:m=n:=by omega
  have h3:¬ (32:Int)<(m:Int):=by omega
  simp [Builtin.min_,Builtin.min2,List.foldlM]
  try omega
 ·obtain rfl:m=32:=by omega
  have h3:(32:Int)<(n:Int):=by omega
  simp [Builtin.min_,Builtin.min2,List.foldlM]
  try omega
theorem leV_next (b:List Nat) (j:Nat) (h:j<b.length):leV (b.take (j+1))=leV (b.take j)+256^j*b.getD j 0:=by
 rw [qcM h,qbP,List.length_take,Nat.min_eq_left (Nat.le_of_lt h),List.getD_eq_getElem?_getD,List.getElem?_eq_getElem h];show _+_*(b[j]+256*0)=_;simp
structure MA (C:Nat) (a b:List Nat) (i j:Nat) (X:List Int):Prop where
 len:X.length=64
 bd:∀ p,0≤X.getD p 0∧X.getD p 0≤255+65025*(if p<i+j then (i:Int)+1 else (i:Int))
 val:vI X=(C:Int)+(leV (a.take i):Int)*(leV b:Int)+256^i*((a.getD i 0:Nat)*(leV (b.take j):Int))
theorem ma_alg {V C S B p x t q y z:Int} (h:V=C+S*B+p*(x*t)) (hz:x*y=z):V+z*(p*q)=C+S*B+p*(x*(t+q*y)):=by grind
theorem MA.step {C:Nat} {a b:List Nat} {i j:Nat} {X:List Int} (h:MA C a b i j X) (ha:Dg a) (hb:Dg b) (hi:i<32) (hj:j<32) (hbl:j<b.length) {y:Int} {z:Nat} (hy:y=X.getD (i+j) 0) (hz:a.getD i 0*b.getD j 0=z) :
  MA C a b i (j+1) (X.set (i+j) (y+(z:Int))):=by
 have hzb:z≤255*255:=by rw [← hz]; exact Nat.mul_le_mul (by have:=qaV ha i; omega) (by have:=qaV hb j; omega)
 refine ⟨by rw [List.length_set]; exact h.len,fun p=>?_,?_⟩
 ·have h0:=h.bd p
  by_cases hp:p=i+j
  ·subst hp;rw [qay _ (by rw [h.len]; omega),if_pos (by omega)];rw [if_neg (by omega),← hy] at h0;omega
  ·rw [qaE _ (by omega)];refine ⟨h0.1,Int.le_trans h0.2 ?_⟩
   split <;> split <;> omega
 ·rw [qcL _ _ _ (by rw [h.len]; omega),← hy,show y+(z:Int) - y=(z:Int) by omega,leV_next b j hbl,Int.pow_add];have hz':((a.getD i 0:Nat):Int)*((b.getD j 0:Nat):Int)=(z:Int):=by rw [← hz]; simp
  rw [Int.natCast_add,Int.natCast_mul,Int.natCast_pow];exact ma_alg h.val hz'
theorem ma_row {V C S B p x:Int} (h:V=C+S*B+p*(x*B)):V=C+(S+p*x)*B:=by grind
theorem MA.row {C:Nat} {a b:List Nat} {i j:Nat} {X:List Int} (h:MA C a b i j X) (hj:b.length≤j) (hj2:j≤32) (hi:i<a.length):MA C a b (i+1) 0 X:=by
 refine ⟨h.len,fun p=>?_,?_⟩
 ·have h0:=h.bd p;refine ⟨h0.1,Int.le_trans h0.2 ?_⟩
  split <;> split <;> omega
 ·have hv:=h.val;rw [List.take_of_length_le hj] at hv;rw [leV_next a i hi,Int.natCast_add,Int.natCast_mul,Int.natCast_pow];rw [show leV (b.take 0)=0 from rfl,Int.natCast_zero,Int.mul_zero,Int.mul_zero,Int.add_zero];exact ma_row hv
theorem MA.start {C:List Nat} (a b:List Nat) (hd:Dg C) (hl:C.length≤64):MA (leV C) a b 0 0 (padI C):=by
 refine ⟨qb8 hl,fun p=>?_,?_⟩
 ·rw [padI,getD_mapI];have:=qaV (part_dg hd 64) p;refine ⟨by omega,?_⟩
  split <;> omega
 ·rw [padI_val]; simp [leV]
theorem MA.fin {C:Nat} {a b:List Nat} {i:Nat} {X:List Int} (h:MA C a b i 0 X) (hi:a.length≤i) (hi2:i≤32):(∀ p,-4194304≤X.getD p 0∧X.getD p 0≤4194304)∧vI X=((leV a*leV b+C:Nat):Int):=by
 refine ⟨fun p=>?_,?_⟩
 ·have h0:=h.bd p
  split at h0 <;> omega
 ·have hv:=h.val;rw [List.take_of_length_le hi,show leV (b.take 0)=0 from rfl,Int.natCast_zero,Int.mul_zero,Int.mul_zero,Int.add_zero] at hv;rw [hv,Int.natCast_add,Int.natCast_mul];omega
theorem scl_muladd (a b d:List Nat) (ha:Dg a) (hb:Dg b) (hd:Dg d) (la:a.length=32) (lb:b.length=32) (ld:d.length=32) (A B D:Option Addr) (ca cb cd:Nat) (w:World)
  (ra:Rd w w.heap.size A (bnV a)) (rb:Rd w w.heap.size B (bnV b)) (rd:Rd w w.heap.size D (bnV d)) :
  Calls Tryd.prog 32 #[.slice A 32 ca,.slice B 32 cb,.slice D 32 cd] w (SclPost ((leV a*leV b+leV d)%LN) w):=by
 have hst0:=scl_new w;have hmin:=min_run32 32 32 rfl;have RA:=zY ra;have RB:=zY rb;have RD:=zY rd;have HA:=zY ha;have HB:=zY hb;have HD:=zY hd;have LA:=zY la;have LB:=zY lb;have LD:=zY ld;have HST0:=zY hst0;clear ra rb rd ha hb hd la lb ld hst0;go_enter Tryd.func32,Tryd.ntmps32;go_wp2_with fail;generalize hg:w.heap.size=g at HST0 RA RB RD ⊢;have HG:=zY hg;clear hg
 change Code.wp Tryd.prog _ _ _ (w.alloc (.cells (iV (padI [])).toArray 76))
 generalize w.alloc (.cells (iV (padI [])).toArray 76)=w9 at HST0 ⊢
 go_loopw [14] (fun jv wr=>∃ k:Nat,k≤32∧jv=.int .i64 (k:Int)∧D64 w g (padI (d.take k)) wr) (fun jv _=>(32 - intOf jv).toNat)
 case atStart=>exact ⟨0,by omega,rfl,HST0.out⟩
 case round =>
  clear HST0;obtain ⟨k,hk,rfl,hst⟩:=hrel
  by_cases hlt:k<32
  ·have hlt':(k:Int)<32:=by omega
   have hk64:(k:Int)<64:=by omega
   have hkl:k<d.length:=by rw [LD.out]; omega
   have hrd:=RD.out.below (by have h:=hst.bel; rw [HG.out] at h; exact h);obtain ⟨ad,rfl,d1⟩:=qcr hrd hkl;obtain ⟨y,hy⟩:=eX (d.getD k 0);have hyl:(y:Int)<256:=by have:=qaV HD.out k; rw [← hy] at this; omega
   rw [← hy] at d1;have htl:(d.take k).length=k:=by rw [List.length_take]; omega
   have hset:(padI (d.take k)).set k (y:Int)=padI (d.take (k+1)):=by
    rw [padI_set _ k y htl (by omega),qcM hkl,hy,List.getD_eq_getElem?_getD,List.getElem?_eq_getElem hkl]; rfl
   have hd0:∃ z,wr.cell? ⟨g,k,none⟩=some (.int .i64 z):=⟨_,by rw [hst.x.cell,iV_at (by rw [qb8 (by rw [htl]; omega)]; omega)]⟩;obtain ⟨z0,d0⟩:=hd0;have q0:=hst.x.free k;have HSET:=zY hset;have HST:=zY hst;have HK:=zY hlt;clear hst hset hrd hy hkl htl hk hlt;go_wp2_with fail;refine ⟨⟨k+1,HK.out,by go_num,?_⟩,by have:=HK.out; simp [intOf]; omega⟩;have h:=qag (i:=k) HST.out.x (.int .i64 (y:Int));rw [qbF,HSET.out] at h;exact HST.out.put (qaf _ _ _ _) h
  ·obtain rfl:k=32:=by omega
   have hma:=MA.start a b HD.out (by rw [LD.out]; decide);rw [List.take_of_length_le (by rw [LD.out]; exact Nat.le_refl _)] at hst;have HST:=zY hst;have HMA:=zY hma;clear hst hma;go_wp2_with fail;obtain ⟨wo1,rfl⟩:∃ x:World,x=wr:=⟨_,rfl⟩
   go_loopw [28] (fun iv wr=>∃ (i:Nat) (X:List Int),i≤32∧iv=.int .i64 (i:Int)∧MA (leV d) a b i 0 X∧D64 w g X wr) (fun iv _=>(32 - intOf iv).toNat)
   case atStart=>exact ⟨0,padI d,by omega,rfl,HMA.out,HST.out⟩
   case round =>
    clear HST HMA;obtain ⟨i,X,hi,rfl,hma,hst⟩:=hrel
    by_cases hlti:i<32
    ·have hlti':(i:Int)<32:=by omega
     have HST:=zY hst;have HMA:=zY hma;have HLI:=zY hlti;clear hst hma hi hlti;go_wp2_with fail;obtain ⟨wo2,rfl⟩:∃ x:World,x=wr:=⟨_,rfl⟩
     go_loopw [34] (fun jv wr=>∃ (j:Nat) (Y:List Int),j≤32∧jv=.int .i64 (j:Int)∧MA (leV d) a b i j Y∧D64 w g Y wr) (fun jv _=>(32 - intOf jv).toNat)
     case atStart=>exact ⟨0,X,by omega,rfl,HMA.out,HST.out⟩
     case round =>
      clear HST HMA;obtain ⟨j,Y,hj,rfl,hma,hst⟩:=hrel
      by_cases hltj:j<32
      ·have hltj':(j:Int)<32:=by omega
       obtain ⟨p,hp⟩:=eX (i+j);have hpi:(i:Int)+(j:Int)=(p:Int):=by omega
       have hp64:(p:Int)<64:=by have:=HLI.out; omega
       have hel:∀ u,D64 w g Y u→Below g w u:=fun u h=>by have h2:=h.bel; rw [HG.out] at h2; exact h2
       obtain ⟨ad,rfl,_⟩:=qcr (RA.out.below (hel _ hst)) (k:=i) (by rw [LA.out]; exact HLI.out);obtain ⟨bd,rfl,_⟩:=qcr (RB.out.below (hel _ hst)) (k:=j) (by rw [LB.out]; exact hltj);obtain ⟨x,hx⟩:=eX (a.getD i 0);obtain ⟨y,hy⟩:=eX (b.getD j 0);have hxl:x<256:=by rw [hx]; exact qaV HA.out i
       have hyl:y<256:=by rw [hy]; exact qaV HB.out j
       obtain ⟨z,hz⟩:∃ z,x*y=z:=⟨_,rfl⟩;have hzl:z≤255*255:=by rw [← hz]; exact Nat.mul_le_mul (by omega) (by omega)
       have hzi:(x:Int)*(y:Int)=(z:Int):=by rw [← hz]; simp
       obtain ⟨e,he⟩:=eX (Y.getD p 0);have hbd:=hma.bd p;rw [← he] at hbd
       have heb:0≤e∧e≤2100000:=by
        have:=HLI.out
        split at hbd <;> omega
       obtain ⟨r,hr⟩:∃ r,e+(z:Int)=r:=⟨_,rfl⟩;have hrb:0≤r∧r≤3000000:=by omega
       have hstep:=hma.step HA.out HB.out HLI.out hltj (by rw [LB.out]; exact hltj) (y:=e) (z:=z) (by rw [he,hp]) (by rw [← hx,← hy,hz]);rw [hr,← hp] at hstep
       have dA:∀ u,D64 w g Y u→u.cell? (ad.add i)=some (.int .u8 (x:Int)):=fun u h=>by
        obtain ⟨ad2,h1,h2⟩:=qcr (RA.out.below (hel _ h)) (k:=i) (by rw [LA.out]; exact HLI.out)
        injection h1 with h1
        rw [h1,h2,hx]
       have dB:∀ u,D64 w g Y u→u.cell? (bd.add j)=some (.int .u8 (y:Int)):=fun u h=>by
        obtain ⟨ad2,h1,h2⟩:=qcr (RB.out.below (hel _ h)) (k:=j) (by rw [LB.out]; exact hltj)
        injection h1 with h1
        rw [h1,h2,hy]
       have dX:∀ u,D64 w g Y u→u.cell? ⟨g,p,none⟩=some (.int .i64 e):=fun u h=>by
        rw [h.x.cell,iV_at (by rw [hma.len]; omega),he]
       have DA:=zY dA;have DB:=zY dB;have DX:=zY dX;have HSTEP:=zY hstep;have HJ:=zY hltj;have hxl':(x:Int)<256:=by omega
       have hyl':(y:Int)<256:=by omega
       have hzl':(z:Int)≤65025:=by omega
       obtain ⟨le,he1⟩:=heb;obtain ⟨lr,hr1⟩:=hrb;have HC0:=hst.drew;clear dA dB dX hstep hst hma hbd he hx hy hz hel hp hj hltj hxl hyl hzl;go_wp2_with fail;refine qaj (fun u=>D64 w g Y u) (fun u=>D64 w g (Y.set p r) u) [(0,some 37),(1,some 38),(2,some 39),(3,some 40),(4,some 41),(5,some 42),(6,some 43),(7,some 44),(8,some 45),(9,some 46),(10,some 47),(11,some 48),(12,some 49),(13,some 50),(14,some 51),(15,some 52),(16,some 53),(17,some 54),(18,none)] (by kernel_rfl) (by kernel_rfl) (by decide) (by kernel_rfl) (fun _=>rfl) HC0 ?_;apply yN_
       ·apply dP [];exact fun _=>rfl;rfl;rintro vals - w1 hC1 E hE;simp only [sP] at hE ⊢;go_wp2;exact .mk (hE _ hC1)
       apply yN_
       ·apply dP [];exact fun _=>rfl;rfl;rintro vals ⟨-,-⟩ w1 hC1 E hE;simp only [sP] at hE ⊢;go_wp2;exact .mk (hE _ hC1)
       apply yN_
       ·apply dP [(0,some 37),(1,some 38)];exact fun _=>rfl;rfl;intro vals vq w1 hC1 E hE;simp only [sP,vq] at hE ⊢;clear vq;go_wp2;exact .mk (hE _ hC1)
       apply yN_
       ·apply dP [(2,some 39)];exact fun _=>rfl;rfl;intro vals vq w1 hC1 E hE;simp only [sP,vq] at hE ⊢;clear vq;go_wp2;exact .mk (hE _ hC1)
       apply yN_
       ·apply dP [(3,some 40)];exact fun _=>rfl;rfl;intro vals vq w1 hC1 E hE;have d0:=DX.out _ hC1;simp only [sP,vq] at hE ⊢;clear vq;go_wp2;exact .mk (hE _ hC1)
       apply yN_
       ·apply dP [];exact fun _=>rfl;rfl;intro vals vq w1 hC1 E hE;clear vq;simp only [sP] at hE ⊢;go_wp2;exact .mk (hE _ hC1)
       apply yN_
       ·apply dP [];exact fun _=>rfl;rfl;intro vals vq w1 hC1 E hE;clear vq;simp only [sP] at hE ⊢;go_wp2;exact .mk (hE _ hC1)
       apply yN_
       ·apply dP [(5,some 42),(6,some 43)];exact fun _=>rfl;rfl;intro vals vq w1 hC1 E hE;simp only [sP,vq] at hE ⊢;clear vq;go_wp2;exact .mk (hE _ hC1)
       apply yN_
       ·apply dP [(7,some 44)];exact fun _=>rfl;rfl;intro vals vq w1 hC1 E hE;have d0:=DA.out _ hC1;simp only [sP,vq] at hE ⊢;clear vq;go_wp2;exact .mk (hE _ hC1)
       apply yN_
       ·apply dP [(8,some 45)];exact fun _=>rfl;rfl;intro vals vq w1 hC1 E hE;simp only [sP,vq] at hE ⊢;clear vq;go_wp2;exact .mk (hE _ hC1)
       apply yN_
       ·apply dP [];exact fun _=>rfl;rfl;intro vals vq w1 hC1 E hE;clear vq;simp only [sP] at hE ⊢;go_wp2;exact .mk (hE _ hC1)
       apply yN_
       ·apply dP [];exact fun _=>rfl;rfl;intro vals vq w1 hC1 E hE;clear vq;simp only [sP] at hE ⊢;go_wp2;exact .mk (hE _ hC1)
       apply yN_
       ·apply dP [(10,some 47),(11,some 48)];exact fun _=>rfl;rfl;intro vals vq w1 hC1 E hE;simp only [sP,vq] at hE ⊢;clear vq;go_wp2;exact .mk (hE _ hC1)
       apply yN_
       ·apply dP [(12,some 49)];exact fun _=>rfl;rfl;intro vals vq w1 hC1 E hE;have d0:=DB.out _ hC1;simp only [sP,vq] at hE ⊢;clear vq;go_wp2;exact .mk (hE _ hC1)
       apply yN_
       ·apply dP [(13,some 50)];exact fun _=>rfl;rfl;intro vals vq w1 hC1 E hE;simp only [sP,vq] at hE ⊢;clear vq;go_wp2;exact .mk (hE _ hC1)
       apply yN_
       ·apply dP [(9,some 46),(14,some 51)];exact fun _=>rfl;rfl;intro vals vq w1 hC1 E hE;simp only [sP,vq] at hE ⊢;clear vq;go_wp2;exact .mk (hE _ hC1)
       apply yN_
       ·apply dP [(4,some 41),(15,some 52)];exact fun _=>rfl;rfl;intro vals vq w1 hC1 E hE;simp only [sP,vq] at hE ⊢;clear vq;go_wp2;exact .mk (hE _ hC1)
       apply yN_
       ·apply dP [(2,some 39),(0,some 37),(1,some 38),(2,some 39),(3,some 40),(4,some 41),(5,some 42),(6,some 43),(7,some 44),(8,some 45),(9,some 46),(10,some 47),(11,some 48),(12,some 49),(13,some 50),(14,some 51),(15,some 52),(16,some 53)];exact fun _=>rfl;rfl;intro vals vq w1 hC1 E hE;simp only [sP,vq] at hE ⊢;clear vq;go_wp2;exact .mk (hE _ hC1)
       apply yL_ (v:=undef)
       ·apply dP [(17,some 54),(16,some 53),(0,some 37),(1,some 38),(2,some 39),(3,some 40),(4,some 41),(5,some 42),(6,some 43),(7,some 44),(8,some 45),(9,some 46),(10,some 47),(11,some 48),(12,some 49),(13,some 50),(14,some 51),(15,some 52),(16,some 53)];exact fun _=>rfl;rfl;intro vals vq w1 hC1 E hE;have d0:=DX.out _ hC1;have q0:=hC1.x.free p;simp only [sP,vq] at hE ⊢;clear vq;go_wp2;refine .mk (hE _ (hC1.put (qaf _ _ _ _) ?_));have h:=qag (i:=p) hC1.x (.int .i64 r);rw [qbF] at h;exact h
       intro vals vq w1 hC1;simp only [sP,vq];clear vq;have HW1:=zY hC1;clear HC0 hC1;go_wp2_with fail;exact ⟨⟨j+1,Y.set p r,HJ.out,by go_num,HSTEP.out,HW1.out⟩,by have:=HJ.out; simp [intOf]; omega⟩
      ·obtain rfl:j=32:=by omega
       have hrow:=hma.row (by rw [LB.out]; exact Nat.le_refl _) (Nat.le_refl _) (by rw [LA.out]; exact HLI.out);have HROW:=zY hrow;have HST:=zY hst;clear hrow hst hma;go_wp2_with fail;exact ⟨⟨i+1,Y,HLI.out,by go_num,HROW.out,HST.out⟩,by have:=HLI.out; simp [intOf]; omega⟩
    ·obtain rfl:i=32:=by omega
     obtain ⟨hbd,hval⟩:=hma.fin (by rw [LA.out]; exact Nat.le_refl _) (Nat.le_refl _);have hpost:=left_any X hma.len hbd g wr hst.x;have hlv:=left_val (left_ok hma.len hbd) hval;have HST:=zY hst;have HPOST:=zY hpost;have HVAL:=zY hlv;clear hst hpost hlv hma hbd hval;go_wp2_with fail;refine qab HPOST.out ?_;rintro e w2 ⟨o,rfl,ho,hbk,hb2⟩;rw [HVAL.out] at hbk
     have HF:=zY (show w.heap.size≤o∧Blk w2 o 5 (bnV (digN 32 ((leV a*leV b+leV d)%LN))).toArray∧Below w.heap.size w w2 from
      ⟨Nat.le_trans HST.out.bel.size ho,hbk,HST.out.bel.trans (hb2.mono HST.out.lo)⟩)
     clear ho hbk hb2;go_wp2_with fail;go_ret;exact ⟨o,rfl,HF.out⟩
def DgPost (d:List UInt8) (u:World) (e:Ending) (w':World):Prop :=
 ∃ A c,e=.returned (.slice A 64 c)∧Rd w' w'.heap.size A (bytesV (Sh.digS Sh.F64 d))∧Below u.heap.size u w'
theorem dgPost {d:List UInt8} {u u0:World} {e:Ending} {w':World} (hb:Below u.heap.size u u0) (q:Sh.SumPost64 d u0 e w'):DgPost d u e w':=by
 obtain ⟨A,c,q1,q2,q3⟩:=q;exact ⟨A,c,q1,Rd.of_own (OwnX.of q2) (Nat.le_refl _),hb.trans (q3.mono hb.size)⟩
theorem dig2 (a b:List UInt8) (n:Nat) (la:a.length=32) (lb:b.length=n) (hn:n≤20000) (A B:Option Addr) (ca cb:Nat) (u:World) (ra:Rd u u.heap.size A (bytesV a)) (rb:Rd u u.heap.size B (bytesV b)) (hG:Sh.TabG u) :
  Calls Tryd.prog 22 #[.slice (some ⟨u.heap.size,0,none⟩) 2 2] (u.alloc (.cells #[.slice A 32 ca,.slice B n cb] 22)) (DgPost (a++b) u):=by
 have hb:=below_new u (.cells #[.slice A 32 ca,.slice B n cb] 22)
 have h:=qb0 [a,b] [.slice A a.length ca,.slice B b.length cb] u.heap.size _ ⟨rfl,fun i x hi=>by
  match i with
  | 0=>injection hi with hi; subst hi; exact ⟨A,ca,rfl,qan ra hb⟩
  | 1=>injection hi with hi; subst hi; exact ⟨B,cb,rfl,qan rb hb⟩
  | i+2=>cases hi⟩ (by rw [la,lb]; exact Blk.new u _ _) (by simp; omega) (by show 2≤4; decide) (hG.below hb hG.size)
 rw [show [a,b].flatten=a++b by simp] at h;exact Calls.mono h fun e w' q=>dgPost hb q
theorem dig3 (a b d:List UInt8) (n:Nat) (la:a.length=32) (lb:b.length=32) (ld:d.length=n) (hn:n≤20000) (A B D:Option Addr) (ca cb cd:Nat) (u:World) (ra:Rd u u.heap.size A (bytesV a)) (rb:Rd u u.heap.size B (bytesV b)) (rd:Rd u u.heap.size D (bytesV d)) (hG:Sh.TabG u) :
  Calls Tryd.prog 22 #[.slice (some ⟨u.heap.size,0,none⟩) 3 3] (u.alloc (.cells #[.slice A 32 ca,.slice B 32 cb,.slice D n cd] 22)) (DgPost (a++b++d) u):=by
 have hb:=below_new u (.cells #[.slice A 32 ca,.slice B 32 cb,.slice D n cd] 22)
 have h:=qb0 [a,b,d] [.slice A a.length ca,.slice B b.length cb,.slice D d.length cd] u.heap.size _ ⟨rfl,fun i x hi=>by
  match i with
  | 0=>injection hi with hi; subst hi; exact ⟨A,ca,rfl,qan ra hb⟩
  | 1=>injection hi with hi; subst hi; exact ⟨B,cb,rfl,qan rb hb⟩
  | 2=>injection hi with hi; subst hi; exact ⟨D,cd,rfl,qan rd hb⟩
  | i+3=>cases hi⟩ (by rw [la,lb,ld]; exact Blk.new u _ _) (by simp; omega) (by show 3≤4; decide) (hG.below hb hG.size)
 rw [show [a,b,d].flatten=a++b++d by simp] at h;exact Calls.mono h fun e w' q=>dgPost hb q
theorem bn_byB (N:Nat):bnV (digN 32 N)=bytesV (byB N):=by rw [← byN_dig,qbJ (byN_lt N)]; rfl
def NbPost (R:List UInt8) (u:World) (e:Ending) (w':World):Prop :=
 ∃ o,e=.returned (.slice (some ⟨o,0,none⟩) 32 32)∧Rd w' w'.heap.size (some ⟨o,0,none⟩) (bytesV R)∧Below u.heap.size u w'
theorem nbPost {N:Nat} {u:World} {e:Ending} {w':World} (q:SclPost N u e w'):NbPost (byB N) u e w':=by
 obtain ⟨o,q1,q2,q3,q4⟩:=q;exact ⟨o,q1,by rw [← bn_byB]; exact Rd.of_blk q3 q3.lt,q4⟩
theorem qbZ (d:List UInt8) (A:Option Addr) (c:Nat) (u:World) (hr:Rd u u.heap.size A (bytesV (Sh.digS Sh.F64 d))) :
  Calls Tryd.prog 21 #[.slice A 64 c] u (NbPost (byB (hshN d)) u):=by
 have hl:(digs (Sh.digS Sh.F64 d)).length=64:=by rw [digs,List.length_map,digS_len]
 have h:=scl_reduce (digs (Sh.digS Sh.F64 d)) (qbG _) A c u (by rw [qbt]; exact hr) (by rw [hl]; decide);rw [hl,List.take_of_length_le (by rw [hl]; decide)] at h;exact Calls.mono h fun e w' q=>nbPost q
theorem smuladd_any (H K R:List UInt8) (lh:H.length=32) (lk:K.length=32) (lr:R.length=32) (A B D:Option Addr) (ca cb cd:Nat) (u:World) (ra:Rd u u.heap.size A (bytesV H)) (rb:Rd u u.heap.size B (bytesV K)) (rd:Rd u u.heap.size D (bytesV R)) :
  Calls Tryd.prog 32 #[.slice A 32 ca,.slice B 32 cb,.slice D 32 cd] u (NbPost (byB ((leV (digs H)*leV (digs K)+leV (digs R))%LN)) u):=by
 have h:=scl_muladd (digs H) (digs K) (digs R) (qbG _) (qbG _) (qbG _) (by rw [digs,List.length_map,lh]) (by rw [digs,List.length_map,lk]) (by rw [digs,List.length_map,lr]) A B D ca cb cd u
  (by rw [qbt]; exact ra) (by rw [qbt]; exact rb) (by rw [qbt]; exact rd)
 exact Calls.mono h fun e w' q=>nbPost q
theorem own_blk {w:World} {o base:Nat} {e:TypeId} {xs:List Value} {n:Nat} (h:Blk w o e xs.toArray) (hl:xs.length=n) (hn:n≤9223372036854775807) (hb:base≤o):OwnZ w base e 1 (.slice (some ⟨o,0,none⟩) n n) n xs :=
 ⟨by rw [hl,Nat.mul_one],.inr ⟨o,n,xs.toArray,rfl,hb,h,Nat.le_refl _,by unfold maxLen; omega,by simp [hl],by simp [← hl]⟩⟩
def SsgPost (L:List UInt8) (w:World) (e:Ending) (w':World):Prop :=
 ∃ A c,e=.returned (.tuple #[.slice A 64 c,.int .i64 0])∧OwnZ w' w.heap.size 5 1 (.slice A 64 c) 64 (bytesV L)∧Below w.heap.size w w'
theorem ssign_any (b m:List UInt8) (lb:b.length=32) (lm:m.length≤20000) (A M:Option Addr) (c cm:Nat) (w:World) (rb:Rd w w.heap.size A (bytesV b)) (rm:Rd w w.heap.size M (bytesV m)) (hc:32≤c) (hG:Sh.TabG w) :
  Calls Tryd.prog 13 #[.slice A 32 c,.slice M m.length cm] w (SsgPost (sigB b m) w):=by
 obtain ⟨n,hn⟩:=eX (m.length);rw [← hn] at lm ⊢;obtain ⟨K,hK⟩:=eX (bsN ((secL b).take 32));have hKl:K.length=32:=by rw [hK]; exact keyB_len b
 have hkv:leV (digs K)=keyN b:=by rw [hK]; exact keyB_val b
 obtain ⟨F,hF⟩:=eX (prefB b);have hFl:F.length=32:=by rw [hF]; exact prefB_len b
 have CP:=zY (show ∀ u,Rd u u.heap.size A (bytesV b)→Sh.TabG u→Calls Tryd.prog 14 #[.slice A 32 c] u (SpuPost (pubL (keyN b)) u) from fun u h g=>qcP b lb A c u h hc g);have CS:=zY (show ∀ u,Rd u u.heap.size A (bytesV b)→Sh.TabG u→Calls Tryd.prog 31 #[.slice A 32 c] u (fun e w'=>∃ A c B d,e=.returned (.tuple #[.slice A 32 c,.slice B 32 d])∧32≤c∧32≤d∧Rd w' w'.heap.size A (bytesV K)∧Rd w' w'.heap.size B (bytesV F)∧Below u.heap.size u w') from fun u h g=>by rw [hK,hF]; exact ssec_any b lb A c u h hc g);have CD1:=zY (show ∀ u A B ca cb,Rd u u.heap.size A (bytesV F)→Rd u u.heap.size B (bytesV m)→Sh.TabG u→Calls Tryd.prog 22 #[.slice (some ⟨u.heap.size,0,none⟩) 2 2] (u.alloc (.cells #[.slice A 32 ca,.slice B n cb] 22)) (DgPost (F++m) u) from fun u A B ca cb h1 h2 g=>dig2 F m n hFl hn.symm lm A B ca cb u h1 h2 g);obtain ⟨R,hR⟩:=eX (byB (secN b m));have hRl:R.length=32:=by rw [hR,qaU]
 have hRv:leV (digs R)=secN b m:=by rw [hR]; exact qbe (hshN_lt _)
 have CR1:=zY (show ∀ u A c,Rd u u.heap.size A (bytesV (Sh.digS Sh.F64 (F++m)))→Calls Tryd.prog 21 #[.slice A 64 c] u (NbPost R u) from fun u A c h=>by
  have e:=qbZ (F++m) A c u h;rw [show byB (hshN (F++m))=R by rw [hR,secN,hF,List.append_nil]] at e;exact e)
 obtain ⟨B,hB⟩:=eX baseP;obtain ⟨P,hP⟩:=eX (bmP R);have CB:=zY (show ∀ u,Calls Tryd.prog 23 #[] u (PtPost B u) from fun u=>by rw [hB]; exact base_any u);have CM:=zY (show ∀ A c u,Rd u u.heap.size A (bytesV R)→32≤c→Calls Tryd.prog 24 #[.agg (ptV B),.slice A 32 c] u (PtPost P u) from fun A c u h1 h2=>by rw [hB,hP]; exact bm_any R hRl A c u h1 h2);obtain ⟨T,hT⟩:=eX (ptB (secN b m));obtain ⟨U,hU⟩:=eX (ptB (keyN b));have hTl:T.length=32:=by rw [hT,qcn]
 have hUl:U.length=32:=by rw [hU,qcn]
 have hTb:bnV (pubL (secN b m))=bytesV T:=by rw [hT,ptB,qbJ (pubL_dg _)]
 have hUb:bnV (pubL (keyN b))=bytesV U:=by rw [hU,ptB,qbJ (pubL_dg _)]
 have CY:=zY (show ∀ u,Calls Tryd.prog 28 #[.agg (ptV P)] u (fun e w'=>∃ o,e=.returned (.slice (some ⟨o,0,none⟩) 32 32)∧u.heap.size≤o∧Blk w' o 5 (bytesV T).toArray∧Below u.heap.size u w') from fun u=>by
  have e:=bb_any R hRl u;rw [hRv,hTb,← hP] at e;exact e)
 have CD2:=zY (show ∀ u A B D ca cb cd,Rd u u.heap.size A (bytesV T)→Rd u u.heap.size B (bytesV U)→Rd u u.heap.size D (bytesV m)→Sh.TabG u→Calls Tryd.prog 22 #[.slice (some ⟨u.heap.size,0,none⟩) 3 3] (u.alloc (.cells #[.slice A 32 ca,.slice B 32 cb,.slice D n cd] 22)) (DgPost (T++U++m) u) from fun u A B D ca cb cd h1 h2 h3 g=>dig3 T U m n hTl hUl hn.symm lm A B D ca cb cd u h1 h2 h3 g);obtain ⟨H,hH⟩:=eX (byB (hshN (T++U++m)));have hHl:H.length=32:=by rw [hH,qaU]
 have hHv:leV (digs H)=hshN (T++U++m):=by rw [hH]; exact qbe (hshN_lt _)
 have CR2:=zY (show ∀ u A c,Rd u u.heap.size A (bytesV (Sh.digS Sh.F64 (T++U++m)))→Calls Tryd.prog 21 #[.slice A 64 c] u (NbPost H u) from fun u A c h=>by
  rw [hH]; exact qbZ (T++U++m) A c u h)
 obtain ⟨S,hS⟩:=eX (byB (sigN b m));have hSl:S.length=32:=by rw [hS,qaU]
 have CA:=zY (show ∀ u Ah ch Ak ck Ar cr,Rd u u.heap.size Ah (bytesV H)→Rd u u.heap.size Ak (bytesV K)→Rd u u.heap.size Ar (bytesV R)→Calls Tryd.prog 32 #[.slice Ah 32 ch,.slice Ak 32 ck,.slice Ar 32 cr] u (NbPost S u) from fun u Ah ch Ak ck Ar cr h1 h2 h3=>by
  have h:=smuladd_any H K R hHl hKl hRl Ah Ak Ar ch ck cr u h1 h2 h3;rw [hHv,hkv,hRv,hT,hU,show byB ((hshN (ptB (secN b m)++ptB (keyN b)++m)*keyN b+secN b m)%LN)=S from hS.symm] at h;exact h)
 have hsig:bytesV (sigB b m)=bytesV T++bytesV S:=by rw [sigB,← hT,← hS,qaz]
 have RB:=zY rb;have RM:=zY rm;have HUB:=zY hUb;have HTL:=zY (show (bytesV T).length=32 by rw [qam,hTl]);have HSL:=zY (show (bytesV S).length=32*1 by rw [qam,hSl]);have HSG:=zY hsig;have HB:=zY (Below.refl w.heap.size w);have HG:=zY hG;clear rb rm hc hG lb lm hn hK hKl hkv hF hFl hR hRl hRv hB hP hT hU hTl hUl hTb hUb hH hHl hHv hS hSl hsig;go_enter Tryd.func13,Tryd.ntmps13;go_wp2_with fail;refine qab (CP.out _ RB.out HG.out) ?_;rintro e w1 ⟨o1,rfl,ho1,hk1,hb⟩;rw [HUB.out] at hk1;replace HB:=zY (HB.out.trans (hb.mono HB.out.size));replace HG:=zY (HG.out.below hb HG.out.size);replace RB:=zY (qan RB.out hb);replace RM:=zY (qan RM.out hb);have RU:=zY (Rd.of_blk hk1 hk1.lt);clear ho1 hk1 hb;go_wp2_with fail;refine qab (CS.out _ RB.out HG.out) ?_;rintro e w2 ⟨A1,c1,B1,d1,rfl,hc1,hd1,r1,r2,hb⟩;replace HB:=zY (HB.out.trans (hb.mono HB.out.size));replace HG:=zY (HG.out.below hb HG.out.size);replace RM:=zY (qan RM.out hb);replace RU:=zY (qan RU.out hb);have RK:=zY r1;have RF:=zY r2;clear r1 r2 hb hc1 hd1 RB;go_wp2_with fail;refine qab (CD1.out _ _ _ _ _ RF.out RM.out HG.out) ?_;rintro e w3 ⟨A3,c3,rfl,r,hb⟩;replace HB:=zY (HB.out.trans (hb.mono HB.out.size));replace HG:=zY (HG.out.below hb HG.out.size);replace RM:=zY (qan RM.out hb);replace RU:=zY (qan RU.out hb);replace RK:=zY (qan RK.out hb);have RD:=zY r;clear r hb RF;go_wp2_with fail;refine qab (CR1.out _ _ _ RD.out) ?_;rintro e w4 ⟨o4,rfl,r,hb⟩;replace HB:=zY (HB.out.trans (hb.mono HB.out.size));replace HG:=zY (HG.out.below hb HG.out.size);replace RM:=zY (qan RM.out hb);replace RU:=zY (qan RU.out hb);replace RK:=zY (qan RK.out hb);have RR:=zY r;clear r hb RD;go_wp2_with fail;refine qab (CB.out _) ?_;rintro e w5 ⟨rfl,hb⟩;replace HB:=zY (HB.out.trans (hb.mono HB.out.size));replace HG:=zY (HG.out.below hb HG.out.size);replace RM:=zY (qan RM.out hb);replace RU:=zY (qan RU.out hb);replace RK:=zY (qan RK.out hb);replace RR:=zY (qan RR.out hb);clear hb;go_wp2_with fail;refine qab (CM.out _ _ _ RR.out (Nat.le_refl _)) ?_;rintro e w6 ⟨rfl,hb⟩;replace HB:=zY (HB.out.trans (hb.mono HB.out.size));replace HG:=zY (HG.out.below hb HG.out.size);replace RM:=zY (qan RM.out hb);replace RU:=zY (qan RU.out hb);replace RK:=zY (qan RK.out hb);replace RR:=zY (qan RR.out hb);clear hb;go_wp2_with fail;refine qab (CY.out _) ?_;rintro e w7 ⟨o7,rfl,ho7,hk7,hb⟩;have HO7:=zY (Nat.le_trans HB.out.size ho7);replace HB:=zY (HB.out.trans (hb.mono HB.out.size));replace HG:=zY (HG.out.below hb HG.out.size);replace RM:=zY (qan RM.out hb);replace RU:=zY (qan RU.out hb);replace RK:=zY (qan RK.out hb);replace RR:=zY (qan RR.out hb);have KT:=zY hk7;clear hk7 ho7 hb;go_wp2_with fail;refine qab (CD2.out _ _ _ _ _ _ _ (Rd.of_blk KT.out KT.out.lt) RU.out RM.out HG.out) ?_;rintro e w8 ⟨A8,c8,rfl,r,hb⟩;replace HB:=zY (HB.out.trans (hb.mono HB.out.size));replace RK:=zY (qan RK.out hb);replace RR:=zY (qan RR.out hb);replace KT:=zY (KT.out.below hb KT.out.lt);have RD:=zY r;clear r hb RU RM HG;go_wp2_with fail;refine qab (CR2.out _ _ _ RD.out) ?_;rintro e w9 ⟨o9,rfl,r,hb⟩;replace HB:=zY (HB.out.trans (hb.mono HB.out.size));replace RK:=zY (qan RK.out hb);replace RR:=zY (qan RR.out hb);replace KT:=zY (KT.out.below hb KT.out.lt);have RH:=zY r;clear r hb RD;go_wp2_with fail;refine qab (CA.out _ _ _ _ _ _ _ RH.out RK.out RR.out) ?_;rintro e w10 ⟨o10,rfl,r,hb⟩;replace HB:=zY (HB.out.trans (hb.mono HB.out.size));replace KT:=zY (KT.out.below hb KT.out.lt);have RS:=zY r;have HOW:=zY (own_blk KT.out HTL.out (by decide) HO7.out);clear r hb RH RK RR;go_wp2_with (refine qbo (m:=32) sl_bytes rfl rfl HOW.out rfl rfl HSL.out (by decide) RS.out (bytesV_one S) (by unfold maxLen; omega) (by omega) HB.out.size ?_; intro A11 c11 w11 hown11 hg11; have HOWN:=zY hown11; have HB11:Hid (Below w.heap.size w w11):=zY (qbT HB.out HOW.out.x HB.out.size hg11); clear hown11 hg11);go_ret2;exact ⟨A11,c11,rfl,by rw [HSG.out]; exact HOWN.out,HB11.out⟩
theorem ssign_bad (n:Nat) (hn:n≠32) (hl:n≤1000) (A M:Option Addr) (c k cm:Nat) (w:World) :
  Calls Tryd.prog 13 #[.slice A n c,.slice M k cm] w (fun e w'=>e=.returned (.tuple #[.slice none 0 0,.int .i64 1])∧w'=w):=by
 have HP:=zY (spublic_bad n hn hl A c w);clear hn hl;go_enter Tryd.func13,Tryd.ntmps13;go_wp2_with fail;refine qab HP.out ?_;rintro e w1 ⟨rfl,rfl⟩;go_wp2_with fail;go_ret2;exact ⟨rfl,rfl⟩
theorem Rd.val {w:World} {B:Nat} {ad:Addr} {xs:List Value} (h:Rd w B (some ad) xs) {k:Nat} {v:Value} (hv:xs[k]?=some v):w.cell? (ad.add k)=some v:=by
 obtain ⟨ad',e,_,hc⟩:=h k v hv
 injection e with e
 subst e;exact hc
theorem Rd.lit {w:World} {B:Nat} {ad:Addr} {xs:List Value} (h:Rd w B (some ad) xs) {k:Nat} {v:Value} (hv:xs[k]?=some v) (hk:k≠0):w.cell? ⟨ad.block,ad.off+k,none⟩=some v:=by
 have:=h.val hv
 rwa [show ad.add k=⟨ad.block,ad.off+k,none⟩ by unfold Addr.add; simp [hk]] at this
structure EqSt (w0:World) (A1 A2:Option Addr) (l1 l2:List UInt8) (u:World):Prop where
 bel:Below w0.heap.size w0 u
 r1:Rd u w0.heap.size A1 (bytesV l1)
 r2:Rd u w0.heap.size A2 (bytesV l2)
theorem EqSt.drew {w0 u:World} {A1 A2:Option Addr} {l1 l2:List UInt8} (h:EqSt w0 A1 A2 l1 l2 u):EqSt w0 A1 A2 l1 l2 u.drew :=
 ⟨h.bel.drew,h.r1.below (Below.refl _ _).drew,h.r2.below (Below.refl _ _).drew⟩
theorem take_eq_iff {l1 l2:List UInt8} {k:Nat} (h1:k<l1.length) (h2:k<l2.length):l1.take (k+1)=l2.take (k+1)↔l1.take k=l2.take k∧l1[k]=l2[k]:=by
 rw [List.take_succ_eq_append_getElem h1,List.take_succ_eq_append_getElem h2]
 constructor
 ·intro h;have:=List.append_inj h (by rw [List.length_take,List.length_take]; omega);exact ⟨this.1,by simpa using this.2⟩
 ·rintro ⟨e1,e2⟩;rw [e1,e2]
theorem xor_zero (p q:Nat):p ^^^ q=0↔p=q:=by
 constructor
 ·intro h;apply Nat.eq_of_testBit_eq;intro i;have:=congrArg (·.testBit i) h
  simpa [Nat.testBit_xor] using this
 ·rintro rfl;exact Nat.xor_self _
theorem step_zero (x p q:Nat):(x ||| (p ^^^ q))=0↔x=0∧p=q:=by
 rw [Nat.or_eq_zero_iff,xor_zero]
theorem bequal_any (l1 l2:List UInt8) (A1 A2:Option Addr) (c1 c2:Nat) (w:World) (h1:Rd w w.heap.size A1 (bytesV l1)) (h2:Rd w w.heap.size A2 (bytesV l2)) (hc1:l1.length≤c1) (hc2:l2.length≤c2) (hl1:l1.length≤1000) :
  Calls Tryd.prog 27 #[.slice A1 l1.length c1,.slice A2 l2.length c2] w fun e w'=>e=.returned (.bool (decide (l1=l2)))∧Below w.heap.size w w':=by
 by_cases hlen:l1.length=l2.length
 ·have hst0:EqSt w A1 A2 l1 l2 w:=⟨Below.refl _ _,h1,h2⟩;obtain ⟨n,hn⟩:=eX (l1.length);rw [← hlen,← hn];have hn2:l2.length=n:=by omega
  have hn1:n≤1000:=by omega
  have HST0:=zY hst0;have HN:=zY hn;have HN2:=zY hn2;rw [← hn] at hc1;rw [hn2] at hc2;clear h1 h2 hlen hst0 hn hn2 hl1;go_enter Tryd.func27,Tryd.ntmps27;go_wp2_with fail
  go_loopw [5,14] (fun v i wr=>∃ k x:Nat,k≤n∧i=.int .i64 k∧v=.int .u8 x∧x<256∧(x=0↔l1.take k=l2.take k)∧EqSt w A1 A2 l1 l2 wr) (fun _ i _=>n - (intOf i).toNat)
  case atStart=>exact ⟨0,0,Nat.zero_le _,rfl,rfl,by decide,by simp,HST0.out⟩
  case round =>
   clear HST0;obtain ⟨k,x,hk,rfl,rfl,hx,hiff,hst⟩:=hrel
   by_cases hlt:k<n
   ·have hlt':(k:Int)<(n:Int):=by omega
    have hk1:k<l1.length:=by rw [← HN.out]; exact hlt
    have hk2:k<l2.length:=by rw [HN2.out]; exact hlt
    obtain ⟨ad1,rfl,hz1,hz2⟩:=hst.r1.at_ (k:=k) (by rw [qam]; exact hk1);obtain ⟨ad2,rfl,hz3,hz4⟩:=hst.r2.at_ (k:=k) (by rw [qam]; exact hk2);obtain ⟨p,hp⟩:=eX ((l1[k]).toNat);obtain ⟨q,hq⟩:=eX ((l2[k]).toNat);have hpl:p<256:=by rw [hp]; exact (l1[k]).toNat_lt
    have hql:q<256:=by rw [hq]; exact (l2[k]).toNat_lt
    have e1:(bytesV l1)[k]?=some (.int .u8 (p:Int)):=by rw [bytesV,List.getElem?_map,List.getElem?_eq_getElem hk1,hp]; rfl
    have e2:(bytesV l2)[k]?=some (.int .u8 (q:Int)):=by rw [bytesV,List.getElem?_map,List.getElem?_eq_getElem hk2,hq]; rfl
    obtain ⟨pq,hpq⟩:=eX (p ^^^ q);obtain ⟨xn,hxn⟩:=eX (x ||| pq);have hpql:pq<256:=by rw [hpq]; exact Nat.xor_lt_two_pow (n:=8) hpl hql
    have hxnl:xn<256:=by rw [hxn]; exact Nat.or_lt_two_pow (n:=8) hx hpql
    have hin:xn=0↔l1.take (k+1)=l2.take (k+1):=by
     rw [hxn,hpq,step_zero,take_eq_iff hk1 hk2,hiff,hp,hq];exact and_congr_right fun _=>UInt8.toNat_inj
    have E1:=zY e1;have E2:=zY e2;have HPL:=zY hpl;have HQL:=zY hql;have HX:=zY hx;have HPQL:=zY hpql;have HPQ:=zY hpq;have HXN:=zY hxn;have HXNL:=zY hxnl;have HIN:=zY hin;have HC0:=hst.drew;clear hz1 hz2 hz3 hz4 hp hq hpl hql e1 e2 hpq hxn hpql hxnl hin hx hiff hst hk1 hk2;go_wp2_with fail;refine qaj (fun u=>EqSt w (some ad1) (some ad2) l1 l2 u) (fun u=>EqSt w (some ad1) (some ad2) l1 l2 u) [(0,some 17),(1,some 18),(2,some 19),(3,some 20),(4,some 21),(5,some 22),(6,some 23),(7,some 24),(8,some 25),(9,some 26),(10,some 27),(11,some 5)] (by kernel_rfl) (by kernel_rfl) (by decide) (by kernel_rfl) (fun _=>rfl) HC0 ?_;apply yN_
    ·apply dP [];exact fun _=>rfl;rfl;rintro vals - w1 hC1 E hE;simp only [sP] at hE ⊢;go_wp2;exact .mk (hE _ hC1)
    apply yN_
    ·apply dP [];exact fun _=>rfl;rfl;rintro vals ⟨-,-⟩ w1 hC1 E hE;simp only [sP] at hE ⊢;go_wp2;exact .mk (hE _ hC1)
    apply yN_
    ·apply dP [];exact fun _=>rfl;rfl;intro vals vq w1 hC1 E hE;clear vq;simp only [sP] at hE ⊢;go_wp2;exact .mk (hE _ hC1)
    apply yN_
    ·apply dP [(1,some 18),(2,some 19)];exact fun _=>rfl;rfl;intro vals vq w1 hC1 E hE;simp only [sP,vq] at hE ⊢;clear vq;go_wp2;exact .mk (hE _ hC1)
    apply yN_
    ·apply dP [(3,some 20)];exact fun _=>rfl;rfl;intro vals vq w1 hC1 E hE;have d0:=hC1.r1.val E1.out;simp only [sP,vq] at hE ⊢;clear vq;go_wp2;exact .mk (hE _ hC1)
    apply yN_
    ·apply dP [];exact fun _=>rfl;rfl;intro vals vq w1 hC1 E hE;clear vq;simp only [sP] at hE ⊢;go_wp2;exact .mk (hE _ hC1)
    apply yN_
    ·apply dP [];exact fun _=>rfl;rfl;intro vals vq w1 hC1 E hE;clear vq;simp only [sP] at hE ⊢;go_wp2;exact .mk (hE _ hC1)
    apply yN_
    ·apply dP [(5,some 22),(6,some 23)];exact fun _=>rfl;rfl;intro vals vq w1 hC1 E hE;simp only [sP,vq] at hE ⊢;clear vq;go_wp2;exact .mk (hE _ hC1)
    apply yN_
    ·apply dP [(7,some 24)];exact fun _=>rfl;rfl;intro vals vq w1 hC1 E hE;have d0:=hC1.r2.val E2.out;simp only [sP,vq] at hE ⊢;clear vq;go_wp2;exact .mk (hE _ hC1)
    apply yN_
    ·apply dP [(4,some 21),(8,some 25)];exact fun _=>rfl;rfl;intro vals vq w1 hC1 E hE;simp only [sP,vq] at hE ⊢;clear vq;go_wp2;rw [xor8 p q HPL.out HQL.out,← HPQ.out];exact .mk (hE _ hC1)
    apply yN_
    ·apply dP [(0,some 17),(9,some 26)];exact fun _=>rfl;rfl;intro vals vq w1 hC1 E hE;simp only [sP,vq] at hE ⊢;clear vq;go_wp2;rw [or8 x pq HX.out HPQL.out,← HXN.out];exact .mk (hE _ hC1)
    apply yL_
    ·apply dP [(10,some 27),(0,some 17),(1,some 18),(2,some 19),(3,some 20),(4,some 21),(5,some 22),(6,some 23),(7,some 24),(8,some 25),(9,some 26),(10,some 27)];exact fun _=>rfl;rfl;intro vals vq w1 hC1 E hE;simp only [sP,vq] at hE ⊢;clear vq;go_wp2;exact .mk (hE _ hC1)
    intro vals vq w1 hC1;simp only [sP,vq];clear vq;clear HC0;have HC1:=zY hC1;clear hC1;go_wp2_with fail;exact ⟨⟨k+1,xn,by omega,by go_num,rfl,HXNL.out,HIN.out,HC1.out⟩,by simp [intOf]; omega⟩
   ·obtain rfl:k=n:=by omega
    rw [List.take_of_length_le (by rw [HN.out]; exact Nat.le_refl _),List.take_of_length_le (by rw [HN2.out]; exact Nat.le_refl _)] at hiff;have HIFF:=zY hiff;have HST:=zY hst;clear hiff hst;go_wp2_with fail;go_ret;refine ⟨qaY ?_,HST.out.bel⟩;rw [Bool.eq_iff_iff];have:=HIFF.out;simp;exact this
 ·have hne:((l1.length:Int) != (l2.length:Int))=true:=by rw [bne_iff_ne]; omega
  have hd:decide (l1=l2)=false:=decide_eq_false (fun e=>hlen (by rw [e]));rw [hd];have hne2:¬ l1.length=l2.length:=hlen;clear h1 h2 hlen hd;go_enter Tryd.func27,Tryd.ntmps27;go_wp2;go_ret;exact ⟨rfl,Below.refl _ _⟩
theorem is_same (b:List UInt8) (h:b.length=32):(bsN (digN 32 (leV (digs b)%LN)) == b)=decide (leV (digs b)<LN):=by
 rw [Bool.eq_iff_iff,beq_iff_eq,decide_eq_true_iff]
 constructor
 ·intro h1;have h2:=qce (digN_dg 32 (leV (digs b)%LN));rw [h1] at h2;rw [h2,digN_val _ _ (Nat.lt_of_lt_of_le (Nat.mod_lt _ ln_pos) (by decide))];exact Nat.mod_lt _ ln_pos
 ·intro h1;apply digs_inj;rw [qce (digN_dg _ _),Nat.mod_eq_of_lt h1];exact (digN_eq (qbG b) (by rw [digs,List.length_map,h]) rfl).symm
def isB (b:List UInt8):Bool:=decide (b.length=32) && decide (leV (digs b)<LN)
theorem scl_is (b:List UInt8) (A:Option Addr) (c:Nat) (w:World) (hr:Rd w w.heap.size A (bytesV b)) (hl:b.length≤1000000) :
  Calls Tryd.prog 20 #[.slice A b.length c] w (BoolPost (isB b) w):=by
 by_cases h32:b.length=32
 ·rw [isB,decide_eq_true h32,Bool.true_and,h32];obtain ⟨R,hR⟩:=eX (bsN (digN 32 (leV (digs b)%LN)));have hRl:R.length=32:=by rw [hR,bsN,List.length_map,qc7]
  have hsame:=is_same b h32;rw [← hR] at hsame
  have hC:∀ u,Below w.heap.size w u→Calls Tryd.prog 21 #[.slice A 32 c] u (fun e w'=>∃ o,e=.returned (.slice (some ⟨o,0,none⟩) 32 32)∧Blk w' o 5 (bytesV R).toArray∧Below u.heap.size u w'):=fun u hu=>by
   have h:=scl_reduce (digs b) (qbG b) A c u (by rw [qbt]; exact (hr.below hu).mono hu.size) (by rw [digs,List.length_map]; exact hl);rw [show (digs b).length=32 by rw [digs,List.length_map,h32],List.take_of_length_le (by rw [digs,List.length_map,h32]; decide)] at h;refine Calls.mono h fun e w' hq=>?_;obtain ⟨o,he,_,hb,hbel⟩:=hq;refine ⟨o,he,?_,hbel⟩;rw [hR,← qbJ (digN_dg _ _)];exact hb
  rw [← hsame];have HC:=zY hC;have HRL:=zY hRl;have HR:=zY hr;have HL:=zY h32;clear hC hRl hr hl h32 hsame hR;go_enter Tryd.func20,Tryd.ntmps20;go_wp2_with fail;have HC0:Below w.heap.size w w.drew:=(Below.refl _ _).drew
  refine qak (fun u=>Below w.heap.size w u) (fun | false=>(fun _=>True) | true=>(fun _=>True)) (fun | false,_=>false | true,_=>false)
   [fun z _=>z 0=.slice A 32 c,
    fun z _=>z 1=.int .i64 32,
    fun z _=>z 2=.bool true,
    fun z _=>z 3=.bool true,
    fun z _=>z 4=.slice A 32 c,
    fun z u=>∃ o2,z 5=.slice (some ⟨o2,0,none⟩) 32 32∧Blk u o2 5 (bytesV R).toArray,
    fun z _=>z 6=.string ⟨R.toArray⟩,
    fun z _=>z 7=.slice A 32 c,
    fun z _=>z 8=.string ⟨b.toArray⟩,
    fun z _=>z 9=.bool (R == b),
    fun z _=>z 10=.bool (R == b),
    fun z _=>z 11=.bool (R == b)]
   [Eq,Eq,Eq,Eq,Eq,fun u u'=>Below u.heap.size u u',Eq,Eq,Eq,Eq,Eq,Eq]
   (fun _ _=>false) [(0,some 3),(1,some 4),(2,some 5),(3,some 6),(4,some 7),(5,some 8),(6,some 9),(7,some 10),(8,some 11),(9,some 12),(10,some 13),(11,some 2)] (by kernel_rfl) (by kernel_rfl) rfl (fun _=>rfl) ?_ ?_ ?_ ?_ ?_ ?_
  ·exact HC0
  ·intro m; cases m; exact trivial; exact trivial
  ·intro m; cases m
   ·refine ⟨?_,?_,?_,?_,?_,.inr (fun _ _ _ h=>h),?_,?_,?_,?_,?_,?_,trivial⟩ <;> exact .inr fun _ _ h h0=>h▸h0
   ·refine ⟨?_,?_,?_,?_,?_,.inr (fun _ _ _ h=>h),?_,?_,?_,?_,?_,?_,trivial⟩ <;> exact .inr fun _ _ h h0=>h▸h0
  ·refine ⟨⟨.inl rfl,?_,?_,?_,?_,?_,?_,?_,?_,?_,?_,?_,trivial⟩,⟨?_,.inl rfl,?_,?_,?_,?_,?_,?_,?_,?_,?_,?_,trivial⟩,⟨?_,?_,.inl rfl,?_,?_,?_,?_,?_,?_,?_,?_,?_,trivial⟩,⟨?_,?_,?_,.inl rfl,?_,?_,?_,?_,?_,?_,?_,?_,trivial⟩,⟨?_,?_,?_,?_,.inl rfl,?_,?_,?_,?_,?_,?_,?_,trivial⟩,⟨?_,?_,?_,?_,?_,.inl rfl,?_,?_,?_,?_,?_,?_,trivial⟩,⟨?_,?_,?_,?_,?_,?_,.inl rfl,?_,?_,?_,?_,?_,trivial⟩,⟨?_,?_,?_,?_,?_,?_,?_,.inl rfl,?_,?_,?_,?_,trivial⟩,⟨?_,?_,?_,?_,?_,?_,?_,?_,.inl rfl,?_,?_,?_,trivial⟩,⟨?_,?_,?_,?_,?_,?_,?_,?_,?_,.inl rfl,?_,?_,trivial⟩,⟨?_,?_,?_,?_,?_,?_,?_,?_,?_,?_,.inl rfl,?_,trivial⟩,⟨?_,?_,?_,?_,?_,?_,?_,?_,?_,?_,?_,.inl rfl,trivial⟩,trivial⟩ <;> first | exact .inr (.inr (.inl rfl)) | exact .inr (.inr (.inr fun _ _ _ _ _ h=>h)) | exact .inr (.inr (.inr fun _ _ _ _ h h0=>by cases h; exact h0))
  ·refine ⟨?_,?_,?_,?_,?_,?_,?_,?_,?_,?_,?_,?_,trivial⟩
   ·refine qaa [] (fun _=>rfl) rfl ?_;intro w1 vals hC1 hi0 hf E hE;clear hi0;clear hf;simp only [sP] at hE ⊢;go_wp2;exact .mk (hE _ _ rfl hC1 rfl)
   ·refine qaa [(0,some 3)] (fun _=>rfl) rfl ?_;intro w1 vals hC1 hi0 hf E hE;clear hi0;have f0:vals 0=_:=hf 0 rfl
    try dsimp only at f0
    clear hf;simp only [sP,f0] at hE ⊢;clear f0;go_wp2;exact .mk (hE _ _ rfl hC1 rfl)
   ·refine qaa [(1,some 4)] (fun _=>rfl) rfl ?_;intro w1 vals hC1 hi0 hf E hE;clear hi0;have f1:vals 1=_:=hf 1 rfl
    try dsimp only at f1
    clear hf;simp only [sP,f1] at hE ⊢;clear f1;go_wp2;exact .mk (hE _ _ rfl hC1 rfl)
   ·refine qaa [(2,some 5)] (fun _=>rfl) rfl ?_;intro w1 vals hC1 hi0 hf E hE;clear hi0;have f2:vals 2=_:=hf 2 rfl
    try dsimp only at f2
    clear hf;simp only [sP,f2] at hE ⊢;clear f2;go_wp2;exact .mk (hE _ _ rfl hC1 rfl)
   ·refine qa8 [(3,some 6)] (fun _=>rfl) 3 6 true rfl rfl ?_ ?_
    ·intro w1 vals hC1 hi0 hf hy E hE;dsimp only at hE ⊢;clear hi0;have f3:vals 3=_:=hf 3 rfl
     try dsimp only at f3
     clear hf;clear hy;simp only [sP,f3] at hE ⊢;clear f3;go_wp2;exact .mk (hE _ _ rfl hC1 rfl)
    ·intro w1 vals hC1 hi0 hf hy;clear hi0;have f3:vals 3=_:=hf 3 rfl
     try dsimp only at f3
     clear hf;exact absurd (by simp only [sP,f3]; rfl) hy
   ·refine qa8 [(4,some 7),(3,some 6),(3,some 6)] (fun _=>rfl) 3 6 true rfl rfl ?_ ?_
    ·intro w1 vals hC1 hi0 hf hy E hE;dsimp only at hE ⊢;clear hi0;have f3:vals 3=_:=hf 3 rfl;have f4:vals 4=_:=hf 4 rfl
     try dsimp only at f3 f4
     clear hf;clear hy;simp only [sP,f3,f4] at hE ⊢;clear f3 f4;go_wp2_with fail;refine qab (HC.out _ hC1) ?_;rintro e w2 ⟨o2,rfl,hblk,hb2⟩;go_wp2_with fail;exact .mk (hE _ _ ⟨o2,rfl,hblk⟩ (hC1.trans (hb2.mono hC1.size)) hb2)
    ·intro w1 vals hC1 hi0 hf hy;clear hi0;have f3:vals 3=_:=hf 3 rfl;have f4:vals 4=_:=hf 4 rfl
     try dsimp only at f3 f4
     clear hf;exact absurd (by simp only [sP,f3]; rfl) hy
   ·refine qa8 [(5,some 8),(3,some 6)] (fun _=>rfl) 3 6 true rfl rfl ?_ ?_
    ·intro w1 vals hC1 hi0 hf hy E hE;dsimp only at hE ⊢;clear hi0;have f3:vals 3=_:=hf 3 rfl;have f5:(fun z u=>∃ o2,z 5=.slice (some ⟨o2,0,none⟩) 32 32∧Blk u o2 5 (bytesV R).toArray) vals w1:=hf 5 rfl
     try dsimp only at f3 f5
     clear hf;clear hy;obtain ⟨o2,hx,hblk⟩:=f5;simp only [sP,f3,hx] at hE ⊢;clear f3;clear hx;refine qaw (l:=R) (Rd.of_blk hblk hblk.lt) Tryd.underlying22 Tryd.underlying5 Tryd.underlying9 rfl rfl (by rw [HRL.out]; rfl) ?_;go_wp2_with fail;exact .mk (hE _ _ rfl hC1 rfl)
    ·intro w1 vals hC1 hi0 hf hy;clear hi0;have f3:vals 3=_:=hf 3 rfl;have f5:(fun z u=>∃ o2,z 5=.slice (some ⟨o2,0,none⟩) 32 32∧Blk u o2 5 (bytesV R).toArray) vals w1:=hf 5 rfl
     try dsimp only at f3 f5
     clear hf;exact absurd (by simp only [sP,f3]; rfl) hy
   ·refine qa8 [(3,some 6)] (fun _=>rfl) 3 6 true rfl rfl ?_ ?_
    ·intro w1 vals hC1 hi0 hf hy E hE;dsimp only at hE ⊢;clear hi0;have f3:vals 3=_:=hf 3 rfl
     try dsimp only at f3
     clear hf;clear hy;simp only [sP,f3] at hE ⊢;clear f3;go_wp2;exact .mk (hE _ _ rfl hC1 rfl)
    ·intro w1 vals hC1 hi0 hf hy;clear hi0;have f3:vals 3=_:=hf 3 rfl
     try dsimp only at f3
     clear hf;exact absurd (by simp only [sP,f3]; rfl) hy
   ·refine qa8 [(7,some 10),(3,some 6)] (fun _=>rfl) 3 6 true rfl rfl ?_ ?_
    ·intro w1 vals hC1 hi0 hf hy E hE;dsimp only at hE ⊢;clear hi0;have f3:vals 3=_:=hf 3 rfl;have f7:vals 7=_:=hf 7 rfl
     try dsimp only at f3 f7
     clear hf;clear hy;simp only [sP,f3,f7] at hE ⊢;clear f3 f7;refine qaw (l:=b) (HR.out.below hC1) Tryd.underlying22 Tryd.underlying5 Tryd.underlying9 rfl rfl (by rw [HL.out]; rfl) ?_;go_wp2_with fail;exact .mk (hE _ _ rfl hC1 rfl)
    ·intro w1 vals hC1 hi0 hf hy;clear hi0;have f3:vals 3=_:=hf 3 rfl;have f7:vals 7=_:=hf 7 rfl
     try dsimp only at f3 f7
     clear hf;exact absurd (by simp only [sP,f3]; rfl) hy
   ·refine qa8 [(6,some 9),(8,some 11),(3,some 6)] (fun _=>rfl) 3 6 true rfl rfl ?_ ?_
    ·intro w1 vals hC1 hi0 hf hy E hE;dsimp only at hE ⊢;clear hi0;have f3:vals 3=_:=hf 3 rfl;have f6:vals 6=_:=hf 6 rfl;have f8:vals 8=_:=hf 8 rfl
     try dsimp only at f3 f6 f8
     clear hf;clear hy;simp only [sP,f3,f6,f8] at hE ⊢;clear f3 f6 f8;go_wp2;exact .mk (hE _ _ rfl hC1 rfl)
    ·intro w1 vals hC1 hi0 hf hy;clear hi0;have f3:vals 3=_:=hf 3 rfl;have f6:vals 6=_:=hf 6 rfl;have f8:vals 8=_:=hf 8 rfl
     try dsimp only at f3 f6 f8
     clear hf;exact absurd (by simp only [sP,f3]; rfl) hy
   ·refine qaa [(3,some 6),(9,some 12)] (fun _=>rfl) rfl ?_;intro w1 vals hC1 hi0 hf E hE;clear hi0;have f3:vals 3=_:=hf 3 rfl;have f9:vals 9=_:=hf 9 rfl
    try dsimp only at f3 f9
    clear hf;simp only [sP,f3,f9] at hE ⊢;clear f3 f9;go_wp2;exact .mk (hE _ _ rfl hC1 rfl)
   ·refine qaa [(10,some 13),(5,some 8),(0,some 3),(1,some 4),(2,some 5),(3,some 6),(4,some 7),(5,some 8),(6,some 9),(7,some 10),(8,some 11),(9,some 12),(10,some 13)] (fun _=>rfl) rfl ?_;intro w1 vals hC1 hi0 hf E hE;clear hi0;have f0:vals 0=_:=hf 0 rfl;have f1:vals 1=_:=hf 1 rfl;have f2:vals 2=_:=hf 2 rfl;have f3:vals 3=_:=hf 3 rfl;have f4:vals 4=_:=hf 4 rfl;have f5:(fun z u=>∃ o2,z 5=.slice (some ⟨o2,0,none⟩) 32 32∧Blk u o2 5 (bytesV R).toArray) vals w1:=hf 5 rfl;have f6:vals 6=_:=hf 6 rfl;have f7:vals 7=_:=hf 7 rfl;have f8:vals 8=_:=hf 8 rfl;have f9:vals 9=_:=hf 9 rfl;have f10:vals 10=_:=hf 10 rfl
    try dsimp only at f0 f1 f2 f3 f4 f5 f6 f7 f8 f9 f10
    clear hf;simp only [sP,f0,f1,f2,f3,f4,f6,f7,f8,f9,f10] at hE ⊢;clear f0 f1 f2 f3 f4 f6 f7 f8 f9 f10;go_wp2;exact .mk (hE _ _ rfl hC1 rfl)
  intro w1 vals hC1 hf;have f0:vals 0=_:=hf 0 (by decide) rfl;have f1:vals 1=_:=hf 1 (by decide) rfl;have f2:vals 2=_:=hf 2 (by decide) rfl;have f3:vals 3=_:=hf 3 (by decide) rfl;have f4:vals 4=_:=hf 4 (by decide) rfl;have f5:(fun z u=>∃ o2,z 5=.slice (some ⟨o2,0,none⟩) 32 32∧Blk u o2 5 (bytesV R).toArray) vals w1:=hf 5 (by decide) rfl;have f6:vals 6=_:=hf 6 (by decide) rfl;have f7:vals 7=_:=hf 7 (by decide) rfl;have f8:vals 8=_:=hf 8 (by decide) rfl;have f9:vals 9=_:=hf 9 (by decide) rfl;have f10:vals 10=_:=hf 10 (by decide) rfl;have f11:vals 11=_:=hf 11 (by decide) rfl
  try dsimp only at f0 f1 f2 f3 f4 f5 f6 f7 f8 f9 f10 f11
  clear hf;simp only [sP,f0,f1,f2,f3,f4,f6,f7,f8,f9,f10,f11];clear f0 f1 f2 f3 f4 f6 f7 f8 f9 f10 f11;generalize vals 5=x5 at *;clear HC0 f5;go_wp2_with fail;go_ret;exact ⟨rfl,hC1⟩
 ·rw [isB,decide_eq_false h32,Bool.false_and];obtain ⟨n,hn⟩:=eX (b.length);have hn32:((n:Int) == 32)=false:=by rw [beq_eq_false_iff_ne]; omega
  rw [← hn];clear hn h32 hr;go_enter Tryd.func20,Tryd.ntmps20;go_wp2_with fail;have HC0:Below w.heap.size w w.drew:=(Below.refl _ _).drew;refine qaj (fun u=>Below w.heap.size w u) (fun u=>Below w.heap.size w u) [(0,some 3),(1,some 4),(2,some 5),(3,some 6),(4,some 7),(5,some 8),(6,some 9),(7,some 10),(8,some 11),(9,some 12),(10,some 13),(11,some 2)] (by kernel_rfl) (by kernel_rfl) (by decide) (by kernel_rfl) (fun _=>rfl) HC0 ?_;apply yN_
  ·apply dP [];exact fun _=>rfl;rfl;rintro vals - w1 hC1 E hE;simp only [sP] at hE ⊢;go_wp2;exact .mk (hE _ hC1)
  apply yN_
  ·apply dP [(0,some 3)];exact fun _=>rfl;rfl;intro vals vq w1 hC1 E hE;simp only [sP,vq] at hE ⊢;clear vq;go_wp2;exact .mk (hE _ hC1)
  apply yN_
  ·apply dP [(1,some 4)];exact fun _=>rfl;rfl;intro vals vq w1 hC1 E hE;simp only [sP,vq] at hE ⊢;clear vq;go_wp2;exact .mk (hE _ hC1)
  apply yN_
  ·apply dP [(2,some 5)];exact fun _=>rfl;rfl;intro vals vq w1 hC1 E hE;simp only [sP,vq] at hE ⊢;clear vq;go_wp2;exact .mk (hE _ hC1)
  apply yN_ (v:=undef)
  ·refine qbg [(3,some 6)] (fun _=>rfl) 3 6 true rfl rfl ?_ (fun _ h=>h);intro vals vq;simp only [sP,vq];rfl
  apply yN_ (v:=undef)
  ·refine qbg [(4,some 7),(3,some 6),(3,some 6)] (fun _=>rfl) 3 6 true rfl rfl ?_ (fun _ h=>h);intro vals vq;simp only [sP,vq];rfl
  apply yN_ (v:=undef)
  ·refine qbg [(5,some 8),(3,some 6)] (fun _=>rfl) 3 6 true rfl rfl ?_ (fun _ h=>h);intro vals vq;simp only [sP,vq];rfl
  apply yN_ (v:=undef)
  ·refine qbg [(3,some 6)] (fun _=>rfl) 3 6 true rfl rfl ?_ (fun _ h=>h);intro vals vq;simp only [sP,vq];rfl
  apply yN_ (v:=undef)
  ·refine qbg [(7,some 10),(3,some 6)] (fun _=>rfl) 3 6 true rfl rfl ?_ (fun _ h=>h);intro vals vq;simp only [sP,vq];rfl
  apply yN_ (v:=undef)
  ·refine qbg [(6,some 9),(8,some 11),(3,some 6)] (fun _=>rfl) 3 6 true rfl rfl ?_ (fun _ h=>h);intro vals vq;simp only [sP,vq];rfl
  apply yN_
  ·apply dP [(3,some 6),(9,some 12)];exact fun _=>rfl;rfl;intro vals vq w1 hC1 E hE;simp only [sP,vq] at hE ⊢;clear vq;go_wp2;exact .mk (hE _ hC1)
  apply yL_
  ·apply dP [(10,some 13),(5,some 8),(0,some 3),(1,some 4),(2,some 5),(3,some 6),(4,some 7),(5,some 8),(6,some 9),(7,some 10),(8,some 11),(9,some 12),(10,some 13)];exact fun _=>rfl;rfl;intro vals vq w1 hC1 E hE;simp only [sP,vq] at hE ⊢;clear vq;go_wp2;exact .mk (hE _ hC1)
  intro vals vq w1 hC1;simp only [sP,vq];clear vq;clear HC0;go_wp2_with fail;go_ret;exact ⟨rfl,hC1⟩
theorem bmul_any (x y:Nat) (hx:x<18446744073709551616) (hy:y<18446744073709551616) (w:World) :
  Calls Tryd.prog 73 #[.int .u64 x,.int .u64 y] w fun e w'=>e=.returned (.tuple #[.int .u64 ((x*y/18446744073709551616:Nat):Int),.int .u64 ((x*y%18446744073709551616:Nat):Int)])∧w'=w:=by
 have HM:=zY (mul64_any x y hx hy w);generalize x*y/18446744073709551616=hi at *;generalize x*y%18446744073709551616=lo at *;clear hx hy;go_enter Tryd.func73,Tryd.ntmps73;go_wp2_with fail;refine qab HM.out ?_;rintro e w1 ⟨rfl,rfl⟩;go_wp2_with fail;go_ret2;exact ⟨rfl,rfl⟩
def RepPost (w:World) (e:Ending) (w':World):Prop :=
 ∃ o,e=.returned (.slice (some ⟨o,0,none⟩) 32 32)∧w.heap.size≤o∧Blk w' o 5 (bnV (fillL 32)).toArray∧Below w.heap.size w w'
theorem rep_step:∀ n,n=1∨n=2∨n=4∨n=8∨n=16→splice (bnV (fillL n)) n (bnV (List.replicate n 255))=bnV (fillL (n+n))∧splice (bnV (fillL (n+n))) n (bnV (List.replicate n 255))=bnV (fillL (n+n)):=by
 rintro n (rfl | rfl | rfl | rfl | rfl) <;> exact ⟨rfl,rfl⟩
theorem rep_src:∀ n,n=1∨n=2∨n=4∨n=8∨n=16→∀ (j:Nat) (v:Value),(bnV (List.replicate n 255))[j]?=some v→(bnV (fillL n))[j]?=some v∧(bnV (fillL (n+n)))[j]?=some v:=by
 intro n hn j v h
 have hlt:j<n:=by
  have:=(List.getElem?_eq_some_iff.1 h).1
  simpa [bnV] using this
 have h1:v=.int .u8 ((255:Nat):Int):=by
  simp only [bnV,List.map_replicate,List.getElem?_replicate] at h;rw [if_pos hlt] at h;exact (Option.some.inj h).symm
 have h2:∀ m,n≤m→(bnV (fillL m))[j]?=some v:=fun m hm=>by
  rw [bnV,fillL,List.map_append,List.getElem?_append_left (by simp; omega),List.map_replicate,List.getElem?_replicate,if_pos (by omega),h1]
 exact ⟨h2 n (Nat.le_refl _),h2 (n+n) (by omega)⟩
theorem rep_one (n:Nat):∀ v ∈ bnV (List.replicate n 255),v.oneCell'=true:=by
 intro v h;simp only [bnV,List.mem_map] at h;obtain ⟨m,_,rfl⟩:=h;rfl
theorem qcm (n:Nat):(bnV (List.replicate n 255)).length=n:=by simp [bnV]
theorem qc6 (k:Nat) (h:k≤32):(bnV (fillL k)).length=32:=by rw [bnV,List.length_map,qbQ k (by omega)]
theorem qcq:(Tryd.prog.info? 5).map (·.size)=some 1:=by kernel_rfl
theorem add0 (o j:Nat):(⟨o,0,none⟩:Addr).add j=⟨o,j,none⟩:=by unfold Addr.add; split <;> simp_all
structure RepS (w0:World) (o k:Nat) (u:World):Prop where
 bel:Below w0.heap.size w0 u
 out:Blk u o 5 (bnV (fillL k)).toArray∨Blk u o 5 (bnV (fillL (k+k))).toArray
theorem repeat_any (ad:Addr) (w:World) (hb:ad.block<w.heap.size) (hcell:w.cell? ad=some (.int .u8 255)) :
  Calls Tryd.prog 62 #[.slice (some ad) 1 1,.int .i64 32] w (RepPost w):=by
 have hus:=Tryd.underlying22;have hmk:∀ u:World,(Instr.makeSlice 22 (.int .i64 32) (.int .i64 32)).run Tryd.prog u=.ok (.slice (some ⟨u.heap.size,0,none⟩) 32 32) (u.alloc (.cells (bnV (fillL 0)).toArray 5)):=fun _=>by kernel_rfl
 have HM:=zY (show ∀ u,Calls Tryd.prog 73 #[.int .u64 1,.int .u64 32] u (fun e w'=>e=.returned (.tuple #[.int .u64 0,.int .u64 32])∧w'=u) from fun u=>bmul_any 1 32 (by decide) (by decide) u);have HC:=zY hcell;have HLB:=zY hb;clear hcell hb;go_enter Tryd.func62,Tryd.ntmps62;go_wp2_with fail;refine qab (HM.out _) ?_;rintro e W0 ⟨rfl,rfl⟩;have hb0:=below_new W0 (.cells (bnV (fillL 0)).toArray 5);have HN:=zY (Blk.new W0 5 (bnV (fillL 0)).toArray);have hc0:(W0.alloc (.cells (bnV (fillL 0)).toArray 5)).cell? ad=some (.int .u8 255):=(hb0.cell HLB.out).trans HC.out;have HB0:=zY hb0;have HC0:=zY hc0;clear hb0 hc0
 go_wp2_with (refine wpList_copy_splice (P:=Tryd.prog) rfl (.tmp 31) (.tmp 32) _ _ rfl 5 hus qcq _ _ _ _ _ _ rfl rfl W0.heap.size 0 (bnV (fillL 0)) 5 HN.out (bnV [255]) rfl (fun _=>⟨rfl,ad,rfl,fun j v hj=>by
   match j with
   | 0=>injection hj with hj; rw [← hj]; exact HC0.out
   | j+1=>cases hj⟩) (by decide) (rep_one 1) W0.heap.size W0 HB0.out (Nat.le_refl _) ?_; intro w2 hq hb2; have HQ:=zY (show Blk w2 W0.heap.size 5 (bnV (fillL 1)).toArray from hq.out); have HB2:=zY hb2; clear hq hb2)
 clear HM hmk HC HC0 HN HB0;rw [show ((bnV [255]).length:Int)=((1:Nat):Int) from rfl];generalize ho:W0.heap.size=o at HQ ⊢;have HO:=zY ho;clear ho
 go_loopw [8] (fun i wr=>∃ k:Nat,((k=1∨k=2∨k=4∨k=8∨k=16)∨k=32)∧i=.int .i64 k∧Blk wr o 5 (bnV (fillL k)).toArray∧Below W0.heap.size W0 wr) (fun i _=>32 - (intOf i).toNat)
 case atStart=>exact ⟨1,.inl (.inl rfl),rfl,HQ.out,HB2.out⟩
 case round =>
  clear HQ HB2;obtain ⟨n,hn,rfl,hq,hb⟩:=hrel;have HQ:=zY hq;have HB:=zY hb;clear hq hb
  rcases hn with hn | rfl
  ·have h1:(n:Int)<32:=by omega
   have h2:(n:Int)≤32:=by omega
   have h3:(1:Int)≤n:=by omega
   have h4:(n:Int)≤16:=by omega
   have HN:=zY hn;clear hn;go_wp2_with fail;have HC0:RepS W0 o n wr.drew:=⟨HB.out.drew,.inl HQ.out⟩
   refine qak (fun u=>RepS W0 o n u) (fun | false=>(fun _=>True) | true=>(fun _=>True)) (fun | false,_=>false | true,_=>false)
    [fun z _=>z 0=.int .i64 (n:Int),
     fun z _=>z 1=.slice (some ⟨o,0,none⟩) 32 32,
     fun z _=>z 2=.int .i64 (n:Int),
     fun z _=>z 3=.slice (some ⟨o,n,none⟩) (32 - n) (32 - n),
     fun z _=>z 4=.slice (some ⟨o,0,none⟩) 32 32,
     fun z _=>z 5=.int .i64 (n:Int),
     fun z _=>z 6=.slice (some ⟨o,0,none⟩) n 32,
     fun z u=>(fun v u=>v=.int .i64 (n:Int)∧Blk u o 5 (bnV (fillL (n+n))).toArray) (z 7) u,
     fun z _=>z 8=.int .i64 ((n:Int)+n),
     fun z _=>z 9=.int .i64 ((n:Int)+n)]
    [Eq,Eq,Eq,Eq,Eq,Eq,Eq,fun u u'=>True,Eq,Eq]
    (fun _ _=>false) [(0,some 38),(1,some 39),(2,some 40),(3,some 41),(4,some 42),(5,some 43),(6,some 44),(7,some 45),(8,some 46),(9,some 8)] (by kernel_rfl) (by kernel_rfl) rfl (fun _=>rfl) ?_ ?_ ?_ ?_ ?_ ?_
   ·exact HC0
   ·intro m; cases m; exact trivial; exact trivial
   ·intro m; cases m
    ·refine ⟨?_,?_,?_,?_,?_,?_,?_,.inr (fun _ _ _ h=>h),?_,?_,trivial⟩ <;> exact .inr fun _ _ h h0=>h▸h0
    ·refine ⟨?_,?_,?_,?_,?_,?_,?_,.inr (fun _ _ _ h=>h),?_,?_,trivial⟩ <;> exact .inr fun _ _ h h0=>h▸h0
   ·refine ⟨⟨.inl rfl,?_,?_,?_,?_,?_,?_,?_,?_,?_,trivial⟩,⟨?_,.inl rfl,?_,?_,?_,?_,?_,?_,?_,?_,trivial⟩,⟨?_,?_,.inl rfl,?_,?_,?_,?_,?_,?_,?_,trivial⟩,⟨?_,?_,?_,.inl rfl,?_,?_,?_,?_,?_,?_,trivial⟩,⟨?_,?_,?_,?_,.inl rfl,?_,?_,?_,?_,?_,trivial⟩,⟨?_,?_,?_,?_,?_,.inl rfl,?_,?_,?_,?_,trivial⟩,⟨?_,?_,?_,?_,?_,?_,.inl rfl,?_,?_,?_,trivial⟩,⟨?_,?_,?_,?_,?_,?_,?_,.inl rfl,?_,?_,trivial⟩,⟨?_,?_,?_,?_,?_,?_,?_,?_,.inl rfl,?_,trivial⟩,⟨?_,?_,?_,?_,?_,?_,?_,?_,?_,.inl rfl,trivial⟩,trivial⟩ <;> first | exact .inr (.inr (.inl rfl)) | exact .inr (.inr (.inr fun _ _ _ _ _ h=>h)) | exact .inr (.inr (.inr fun _ _ _ _ h h0=>by cases h; exact h0))
   ·refine ⟨?_,?_,?_,?_,?_,?_,?_,?_,?_,?_,trivial⟩
    ·refine qaa [] (fun _=>rfl) rfl ?_;intro w1 vals hC1 hi0 hf E hE;clear hi0;clear hf;simp only [sP] at hE ⊢;go_wp2;exact .mk (hE _ _ rfl hC1 rfl)
    ·refine qaa [] (fun _=>rfl) rfl ?_;intro w1 vals hC1 hi0 hf E hE;clear hi0;clear hf;simp only [sP] at hE ⊢;go_wp2;exact .mk (hE _ _ rfl hC1 rfl)
    ·refine qaa [] (fun _=>rfl) rfl ?_;intro w1 vals hC1 hi0 hf E hE;clear hi0;clear hf;simp only [sP] at hE ⊢;go_wp2;exact .mk (hE _ _ rfl hC1 rfl)
    ·refine qaa [(1,some 39),(2,some 40)] (fun _=>rfl) rfl ?_;intro w1 vals hC1 hi0 hf E hE;clear hi0;have f1:vals 1=_:=hf 1 rfl;have f2:vals 2=_:=hf 2 rfl
     try dsimp only at f1 f2
     clear hf;simp only [sP,f1,f2] at hE ⊢;clear f1 f2;go_wp2;exact .mk (hE _ _ rfl hC1 rfl)
    ·refine qaa [] (fun _=>rfl) rfl ?_;intro w1 vals hC1 hi0 hf E hE;clear hi0;clear hf;simp only [sP] at hE ⊢;go_wp2;exact .mk (hE _ _ rfl hC1 rfl)
    ·refine qaa [] (fun _=>rfl) rfl ?_;intro w1 vals hC1 hi0 hf E hE;clear hi0;clear hf;simp only [sP] at hE ⊢;go_wp2;exact .mk (hE _ _ rfl hC1 rfl)
    ·refine qaa [(4,some 42),(5,some 43)] (fun _=>rfl) rfl ?_;intro w1 vals hC1 hi0 hf E hE;clear hi0;have f4:vals 4=_:=hf 4 rfl;have f5:vals 5=_:=hf 5 rfl
     try dsimp only at f4 f5
     clear hf;simp only [sP,f4,f5] at hE ⊢;clear f4 f5;go_wp2;exact .mk (hE _ _ rfl hC1 rfl)
    ·refine qaa [(3,some 41),(6,some 44)] (fun _=>rfl) rfl ?_;intro w1 vals hC1 hi0 hf E hE;clear hi0;have f3:vals 3=_:=hf 3 rfl;have f6:vals 6=_:=hf 6 rfl
     try dsimp only at f3 f6
     clear hf;have hN:=HN.out;have hrep:=rep_step n hN;have hsrc:=rep_src n hN;have hm:n≤32 - n:=by omega
     simp only [sP,f3,f6] at hE ⊢;clear f3 f6
     rcases hC1.out with hq | hq
     ·refine wpList_copy_splice (P:=Tryd.prog) rfl (.tmp 41) (.tmp 44) _ _ rfl 5 hus qcq _ _ _ _ _ _ rfl rfl o n (bnV (fillL n)) 5 hq (bnV (List.replicate n 255)) (by rw [qcm]; exact (Nat.min_eq_left hm).symm) (fun _=>⟨rfl,_,rfl,fun j v hj=>by rw [add0,hq.cell j,List.getElem?_toArray]; exact (hsrc j v hj).1⟩) (by rw [qcm,qc6 _ (by omega)]; omega) (rep_one n) W0.heap.size W0 hC1.bel (Nat.le_of_eq HO.out) ?_;intro w2 hq2 hb2;rw [hrep.1] at hq2;have HB2:=zY hb2;clear hb2;go_wp2_with fail;exact .mk (hE _ _ ⟨congrArg (fun (k:Nat)=>Value.int .i64 (k:Int)) (qcm n),hq2.out⟩ ⟨HB2.out,.inr hq2.out⟩ trivial)
     ·refine wpList_copy_splice (P:=Tryd.prog) rfl (.tmp 41) (.tmp 44) _ _ rfl 5 hus qcq _ _ _ _ _ _ rfl rfl o n (bnV (fillL (n+n))) 5 hq (bnV (List.replicate n 255)) (by rw [qcm]; exact (Nat.min_eq_left hm).symm) (fun _=>⟨rfl,_,rfl,fun j v hj=>by rw [add0,hq.cell j,List.getElem?_toArray]; exact (hsrc j v hj).2⟩) (by rw [qcm,qc6 _ (by omega)]; omega) (rep_one n) W0.heap.size W0 hC1.bel (Nat.le_of_eq HO.out) ?_;intro w2 hq2 hb2;rw [hrep.2] at hq2;have HB2:=zY hb2;clear hb2;go_wp2_with fail;exact .mk (hE _ _ ⟨congrArg (fun (k:Nat)=>Value.int .i64 (k:Int)) (qcm n),hq2.out⟩ ⟨HB2.out,.inr hq2.out⟩ trivial)
    ·refine qaa [(0,some 38),(7,some 45)] (fun _=>rfl) rfl ?_;intro w1 vals hC1 hi0 hf E hE;clear hi0;have f0:vals 0=_:=hf 0 rfl;have f7:(fun v u=>v=.int .i64 (n:Int)∧Blk u o 5 (bnV (fillL (n+n))).toArray) (vals 7) w1:=hf 7 rfl
     try dsimp only at f0 f7
     clear hf;obtain ⟨hx,hbk⟩:=f7;simp only [sP,f0,hx] at hE ⊢;clear f0;clear hx;go_wp2;exact .mk (hE _ _ rfl hC1 rfl)
    ·refine qaa [(8,some 46),(7,some 45),(0,some 38),(1,some 39),(2,some 40),(3,some 41),(4,some 42),(5,some 43),(6,some 44),(7,some 45),(8,some 46)] (fun _=>rfl) rfl ?_;intro w1 vals hC1 hi0 hf E hE;clear hi0;have f0:vals 0=_:=hf 0 rfl;have f1:vals 1=_:=hf 1 rfl;have f2:vals 2=_:=hf 2 rfl;have f3:vals 3=_:=hf 3 rfl;have f4:vals 4=_:=hf 4 rfl;have f5:vals 5=_:=hf 5 rfl;have f6:vals 6=_:=hf 6 rfl;have f7:(fun v u=>v=.int .i64 (n:Int)∧Blk u o 5 (bnV (fillL (n+n))).toArray) (vals 7) w1:=hf 7 rfl;have f8:vals 8=_:=hf 8 rfl
     try dsimp only at f0 f1 f2 f3 f4 f5 f6 f7 f8
     clear hf;simp only [sP,f0,f1,f2,f3,f4,f5,f6,f8] at hE ⊢;clear f0 f1 f2 f3 f4 f5 f6 f8;go_wp2;exact .mk (hE _ _ rfl hC1 rfl)
   intro w1 vals hC1 hf;have f0:vals 0=_:=hf 0 (by decide) rfl;have f1:vals 1=_:=hf 1 (by decide) rfl;have f2:vals 2=_:=hf 2 (by decide) rfl;have f3:vals 3=_:=hf 3 (by decide) rfl;have f4:vals 4=_:=hf 4 (by decide) rfl;have f5:vals 5=_:=hf 5 (by decide) rfl;have f6:vals 6=_:=hf 6 (by decide) rfl;have f7:(fun v u=>v=.int .i64 (n:Int)∧Blk u o 5 (bnV (fillL (n+n))).toArray) (vals 7) w1:=hf 7 (by decide) rfl;have f8:vals 8=_:=hf 8 (by decide) rfl;have f9:vals 9=_:=hf 9 (by decide) rfl
   try dsimp only at f0 f1 f2 f3 f4 f5 f6 f7 f8 f9
   clear hf;simp only [sP,f0,f1,f2,f3,f4,f5,f6,f8,f9];clear f0 f1 f2 f3 f4 f5 f6 f8 f9;generalize vals 7=x7 at *;obtain ⟨_,hbk⟩:=f7;have HBK:=zY hbk;have HBL:=zY hC1.bel;clear hbk hC1 HC0;go_wp2_with fail;refine ⟨⟨n+n,?_,by go_num,HBK.out,HBL.out⟩,by simp [intOf]; omega⟩;have:=HN.out;omega
  ·go_wp2_with fail;go_ret;exact ⟨o,rfl,Nat.le_of_eq HO.out,HQ.out,HB.out⟩
def e0L:List Nat:=253 :: (List.replicate 30 255++[15])
theorem e0L_end:((fillL 32).set 0 253).set 31 15=e0L:=by decide
theorem e0L_dg:Dg e0L:=by unfold Dg; decide
def e0B:List UInt8:=e0L.map UInt8.ofNat
theorem e0B_v:bytesV e0B=bnV e0L:=by rfl
theorem e0B_l:(e0B.take 64).map UInt8.toNat=e0L:=by decide
theorem e0B_len:e0B.length=32:=by decide
def crV3 (v:E5):E5:=mulE (mulE v v) v
def crX (u v:E5):E5:=mulE (mulE u (crV3 v)) (pwL (mulE (mulE (mulE u (crV3 v)) (crV3 v)) v) e0L 32)
def crH (u v:E5):E5:=mulE (mulE v (crX u v)) (crX u v)
def rootB1 (u v:E5):Bool:=eqB (crH u v) u
def rootB2 (u v:E5):Bool:=eqB (crH u v) (subE zE u)
def rootE (u v:E5):E5:=if rootB1 u v then crX u v else if rootB2 u v then mulE (crX u v) turnE else zE
def rootB (u v:E5):Bool:=if rootB1 u v then true else rootB2 u v
theorem crV3_ok {v:E5} (hv:v.Ok):(crV3 v).Ok:=qaq (qaq hv hv) hv
theorem crX_ok {u v:E5} (hu:u.Ok) (hv:v.Ok):(crX u v).Ok:=qaq (qaq hu (crV3_ok hv)) (pwL_ok (qaq (qaq (qaq hu (crV3_ok hv)) (crV3_ok hv)) hv) _ _)
theorem rootE_ok {u v:E5} (hu:u.Ok) (hv:v.Ok):(rootE u v).Ok:=by
 unfold rootE
 split
 ·exact crX_ok hu hv
 ·split
  ·exact qaq (crX_ok hu hv) turnE_ok
  ·exact zE_ok
def CRootPost (x:E5) (b:Bool) (w:World) (e:Ending) (w':World):Prop:=e=.returned (.tuple #[.agg (eV x),.bool b])∧Below w.heap.size w w'
set_option maxHeartbeats 8000000 in
theorem croot_any (m n:E5) (w:World) (hku:m.Ok) (hkv:n.Ok):Calls Tryd.prog 40 #[.agg (eV m),.agg (eV n)] w (CRootPost (rootE m n) (rootB m n) w):=by
 have hu:=Tryd.underlying46;have hp:=Tryd.underlying48;have KU:=zY hku;have KV:=zY hkv;obtain ⟨w0,hw0⟩:=eX (((w.alloc (.cells (eV m) 46)).alloc (.cells (eV n) 46)).alloc (.cells (eV zE) 46))
 have hst:Cs [.box w.heap.size 46 (eV m),.box (w.heap.size+1) 46 (eV n),.box (w.heap.size+1+1) 46 (eV zE)] w w0:=by
  rw [hw0];exact ⟨⟨((Blk.new _ _ _).alloc _).alloc _,(Blk.newAt (by simp)).alloc _,Blk.newAt (by simp),trivial⟩,((below_new _ _).alloc (by simp) _).alloc (by simp; try omega) _⟩
 have HLR:=zY (show w.heap.size≤w.heap.size+1+1 by omega);obtain ⟨X,hX⟩:=eX turnE;have CT:=zY (show ∀ u,Calls Tryd.prog 64 #[] u (ElemPost X u) from fun u=>by rw [hX]; exact turn_any u);have KX:=zY (show X.Ok by rw [hX]; exact turnE_ok);obtain ⟨RE,hRE⟩:=eX (rootE m n);obtain ⟨RB,hRB⟩:=eX (rootB m n)
 have hres:∀ v3 x h b1 b2,v3=mulE (mulE n n) n→x=mulE (mulE m v3) (pwL (mulE (mulE (mulE m v3) v3) n) e0L 32)→h=mulE (mulE n x) x→b1=eqB h m→b2=eqB h (subE zE m) →
   RE=(if b1 then x else if b2 then mulE x X else zE)∧RB=(if b1 then true else b2):=by
  rintro v3 x h b1 b2 e1 e2 e3 e4 e5;rw [hRE,hRB,hX,e4,e5,e3,e2,e1];exact ⟨rfl,rfl⟩
 rw [← hRE,← hRB];have HRES:=zY hres;clear hku hkv hX hRE hRB hres;have HW:=zY hw0;have HST0:=zY hst;clear hw0 hst;go_enter Tryd.func40,Tryd.ntmps40;go_wp2_with fail;show Calls Tryd.prog _ #[.slice (some ⟨w.heap.size+1+1+1,0,none⟩) 1 1,.int .i64 32] ((((w.alloc (.cells (eV m) _)).alloc (.cells (eV n) _)).alloc (.cells (eV zE) _)).alloc (.cells #[.int .u8 255] _)) _;rw [← HW.out];have hs3:w.heap.size+1+1+1=w0.heap.size:=by rw [HW.out]; simp
 rw [hs3];refine qab (repeat_any ⟨w0.heap.size,0,none⟩ _ (by simp) ((Blk.new w0 _ #[.int .u8 255]).cell 0)) ?_;rintro e w1 ⟨o,rfl,hlo,hblk,hb1⟩;have hlo':w0.heap.size≤o:=by simp at hlo; omega
 have hb0:Below w0.heap.size w0 w1:=(below_new w0 (.cells #[.int .u8 255] 5)).trans (hb1.mono (by simp));have HQ1:=zY hblk;have HBW:=zY hb0;have HLO:=zY hlo';clear hlo hblk hb1 hlo' hb0 hs3
 go_wp2_with (first
  | (refine qao (x:=.tmp 14) (i:=0) (v:=.int .u8 253) HQ1.out rfl rfl rfl rfl qbz (by rw [qbI,qbQ 32 (by omega)]; decide) rfl ?_; intro w2 hb2 hw2; have HQ2:=zY (show Blk w2 o 5 (bnV ((fillL 32).set 0 253)).toArray by rw [show (Value.int IntKind.u8 253)=.int .u8 ((253:Nat):Int) from rfl,qbf] at hb2; exact hb2); have HB2:=zY (hw2.below HBW.out HLO.out HBW.out.size); clear hb2 hw2 HBW)
  | (refine qao (x:=.tmp 15) (i:=31) (v:=.int .u8 15) HQ2.out rfl rfl rfl rfl qbz (by rw [qbI,List.length_set,qbQ 32 (by omega)]; decide) rfl ?_; intro w3 hb3 hw3; have HQ3:=zY (show Blk w3 o 5 (bnV e0L).toArray by rw [show (Value.int IntKind.u8 15)=.int .u8 ((15:Nat):Int) from rfl,qbf,e0L_end] at hb3; exact hb3); have HB3:=zY (hw3.below HB2.out HLO.out HB2.out.size); clear hb3 hw3 HB2))
 obtain ⟨OA,hOA⟩:∃ A:Option Addr,A=some ⟨o,0,none⟩:=⟨_,rfl⟩;have hrd:=Rd.of_blk HQ3.out HQ3.out.lt;rw [← e0B_v,← hOA] at hrd;have HST3:=zY (show Cs [.rd OA (bytesV e0B),.box w.heap.size 46 (eV m),.box (w.heap.size+1) 46 (eV n),.box (w.heap.size+1+1) 46 (eV zE)] w w3 from ⟨⟨hrd,(HST0.out.next HB3.out).1⟩,(HST0.out.next HB3.out).2⟩);rw [← hOA];clear hrd hOA HQ1 HQ2 HQ3 HB3 HST0 HLO
 have CPW:=zY (show ∀ x (u:World),E5.Ok x→Rd u u.heap.size OA (bytesV e0B)→Calls Tryd.prog 63 #[.agg (eV x),.slice OA 32 32] u (ElemPost (pwL x e0L 32) u) from fun x u hx hr=>by
  have h:=pow_any x hx e0B OA 32 u hr (by rw [e0B_len]; decide) (by rw [e0B_len]; decide);rw [e0B_l,e0B_len] at h;exact h)
 generalize w.heap.size+1+1=r at *;generalize w.heap.size+1=gv at *;generalize hgu:w.heap.size=gu at HST3 ⊢;clear HW hgu;have HC0:Below w3.heap.size w3 w3.drew:=(Below.refl _ _).drew
 refine qak (fun u=>Below w3.heap.size w3 u) (fun | false=>(fun _=>True) | true=>(fun _=>True)) (fun | false,_=>false | true,_=>false)
  [fun z _=>z 0=.agg (eV (n)),
   fun z _=>z 1=.agg (eV (n)),
   fun z _=>z 2=.agg (eV (mulE (n) (n))),
   fun z _=>z 3=.agg (eV (n)),
   fun z _=>z 4=.agg (eV (mulE (mulE (n) (n)) (n))),
   fun z u=>(NewBox w3.heap.size 46 (eV zE)) (z 5) u,
   fun z u=>NewBox w3.heap.size 46 (eV (mulE (mulE (n) (n)) (n))) (z 5) u]
  [Eq,Eq,fun u u'=>Below u.heap.size u u',Eq,fun u u'=>Below u.heap.size u u',fun u u'=>Below u.heap.size u u',fun _ _=>True]
  (fun i k=>(i == 6 && k == 5)) [(0,some 16),(1,some 17),(2,some 18),(3,some 19),(4,some 20),(5,some 7),(6,none)] (by kernel_rfl) (by kernel_rfl) rfl (fun _=>rfl) ?_ ?_ ?_ ?_ ?_ ?_
 ·exact HC0
 ·intro m; cases m; exact trivial; exact trivial
 ·intro m; cases m
  ·refine ⟨?_,?_,?_,?_,?_,?_,?_,trivial⟩ <;> first | exact .inr fun _ _ h h0=>h▸h0 | exact .inr fun _ _ _ h=>h
  ·refine ⟨?_,?_,?_,?_,?_,?_,?_,trivial⟩ <;> first | exact .inr fun _ _ h h0=>h▸h0 | exact .inr fun _ _ _ h=>h
 ·refine ⟨⟨.inl rfl,?_,?_,?_,?_,?_,?_,trivial⟩,⟨?_,.inl rfl,?_,?_,?_,?_,?_,trivial⟩,⟨?_,?_,.inl rfl,?_,?_,.inr (.inr (.inr (fun _ _ _ _ h h0=>h0.next h))),?_,trivial⟩,⟨?_,?_,?_,.inl rfl,?_,?_,?_,trivial⟩,⟨?_,?_,?_,?_,.inl rfl,.inr (.inr (.inr (fun _ _ _ _ h h0=>h0.next h))),?_,trivial⟩,⟨?_,?_,?_,?_,?_,.inl rfl,?_,trivial⟩,⟨?_,?_,?_,?_,?_,.inr (.inl rfl),.inl rfl,trivial⟩,trivial⟩ <;> first | exact .inr (.inr (.inl rfl)) | exact .inr (.inr (.inr fun _ _ _ _ _ h=>h)) | exact .inr (.inr (.inr fun _ _ _ _ h h0=>by cases h; exact h0))
 ·refine ⟨?_,?_,?_,?_,?_,?_,?_,trivial⟩
  ·refine qaa [] (fun _=>rfl) rfl ?_;intro w1 vals hC1 hi0 hf E hE;clear hi0;clear hf;have hs:=HST3.out.next hC1;simp only [sP] at hE ⊢;refine qac (hs.1.2.2.1) rfl rfl rfl hu rfl qad ?_;go_wp2_with fail;exact .mk (hE _ _ rfl hC1 rfl)
  ·refine qaa [] (fun _=>rfl) rfl ?_;intro w1 vals hC1 hi0 hf E hE;clear hi0;clear hf;have hs:=HST3.out.next hC1;simp only [sP] at hE ⊢;refine qac (hs.1.2.2.1) rfl rfl rfl hu rfl qad ?_;go_wp2_with fail;exact .mk (hE _ _ rfl hC1 rfl)
  ·refine qaa [(0,some 16),(1,some 17)] (fun _=>rfl) rfl ?_;intro w1 vals hC1 hi0 hf E hE;clear hi0;have f0:vals 0=_:=hf 0 rfl;have f1:vals 1=_:=hf 1 rfl
   try dsimp only at f0 f1
   clear hf;simp only [sP,f0,f1] at hE ⊢;clear f0 f1;go_wp2_with fail;refine qab (mul_c _ _ _ (KV.out) (KV.out)) ?_;rintro e w2 ⟨rfl,hb2⟩;go_wp2_with fail;exact .mk (hE _ _ rfl (hC1.trans (hb2.mono hC1.size)) hb2)
  ·refine qaa [] (fun _=>rfl) rfl ?_;intro w1 vals hC1 hi0 hf E hE;clear hi0;clear hf;have hs:=HST3.out.next hC1;simp only [sP] at hE ⊢;refine qac (hs.1.2.2.1) rfl rfl rfl hu rfl qad ?_;go_wp2_with fail;exact .mk (hE _ _ rfl hC1 rfl)
  ·refine qaa [(2,some 18),(3,some 19),(2,some 18)] (fun _=>rfl) rfl ?_;intro w1 vals hC1 hi0 hf E hE;clear hi0;have f2:vals 2=_:=hf 2 rfl;have f3:vals 3=_:=hf 3 rfl
   try dsimp only at f2 f3
   clear hf;simp only [sP,f2,f3] at hE ⊢;clear f2 f3;go_wp2_with fail;refine qab (mul_c _ _ _ (qaq (KV.out) (KV.out)) (KV.out)) ?_;rintro e w2 ⟨rfl,hb2⟩;go_wp2_with fail;exact .mk (hE _ _ rfl (hC1.trans (hb2.mono hC1.size)) hb2)
  ·refine qaa [] (fun _=>rfl) rfl ?_;intro w1 vals hC1 hi0 hf E hE;clear hi0;clear hf;simp only [sP] at hE ⊢;go_wp2;exact .mk (hE _ _ (NewBox.of hC1.size) (hC1.alloc hC1.size _) (below_new _ _))
  ·refine qaa [(5,some 7),(4,some 20),(4,some 20),(0,some 16),(1,some 17),(2,some 18),(3,some 19),(4,some 20),(5,some 7)] (fun _=>rfl) rfl ?_;intro w1 vals hC1 hi0 hf E hE;clear hi0;have f0:vals 0=_:=hf 0 rfl;have f1:vals 1=_:=hf 1 rfl;have f2:vals 2=_:=hf 2 rfl;have f3:vals 3=_:=hf 3 rfl;have f4:vals 4=_:=hf 4 rfl;have f5:(NewBox w3.heap.size 46 (eV zE)) (vals 5) w1:=hf 5 rfl
   try dsimp only at f0 f1 f2 f3 f4 f5
   clear hf;obtain ⟨o,hx,ho,hblk⟩:=f5;have hx':=hx;simp only [sP,f0,f1,f2,f3,f4,hx] at hE ⊢;clear f0 f1 f2 f3 f4;clear hx;refine qae (cells:=eV (mulE (mulE (n) (n)) (n))) hblk rfl rfl rfl rfl qad rfl (by simp [eV,ptV,wV,limbs,Value.oneCell']) ?_;intro w2 hb2 hw2;go_wp2_with fail;exact .mk (hE undef _ ⟨o,hx',ho,hb2⟩ (hw2.below hC1 ho hC1.size) trivial)
 intro w1 vals hC1 hf;have f0:vals 0=_:=hf 0 (by decide) rfl;have f1:vals 1=_:=hf 1 (by decide) rfl;have f2:vals 2=_:=hf 2 (by decide) rfl;have f3:vals 3=_:=hf 3 (by decide) rfl;have f4:vals 4=_:=hf 4 (by decide) rfl;have f6:(fun z u=>NewBox w3.heap.size 46 (eV (mulE (mulE (n) (n)) (n))) (z 5) u) vals w1:=hf 6 (by decide) rfl
 try dsimp only at f0 f1 f2 f3 f4 f6
 clear hf;simp only [sP,f0,f1,f2,f3,f4];clear f0 f1 f2 f3 f4;generalize vals 5=x5 at *;obtain ⟨o1,rfl,hlo1,hblk1⟩:=f6;obtain ⟨c,hc⟩:=eX (mulE (mulE (n) (n)) (n));rw [← hc] at hblk1;have Kc:=zY (show c.Ok by rw [hc]; exact qaq (qaq (KV.out) (KV.out)) (KV.out));have Ec:=zY hc;have HST1:=zY (show Cs (.box o1 46 (eV c) :: [.rd OA (bytesV e0B),.box gu 46 (eV m),.box gv 46 (eV n),.box r 46 (eV zE)]) w w1 from ⟨⟨hblk1,(HST3.out.next hC1).1⟩,(HST3.out.next hC1).2⟩);clear hC1 HC0 HST3 hblk1 hlo1 hc;obtain ⟨v1,rfl⟩:=eX w1;go_wp2_with fail;have HC0:Below v1.heap.size v1 v1.drew:=(Below.refl _ _).drew
 refine qak (fun u=>Below v1.heap.size v1 u) (fun | false=>(fun _=>True) | true=>(fun _=>True)) (fun | false,_=>false | true,_=>false)
  [fun z _=>z 0=.agg (eV (m)),
   fun z _=>z 1=.agg (eV (c)),
   fun z _=>z 2=.agg (eV (mulE (m) (c))),
   fun z _=>z 3=.agg (eV (m)),
   fun z _=>z 4=.agg (eV (c)),
   fun z _=>z 5=.agg (eV (mulE (m) (c))),
   fun z _=>z 6=.agg (eV (c)),
   fun z _=>z 7=.agg (eV (mulE (mulE (m) (c)) (c))),
   fun z _=>z 8=.agg (eV (n)),
   fun z _=>z 9=.agg (eV (mulE (mulE (mulE (m) (c)) (c)) (n))),
   fun z _=>z 10=.slice OA 32 32,
   fun z _=>z 11=.agg (eV (pwL (mulE (mulE (mulE (m) (c)) (c)) (n)) e0L 32)),
   fun z _=>z 12=.agg (eV (mulE (mulE (m) (c)) (pwL (mulE (mulE (mulE (m) (c)) (c)) (n)) e0L 32))),
   fun z u=>(NewBox v1.heap.size 46 (eV zE)) (z 13) u,
   fun z u=>NewBox v1.heap.size 46 (eV (mulE (mulE (m) (c)) (pwL (mulE (mulE (mulE (m) (c)) (c)) (n)) e0L 32))) (z 13) u]
  [Eq,Eq,fun u u'=>Below u.heap.size u u',Eq,Eq,fun u u'=>Below u.heap.size u u',Eq,fun u u'=>Below u.heap.size u u',Eq,fun u u'=>Below u.heap.size u u',Eq,fun u u'=>Below u.heap.size u u',fun u u'=>Below u.heap.size u u',fun u u'=>Below u.heap.size u u',fun _ _=>True]
  (fun i k=>(i == 14 && k == 13)) [(0,some 21),(1,some 22),(2,some 23),(3,some 24),(4,some 25),(5,some 26),(6,some 27),(7,some 28),(8,some 29),(9,some 30),(10,some 31),(11,some 32),(12,some 33),(13,some 8),(14,none)] (by kernel_rfl) (by kernel_rfl) rfl (fun _=>rfl) ?_ ?_ ?_ ?_ ?_ ?_
 ·exact HC0
 ·intro m; cases m; exact trivial; exact trivial
 ·intro m; cases m
  ·refine ⟨?_,?_,?_,?_,?_,?_,?_,?_,?_,?_,?_,?_,?_,?_,?_,trivial⟩ <;> first | exact .inr fun _ _ h h0=>h▸h0 | exact .inr fun _ _ _ h=>h
  ·refine ⟨?_,?_,?_,?_,?_,?_,?_,?_,?_,?_,?_,?_,?_,?_,?_,trivial⟩ <;> first | exact .inr fun _ _ h h0=>h▸h0 | exact .inr fun _ _ _ h=>h
 ·refine ⟨⟨.inl rfl,?_,?_,?_,?_,?_,?_,?_,?_,?_,?_,?_,?_,?_,?_,trivial⟩,⟨?_,.inl rfl,?_,?_,?_,?_,?_,?_,?_,?_,?_,?_,?_,?_,?_,trivial⟩,⟨?_,?_,.inl rfl,?_,?_,?_,?_,?_,?_,?_,?_,?_,?_,.inr (.inr (.inr (fun _ _ _ _ h h0=>h0.next h))),?_,trivial⟩,⟨?_,?_,?_,.inl rfl,?_,?_,?_,?_,?_,?_,?_,?_,?_,?_,?_,trivial⟩,⟨?_,?_,?_,?_,.inl rfl,?_,?_,?_,?_,?_,?_,?_,?_,?_,?_,trivial⟩,⟨?_,?_,?_,?_,?_,.inl rfl,?_,?_,?_,?_,?_,?_,?_,.inr (.inr (.inr (fun _ _ _ _ h h0=>h0.next h))),?_,trivial⟩,⟨?_,?_,?_,?_,?_,?_,.inl rfl,?_,?_,?_,?_,?_,?_,?_,?_,trivial⟩,⟨?_,?_,?_,?_,?_,?_,?_,.inl rfl,?_,?_,?_,?_,?_,.inr (.inr (.inr (fun _ _ _ _ h h0=>h0.next h))),?_,trivial⟩,⟨?_,?_,?_,?_,?_,?_,?_,?_,.inl rfl,?_,?_,?_,?_,?_,?_,trivial⟩,⟨?_,?_,?_,?_,?_,?_,?_,?_,?_,.inl rfl,?_,?_,?_,.inr (.inr (.inr (fun _ _ _ _ h h0=>h0.next h))),?_,trivial⟩,⟨?_,?_,?_,?_,?_,?_,?_,?_,?_,?_,.inl rfl,?_,?_,?_,?_,trivial⟩,⟨?_,?_,?_,?_,?_,?_,?_,?_,?_,?_,?_,.inl rfl,?_,.inr (.inr (.inr (fun _ _ _ _ h h0=>h0.next h))),?_,trivial⟩,⟨?_,?_,?_,?_,?_,?_,?_,?_,?_,?_,?_,?_,.inl rfl,.inr (.inr (.inr (fun _ _ _ _ h h0=>h0.next h))),?_,trivial⟩,⟨?_,?_,?_,?_,?_,?_,?_,?_,?_,?_,?_,?_,?_,.inl rfl,?_,trivial⟩,⟨?_,?_,?_,?_,?_,?_,?_,?_,?_,?_,?_,?_,?_,.inr (.inl rfl),.inl rfl,trivial⟩,trivial⟩ <;> first | exact .inr (.inr (.inl rfl)) | exact .inr (.inr (.inr fun _ _ _ _ _ h=>h)) | exact .inr (.inr (.inr fun _ _ _ _ h h0=>by cases h; exact h0))
 ·refine ⟨?_,?_,?_,?_,?_,?_,?_,?_,?_,?_,?_,?_,?_,?_,?_,trivial⟩
  ·refine qaa [] (fun _=>rfl) rfl ?_;intro w1 vals hC1 hi0 hf E hE;clear hi0;clear hf;have hs:=HST1.out.next hC1;simp only [sP] at hE ⊢;refine qac (hs.1.2.2.1) rfl rfl rfl hu rfl qad ?_;go_wp2_with fail;exact .mk (hE _ _ rfl hC1 rfl)
  ·refine qaa [] (fun _=>rfl) rfl ?_;intro w1 vals hC1 hi0 hf E hE;clear hi0;clear hf;have hs:=HST1.out.next hC1;simp only [sP] at hE ⊢;refine qac (hs.1.1) rfl rfl rfl hu rfl qad ?_;go_wp2_with fail;exact .mk (hE _ _ rfl hC1 rfl)
  ·refine qaa [(0,some 21),(1,some 22)] (fun _=>rfl) rfl ?_;intro w1 vals hC1 hi0 hf E hE;clear hi0;have f0:vals 0=_:=hf 0 rfl;have f1:vals 1=_:=hf 1 rfl
   try dsimp only at f0 f1
   clear hf;simp only [sP,f0,f1] at hE ⊢;clear f0 f1;go_wp2_with fail;refine qab (mul_c _ _ _ (KU.out) (Kc.out)) ?_;rintro e w2 ⟨rfl,hb2⟩;go_wp2_with fail;exact .mk (hE _ _ rfl (hC1.trans (hb2.mono hC1.size)) hb2)
  ·refine qaa [] (fun _=>rfl) rfl ?_;intro w1 vals hC1 hi0 hf E hE;clear hi0;clear hf;have hs:=HST1.out.next hC1;simp only [sP] at hE ⊢;refine qac (hs.1.2.2.1) rfl rfl rfl hu rfl qad ?_;go_wp2_with fail;exact .mk (hE _ _ rfl hC1 rfl)
  ·refine qaa [] (fun _=>rfl) rfl ?_;intro w1 vals hC1 hi0 hf E hE;clear hi0;clear hf;have hs:=HST1.out.next hC1;simp only [sP] at hE ⊢;refine qac (hs.1.1) rfl rfl rfl hu rfl qad ?_;go_wp2_with fail;exact .mk (hE _ _ rfl hC1 rfl)
  ·refine qaa [(3,some 24),(4,some 25),(2,some 23)] (fun _=>rfl) rfl ?_;intro w1 vals hC1 hi0 hf E hE;clear hi0;have f2:vals 2=_:=hf 2 rfl;have f3:vals 3=_:=hf 3 rfl;have f4:vals 4=_:=hf 4 rfl
   try dsimp only at f2 f3 f4
   clear hf;simp only [sP,f2,f3,f4] at hE ⊢;clear f2 f3 f4;go_wp2_with fail;refine qab (mul_c _ _ _ (KU.out) (Kc.out)) ?_;rintro e w2 ⟨rfl,hb2⟩;go_wp2_with fail;exact .mk (hE _ _ rfl (hC1.trans (hb2.mono hC1.size)) hb2)
  ·refine qaa [] (fun _=>rfl) rfl ?_;intro w1 vals hC1 hi0 hf E hE;clear hi0;clear hf;have hs:=HST1.out.next hC1;simp only [sP] at hE ⊢;refine qac (hs.1.1) rfl rfl rfl hu rfl qad ?_;go_wp2_with fail;exact .mk (hE _ _ rfl hC1 rfl)
  ·refine qaa [(5,some 26),(6,some 27),(5,some 26)] (fun _=>rfl) rfl ?_;intro w1 vals hC1 hi0 hf E hE;clear hi0;have f5:vals 5=_:=hf 5 rfl;have f6:vals 6=_:=hf 6 rfl
   try dsimp only at f5 f6
   clear hf;simp only [sP,f5,f6] at hE ⊢;clear f5 f6;go_wp2_with fail;refine qab (mul_c _ _ _ (qaq (KU.out) (Kc.out)) (Kc.out)) ?_;rintro e w2 ⟨rfl,hb2⟩;go_wp2_with fail;exact .mk (hE _ _ rfl (hC1.trans (hb2.mono hC1.size)) hb2)
  ·refine qaa [] (fun _=>rfl) rfl ?_;intro w1 vals hC1 hi0 hf E hE;clear hi0;clear hf;have hs:=HST1.out.next hC1;simp only [sP] at hE ⊢;refine qac (hs.1.2.2.2.1) rfl rfl rfl hu rfl qad ?_;go_wp2_with fail;exact .mk (hE _ _ rfl hC1 rfl)
  ·refine qaa [(7,some 28),(8,some 29),(7,some 28)] (fun _=>rfl) rfl ?_;intro w1 vals hC1 hi0 hf E hE;clear hi0;have f7:vals 7=_:=hf 7 rfl;have f8:vals 8=_:=hf 8 rfl
   try dsimp only at f7 f8
   clear hf;simp only [sP,f7,f8] at hE ⊢;clear f7 f8;go_wp2_with fail;refine qab (mul_c _ _ _ (qaq (qaq (KU.out) (Kc.out)) (Kc.out)) (KV.out)) ?_;rintro e w2 ⟨rfl,hb2⟩;go_wp2_with fail;exact .mk (hE _ _ rfl (hC1.trans (hb2.mono hC1.size)) hb2)
  ·refine qaa [] (fun _=>rfl) rfl ?_;intro w1 vals hC1 hi0 hf E hE;clear hi0;clear hf;simp only [sP] at hE ⊢;go_wp2;exact .mk (hE _ _ rfl hC1 rfl)
  ·refine qaa [(9,some 30),(10,some 31),(9,some 30)] (fun _=>rfl) rfl ?_;intro w1 vals hC1 hi0 hf E hE;clear hi0;have f9:vals 9=_:=hf 9 rfl;have f10:vals 10=_:=hf 10 rfl
   try dsimp only at f9 f10
   clear hf;have hs:=HST1.out.next hC1;simp only [sP,f9,f10] at hE ⊢;clear f9 f10;go_wp2_with fail;refine qab (CPW.out _ _ (qaq (qaq (qaq (KU.out) (Kc.out)) (Kc.out)) (KV.out)) (hs.1.2.1)) ?_;rintro e w2 ⟨rfl,hb2⟩;go_wp2_with fail;exact .mk (hE _ _ rfl (hC1.trans (hb2.mono hC1.size)) hb2)
  ·refine qaa [(2,some 23),(11,some 32),(11,some 32)] (fun _=>rfl) rfl ?_;intro w1 vals hC1 hi0 hf E hE;clear hi0;have f2:vals 2=_:=hf 2 rfl;have f11:vals 11=_:=hf 11 rfl
   try dsimp only at f2 f11
   clear hf;simp only [sP,f2,f11] at hE ⊢;clear f2 f11;go_wp2_with fail;refine qab (mul_c _ _ _ (qaq (KU.out) (Kc.out)) (pwL_ok (qaq (qaq (qaq (KU.out) (Kc.out)) (Kc.out)) (KV.out)) _ _)) ?_;rintro e w2 ⟨rfl,hb2⟩;go_wp2_with fail;exact .mk (hE _ _ rfl (hC1.trans (hb2.mono hC1.size)) hb2)
  ·refine qaa [] (fun _=>rfl) rfl ?_;intro w1 vals hC1 hi0 hf E hE;clear hi0;clear hf;simp only [sP] at hE ⊢;go_wp2;exact .mk (hE _ _ (NewBox.of hC1.size) (hC1.alloc hC1.size _) (below_new _ _))
  ·refine qaa [(13,some 8),(12,some 33),(12,some 33),(0,some 21),(1,some 22),(2,some 23),(3,some 24),(4,some 25),(5,some 26),(6,some 27),(7,some 28),(8,some 29),(9,some 30),(10,some 31),(11,some 32),(12,some 33),(13,some 8)] (fun _=>rfl) rfl ?_;intro w1 vals hC1 hi0 hf E hE;clear hi0;have f0:vals 0=_:=hf 0 rfl;have f1:vals 1=_:=hf 1 rfl;have f2:vals 2=_:=hf 2 rfl;have f3:vals 3=_:=hf 3 rfl;have f4:vals 4=_:=hf 4 rfl;have f5:vals 5=_:=hf 5 rfl;have f6:vals 6=_:=hf 6 rfl;have f7:vals 7=_:=hf 7 rfl;have f8:vals 8=_:=hf 8 rfl;have f9:vals 9=_:=hf 9 rfl;have f10:vals 10=_:=hf 10 rfl;have f11:vals 11=_:=hf 11 rfl;have f12:vals 12=_:=hf 12 rfl;have f13:(NewBox v1.heap.size 46 (eV zE)) (vals 13) w1:=hf 13 rfl
   try dsimp only at f0 f1 f2 f3 f4 f5 f6 f7 f8 f9 f10 f11 f12 f13
   clear hf;obtain ⟨o,hx,ho,hblk⟩:=f13;have hx':=hx;simp only [sP,f0,f1,f2,f3,f4,f5,f6,f7,f8,f9,f10,f11,f12,hx] at hE ⊢;clear f0 f1 f2 f3 f4 f5 f6 f7 f8 f9 f10 f11 f12;clear hx;refine qae (cells:=eV (mulE (mulE (m) (c)) (pwL (mulE (mulE (mulE (m) (c)) (c)) (n)) e0L 32))) hblk rfl rfl rfl rfl qad rfl (by simp [eV,ptV,wV,limbs,Value.oneCell']) ?_;intro w2 hb2 hw2;go_wp2_with fail;exact .mk (hE undef _ ⟨o,hx',ho,hb2⟩ (hw2.below hC1 ho hC1.size) trivial)
 intro w1 vals hC1 hf;have f0:vals 0=_:=hf 0 (by decide) rfl;have f1:vals 1=_:=hf 1 (by decide) rfl;have f2:vals 2=_:=hf 2 (by decide) rfl;have f3:vals 3=_:=hf 3 (by decide) rfl;have f4:vals 4=_:=hf 4 (by decide) rfl;have f5:vals 5=_:=hf 5 (by decide) rfl;have f6:vals 6=_:=hf 6 (by decide) rfl;have f7:vals 7=_:=hf 7 (by decide) rfl;have f8:vals 8=_:=hf 8 (by decide) rfl;have f9:vals 9=_:=hf 9 (by decide) rfl;have f10:vals 10=_:=hf 10 (by decide) rfl;have f11:vals 11=_:=hf 11 (by decide) rfl;have f12:vals 12=_:=hf 12 (by decide) rfl;have f14:(fun z u=>NewBox v1.heap.size 46 (eV (mulE (mulE (m) (c)) (pwL (mulE (mulE (mulE (m) (c)) (c)) (n)) e0L 32))) (z 13) u) vals w1:=hf 14 (by decide) rfl
 try dsimp only at f0 f1 f2 f3 f4 f5 f6 f7 f8 f9 f10 f11 f12 f14
 clear hf;simp only [sP,f0,f1,f2,f3,f4,f5,f6,f7,f8,f9,f10,f11,f12];clear f0 f1 f2 f3 f4 f5 f6 f7 f8 f9 f10 f11 f12;generalize vals 13=x13 at *;obtain ⟨o2,rfl,hlo2,hblk2⟩:=f14;obtain ⟨t,ht⟩:=eX (mulE (mulE (m) (c)) (pwL (mulE (mulE (mulE (m) (c)) (c)) (n)) e0L 32));rw [← ht] at hblk2;have Kt:=zY (show t.Ok by rw [ht]; exact qaq (qaq (KU.out) (Kc.out)) (pwL_ok (qaq (qaq (qaq (KU.out) (Kc.out)) (Kc.out)) (KV.out)) _ _));have Et:=zY ht;have HST2:=zY (show Cs (.box o2 46 (eV t) :: [.box o1 46 (eV c),.rd OA (bytesV e0B),.box gu 46 (eV m),.box gv 46 (eV n),.box r 46 (eV zE)]) w w1 from ⟨⟨hblk2,(HST1.out.next hC1).1⟩,(HST1.out.next hC1).2⟩);clear hC1 HC0 HST1 hblk2 hlo2 ht;obtain ⟨v2,rfl⟩:=eX w1;go_wp2_with fail;have HC0:Below v2.heap.size v2 v2.drew:=(Below.refl _ _).drew
 refine qak (fun u=>Below v2.heap.size v2 u) (fun | false=>(fun _=>True) | true=>(fun _=>True)) (fun | false,_=>false | true,_=>false)
  [fun z _=>z 0=.agg (eV (n)),
   fun z _=>z 1=.agg (eV (t)),
   fun z _=>z 2=.agg (eV (mulE (n) (t))),
   fun z _=>z 3=.agg (eV (t)),
   fun z _=>z 4=.agg (eV (mulE (mulE (n) (t)) (t))),
   fun z u=>(NewBox v2.heap.size 46 (eV zE)) (z 5) u,
   fun z u=>NewBox v2.heap.size 46 (eV (mulE (mulE (n) (t)) (t))) (z 5) u]
  [Eq,Eq,fun u u'=>Below u.heap.size u u',Eq,fun u u'=>Below u.heap.size u u',fun u u'=>Below u.heap.size u u',fun _ _=>True]
  (fun i k=>(i == 6 && k == 5)) [(0,some 34),(1,some 35),(2,some 36),(3,some 37),(4,some 38),(5,some 9),(6,none)] (by kernel_rfl) (by kernel_rfl) rfl (fun _=>rfl) ?_ ?_ ?_ ?_ ?_ ?_
 ·exact HC0
 ·intro m; cases m; exact trivial; exact trivial
 ·intro m; cases m
  ·refine ⟨?_,?_,?_,?_,?_,?_,?_,trivial⟩ <;> first | exact .inr fun _ _ h h0=>h▸h0 | exact .inr fun _ _ _ h=>h
  ·refine ⟨?_,?_,?_,?_,?_,?_,?_,trivial⟩ <;> first | exact .inr fun _ _ h h0=>h▸h0 | exact .inr fun _ _ _ h=>h
 ·refine ⟨⟨.inl rfl,?_,?_,?_,?_,?_,?_,trivial⟩,⟨?_,.inl rfl,?_,?_,?_,?_,?_,trivial⟩,⟨?_,?_,.inl rfl,?_,?_,.inr (.inr (.inr (fun _ _ _ _ h h0=>h0.next h))),?_,trivial⟩,⟨?_,?_,?_,.inl rfl,?_,?_,?_,trivial⟩,⟨?_,?_,?_,?_,.inl rfl,.inr (.inr (.inr (fun _ _ _ _ h h0=>h0.next h))),?_,trivial⟩,⟨?_,?_,?_,?_,?_,.inl rfl,?_,trivial⟩,⟨?_,?_,?_,?_,?_,.inr (.inl rfl),.inl rfl,trivial⟩,trivial⟩ <;> first | exact .inr (.inr (.inl rfl)) | exact .inr (.inr (.inr fun _ _ _ _ _ h=>h)) | exact .inr (.inr (.inr fun _ _ _ _ h h0=>by cases h; exact h0))
 ·refine ⟨?_,?_,?_,?_,?_,?_,?_,trivial⟩
  ·refine qaa [] (fun _=>rfl) rfl ?_;intro w1 vals hC1 hi0 hf E hE;clear hi0;clear hf;have hs:=HST2.out.next hC1;simp only [sP] at hE ⊢;refine qac (hs.1.2.2.2.2.1) rfl rfl rfl hu rfl qad ?_;go_wp2_with fail;exact .mk (hE _ _ rfl hC1 rfl)
  ·refine qaa [] (fun _=>rfl) rfl ?_;intro w1 vals hC1 hi0 hf E hE;clear hi0;clear hf;have hs:=HST2.out.next hC1;simp only [sP] at hE ⊢;refine qac (hs.1.1) rfl rfl rfl hu rfl qad ?_;go_wp2_with fail;exact .mk (hE _ _ rfl hC1 rfl)
  ·refine qaa [(0,some 34),(1,some 35)] (fun _=>rfl) rfl ?_;intro w1 vals hC1 hi0 hf E hE;clear hi0;have f0:vals 0=_:=hf 0 rfl;have f1:vals 1=_:=hf 1 rfl
   try dsimp only at f0 f1
   clear hf;simp only [sP,f0,f1] at hE ⊢;clear f0 f1;go_wp2_with fail;refine qab (mul_c _ _ _ (KV.out) (Kt.out)) ?_;rintro e w2 ⟨rfl,hb2⟩;go_wp2_with fail;exact .mk (hE _ _ rfl (hC1.trans (hb2.mono hC1.size)) hb2)
  ·refine qaa [] (fun _=>rfl) rfl ?_;intro w1 vals hC1 hi0 hf E hE;clear hi0;clear hf;have hs:=HST2.out.next hC1;simp only [sP] at hE ⊢;refine qac (hs.1.1) rfl rfl rfl hu rfl qad ?_;go_wp2_with fail;exact .mk (hE _ _ rfl hC1 rfl)
  ·refine qaa [(2,some 36),(3,some 37),(2,some 36)] (fun _=>rfl) rfl ?_;intro w1 vals hC1 hi0 hf E hE;clear hi0;have f2:vals 2=_:=hf 2 rfl;have f3:vals 3=_:=hf 3 rfl
   try dsimp only at f2 f3
   clear hf;simp only [sP,f2,f3] at hE ⊢;clear f2 f3;go_wp2_with fail;refine qab (mul_c _ _ _ (qaq (KV.out) (Kt.out)) (Kt.out)) ?_;rintro e w2 ⟨rfl,hb2⟩;go_wp2_with fail;exact .mk (hE _ _ rfl (hC1.trans (hb2.mono hC1.size)) hb2)
  ·refine qaa [] (fun _=>rfl) rfl ?_;intro w1 vals hC1 hi0 hf E hE;clear hi0;clear hf;simp only [sP] at hE ⊢;go_wp2;exact .mk (hE _ _ (NewBox.of hC1.size) (hC1.alloc hC1.size _) (below_new _ _))
  ·refine qaa [(5,some 9),(4,some 38),(4,some 38),(0,some 34),(1,some 35),(2,some 36),(3,some 37),(4,some 38),(5,some 9)] (fun _=>rfl) rfl ?_;intro w1 vals hC1 hi0 hf E hE;clear hi0;have f0:vals 0=_:=hf 0 rfl;have f1:vals 1=_:=hf 1 rfl;have f2:vals 2=_:=hf 2 rfl;have f3:vals 3=_:=hf 3 rfl;have f4:vals 4=_:=hf 4 rfl;have f5:(NewBox v2.heap.size 46 (eV zE)) (vals 5) w1:=hf 5 rfl
   try dsimp only at f0 f1 f2 f3 f4 f5
   clear hf;obtain ⟨o,hx,ho,hblk⟩:=f5;have hx':=hx;simp only [sP,f0,f1,f2,f3,f4,hx] at hE ⊢;clear f0 f1 f2 f3 f4;clear hx;refine qae (cells:=eV (mulE (mulE (n) (t)) (t))) hblk rfl rfl rfl rfl qad rfl (by simp [eV,ptV,wV,limbs,Value.oneCell']) ?_;intro w2 hb2 hw2;go_wp2_with fail;exact .mk (hE undef _ ⟨o,hx',ho,hb2⟩ (hw2.below hC1 ho hC1.size) trivial)
 intro w1 vals hC1 hf;have f0:vals 0=_:=hf 0 (by decide) rfl;have f1:vals 1=_:=hf 1 (by decide) rfl;have f2:vals 2=_:=hf 2 (by decide) rfl;have f3:vals 3=_:=hf 3 (by decide) rfl;have f4:vals 4=_:=hf 4 (by decide) rfl;have f6:(fun z u=>NewBox v2.heap.size 46 (eV (mulE (mulE (n) (t)) (t))) (z 5) u) vals w1:=hf 6 (by decide) rfl
 try dsimp only at f0 f1 f2 f3 f4 f6
 clear hf;simp only [sP,f0,f1,f2,f3,f4];clear f0 f1 f2 f3 f4;generalize vals 5=x5 at *;obtain ⟨o3,rfl,hlo3,hblk3⟩:=f6;obtain ⟨h,hh⟩:=eX (mulE (mulE (n) (t)) (t));rw [← hh] at hblk3;have Kh:=zY (show h.Ok by rw [hh]; exact qaq (qaq (KV.out) (Kt.out)) (Kt.out));have Eh:=zY hh;have HST3:=zY (show Cs (.box o3 46 (eV h) :: [.box o2 46 (eV t),.box o1 46 (eV c),.rd OA (bytesV e0B),.box gu 46 (eV m),.box gv 46 (eV n),.box r 46 (eV zE)]) w w1 from ⟨⟨hblk3,(HST2.out.next hC1).1⟩,(HST2.out.next hC1).2⟩);clear hC1 HC0 HST2 hblk3 hlo3 hh;obtain ⟨v3,rfl⟩:=eX w1;obtain ⟨b1,hb1⟩:=eX (eqB h m);obtain ⟨b2,hb2⟩:=eX (eqB h (subE zE m));have hre:=HRES.out c t h b1 b2 Ec.out Et.out Eh.out hb1 hb2;have CE1:=zY (show ∀ u,Calls Tryd.prog 47 #[.agg (eV h),.agg (eV m)] u (BoolPost b1 u) from fun u=>by rw [hb1]; exact equal_c _ _ _ Kh.out KU.out);have CE2:=zY (show ∀ u,Calls Tryd.prog 47 #[.agg (eV h),.agg (eV (subE zE m))] u (BoolPost b2 u) from fun u=>by rw [hb2]; exact equal_c _ _ _ Kh.out (qaP zE_ok KU.out));have HRE:=zY hre;clear hb1 hb2 hre HRES Ec Et Eh CPW;go_wp2_with (first | (refine qac (x:=.tmp 9) (HST3.out.1.1) rfl rfl rfl hu rfl qad ?_) | (refine qac (x:=.tmp 2) (HST3.out.1.2.2.2.2.1) rfl rfl rfl hu rfl qad ?_));refine qab (CE1.out _) ?_;rintro e y1 ⟨rfl,hb⟩;have HSTa:=zY (HST3.out.next hb);clear hb HST3
 cases b1
 ·go_wp2_with fail;have HC0:=HSTa.out.drew;clear HSTa;refine qaj (fun u=>Cs [.box o3 46 (eV h),.box o2 46 (eV t),.box o1 46 (eV c),.rd OA (bytesV e0B),.box gu 46 (eV m),.box gv 46 (eV n),.box r 46 (eV zE)] w u) (fun u=>Cs [.box o3 46 (eV h),.box o2 46 (eV t),.box o1 46 (eV c),.rd OA (bytesV e0B),.box gu 46 (eV m),.box gv 46 (eV n),.box r 46 (eV zE)] w u) [(0,some 45),(1,some 46),(2,some 47),(3,some 48),(4,some 49),(5,some 44)] (by kernel_rfl) (by kernel_rfl) (by decide) (by kernel_rfl) (fun _=>rfl) HC0 ?_;apply yN_
  ·apply dP [];exact fun _=>rfl;rfl;rintro vals - w1 hC1 E hE;have hs:=hC1;simp only [sP] at hE ⊢;refine qac (hs.1.1) rfl rfl rfl hu rfl qad ?_;go_wp2_with fail;exact .mk (hE _ hC1)
  apply yN_
  ·apply dP [];exact fun _=>rfl;rfl;rintro vals ⟨-,-⟩ w1 hC1 E hE;simp only [sP] at hE ⊢;go_wp2;exact .mk (hE _ hC1)
  apply yN_
  ·apply dP [];exact fun _=>rfl;rfl;intro vals vq w1 hC1 E hE;clear vq;have hs:=hC1;simp only [sP] at hE ⊢;refine qac (hs.1.2.2.2.2.1) rfl rfl rfl hu rfl qad ?_;go_wp2_with fail;exact .mk (hE _ hC1)
  apply yN_
  ·apply dP [(1,some 46),(2,some 47)];exact fun _=>rfl;rfl;intro vals vq w1 hC1 E hE;simp only [sP,vq] at hE ⊢;clear vq;go_wp2_with fail;refine qab (sub_z _ (KU.out) _) ?_;rintro e w2 ⟨rfl,hb2⟩;go_wp2_with fail;exact .mk (hE _ (hC1.next hb2))
  apply yN_
  ·apply dP [(0,some 45),(3,some 48),(3,some 48)];exact fun _=>rfl;rfl;intro vals vq w1 hC1 E hE;simp only [sP,vq] at hE ⊢;clear vq;go_wp2_with fail;refine qab (CE2.out _) ?_;rintro e w2 ⟨rfl,hb2⟩;go_wp2_with fail;exact .mk (hE _ (hC1.next hb2))
  apply yL_
  ·apply dP [(4,some 49),(4,some 49)];exact fun _=>rfl;rfl;intro vals vq w1 hC1 E hE;simp only [sP,vq] at hE ⊢;clear vq;go_wp2;exact .mk (hE _ hC1)
  intro vals vq w1 hC1;simp only [sP,vq];clear vq;clear HC0;have HSTb:=zY hC1;clear hC1
  cases b2
  ·go_wp2_with (refine qae (x:=.tmp 4) (cells:=eV zE) (HSTb.out.1.2.2.2.2.2.2.1) rfl rfl rfl rfl qad rfl (by simp [eV,ptV,wV,limbs,Value.oneCell']) ?_; intro y9 hb9 hw9; have HR9:=zY hb9; have HW9:=zY hw9; clear hb9 hw9);refine bodyPost_ret (qal (P:=Tryd.prog) rfl rfl HR9.out hu rfl qad) rfl ⟨?_,HW9.out.below HSTb.out.2 HLR.out HSTb.out.2.size⟩;rw [HRE.out.1,HRE.out.2];rfl
  ·go_wp2_with fail;have HC0:=HSTb.out.drew;clear HSTb;refine qbh (fun u=>Cs [.box o3 46 (eV h),.box o2 46 (eV t),.box o1 46 (eV c),.rd OA (bytesV e0B),.box gu 46 (eV m),.box gv 46 (eV n),.box r 46 (eV zE)] w u) (fun _=>false) 3 [(0,some 50),(1,some 51),(2,some 52),(3,none),(4,some 5)] (by kernel_rfl) (by kernel_rfl) (by decide) (by kernel_rfl) (fun _=>rfl) HC0 ?_;apply DetQ.next
   ·apply dQ;apply dP [];exact fun _=>rfl;rfl;rintro vals - w1 hC1 E hE;simp only [sP] at hE ⊢;refine qac (hC1.1.2.1) rfl rfl rfl hu rfl qad ?_;go_wp2_with fail;exact .mk (hE _ hC1)
   apply DetQ.next
   ·apply dQ;apply dP [];exact fun _=>rfl;rfl;rintro vals ⟨-,-⟩ w1 hC1 E hE;simp only [sP] at hE ⊢;go_wp2_with fail;refine qab (CT.out _) ?_;rintro e w2 ⟨rfl,hb2⟩;go_wp2_with fail;exact .mk (hE _ (hC1.next hb2))
   apply DetQ.next
   ·apply dQ;apply dP [(0,some 50),(1,some 51),(1,some 51)];exact fun _=>rfl;rfl;intro vals vq w1 hC1 E hE;simp only [sP,vq] at hE ⊢;clear vq;go_wp2_with fail;refine qab (mul_c t X _ Kt.out KX.out) ?_;rintro e w2 ⟨rfl,hb2⟩;go_wp2_with fail;exact .mk (hE _ (hC1.next hb2))
   apply DetQ.done;rintro vals ⟨⟨⟨-,f0⟩,f1⟩,f2⟩ w1 hC1;refine qbp [(2,some 52),(2,some 52),(0,some 50),(1,some 51),(2,some 52)] (fun _=>rfl) rfl ?_;intro E hE;simp only [sP,f0,f1,f2] at hE ⊢;refine qae (x:=.tmp 4) (cells:=eV (mulE t X)) (hC1.1.2.2.2.2.2.2.1) rfl rfl rfl rfl qad rfl (by simp [eV,ptV,wV,limbs,Value.oneCell']) ?_;intro y9 hb9 hw9;have HR9:=zY hb9;have HW9:=zY hw9;clear hb9 hw9;go_wp2_with fail;refine .mk (hE undef _ ?_);clear hE E;generalize hval:upd _ 3 _=vals3;replace f0:=uP hval (by decide) f0;replace f1:=uP hval (by decide) f1;replace f2:=uP hval (by decide) f2;have f3:=(congrFun hval 3).symm.trans (qbL _ _ _);clear hval;refine qbp [(3,none),(0,some 50),(1,some 51),(2,some 52),(3,none)] (fun _=>rfl) rfl ?_;intro E hE;simp only [sP,f0,f1,f2,f3] at hE ⊢;go_wp2;refine .mk (hE _ _ ?_);clear hE E;generalize hval:upd _ 4 _=vals4;replace f0:=uP hval (by decide) f0;replace f1:=uP hval (by decide) f1;replace f2:=uP hval (by decide) f2;replace f3:=uP hval (by decide) f3;have f4:=(congrFun hval 4).symm.trans (qbL _ _ _);clear hval;refine tail_end ?_;simp only [sP,f0,f1,f2,f3,f4];clear f0 f1 f2 f3 f4;have HSTc:=zY hC1;clear hC1 HC0;go_wp2_with fail;refine bodyPost_ret (qal (P:=Tryd.prog) rfl rfl HR9.out hu rfl qad) rfl ⟨?_,HW9.out.below HSTc.out.2 HLR.out HSTc.out.2.size⟩;rw [HRE.out.1,HRE.out.2];rfl
 ·go_wp2_with (first | (refine qac (x:=.tmp 8) (HSTa.out.1.2.1) rfl rfl rfl hu rfl qad ?_) | (refine qae (x:=.tmp 4) (cells:=eV t) (HSTa.out.1.2.2.2.2.2.2.1) rfl rfl rfl rfl qad rfl (by simp [eV,ptV,wV,limbs,Value.oneCell']) ?_; intro y9 hb9 hw9; have HR9:=zY hb9; have HW9:=zY hw9; clear hb9 hw9));refine bodyPost_ret (qal (P:=Tryd.prog) rfl rfl HR9.out hu rfl qad) rfl ⟨?_,HW9.out.below HSTa.out.2 HLR.out HSTa.out.2.size⟩;rw [HRE.out.1,HRE.out.2];rfl
theorem turn_val:turnE.val=rootN:=qca (by decide) (by decide) (by decide)
theorem root_sq:fn rootN*fn rootN=-1:=by decide
theorem fv_turn:fv turnE*fv turnE=-1:=by
 have h:fv turnE=fn rootN:=by rw [fv,turn_val]
 rw [h]; exact root_sq
theorem fv_pwL (x:E5) {l:List Nat} (hd:Dg l) (hl:l.length=32):fv (pwL x l 32)=pw (fv x) (leV l):=by
 have h:=pwL_val x l hd 32 (by rw [hl]; exact Nat.le_refl _);rw [hl,Nat.sub_self,List.drop_zero] at h;rw [fv,fv,← fn_pow];exact fn_eq.2 h
theorem eqB_fv {x y:E5} (hx:x.Ok) (hy:y.Ok):eqB x y=true↔fv x=fv y:=by
 rw [eqB,eqE hx.big hy.big,decide_eq_true_iff,fv,fv,fn_eq]
theorem k0_eq:leV e0L+leV e0L+1=kQ:=by decide
theorem e0L_len:e0L.length=32:=by decide
theorem fv_crV3 (v:E5):fv (crV3 v)=fv v*fv v*fv v:=by rw [crV3,qaK,qaK]
theorem fv_crX (u v:E5):fv (crX u v)=fv u*(fv v*fv v*fv v)*pw (fv u*(fv v*fv v*fv v)*(fv v*fv v*fv v)*fv v) (leV e0L):=by
 rw [crX,qaK,qaK,fv_pwL _ e0L_dg e0L_len,qaK,qaK,qaK,fv_crV3]
theorem fv_crH (u v:E5):fv (crH u v)=fv v*fv (crX u v)*fv (crX u v):=by rw [crH,qaK,qaK]
theorem crH_eq (u v:E5):fv (crH u v)=fv u*pw (fv u*(fv v*fv v*fv v)*(fv v*fv v*fv v)*fv v) kQ:=by
 rw [fv_crH,fv_crX,g_pow,← k0_eq,pw_add,pw_add,pw_one]
theorem croot_yes {u v:E5} (hu:u.Ok) (hv:v.Ok) (h:rootB u v=true):fv v*(fv (rootE u v)*fv (rootE u v))=fv u:=by
 have okX:=crX_ok hu hv;have okH:(crH u v).Ok:=qaq (qaq hv okX) okX
 by_cases h1:rootB1 u v=true
 ·have e:rootE u v=crX u v:=by rw [rootE,if_pos h1]
  rw [e];have h2:=(eqB_fv okH hu).1 h1;rw [fv_crH] at h2;exact g_h1 root_sq h2
 ·have h2:rootB2 u v=true:=by rwa [rootB,if_neg h1] at h
  have e:rootE u v=mulE (crX u v) turnE:=by rw [rootE,if_neg h1,if_pos h2]
  have h3:=(eqB_fv okH (qaP zE_ok hu)).1 h2;rw [fv_crH,qbW hu,fv_z] at h3;rw [e,qaK];exact g_h2 fv_turn h3
theorem v8_ne {z v:FP} (hz:z≠0) (hv:v≠0):z*(v*v*v*v)≠0:=Ed.mul_ne FF hz (Ed.mul_ne FF (Ed.mul_ne FF (Ed.mul_ne FF hv hv) hv) hv)
theorem croot_no {u v:E5} (hu:u.Ok) (hv:v.Ok) (h:rootB u v=false) (hv0:fv v≠0) (z:FP):fv v*(z*z)≠fv u:=by
 intro hz;have okX:=crX_ok hu hv;have okH:(crH u v).Ok:=qaq (qaq hv okX) okX;have b1:¬ rootB1 u v=true:=fun h1=>by rw [rootB,if_pos h1] at h; exact absurd h (by decide)
 have b2:¬ rootB2 u v=true:=fun h2=>by rw [rootB,if_neg b1,h2] at h; exact absurd h (by decide)
 have e1:fv (crH u v)≠fv u:=fun e=>b1 ((eqB_fv okH hu).2 e);have e2:fv (crH u v)≠0 - fv u:=fun e=>b2 ((eqB_fv okH (qaP zE_ok hu)).2 (by rw [qbW hu,fv_z]; exact e));rw [crH_eq,g_sq hz] at e1 e2
 by_cases h0:z=0
 ·apply e1;have hu0:fv u=0:=by rw [← hz,h0,g_mz,g_mz]
  rw [hu0,g_zm]
 ·have hw:=pw_quarter (v8_ne h0 hv0);rw [Nat.mul_comm,pw_pw,show (2:Nat)=1+1 from rfl,pw_add,pw_one] at hw
  rcases hw with hw | hw
  ·rw [hw,g_mul1] at e1; exact e1 rfl
  ·rw [hw,g_mulm] at e2; exact e2 rfl
theorem clone_any (b:List UInt8) (h32:b.length=32) (A:Option Addr) (c:Nat) (w:World) (hr:Rd w w.heap.size A (bytesV b)) :
  Calls Tryd.prog 37 #[.slice A 32 c] w (OwnPostZ 5 32 (bytesV b) w):=by
 obtain ⟨ad,rfl,hlt,_⟩:=hr.at_ (k:=0) (by rw [qam,h32]; decide);have HR:=zY hr;have hne:∀ u:World,(binOp .eql 22 (.slice (some ad) 32 c) (.slice none 0 0)).run Tryd.prog u=.ok (.bool false) u:=fun _=>by kernel_rfl
 clear hr;go_enter Tryd.func37,Tryd.ntmps37;have HO:=zY (ownZ_nil w 5);have HB:=zY (below_new w (.cells #[] 5));have HL:=zY (show (bytesV b).length=32*1 by rw [qam,h32]);go_wp2_with (refine qbo sl_bytes rfl rfl HO.out rfl rfl HL.out (by decide) (qan HR.out HB.out) (bytesV_one b) (by unfold maxLen; omega) (by omega) (by simp) ?_; intro A1 c1 w1 hown hg; have HOWN:=zY hown; have HG:=zY hg; clear hown hg);go_ret;exact ⟨A1,c1,rfl,HOWN.out,qbT HB.out HO.out.x HB.out.size HG.out⟩
theorem bnVl (l:List Nat):(bnV l).length=l.length:=by simp [bnV]
def rdL (b:List UInt8):List Nat:=(digs b).set 31 ((digs b).getD 31 0%128)
def yOf (b:List UInt8):Nat:=leV (rdL b)
def oddOf (b:List UInt8):Bool:=decide (128≤(digs b).getD 31 0)
theorem rdL_dg (b:List UInt8):Dg (rdL b):=by
 intro n hn
 rcases List.mem_or_eq_of_mem_set hn with h | h
 ·exact qbn b n h
 ·rw [h]; exact Nat.lt_trans (Nat.mod_lt _ (by decide)) (by decide)
end Go.Proofs.YtjmfkinedhmglaaDoor
