/-
  Joined texts: Fr Rb Grow Dig Rl Dgn Rm Rp Tml Rt Fold Rdv Rf Rg Ri Rw Rv Pm Sm Smc Dge St RegV SumP Rev Cd Pa Pmul Pby Bas.
-/
import Derived.Laws.MakeOwn
import Derived.Laws.OwnMore
import Derived.Test.YtdgheahbafnboaaGreatDoorJ1
namespace Go.Proofs.YtdgheahbafnboaaGreatDoor
set_option linter.unusedSimpArgs false
set_option linter.unusedVariables false
set_option maxRecDepth 100000
set_option maxHeartbeats 4000000
open Go.RowKit
def ReadPost (l:List UInt8) (w:World) (e:Ending) (w':World):Prop:=e=.returned (.tuple #[.agg (eV (readE l)),.int .i64 (readF l)])∧Below w.heap.size w w'
theorem read_any (l:List UInt8) (A:Option Addr) (c:Nat) (w:World) (hr:Rd w w.heap.size A (bytesV l)) (hc:l.length≤c) (hl:l.length≤1000000) :
  Calls Tryz.prog 46 #[.slice A l.length c] w (ReadPost l w):=by
 have hu:=Tryz.underlying46
 by_cases h32:l.length=32
 ·obtain ⟨N,hN⟩:=eX (leV (digs l))
  have hNl:N<256^32:=by
   have h:=qcB (digs l) (digs_lt l);rw [show (digs l).length=32 by rw [digs,List.length_map,h32]] at h;rw [hN]; exact h
  have hst0:G2 w (w.heap.size+1) w.heap.size (mixV (ofN N) zE 0) (eV zE) ((w.alloc (.cells (eV zE) 46)).alloc (.cells (eV zE) 46)) :=
   ⟨(below_new _ _).alloc (by simp) _,Blk.newAt (by simp),(Blk.new _ _ _).alloc _,by omega,Nat.le_refl _,by omega⟩
  rw [h32];have HST0:=zY hst0;have HR:=zY hr;have HL:=zY h32;have HN:=zY hN;have HNL:=zY hNl;clear hst0 hr hc hl h32 hN hNl;go_enter Tryz.func46,Tryz.ntmps46;go_wp2_with fail;generalize ho:w.heap.size+1=o at *;generalize hg:w.heap.size=g at *;have HHO:=zY ho;have HHG:=zY hg;clear ho hg
  go_loopw [13] (fun i wr=>∃ k:Nat,k≤5∧i=.int .i64 k∧G2 w o g (mixV (ofN N) zE k) (eV zE) wr) (fun i _=>5 - (intOf i).toNat)
  case atStart=>exact ⟨0,by omega,rfl,HST0.out⟩
  case round =>
   clear HST0;obtain ⟨i,hi,rfl,hst⟩:=hrel
   by_cases hlt:i<5
   ·have hlt':(i:Int)<5:=by omega
    obtain ⟨n,hn⟩:=eX (i*51);have hni:(i:Int)*51=(n:Int):=by omega
    obtain ⟨q,hq⟩:=eX (n/8);have hqi:(n:Int)/8=(q:Int):=by omega
    have hq25:q≤25:=by omega
    have HST:=zY hst;have HNN:=zY hn;have HQ:=zY hq;clear hst hn hq;go_wp2_with fail;obtain ⟨wo,rfl⟩:=eX wr
    go_loopw [7,18] (fun v c wr=>∃ k:Nat,k≤8∧c=.int .i64 k∧v=.int .u64 (winN N q k:Nat)∧G2 w o g (mixV (ofN N) zE i) (eV zE) wr) (fun _ c _=>8 - (intOf c).toNat)
    case atStart=>exact ⟨0,by omega,rfl,by rw [win_zero]; rfl,HST.out⟩
    case round =>
     clear HST;obtain ⟨k,hk,rfl,rfl,hst⟩:=hrel
     by_cases hltk:k<8
     ·have hltk':(k:Int)<8:=by omega
      obtain ⟨p,hp⟩:=eX (q+k);have hpi:(q:Int)+(k:Int)=(p:Int):=by omega
      by_cases hp32:p<32
      ·have hp32':(p:Int)<32:=by omega
       obtain ⟨b,hb⟩:=eX (N/256^p%256);have hbl:b<256:=by rw [hb]; exact Nat.mod_lt _ (by decide)
       have hbl':(b:Int)<256:=by omega
       have hpl:p<l.length:=by rw [HL.out]; exact hp32
       have hbv:(bytesV l)[p]'(by rw [qaq]; exact hpl)=.int .u8 (b:Int):=by
        have e1:b=l[p].toNat:=by
         rw [hb,HN.out,qc0 _ (digs_lt l),digs,List.getD_eq_getElem?_getD,List.getElem?_map,List.getElem?_eq_getElem hpl];rfl
        rw [e1];simp [bytesV,byteV]
       have hbel:=hst.bel;rw [HHG.out] at hbel;have hrd:=HR.out.below hbel;obtain ⟨ad,rfl,hadl,hcell⟩:=hrd.at_ (k:=p) (by rw [qaq]; exact hpl);rw [hbv] at hcell;obtain ⟨e,he⟩:=eX (8*k);have hei:(8:Int)*(k:Int)=(e:Int):=by omega
       have he64:(e:Int)<64:=by omega
       have hstep:=win_step N q k;rw [← hp,← hb,← he] at hstep;have hyl:=win_lt N q k (by omega);obtain ⟨y,hy⟩:=eX (winN N q k);rw [← hy] at hstep hyl;rw [← hy];obtain ⟨s,hs⟩:=eX (b*2^e);rw [← hs] at hstep
       have hsl:s<18446744073709551616:=by
        have e1:2^e≤2^56:=Nat.pow_le_pow_right (by decide) (by omega);have e2:b*2^e≤255*2^56:=Nat.mul_le_mul (by omega) e1;rw [hs]; exact Nat.lt_of_le_of_lt e2 (by decide)
       have hsi:(b:Int)*2^e%18446744073709551616=(s:Int):=by rw [shl_int,← hs]; omega
       have hor:=or64 y s hyl hsl;rw [hstep] at hor;have HST:=zY hst;have HSI:=zY hsi;have HOR:=zY hor;clear hst hp hy hs hsl hyl hstep hb hbl hbv hbel hrd he hpl hsi hor;go_wp2_with fail;have hw1:IntKind.u64.wrap ((b:Int)*2^e)=(s:Int):=by rw [IntKind.wrap_u64]; exact HSI.out
       rw [hw1,HOR.out];exact ⟨⟨k+1,by omega,by go_num,rfl,HST.out⟩,by simp [intOf]; omega⟩
      ·have hp32':¬ (p:Int)<32:=by omega
       have hw:=win_over N q k HNL.out (by omega);rw [← hw];have HST:=zY hst;clear hst hw hp;go_wp2_with fail;exact ⟨⟨k+1,by omega,by go_num,rfl,HST.out⟩,by simp [intOf]; omega⟩
     ·obtain rfl:k=8:=by omega
      obtain ⟨r,hr⟩:=eX (n%8);have hri:(n:Int)%8=(r:Int):=by omega
      have hr8:(r:Int)<8:=by omega
      have hlimb:=win_limb N n;rw [← HQ.out,← hr] at hlimb;have hat:=ofN_at N i hlt;rw [Nat.mul_comm 51,← HNN.out,← hlimb] at hat;have hvl:=win_lt N q 8 (by omega);obtain ⟨v,hv⟩:=eX (winN N q 8/2^r);have hvi:((winN N q 8:Nat):Int)/2^r=(v:Int):=by rw [qcf,hv]
      rw [← hv] at hat;have hvl2:v<18446744073709551616:=by rw [hv]; exact Nat.lt_of_le_of_lt (Nat.div_le_self _ _) hvl
      have hmk:=qee v hvl2;have hset:=qct (ofN N) zE i hlt;rw [hat,← hmk] at hset;have HSET:=zY hset;have HVI:=zY hvi;have d0:=hst.x.cell i;rw [qcJ _ _ _ hlt] at d0;have f0:=hst.x.free i;have HST:=zY hst;clear hset hst hmk hvl2 hvl hv hat hlimb hr hvi;go_wp2_with fail;refine ⟨⟨i+1,by omega,by go_num,HST.out.putX (qah _ _ _ _) ?_⟩,by simp [intOf]; omega⟩;rw [HVI.out];have h:=qaj (i:=i) HST.out.x (.int .u64 (bits .and .u64 (v:Int) 2251799813685247));rw [HSET.out] at h;exact h
   ·obtain rfl:i=5:=by omega
    rw [qcu] at hst;have HST:=zY hst;clear hst;go_wp2_with fail;obtain ⟨X,hX⟩:=eX (ofN N);have hXl:X.Lt 18446744073709551616:=by rw [hX]; exact (ofN_lt N).mono (by decide)
    obtain ⟨M,hM⟩:=eX ((leastE X).val);have hsame:(byB M=l)=(N<PN):=by rw [hM,hX,HN.out]; exact read_same l HL.out
    have hmay:mayR l=decide (byB M=l):=by
     rw [mayR,Bool.eq_iff_iff,decide_eq_true_iff,decide_eq_true_iff,hsame,← HN.out];exact ⟨fun h=>h.2,fun h=>⟨HL.out,h⟩⟩
    rw [← hX] at HST;have HXL:=zY hXl;have HM:=zY hM;have HC0:=HST.out.drew;have HX:=zY hX;have HMAY:=zY hmay;clear hX hXl hM hmay hsame HST
    by_cases heq:byB M=l
    ·have HEQ:=zY heq;clear heq
     refine qar (fun u=>G2 w o g (eV X) (eV zE) u) (fun | false=>(fun _=>True) | true=>(fun _=>True)) (fun | false,_=>false | true,_=>false)
      [fun z _=>z 0=.agg (eV X),
       fun z u=>∃ o2,z 1=.slice (some ⟨o2,0,none⟩) 32 32∧Blk u o2 5 (bnV (byN M)).toArray,
       fun z _=>z 2=.string ⟨l.toArray⟩,
       fun z _=>z 3=.slice A 32 c,
       fun z _=>z 4=.string ⟨l.toArray⟩,
       fun z _=>z 5=.bool false]
      [Eq,fun u u'=>Below u.heap.size u u',Eq,Eq,Eq,Eq]
      (fun _ _=>false) [(0,some 49),(1,some 50),(2,some 51),(3,some 52),(4,some 53),(5,some 54)] (by kernel_rfl) (by kernel_rfl) rfl (fun _=>rfl) ?_ ?_ ?_ ?_ ?_ ?_
     ·exact HC0
     ·intro m; cases m; exact trivial; exact trivial
     ·intro m; cases m
      ·refine ⟨?_,.inr (fun _ _ _ h=>h),?_,?_,?_,?_,trivial⟩ <;> exact .inr fun _ _ h h0=>h▸h0
      ·refine ⟨?_,.inr (fun _ _ _ h=>h),?_,?_,?_,?_,trivial⟩ <;> exact .inr fun _ _ h h0=>h▸h0
     ·refine ⟨⟨.inl rfl,?_,?_,?_,?_,?_,trivial⟩,⟨?_,.inl rfl,?_,?_,?_,?_,trivial⟩,⟨?_,?_,.inl rfl,?_,?_,?_,trivial⟩,⟨?_,?_,?_,.inl rfl,?_,?_,trivial⟩,⟨?_,?_,?_,?_,.inl rfl,?_,trivial⟩,⟨?_,?_,?_,?_,?_,.inl rfl,trivial⟩,trivial⟩ <;> first | exact .inr (.inr (.inl rfl)) | exact .inr (.inr (.inr fun _ _ _ _ _ h=>h)) | exact .inr (.inr (.inr fun _ _ _ _ h h0=>by cases h; exact h0))
     ·refine ⟨?_,?_,?_,?_,?_,?_,trivial⟩
      ·refine qac [] (fun _=>rfl) rfl ?_;intro w1 vals hC1 hi0 hf E hE;clear hi0;clear hf;simp only [sP] at hE ⊢;refine qab hC1.x rfl rfl rfl hu rfl qag ?_;go_wp2_with fail;exact .mk (hE _ _ rfl hC1 rfl)
      ·refine qac [(0,some 49)] (fun _=>rfl) rfl ?_;intro w1 vals hC1 hi0 hf E hE;clear hi0;have f0:vals 0=_:=hf 0 rfl
       try dsimp only at f0
       clear hf;simp only [sP,f0] at hE ⊢;clear f0;go_wp2_with fail;refine qaa (bytes_any X _ HXL.out) ?_;rintro e w2 ⟨o2,rfl,hlo,hblk,hb2⟩;rw [← HM.out] at hblk;go_wp2_with fail;exact .mk (hE _ _ ⟨o2,rfl,hblk⟩ (hC1.next hb2) hb2)
      ·refine qac [(1,some 50)] (fun _=>rfl) rfl ?_;intro w1 vals hC1 hi0 hf E hE;clear hi0;have f1:(fun z u=>∃ o2,z 1=.slice (some ⟨o2,0,none⟩) 32 32∧Blk u o2 5 (bnV (byN M)).toArray) vals w1:=hf 1 rfl
       try dsimp only at f1
       clear hf;obtain ⟨o2,hx,hblk⟩:=f1;simp only [sP,hx] at hE ⊢;clear hx;rw [bnV_byB] at hblk;refine qa1 (l:=byB M) (Rd.of_blk hblk hblk.lt) Tryz.underlying22 Tryz.underlying5 Tryz.underlying9 rfl rfl (by rw [qbn]; rfl) ?_;rw [HEQ.out];go_wp2_with fail;exact .mk (hE _ _ rfl hC1 rfl)
      ·refine qac [] (fun _=>rfl) rfl ?_;intro w1 vals hC1 hi0 hf E hE;clear hi0;clear hf;simp only [sP] at hE ⊢;go_wp2;exact .mk (hE _ _ rfl hC1 rfl)
      ·refine qac [(3,some 52)] (fun _=>rfl) rfl ?_;intro w1 vals hC1 hi0 hf E hE;clear hi0;have f3:vals 3=_:=hf 3 rfl
       try dsimp only at f3
       clear hf;have hbel:=hC1.bel;rw [HHG.out] at hbel;simp only [sP,f3] at hE ⊢;clear f3;refine qa1 (l:=l) (HR.out.below hbel) Tryz.underlying22 Tryz.underlying5 Tryz.underlying9 rfl rfl (by rw [HL.out]; rfl) ?_;go_wp2_with fail;exact .mk (hE _ _ rfl hC1 rfl)
      ·refine qac [(2,some 51),(4,some 53)] (fun _=>rfl) rfl ?_;intro w1 vals hC1 hi0 hf E hE;clear hi0;have f2:vals 2=_:=hf 2 rfl;have f4:vals 4=_:=hf 4 rfl
       try dsimp only at f2 f4
       clear hf;simp only [sP,f2,f4] at hE ⊢;clear f2 f4;go_wp2;exact .mk (hE _ _ rfl hC1 rfl)
     intro w1 vals hC1 hf;have f0:vals 0=_:=hf 0 (by decide) rfl;have f1:(fun z u=>∃ o2,z 1=.slice (some ⟨o2,0,none⟩) 32 32∧Blk u o2 5 (bnV (byN M)).toArray) vals w1:=hf 1 (by decide) rfl;have f2:vals 2=_:=hf 2 (by decide) rfl;have f3:vals 3=_:=hf 3 (by decide) rfl;have f4:vals 4=_:=hf 4 (by decide) rfl;have f5:vals 5=_:=hf 5 (by decide) rfl
     try dsimp only at f0 f1 f2 f3 f4 f5
     clear hf;simp only [sP,f0,f2,f3,f4,f5];clear f0 f2 f3 f4 f5;generalize vals 1=x1 at *;clear HC0 f1;have HC1:=zY hC1;clear hC1;have hok:mayR l=true:=by rw [HMAY.out]; exact decide_eq_true HEQ.out
     have hE1:readE l=X:=by rw [readE,if_pos hok,HX.out,HN.out]
     have hF1:readF l=0:=by rw [readF,if_pos hok]
     have HE1:=zY hE1;have HF1:=zY hF1;clear hok hE1 hF1
     go_wp2_with (first
      | (refine qab (x:=.tmp 4) HC1.out.x rfl rfl rfl hu rfl qag ?_)
      | (refine qaf (x:=.tmp 2) (cells:=eV X) HC1.out.z rfl rfl rfl rfl qag rfl (by simp [eV,wV,limbs,Value.oneCell']) ?_; intro w5 hb5 hw5; have HB5:=zY hb5; have HW5:=zY hw5; clear hb5 hw5))
     refine bodyPost_ret (qap (P:=Tryz.prog) rfl rfl HB5.out hu rfl qag) rfl ⟨by rw [HE1.out,HF1.out]; rfl,?_⟩;exact HW5.out.below HC1.out.bel HC1.out.lr HC1.out.bel.size
    ·have HEQ:=zY heq;clear heq
     refine qar (fun u=>G2 w o g (eV X) (eV zE) u) (fun | false=>(fun _=>True) | true=>(fun _=>True)) (fun | false,_=>false | true,_=>false)
      [fun z _=>z 0=.agg (eV X),
       fun z u=>∃ o2,z 1=.slice (some ⟨o2,0,none⟩) 32 32∧Blk u o2 5 (bnV (byN M)).toArray,
       fun z _=>z 2=.string ⟨(byB M).toArray⟩,
       fun z _=>z 3=.slice A 32 c,
       fun z _=>z 4=.string ⟨l.toArray⟩,
       fun z _=>z 5=.bool true]
      [Eq,fun u u'=>Below u.heap.size u u',Eq,Eq,Eq,Eq]
      (fun _ _=>false) [(0,some 49),(1,some 50),(2,some 51),(3,some 52),(4,some 53),(5,some 54)] (by kernel_rfl) (by kernel_rfl) rfl (fun _=>rfl) ?_ ?_ ?_ ?_ ?_ ?_
     ·exact HC0
     ·intro m; cases m; exact trivial; exact trivial
     ·intro m; cases m
      ·refine ⟨?_,.inr (fun _ _ _ h=>h),?_,?_,?_,?_,trivial⟩ <;> exact .inr fun _ _ h h0=>h▸h0
      ·refine ⟨?_,.inr (fun _ _ _ h=>h),?_,?_,?_,?_,trivial⟩ <;> exact .inr fun _ _ h h0=>h▸h0
     ·refine ⟨⟨.inl rfl,?_,?_,?_,?_,?_,trivial⟩,⟨?_,.inl rfl,?_,?_,?_,?_,trivial⟩,⟨?_,?_,.inl rfl,?_,?_,?_,trivial⟩,⟨?_,?_,?_,.inl rfl,?_,?_,trivial⟩,⟨?_,?_,?_,?_,.inl rfl,?_,trivial⟩,⟨?_,?_,?_,?_,?_,.inl rfl,trivial⟩,trivial⟩ <;> first | exact .inr (.inr (.inl rfl)) | exact .inr (.inr (.inr fun _ _ _ _ _ h=>h)) | exact .inr (.inr (.inr fun _ _ _ _ h h0=>by cases h; exact h0))
     ·refine ⟨?_,?_,?_,?_,?_,?_,trivial⟩
      ·refine qac [] (fun _=>rfl) rfl ?_;intro w1 vals hC1 hi0 hf E hE;clear hi0;clear hf;simp only [sP] at hE ⊢;refine qab hC1.x rfl rfl rfl hu rfl qag ?_;go_wp2_with fail;exact .mk (hE _ _ rfl hC1 rfl)
      ·refine qac [(0,some 49)] (fun _=>rfl) rfl ?_;intro w1 vals hC1 hi0 hf E hE;clear hi0;have f0:vals 0=_:=hf 0 rfl
       try dsimp only at f0
       clear hf;simp only [sP,f0] at hE ⊢;clear f0;go_wp2_with fail;refine qaa (bytes_any X _ HXL.out) ?_;rintro e w2 ⟨o2,rfl,hlo,hblk,hb2⟩;rw [← HM.out] at hblk;go_wp2_with fail;exact .mk (hE _ _ ⟨o2,rfl,hblk⟩ (hC1.next hb2) hb2)
      ·refine qac [(1,some 50)] (fun _=>rfl) rfl ?_;intro w1 vals hC1 hi0 hf E hE;clear hi0;have f1:(fun z u=>∃ o2,z 1=.slice (some ⟨o2,0,none⟩) 32 32∧Blk u o2 5 (bnV (byN M)).toArray) vals w1:=hf 1 rfl
       try dsimp only at f1
       clear hf;obtain ⟨o2,hx,hblk⟩:=f1;simp only [sP,hx] at hE ⊢;clear hx;rw [bnV_byB] at hblk;refine qa1 (l:=byB M) (Rd.of_blk hblk hblk.lt) Tryz.underlying22 Tryz.underlying5 Tryz.underlying9 rfl rfl (by rw [qbn]; rfl) ?_;go_wp2_with fail;exact .mk (hE _ _ rfl hC1 rfl)
      ·refine qac [] (fun _=>rfl) rfl ?_;intro w1 vals hC1 hi0 hf E hE;clear hi0;clear hf;simp only [sP] at hE ⊢;go_wp2;exact .mk (hE _ _ rfl hC1 rfl)
      ·refine qac [(3,some 52)] (fun _=>rfl) rfl ?_;intro w1 vals hC1 hi0 hf E hE;clear hi0;have f3:vals 3=_:=hf 3 rfl
       try dsimp only at f3
       clear hf;have hbel:=hC1.bel;rw [HHG.out] at hbel;simp only [sP,f3] at hE ⊢;clear f3;refine qa1 (l:=l) (HR.out.below hbel) Tryz.underlying22 Tryz.underlying5 Tryz.underlying9 rfl rfl (by rw [HL.out]; rfl) ?_;go_wp2_with fail;exact .mk (hE _ _ rfl hC1 rfl)
      ·refine qac [(2,some 51),(4,some 53)] (fun _=>rfl) rfl ?_;intro w1 vals hC1 hi0 hf E hE;clear hi0;have f2:vals 2=_:=hf 2 rfl;have f4:vals 4=_:=hf 4 rfl
       try dsimp only at f2 f4
       clear hf;simp only [sP,f2,f4] at hE ⊢;clear f2 f4;go_wp2;refine .mk (hE _ _ ?_ hC1 rfl);have h1:(byB M == l)=false:=beq_false_of_ne HEQ.out;show Value.bool (!byB M == l)=.bool true;rw [h1];rfl
     intro w1 vals hC1 hf;have f0:vals 0=_:=hf 0 (by decide) rfl;have f1:(fun z u=>∃ o2,z 1=.slice (some ⟨o2,0,none⟩) 32 32∧Blk u o2 5 (bnV (byN M)).toArray) vals w1:=hf 1 (by decide) rfl;have f2:vals 2=_:=hf 2 (by decide) rfl;have f3:vals 3=_:=hf 3 (by decide) rfl;have f4:vals 4=_:=hf 4 (by decide) rfl;have f5:vals 5=_:=hf 5 (by decide) rfl
     try dsimp only at f0 f1 f2 f3 f4 f5
     clear hf;simp only [sP,f0,f2,f3,f4,f5];clear f0 f2 f3 f4 f5;generalize vals 1=x1 at *;clear HC0 f1;have HC1:=zY hC1;clear hC1;have hok:mayR l=false:=by rw [HMAY.out]; exact decide_eq_false HEQ.out
     have hE1:readE l=zE:=by rw [readE,hok]; rfl
     have hF1:readF l=2:=by rw [readF,hok]; rfl
     have HE1:=zY hE1;have HF1:=zY hF1;clear hok hE1 hF1
     go_wp2_with (first
      | (refine qaf (x:=.tmp 2) (cells:=eV zE) HC1.out.z rfl rfl rfl rfl qag rfl (by simp [eV,wV,limbs,Value.oneCell']) ?_; intro w5 hb5 hw5; have HB5:=zY hb5; have HW5:=zY hw5; clear hb5 hw5))
     refine bodyPost_ret (qap (P:=Tryz.prog) rfl rfl HB5.out hu rfl qag) rfl ⟨by rw [HE1.out,HF1.out]; rfl,?_⟩;exact HW5.out.below HC1.out.bel HC1.out.lr HC1.out.bel.size
 ·have hno:mayR l=false:=by simp [mayR,h32]
  have hE:readE l=zE:=by rw [readE,hno]; rfl
  have hF:readF l=2:=by rw [readF,hno]; rfl
  unfold ReadPost;rw [hE,hF];obtain ⟨n,hn⟩:=eX (l.length);rw [← hn];have hn32:¬ (n:Int)=32:=by omega
  have hb0:=Blk.new w 46 (eV zE);have HB0:=zY hb0;clear hr hc hl h32 hno hE hF hn hb0;go_enter Tryz.func46,Tryz.ntmps46;go_wp2_with (refine qaf (x:=.tmp 2) (cells:=eV zE) HB0.out rfl rfl rfl rfl qag rfl (by simp [eV,wV,limbs,Value.oneCell']) ?_; intro w5 hb5 hw5; have HB5:=zY hb5; have HW5:=zY hw5; clear hb5 hw5);refine bodyPost_ret (qap (P:=Tryz.prog) rfl rfl HB5.out hu rfl qag) rfl ⟨rfl,?_⟩;exact HW5.out.below (below_new _ _) (Nat.le_refl _) (by simp)
theorem sl_bytes:SlT Tryz.prog 22 5 1 1:=SlT.mk1 (z:=.int .u8 0) Tryz.underlying22 (by kernel_rfl) rfl (by decide)
theorem qdX:SlT Tryz.prog 30 3 1 8:=SlT.mk1 (z:=.int .i64 0) Tryz.underlying30 (by kernel_rfl) rfl (by decide)
def numV (n:Nat):Value:=.int .i64 (n:Int)
def dV (l:List Nat):List Value:=l.map numV
theorem qbq (l:List Nat):(dV l).length=l.length:=by simp [dV]
theorem qb5 (l r:List Nat):dV (l++r)=dV l++dV r:=by simp [dV]
theorem dV_at {l:List Nat} {j:Nat} (h:j<l.length):(dV l)[j]'(by rw [qbq]; exact h)=.int .i64 ((l[j]:Nat):Int):=by simp [dV,numV]
theorem qbA {α:Type} {l:List α} {k:Nat} (h:k<l.length):l.take (k+1)=l.take k++[l[k]]:=List.take_succ_eq_append_getElem h
def OwnPost (e0:TypeId) (n:Nat) (xs:List Value) (w:World) (e:Ending) (w':World):Prop :=
 ∃ A c,e=.returned (.slice A n c)∧OwnX w' w.heap.size e0 1 (.slice A n c) n xs∧Below w.heap.size w w'
theorem qaT {B:Nat} {w w1 w2:World} {A:Option Addr} {n c:Nat} {e:TypeId} {xs:List Value} (hb:Below B w w1) (ho:OwnX w1 B e 1 (.slice A n c) n xs) (hB:B≤w1.heap.size) (hg:w1.grownBy w2 (Value.slice A n c).ownBlock):Below B w w2 :=
 hb.grown hg hB fun k hk=>(ho.lt k hk).1
theorem digits_any (l:List UInt8) (A:Option Addr) (c:Nat) (w:World) (hr:Rd w w.heap.size A (bytesV l)) (hc:l.length≤c) (hl:l.length≤1000000) :
  Calls Tryz.prog 29 #[.slice A l.length c] w (OwnPost 3 l.length (dV (digs l)) w):=by
 obtain ⟨n,hn⟩:=eX (l.length);rw [← hn];have hn63:(n:Int)≤1000000:=by omega
 have hown0:OwnX w w.heap.size 3 1 (.slice none 0 0) 0 (dV ((digs l).take 0)):=OwnX.nil _ _ _ _;have HR:=zY hr;have HN:=zY hn;have HOWN0:=zY hown0;clear hr hn hc hl hown0;go_enter Tryz.func29,Tryz.ntmps29;go_wp2_with fail;generalize hg:w.heap.size=g at *;have HHG:=zY hg;clear hg
 go_loopw [3,4] (fun v i wr=>∃ (k:Nat) (A1:Option Addr) (c1:Nat),k≤n∧i=.int .i64 k∧v=.slice A1 k c1∧OwnX wr g 3 1 (.slice A1 k c1) k (dV ((digs l).take k))∧Below g w wr) (fun _ i _=>n - (intOf i).toNat)
 case atStart=>exact ⟨0,none,0,by omega,rfl,rfl,HOWN0.out,Below.refl _ _⟩
 case round =>
  clear HOWN0;obtain ⟨k,A1,c1,hk,rfl,rfl,hown,hbel⟩:=hrel
  by_cases hlt:k<n
  ·have hlt':(k:Int)<(n:Int):=by omega
   have hkl:k<l.length:=by rw [← HN.out]; exact hlt
   have hrd:=HR.out.below hbel;obtain ⟨ad,rfl,hadl,hcell⟩:=hrd.at_ (k:=k) (by rw [qaq]; exact hkl);obtain ⟨b,hb⟩:=eX (l[k].toNat);have hbl:(b:Int)<256:=by have:=l[k].toNat_lt; omega
   have hbv:(bytesV l)[k]'(by rw [qaq]; exact hkl)=.int .u8 (b:Int):=by
    rw [hb]; simp [bytesV,byteV]
   rw [hbv] at hcell
   have hnext:(digs l).take (k+1)=(digs l).take k++[b]:=by
    rw [qbA (by rw [digs,List.length_map]; exact hkl),hb];simp [digs]
   have hsz:g≤wr.heap.size:=by rw [← HHG.out]; exact (by rw [← HHG.out] at hbel; exact hbel.size)
   have HOWN:=zY hown;have HBEL:=zY hbel;have HNEXT:=zY hnext;have HSZ:=zY hsz;clear hown hbel hnext hrd hbv hb hkl hsz;go_wp2_with (refine qas qdX rfl rfl HOWN.out rfl rfl rfl rfl (by unfold maxLen; omega) (by omega) HSZ.out ?_; intro A2 c2 w2 hown2 hg2 hn2; have HOWN2:=zY hown2; have HG2:=zY hg2; clear hown2 hg2 hn2);refine ⟨⟨k+1,A2,c2,by omega,by go_num,rfl,?_,qaT HBEL.out HOWN.out HSZ.out HG2.out⟩,by simp [intOf]; omega⟩;rw [HNEXT.out,qb5];exact HOWN2.out
  ·obtain rfl:k=n:=by omega
   have HOWN:=zY hown;have HBEL:=zY hbel;clear hown hbel;go_wp2_with fail;go_ret;refine ⟨A1,c1,rfl,?_,by rw [HHG.out]; exact HBEL.out⟩;rw [HHG.out];have h:=HOWN.out;rw [List.take_of_length_le (by rw [digs,List.length_map,HN.out]; exact Nat.le_refl _)] at h;exact h
def refB (l:List Nat):List UInt8:=(List.range 32).map fun i=>UInt8.ofNat (l.getD i 0)
theorem qdg (l:List Nat) (hd:∀ d ∈ l,d<256) (A:Option Addr) (c:Nat) (w:World) (hr:Rd w w.heap.size A (dV l)) (hc:l.length≤c) (hl:l.length≤1000000) :
  Calls Tryz.prog 44 #[.slice A l.length c] w (OwnPost 5 32 (bytesV (refB l)) w):=by
 obtain ⟨n,hn⟩:=eX (l.length);rw [← hn];have hn63:(n:Int)≤1000000:=by omega
 have hown0:OwnX w w.heap.size 5 1 (.slice none 0 0) 0 (bytesV ((refB l).take 0)):=OwnX.nil _ _ _ _
 have hd':∀ k,l.getD k 0<256:=fun k=>by
  rw [List.getD_eq_getElem?_getD]
  by_cases h:k<l.length
  ·rw [List.getElem?_eq_getElem h]; exact hd _ (List.getElem_mem h)
  ·rw [List.getElem?_eq_none (by omega)]; decide
 have HR:=zY hr;have HN:=zY hn;have HD:=zY hd';have HOWN0:=zY hown0;clear hr hn hc hl hown0 hd hd';go_enter Tryz.func44,Tryz.ntmps44;go_wp2_with fail;generalize hg:w.heap.size=g at *;have HHG:=zY hg;clear hg
 go_loopw [3,4] (fun v i wr=>∃ (k:Nat) (A1:Option Addr) (c1:Nat),k≤32∧i=.int .i64 k∧v=.slice A1 k c1∧OwnX wr g 5 1 (.slice A1 k c1) k (bytesV ((refB l).take k))∧Below g w wr) (fun _ i _=>32 - (intOf i).toNat)
 case atStart=>exact ⟨0,none,0,by omega,rfl,rfl,HOWN0.out,Below.refl _ _⟩
 case round =>
  clear HOWN0;obtain ⟨k,A1,c1,hk,rfl,rfl,hown,hbel⟩:=hrel
  by_cases hlt:k<32
  ·have hlt':(k:Int)<32:=by omega
   have hrd:=HR.out.below hbel;obtain ⟨b,hb⟩:=eX (l.getD k 0);have hbl:(b:Int)<256:=by have:=HD.out k; omega
   have hnext:(refB l).take (k+1)=(refB l).take k++[UInt8.ofNat b]:=by
    rw [qbA (by rw [refB,List.length_map,List.length_range]; exact hlt),hb];simp [refB]
   have hbv:byteV (UInt8.ofNat b)=.int .u8 (b:Int):=by
    rw [byteV,UInt8.toNat_ofNat',Nat.mod_eq_of_lt (by omega)]
   have hsz:g≤wr.heap.size:=by rw [← HHG.out]; exact (by rw [← HHG.out] at hbel; exact hbel.size)
   have HOWN:=zY hown;have HBEL:=zY hbel;have HNEXT:=zY hnext;have HSZ:=zY hsz;have HBV:=zY hbv
   by_cases hkn:k<n
   ·have hkn':(k:Int)<(n:Int):=by omega
    have hkl:k<l.length:=by rw [← HN.out]; exact hkn
    obtain ⟨ad,rfl,hadl,hcell⟩:=hrd.at_ (k:=k) (by rw [qbq]; exact hkl);rw [dV_at hkl,show l[k]=b by rw [hb,List.getD_eq_getElem?_getD,List.getElem?_eq_getElem hkl]; rfl] at hcell;clear hown hbel hnext hrd hb hkl hsz hbv;go_wp2_with (refine qas sl_bytes rfl rfl HOWN.out rfl rfl rfl rfl (by unfold maxLen; omega) (by omega) HSZ.out ?_; intro A2 c2 w2 hown2 hg2 hn2; have HOWN2:=zY hown2; have HG2:=zY hg2; clear hown2 hg2 hn2);refine ⟨⟨k+1,A2,c2,by omega,by go_num,rfl,?_,qaT HBEL.out HOWN.out HSZ.out HG2.out⟩,by simp [intOf]; omega⟩;rw [HNEXT.out,qaK,show bytesV [UInt8.ofNat b]=[byteV (UInt8.ofNat b)] from rfl,HBV.out];exact HOWN2.out
   ·have hkn':¬ (k:Int)<(n:Int):=by omega
    have hb0:b=0:=by rw [hb,List.getD_eq_getElem?_getD,List.getElem?_eq_none (by rw [← HN.out]; omega)]; rfl
    subst hb0;clear hown hbel hnext hrd hb hsz hbv;go_wp2_with (refine qas sl_bytes rfl rfl HOWN.out rfl rfl rfl rfl (by unfold maxLen; omega) (by omega) HSZ.out ?_; intro A2 c2 w2 hown2 hg2 hn2; have HOWN2:=zY hown2; have HG2:=zY hg2; clear hown2 hg2 hn2);refine ⟨⟨k+1,A2,c2,by omega,by go_num,rfl,?_,qaT HBEL.out HOWN.out HSZ.out HG2.out⟩,by simp [intOf]; omega⟩;rw [HNEXT.out,qaK];exact HOWN2.out
  ·obtain rfl:k=32:=by omega
   have HOWN:=zY hown;have HBEL:=zY hbel;clear hown hbel;go_wp2_with fail;go_ret;refine ⟨A1,c1,rfl,?_,by rw [HHG.out]; exact HBEL.out⟩;rw [HHG.out];have h:=HOWN.out;rw [List.take_of_length_le (by rw [refB,List.length_map,List.length_range]; exact Nat.le_refl _)] at h;exact h
theorem own_none {w:World} {base e m c:Nat} {A:Option Addr} {xs:List Value} (h:w.ownsRow base e 1 (.slice A m c) m xs):w.ownsRow base e 1 (.slice A 0 c) 0 []:=by
 refine ⟨rfl,?_⟩
 rcases h.2 with ⟨hv,rfl⟩ | ⟨g,cap,cur,hv,hb,hg,hn,hm,hs,_⟩
 ·exact .inl ⟨hv,rfl⟩
 ·injection hv with h1 h2 h3
  subst h1 h3;exact .inr ⟨g,c,cur,rfl,hb,hg,Nat.zero_le _,hm,hs,by simp⟩
theorem u8z:∃ i,Tryz.prog.info? 5=some i∧i.zero=some (.int .u8 0):=by
 obtain ⟨i,hi,h0,_,_⟩:=info_parts (show (Tryz.prog.info? 5).map (fun i=>(i.zero,i.size,i.bytes))=some (some (.int .u8 0),1,1) by kernel_rfl);exact ⟨i,hi,h0⟩
def GrowPost (w:World) (e:Ending) (w':World):Prop :=
 ∃ A c,e=.returned (.slice A 0 c)∧w'.ownsRow w.heap.size 5 1 (.slice A 0 c) 0 []∧Below w.heap.size w w'
theorem grow_any (n:Nat) (hn:n≤40000) (w:World) :
  Calls Tryz.prog 84 #[.slice none 0 0,.int .i64 (n:Int)] w (GrowPost w):=by
 have h0:(0:Int)≤n:=by omega
 have h1:(n:Int)≤40000:=by omega
 have hu8:∃ i,Tryz.prog.info? 5=some i∧i.zero=some (.int .u8 0):=u8z
 rcases Nat.eq_zero_or_pos n with h00 | hp
 ·have h2:(n:Int)≤0:=by omega
  clear h00;go_enter Tryz.func84,Tryz.ntmps84;go_wp2_with fail;go_ret;exact ⟨_,_,rfl,⟨rfl,.inl ⟨rfl,rfl⟩⟩,Below.refl _ _⟩
 ·have h2:(0:Int)<n:=by omega
  have HP:=zY hp;clear hp;go_enter Tryz.func84,Tryz.ntmps84;have hg:=qd7 (w:=w) (base:=w.heap.size) (e:=5) (n:=0) (m:=n) (old:=0) (z:=.int .u8 0) (xs:=[]) (news:=List.replicate n (Value.int .u8 0)) (size:=1) (by simp) (by simp) rfl (by unfold maxLen; omega) (Nat.le_refl _);simp only [Nat.zero_add,List.nil_append,Array.empty_append] at hg;have hzc:Builtin.zeroCells #[.int .u8 0] n=(List.replicate n (Value.int .u8 0)).toArray:=by apply Array.ext'; exact qcc n
  rw [← hzc] at hg;have HO:=zY (own_none hg);have hcap:=(qbZ (OwnX.of hg)).1;have HB:=zY (fun o=>qbl (B:=w.heap.size) (v:=.slice none 0 0) (qbM w o _) (Nat.le_refl _) (by intro k hk; simp [Value.ownBlock] at hk))
  have h48:¬ (281474976710656<Builtin.nextslicecap n 0*Tryz.t5.bytes):=by
   have:=growslice_fits (bytes:=Tryz.t5.bytes) (need:=n) (old:=0) (by omega) (by show n*1≤_; omega);omega
  have h63:¬ (9223372036854775807<(n:Int)):=by omega
  have hbb:¬ (281474976710656<(n:Int)*(Tryz.t5.bytes:Int)):=by show ¬ (281474976710656<(n:Int)*1); omega
  have hmm:¬ (281474976710656<(n:Int)):=by omega
  have hn0:¬ n=0:=by omega
  clear hg hzc;go_wp2_with fail;go_ret;exact ⟨_,_,rfl,HO.out,HB.out _⟩
def Dg (l:List Nat):Prop:=∀ d ∈ l,d<256
theorem qaA {l:List Nat} (h:Dg l) (k:Nat):l.getD k 0<256:=by
 rw [List.getD_eq_getElem?_getD]
 by_cases hk:k<l.length
 ·rw [List.getElem?_eq_getElem hk]; exact h _ (List.getElem_mem hk)
 ·rw [List.getElem?_eq_none (by omega)]; decide
theorem qdC (N k:Nat):N/256^k=N/256^k%256+256*(N/256^(k+1)):=by
 rw [Nat.pow_succ,← Nat.div_div_eq_div_mul];omega
theorem high_same:∀ (t k N M:Nat),N<256^(k+t)→M<256^(k+t)→(∀ j,k≤j→N/256^j%256=M/256^j%256)→N/256^k=M/256^k
 | 0,k,N,M,hN,hM,_=>by rw [Nat.div_eq_of_lt (show N<256^k from hN),Nat.div_eq_of_lt (show M<256^k from hM)]
 | t+1,k,N,M,hN,hM,h=>by
  have ih:=high_same t (k+1) N M (by rw [show k+1+t=k+(t+1) by omega]; exact hN) (by rw [show k+1+t=k+(t+1) by omega]; exact hM) fun j hj=>h j (by omega);rw [qdC N k,qdC M k,ih,h k (Nat.le_refl _)]
theorem qb9 {l:List Nat} (h:Dg l) {t:Nat} (ht:l.length≤t):leV l<256^t :=
 Nat.lt_of_lt_of_le (qcB l h) (Nat.pow_le_pow_right (by decide) ht)
theorem high_same' {a b:List Nat} (ha:Dg a) (hb:Dg b) (k:Nat) (h:∀ j,k≤j→a.getD j 0=b.getD j 0):leV a/256^k=leV b/256^k :=
 high_same (a.length+b.length) k _ _ (qb9 ha (by omega)) (qb9 hb (by omega)) fun j hj=>by rw [qc0 a ha,qc0 b hb,h j hj]
theorem less_at {a b:List Nat} (ha:Dg a) (hb:Dg b) (k:Nat) (h:∀ j,k<j→a.getD j 0=b.getD j 0) (hne:a.getD k 0≠b.getD k 0):(leV a<leV b)=(a.getD k 0<b.getD k 0):=by
 have hq:=high_same' ha hb (k+1) fun j hj=>h j (by omega);have e1:=qdC (leV a) k;have e2:=qdC (leV b) k;rw [qc0 a ha,hq] at e1;rw [qc0 b hb] at e2;apply propext
 constructor
 ·intro hl;have h1:leV a/256^k≤leV b/256^k:=Nat.div_le_div_right (Nat.le_of_lt hl);omega
 ·intro hl;have h1:leV a/256^k<leV b/256^k:=by omega
  exact Nat.lt_of_not_le fun h2=>absurd (Nat.div_le_div_right (c:=256^k) h2) (by omega)
theorem less_no {a b:List Nat} (ha:Dg a) (hb:Dg b) (h:∀ j,a.getD j 0=b.getD j 0):leV a=leV b:=by
 have hq:=high_same' ha hb 0 fun j _=>h j;rw [Nat.pow_zero,Nat.div_one,Nat.div_one] at hq;exact hq
theorem qdG (l:List Nat) (d:Nat):leV (l++[d])=leV l+256^l.length*d:=by rw [qa9]; simp [leV]
theorem qaI (l:List Nat) (k:Nat):leV (l.take (k+1))=leV (l.take k)+256^k*l.getD k 0:=by
 by_cases h:k<l.length
 ·rw [qbA h,qdG,List.length_take,Nat.min_eq_left (by omega),List.getD_eq_getElem?_getD,List.getElem?_eq_getElem h]; rfl
 ·rw [List.take_of_length_le (by omega),List.take_of_length_le (by omega),List.getD_eq_getElem?_getD,List.getElem?_eq_none (by omega)]; simp
def pL:List Nat:=237 :: (List.replicate 30 255++[127])
theorem pL_dg:Dg pL:=by unfold Dg pL; decide
theorem qd6:leV pL=PN:=by decide
theorem qcA:pL.length=32:=by decide
def DigPost (l:List Nat) (w:World) (e:Ending) (w':World):Prop :=
 ∃ A c,e=.returned (.slice A l.length c)∧l.length≤c∧Rd w' w'.heap.size A (dV l)∧Below w.heap.size w w'
theorem qaY (l:List Nat) (j n:Nat):(dV l).toArray.setIfInBounds j (.int .i64 (n:Int))=(dV (l.set j n)).toArray:=by simp [dV,numV,List.map_set]
structure D1 (w0:World) (o:Nat) (l:List Nat) (u:World):Prop where
 bel:Below w0.heap.size w0 u
 out:Blk u o 3 (dV l).toArray
 lo:w0.heap.size≤o
theorem D1.put {w0 u u':World} {o:Nat} {l l':List Nat} (k:D1 w0 o l u) (hw:Wrote o u u') (hb:Blk u' o 3 (dV l').toArray):D1 w0 o l' u' :=
 ⟨hw.below k.bel k.lo k.bel.size,hb,k.lo⟩
theorem D1.next {w0 u u':World} {o:Nat} {l:List Nat} (k:D1 w0 o l u) (hb:Below u.heap.size u u'):D1 w0 o l u' :=
 ⟨k.bel.trans (hb.mono k.bel.size),k.out.below hb k.out.lt,k.lo⟩
theorem D1.drew {w0 u:World} {o:Nat} {l:List Nat} (k:D1 w0 o l u):D1 w0 o l u.drew:=⟨k.bel.drew,k.out,k.lo⟩
theorem qcm {w0 u:World} (l:List Nat) (hb:Below w0.heap.size w0 u):D1 w0 u.heap.size l (u.alloc (.cells (dV l).toArray 3)) :=
 ⟨hb.alloc hb.size _,Blk.new _ _ _,hb.size⟩
theorem D1.post {w0 u:World} {o n c:Nat} {l:List Nat} (k:D1 w0 o l u) (hn:n=l.length) (hc:n≤c):DigPost l w0 (.returned (.slice (some ⟨o,0,none⟩) n c)) u :=
 ⟨_,c,by rw [hn],by omega,Rd.of_blk k.out k.out.lt,k.bel⟩
theorem qbf (l:List Nat):(dV l).toArray.size=l.length:=by simp [dV]
theorem qaS:(Tryz.prog.info? 3).map (·.size)=some 1:=by kernel_rfl
theorem pfill_end:((fillL 32).set 0 237).set 31 127=pL:=by decide
theorem p_any (w:World):Calls Tryz.prog 31 #[] w (DigPost pL w):=by
 have hmk:∀ u:World,(Instr.makeSlice 30 (.int .i64 32) (.int .i64 32)).run Tryz.prog u=.ok (.slice (some ⟨u.heap.size,0,none⟩) 32 32) (u.alloc (.cells (dV (fillL 0)).toArray 3)):=fun _=>by kernel_rfl
 have hst0:=qcm (fillL 0) (Below.refl w.heap.size w);have HST0:=zY hst0;clear hst0;go_enter Tryz.func31,Tryz.ntmps31;go_wp2_with fail;generalize ho:w.heap.size=o at HST0 ⊢;clear ho hmk
 go_loopw [2] (fun i wr=>∃ k:Nat,k≤32∧i=.int .i64 k∧D1 w o (fillL k) wr) (fun i _=>32 - (intOf i).toNat)
 case atStart=>exact ⟨0,by omega,rfl,HST0.out⟩
 case round =>
  clear HST0;obtain ⟨k,hk,rfl,hst⟩:=hrel
  by_cases hlt:k<32
  ·have hlt':(k:Int)<32:=by omega
   have HST:=zY hst;clear hst;go_wp2_with (refine qam (x:=.tmp 10) (i:=k) (v:=.int .i64 255) HST.out.out rfl rfl rfl rfl qaS (by rw [qbf,qbe k (by omega)]; exact hlt) rfl ?_; intro w5 hb5 hw5; have hst5:=HST.out.put (l':=fillL (k+1)) hw5 (by rw [show (Value.int IntKind.i64 255)=.int .i64 ((255:Nat):Int) from rfl,qaY,qdK k hlt] at hb5; exact hb5); have HST5:=zY hst5; clear hst5 hb5 hw5);exact ⟨⟨k+1,by omega,by go_num,HST5.out⟩,by simp [intOf]; omega⟩
  ·obtain rfl:k=32:=by omega
   have HST:=zY hst;clear hst
   go_wp2_with (first
    | (refine qam (x:=.tmp 12) (i:=0) (v:=.int .i64 237) HST.out.out rfl rfl rfl rfl qaS (by rw [qbf,qbe 32 (by omega)]; decide) rfl ?_; intro w5 hb5 hw5; have hst5:=HST.out.put (l':=(fillL 32).set 0 237) hw5 (by rw [show (Value.int IntKind.i64 237)=.int .i64 ((237:Nat):Int) from rfl,qaY] at hb5; exact hb5); have HST5:=zY hst5; clear hst5 hb5 hw5)
    | (refine qam (x:=.tmp 14) (i:=31) (v:=.int .i64 127) HST5.out.out rfl rfl rfl rfl qaS (by rw [qbf,List.length_set,qbe 32 (by omega)]; decide) rfl ?_; intro w6 hb6 hw6; have hst6:=HST5.out.put (l':=pL) hw6 (by rw [show (Value.int IntKind.i64 127)=.int .i64 ((127:Nat):Int) from rfl,qaY,pfill_end] at hb6; exact hb6); have HST6:=zY hst6; clear hst6 hb6 hw6))
   go_ret;exact HST6.out.post qcA.symm (by decide)
theorem qcY {a b:List Nat} {j p n m:Nat} (h:∀ t,n+m+1≤t+j→a.getD t 0=b.getD t 0) (hp:p+j=n+m) (he:a.getD p 0=b.getD p 0):∀ t,n+m+1≤t+(j+1)→a.getD t 0=b.getD t 0:=fun t ht=>by
 by_cases hpt:t=p
 ·rw [hpt]; exact he
 ·exact h t (by omega)
theorem less_any (a b:List Nat) (ha:Dg a) (hb:Dg b) (A B:Option Addr) (c d:Nat) (w:World) (hra:Rd w w.heap.size A (dV a)) (hrb:Rd w w.heap.size B (dV b)) (hla:a.length≤1000000) (hlb:b.length≤1000000) :
  Calls Tryz.prog 30 #[.slice A a.length c,.slice B b.length d] w (fun e w'=>e=.returned (.bool (decide (leV a<leV b)))∧w'=w):=by
 obtain ⟨n,hn⟩:=eX (a.length);obtain ⟨m,hm⟩:=eX (b.length);rw [← hn,← hm];have hn63:(n:Int)≤1000000:=by omega
 have hm63:(m:Int)≤1000000:=by omega
 have HRA:=zY hra;have HRB:=zY hrb;have HA:=zY ha;have HB:=zY hb;have HN:=zY hn;have HM:=zY hm;clear hra hrb ha hb hn hm hla hlb;go_enter Tryz.func30,Tryz.ntmps30;go_wp2_with fail
 go_loop [5] (fun i=>∃ j:Nat,j≤n+m+1∧i=.int .i64 ((n:Int)+(m:Int) - (j:Int))∧∀ t,n+m+1≤t+j→a.getD t 0=b.getD t 0) (fun i=>(intOf i+1).toNat)
 case atStart=>exact ⟨0,by omega,by go_num,fun t ht=>by rw [List.getD_eq_getElem?_getD,List.getD_eq_getElem?_getD,List.getElem?_eq_none (by have:=HN.out; omega),List.getElem?_eq_none (by have:=HM.out; omega)]⟩
 case round =>
  obtain ⟨j,hj,rfl,hsame⟩:=hrel;have HSAME:=zY hsame;clear hsame
  by_cases hlt:j<n+m+1
  ·obtain ⟨p,hp⟩:∃ p,p+j=n+m:=⟨n+m - j,by omega⟩;have hpi:(n:Int)+(m:Int) - (j:Int)=(p:Int):=by omega
   rw [hpi];obtain ⟨x,hx⟩:=eX (a.getD p 0);obtain ⟨y,hy⟩:=eX (b.getD p 0);have HX:=zY hx;have HY:=zY hy;have HP:=zY hp;have hpl2:(p:Int)≤2000000:=by omega
   clear hpi
   have hcase:∀ Z:Prop,(((p<n→∃ ad,A=some ad∧w.cell? (ad.add p)=some (.int .i64 (x:Int)))→(¬ p<n→x=0)→(p<m→∃ ad,B=some ad∧w.cell? (ad.add p)=some (.int .i64 (y:Int)))→(¬ p<m→y=0)→Z)→Z):=fun Z hZ=>hZ
    (fun h=>by
     obtain ⟨ad,h1,_,h3⟩:=HRA.out.at_ (k:=p) (by rw [qbq,← HN.out]; exact h);have hpa:p<a.length:=by rw [← HN.out]; exact h
     rw [dV_at hpa,show a[p]=x by rw [hx,List.getD_eq_getElem?_getD,List.getElem?_eq_getElem hpa]; rfl] at h3;exact ⟨ad,h1,h3⟩)
    (fun h=>by rw [hx,List.getD_eq_getElem?_getD,List.getElem?_eq_none (by rw [← HN.out]; omega)]; rfl)
    (fun h=>by
     obtain ⟨ad,h1,_,h3⟩:=HRB.out.at_ (k:=p) (by rw [qbq,← HM.out]; exact h);have hpa:p<b.length:=by rw [← HM.out]; exact h
     rw [dV_at hpa,show b[p]=y by rw [hy,List.getD_eq_getElem?_getD,List.getElem?_eq_getElem hpa]; rfl] at h3;exact ⟨ad,h1,h3⟩)
    (fun h=>by rw [hy,List.getD_eq_getElem?_getD,List.getElem?_eq_none (by rw [← HM.out]; omega)]; rfl)
   apply hcase;intro h1 h2 h3 h4;clear hcase hx hy hp
   by_cases hpn:p<n <;> by_cases hpm:p<m
   ·obtain ⟨ad,rfl,hca⟩:=h1 hpn;have hpn':(p:Int)<(n:Int):=by omega
    obtain ⟨bd,rfl,hcb⟩:=h3 hpm;have hpm':(p:Int)<(m:Int):=by omega
    clear h1 h2 h3 h4
    by_cases hxy:x=y
    ·subst hxy;go_wp2_with fail;have hq1:(p:Int) - 1=(n:Int)+(m:Int) - ((j+1:Nat):Int):=by have:=HP.out; omega
     exact ⟨⟨j+1,by omega,by rw [hq1],qcY HSAME.out HP.out (HX.out.symm.trans HY.out)⟩,by simp [intOf]⟩
    ·have hxy':¬ (x:Int)=(y:Int):=by omega
     have HXY:=zY hxy;clear hxy;go_wp2_with fail;go_ret;refine ⟨?_,rfl⟩;have hl:=less_at HA.out HB.out p (fun t ht=>HSAME.out t (by have:=HP.out; omega)) (by rw [← HX.out,← HY.out]; exact HXY.out);rw [← HX.out,← HY.out] at hl;rw [show decide (leV a<leV b)=decide (x<y) from decide_eq_decide.mpr (by rw [hl])];exact congrArg (fun b=>Ending.returned (.bool b)) (decide_eq_decide.mpr (by omega))
   ·obtain ⟨ad,rfl,hca⟩:=h1 hpn;have hpn':(p:Int)<(n:Int):=by omega
    obtain rfl:=h4 hpm;have hpm':¬ (p:Int)<(m:Int):=by omega
    clear h1 h2 h3 h4
    by_cases hxy:x=0
    ·subst hxy;go_wp2_with fail;have hq1:(p:Int) - 1=(n:Int)+(m:Int) - ((j+1:Nat):Int):=by have:=HP.out; omega
     exact ⟨⟨j+1,by omega,by rw [hq1],qcY HSAME.out HP.out (HX.out.symm.trans HY.out)⟩,by simp [intOf]⟩
    ·have hxy':¬ (x:Int)=(0:Int):=by omega
     have HXY:=zY hxy;clear hxy;go_wp2_with fail;go_ret;refine ⟨?_,rfl⟩;have hl:=less_at HA.out HB.out p (fun t ht=>HSAME.out t (by have:=HP.out; omega)) (by rw [← HX.out,← HY.out]; exact HXY.out);rw [← HX.out,← HY.out] at hl;rw [show decide (leV a<leV b)=decide (x<0) from decide_eq_decide.mpr (by rw [hl])];exact congrArg (fun b=>Ending.returned (.bool b)) (decide_eq_decide.mpr (by omega))
   ·obtain rfl:=h2 hpn;have hpn':¬ (p:Int)<(n:Int):=by omega
    obtain ⟨bd,rfl,hcb⟩:=h3 hpm;have hpm':(p:Int)<(m:Int):=by omega
    clear h1 h2 h3 h4
    by_cases hxy:0=y
    ·subst hxy;go_wp2_with fail;have hq1:(p:Int) - 1=(n:Int)+(m:Int) - ((j+1:Nat):Int):=by have:=HP.out; omega
     exact ⟨⟨j+1,by omega,by rw [hq1],qcY HSAME.out HP.out (HX.out.symm.trans HY.out)⟩,by simp [intOf]⟩
    ·have hxy':¬ (0:Int)=(y:Int):=by omega
     have HXY:=zY hxy;clear hxy;go_wp2_with fail;go_ret;refine ⟨?_,rfl⟩;have hl:=less_at HA.out HB.out p (fun t ht=>HSAME.out t (by have:=HP.out; omega)) (by rw [← HX.out,← HY.out]; exact HXY.out);rw [← HX.out,← HY.out] at hl;rw [show decide (leV a<leV b)=decide (0<y) from decide_eq_decide.mpr (by rw [hl])];exact congrArg (fun b=>Ending.returned (.bool b)) (decide_eq_decide.mpr (by omega))
   ·obtain rfl:=h2 hpn;have hpn':¬ (p:Int)<(n:Int):=by omega
    obtain rfl:=h4 hpm;have hpm':¬ (p:Int)<(m:Int):=by omega
    clear h1 h2 h3 h4;go_wp2_with fail;have hq1:(p:Int) - 1=(n:Int)+(m:Int) - ((j+1:Nat):Int):=by have:=HP.out; omega
    exact ⟨⟨j+1,by omega,by rw [hq1],qcY HSAME.out HP.out (HX.out.symm.trans HY.out)⟩,by simp [intOf]⟩
  ·obtain rfl:j=n+m+1:=by omega
   have hno:=less_no HA.out HB.out fun t=>HSAME.out t (by omega);have hm1:(n:Int)+(m:Int) - ((n+m+1:Nat):Int)=-1:=by omega
   have HNO:=zY hno;rw [hm1];clear hno hm1 hlt;go_wp2_with fail;go_ret;refine ⟨?_,rfl⟩;rw [HNO.out,decide_eq_false (Nat.lt_irrefl _)];rfl
def digN (n N:Nat):List Nat:=(List.range n).map fun j=>N/256^j%256
theorem qai (n N:Nat):(digN n N).length=n:=by simp [digN]
theorem qaE (n N:Nat):Dg (digN n N):=fun d h=>by
 obtain ⟨j,_,rfl⟩:=List.mem_map.1 h;exact Nat.mod_lt _ (by decide)
theorem qaQ (n N:Nat) (h:N<256^n):leV (digN n N)=N:=by rw [digN,leV_mod,Nat.mod_eq_of_lt h]
theorem qcb {l:List Nat} {n N:Nat} (h:Dg l) (hl:l.length=n) (hv:leV l=N):l=digN n N:=by
 have hlt:=qcB l h;rw [hv,hl] at hlt;exact leV_ext l _ (by rw [hl,qai]) h (qaE n N) (by rw [hv,qaQ n N hlt])
theorem byN_dig (N:Nat):byN N=digN 32 N:=rfl
theorem qcO {l:List Nat} {d:Nat} (h:Dg l) (hd:d<256):Dg (l++[d]):=fun x hx=>by
 rcases List.mem_append.1 hx with h1 | h1
 ·exact h x h1
 ·rw [List.mem_singleton.1 h1]; exact hd
theorem qeq {l:List Nat} (h:Dg l) (k:Nat):Dg (l.take k):=fun x hx=>h x (List.mem_of_mem_take hx)
theorem dg_drop {l:List Nat} (h:Dg l) (k:Nat):Dg (l.drop k):=fun x hx=>h x (List.mem_of_mem_drop hx)
theorem qdr {l:List Nat} (h:Dg l) (k d:Nat) (hd:d<256):Dg (l.set k d):=fun x hx=>by
 rcases List.mem_or_eq_of_mem_set hx with h1 | h1
 ·exact h x h1
 ·rw [h1]; exact hd
def partL (out:List Nat) (n:Nat):List Nat:=out++List.replicate (n - out.length) 0
theorem qaM (out:List Nat) (n:Nat) (h:out.length≤n):(partL out n).length=n:=by simp [partL]; omega
theorem qcV (n:Nat):partL [] n=List.replicate n 0:=rfl
theorem qb2 (out:List Nat) (n:Nat) (h:out.length=n):partL out n=out:=by simp [partL,h]
theorem qbU (out:List Nat) (n k d:Nat) (hk:out.length=k) (h:k<n):(partL out n).set k d=partL (out++[d]) n:=by
 subst hk;obtain ⟨r,hr⟩:∃ r,n - out.length=r+1:=⟨n - out.length - 1,by omega⟩;have hr2:n - (out++[d]).length=r:=by simp; omega
 rw [partL,partL,hr,hr2,List.set_append_right _ _ (Nat.le_refl _),Nat.sub_self,List.replicate_succ,List.set_cons_zero];simp
theorem leV_take_le (l:List Nat) (k:Nat):leV (l.take k)≤leV l:=by
 conv=>rhs; rw [← List.take_append_drop k l,qa9]
 omega
theorem qbH (l:List Nat) (k:Nat) (h:l.length≤k):leV (l.take k)=leV l:=by rw [List.take_of_length_le h]
theorem qeg {l:List Nat} {k N:Nat} (h:leV l≤N) (hN:N<256^k):leV (l.take k)=leV l:=by
 by_cases hk:l.length≤k
 ·exact qbH l k hk
 ·have e:=qa9 (l.take k) (l.drop k);rw [List.take_append_drop,List.length_take,Nat.min_eq_left (by omega)] at e
  have:leV (l.drop k)=0:=by
   rcases Nat.eq_zero_or_pos (leV (l.drop k)) with h0 | h0
   ·exact h0
   ·have:=Nat.mul_le_mul_left (256^k) h0;omega
  rw [this,Nat.mul_zero] at e;omega
theorem plus_step {out a b:List Nat} {k c:Nat} (hl:out.length=k) (h:leV out+256^k*c=leV (a.take k)+leV (b.take k)) :
  leV (out++[(c+a.getD k 0+b.getD k 0)%256])+256^(k+1)*((c+a.getD k 0+b.getD k 0)/256)=leV (a.take (k+1))+leV (b.take (k+1)):=by
 obtain ⟨v,hv⟩:=eX (c+a.getD k 0+b.getD k 0);rw [← hv,qdG,hl,qaI,qaI,Nat.pow_succ]
 have e:256^k*(v%256)+256^k*256*(v/256)=256^k*v:=by
  rw [Nat.mul_assoc,← Nat.mul_add,Nat.mod_add_div]
 have e2:256^k*v=256^k*c+256^k*a.getD k 0+256^k*b.getD k 0:=by rw [hv,Nat.mul_add,Nat.mul_add]
 omega
theorem plus_end {out a b:List Nat} {n c:Nat} (ha:Dg a) (hb:Dg b) (ho:Dg out) (hl:out.length=n+1) (hna:a.length≤n) (hnb:b.length≤n) (h:leV out+256^(n+1)*c=leV (a.take (n+1))+leV (b.take (n+1))):out=digN (n+1) (leV a+leV b):=by
 rw [qbH a _ (by omega),qbH b _ (by omega)] at h;have h1:=qb9 ha hna;have h2:=qb9 hb hnb
 have hc:c=0:=by
  rcases Nat.eq_zero_or_pos c with h0 | h0
  ·exact h0
  ·have:=Nat.mul_le_mul_left (256^(n+1)) h0;rw [Nat.pow_succ] at *;omega
 rw [hc,Nat.mul_zero,Nat.add_zero] at h;exact qcb ho hl h
def subD (a b s:Nat):Nat:=if a<s+b then a+256 - s - b else a - s - b
def subC (a b s:Nat):Nat:=if a<s+b then 1 else 0
theorem minus_step {out a b:List Nat} {k s:Nat} (hb:Dg b) (hs:s≤1) (hl:out.length=k) (h:leV out+leV (b.take k)=leV (a.take k)+256^k*s) :
  leV (out++[subD (a.getD k 0) (b.getD k 0) s])+leV (b.take (k+1))=leV (a.take (k+1))+256^(k+1)*subC (a.getD k 0) (b.getD k 0) s:=by
 obtain ⟨x,hx⟩:=eX (a.getD k 0);obtain ⟨y,hy⟩:=eX (b.getD k 0);have hyl:=qaA hb k;rw [qdG,hl,qaI,qaI,← hx,← hy,Nat.pow_succ]
 have e:256^k*subD x y s+256^k*s+256^k*y=256^k*x+256^k*256*subC x y s:=by
  rw [Nat.mul_assoc,← Nat.mul_add,← Nat.mul_add,← Nat.mul_add]
  congr 1
  unfold subD subC
  split <;> omega
 omega
theorem subD_lt {a b s:Nat} (ha:a<256) (hb:b<256) (hs:s≤1):subD a b s<256:=by unfold subD; split <;> omega
theorem minus_end {out a b:List Nat} {n s:Nat} (ha:Dg a) (hb:Dg b) (ho:Dg out) (hl:out.length=n) (hna:a.length=n) (hle:leV b≤leV a) (h:leV out+leV (b.take n)=leV (a.take n)+256^n*s):out=digN n (leV a - leV b):=by
 have h1:=qb9 ha (Nat.le_of_eq hna);have h3:=qb9 ho (Nat.le_of_eq hl);rw [qbH a _ (by omega),qeg hle h1] at h
 have hs:s=0:=by
  rcases Nat.eq_zero_or_pos s with h0 | h0
  ·exact h0
  ·have:=Nat.mul_le_mul_left (256^n) h0;omega
 rw [hs,Nat.mul_zero,Nat.add_zero] at h;exact qcb ho hl (by omega)
theorem qbG (n:Nat) (hn:n≤4000000) (u:World):(Instr.makeSlice 30 (.int .i64 (n:Int)) (.int .i64 (n:Int))).run Tryz.prog u=.ok (.slice (some ⟨u.heap.size,0,none⟩) n n) (u.alloc (.cells (dV (partL [] n)).toArray 3)):=by
 have hi:(Tryz.prog.info? 3).map (fun i=>(i.zero,i.size,i.bytes))=some (some (.int .i64 0),1,8):=by kernel_rfl
 obtain ⟨i,h1,hi2⟩:=Option.map_eq_some_iff.1 hi;have h2:i.zero=some (.int .i64 0):=congrArg (·.1) hi2;have h3:i.size=1:=congrArg (·.2.1) hi2;have h4:i.bytes=8:=congrArg (·.2.2) hi2;have h:=run_makeSlice (P:=Tryz.prog) u 30 3 i (.int .i64 0) Tryz.underlying30 h1 h2 .i64 .i64 (n:Int) (n:Int) (by omega) (by omega) (by rw [h3,Int.toNat_natCast]; omega) (by rw [h4]; omega) (by omega);rw [Int.toNat_natCast,h3] at h
 have e:madeCells (Value.int .i64 0).cells (n*1)=(dV (partL [] n)).toArray:=by
  apply Array.ext';rw [Nat.mul_one,show (Value.int IntKind.i64 0).cells=#[.int .i64 0] from rfl,toList_madeCells_one,qcV,dV,List.map_replicate];rfl
 rw [h,e]
theorem qa4 {w:World} {A:Option Addr} {a:List Nat} (h:Rd w w.heap.size A (dV a)) {k:Nat} (hk:k<a.length):∃ ad,A=some ad∧w.cell? (ad.add k)=some (.int .i64 ((a.getD k 0:Nat):Int)):=by
 obtain ⟨ad,h1,_,h3⟩:=h.at_ (k:=k) (by rw [qbq]; exact hk);rw [dV_at hk] at h3;refine ⟨ad,h1,?_⟩;rw [h3,List.getD_eq_getElem?_getD,List.getElem?_eq_getElem hk];rfl
theorem qcx {a:List Nat} {k:Nat} (h:¬ k<a.length):a.getD k 0=0:=by
 rw [List.getD_eq_getElem?_getD,List.getElem?_eq_none (by omega)]; rfl
theorem qec (a b:List Nat) (ha:Dg a) (hb:Dg b) (hle:leV b≤leV a) (A B:Option Addr) (c d:Nat) (w:World) (hra:Rd w w.heap.size A (dV a)) (hrb:Rd w w.heap.size B (dV b)) (hla:a.length≤1000000) (hlb:b.length≤1000000) :
  Calls Tryz.prog 41 #[.slice A a.length c,.slice B b.length d] w (DigPost (digN a.length (leV a - leV b)) w):=by
 obtain ⟨n,hn⟩:=eX (a.length);obtain ⟨m,hm⟩:=eX (b.length);rw [← hn,← hm];have hn63:(n:Int)≤1000000:=by omega
 have hm63:(m:Int)≤1000000:=by omega
 have hmk:=qbG n (by omega);have hst0:D1 w w.heap.size (partL [] n) _:=qcm (partL [] n) (Below.refl w.heap.size w);have HRA:=zY hra;have HRB:=zY hrb;have HA:=zY ha;have HB:=zY hb;have HN:=zY hn;have HM:=zY hm;have HLE:=zY hle;have HST0:=zY hst0;clear hra hrb ha hb hn hm hla hlb hle hst0;go_enter Tryz.func41,Tryz.ntmps41;go_wp2_with fail;generalize hg:w.heap.size=g at HST0 HRA HRB ⊢;have HG:=zY hg;clear hg hmk
 go_loopw [6,7] (fun s i wr=>∃ (k bor:Nat) (out:List Nat),k≤n∧i=.int .i64 k∧bor≤1∧s=.int .i64 bor∧out.length=k∧Dg out∧leV out+leV (b.take k)=leV (a.take k)+256^k*bor∧D1 w g (partL out n) wr) (fun _ i _=>n - (intOf i).toNat)
 case atStart=>exact ⟨0,0,[],by omega,rfl,by omega,rfl,rfl,by unfold Dg; simp,by simp [leV],HST0.out⟩
 case round =>
  clear HST0;obtain ⟨k,s,out,hk,rfl,hs,rfl,hol,hod,heq,hst⟩:=hrel
  by_cases hlt:k<n
  ·have hlt':(k:Int)<(n:Int):=by omega
   have hel:Below g w wr:=by have h:=hst.bel; rw [HG.out] at h; exact h
   have hgs:g≤wr.heap.size:=by rw [← HG.out]; exact hst.bel.size
   obtain ⟨ad,rfl,hca⟩:=qa4 ((HRA.out.below hel).mono hgs) (k:=k) (by rw [← HN.out]; exact hlt);obtain ⟨x,hx⟩:=eX (a.getD k 0);obtain ⟨y,hy⟩:=eX (b.getD k 0);have hxl:x<256:=by rw [hx]; exact qaA HA.out k
   have hyl:y<256:=by rw [hy]; exact qaA HB.out k
   rw [← hx] at hca;have hstep:=minus_step (a:=a) HB.out hs hol heq;rw [← hx,← hy] at hstep;have hdl:=subD_lt hxl hyl hs;have hset:=qbU out n k (subD x y s) hol hlt;have hod2:=qcO hod hdl;have hol2:(out++[subD x y s]).length=k+1:=by rw [List.length_append,hol]; rfl
   have HSTEP:=zY hstep;have HSET:=zY hset;have HOD:=zY hod2;have HOL:=zY hol2;have HST:=zY hst;have HSZ:=zY (qaM out n (by omega));have hx':(x:Int)<256:=by omega
   have hy':(y:Int)<256:=by omega
   have hs':(s:Int)≤1:=by omega
   have hKM:(k<m→∃ bd,B=some bd∧wr.cell? (bd.add k)=some (.int .i64 (y:Int)))∧(¬ k<m→y=0):=⟨fun h=>by
    obtain ⟨bd,h1,h2⟩:=qa4 ((HRB.out.below hel).mono hgs) (k:=k) (by rw [← HM.out]; exact h);rw [← hy] at h2;exact ⟨bd,h1,h2⟩,fun h=>by rw [hy]; exact qcx (by rw [← HM.out]; exact h)⟩
   obtain ⟨hk1,hk2⟩:=hKM;clear hst hstep hset hod hod2 hol hol2 heq hx hy hxl hyl hs hdl hel hgs;obtain ⟨dd,hDD⟩:∃ dd,subD x y s=dd:=⟨_,rfl⟩
   by_cases hkm:k<m <;> by_cases hlo:x<s+y
   ·obtain ⟨bd,rfl,hcb⟩:=hk1 hkm;have hkm':(k:Int)<(m:Int):=by omega
    clear hk1 hk2;have hv0:(x:Int) - (s:Int) - (y:Int)<0:=by omega
    have hdd:subD x y s=dd:=hDD;have hv:(x:Int) - (s:Int) - (y:Int)+256=(dd:Int):=by rw [← hdd]; unfold subD; rw [if_pos hlo]; omega
    have hc1:subC x y s=1:=by unfold subC; rw [if_pos hlo]
    have hdl:(dd:Int)<256:=by omega
    rw [hdd] at HSTEP HSET HOD HOL;rw [hc1] at HSTEP;have HD:=zY hdd;clear hdd hDD hc1 hlo hkm;go_wp2_with (refine qam (x:=.tmp 41) (i:=k) (v:=.int .i64 (dd:Int)) HST.out.out rfl rfl rfl rfl qaS (by rw [qbf,HSZ.out]; exact hlt) rfl ?_; intro w5 hb5 hw5; have hst5:=HST.out.put (l':=partL (out++[dd]) n) hw5 (by rw [qaY,HSET.out] at hb5; exact hb5); have HST5:=zY hst5; clear hst5 hb5 hw5);exact ⟨⟨k+1,1,out++[dd],by omega,by go_num,by omega,rfl,HOL.out,HOD.out,HSTEP.out,HST5.out⟩,by simp [intOf]; omega⟩
   ·obtain ⟨bd,rfl,hcb⟩:=hk1 hkm;have hkm':(k:Int)<(m:Int):=by omega
    clear hk1 hk2;have hv0:¬ (x:Int) - (s:Int) - (y:Int)<0:=by omega
    have hdd:subD x y s=dd:=hDD;have hv:(x:Int) - (s:Int) - (y:Int)=(dd:Int):=by rw [← hdd]; unfold subD; rw [if_neg hlo]; omega
    have hc1:subC x y s=0:=by unfold subC; rw [if_neg hlo]
    have hdl:(dd:Int)<256:=by omega
    rw [hdd] at HSTEP HSET HOD HOL;rw [hc1] at HSTEP;have HD:=zY hdd;clear hdd hDD hc1 hlo hkm;go_wp2_with (refine qam (x:=.tmp 41) (i:=k) (v:=.int .i64 (dd:Int)) HST.out.out rfl rfl rfl rfl qaS (by rw [qbf,HSZ.out]; exact hlt) rfl ?_; intro w5 hb5 hw5; have hst5:=HST.out.put (l':=partL (out++[dd]) n) hw5 (by rw [qaY,HSET.out] at hb5; exact hb5); have HST5:=zY hst5; clear hst5 hb5 hw5);exact ⟨⟨k+1,0,out++[dd],by omega,by go_num,by omega,rfl,HOL.out,HOD.out,HSTEP.out,HST5.out⟩,by simp [intOf]; omega⟩
   ·obtain rfl:=hk2 hkm;have hkm':¬ (k:Int)<(m:Int):=by omega
    clear hk1 hk2;have hv0:(x:Int) - (s:Int)<0:=by omega
    have hdd:subD x 0 s=dd:=hDD;have hv:(x:Int) - (s:Int)+256=(dd:Int):=by rw [← hdd]; unfold subD; rw [if_pos hlo]; omega
    have hc1:subC x 0 s=1:=by unfold subC; rw [if_pos hlo]
    have hdl:(dd:Int)<256:=by omega
    rw [hdd] at HSTEP HSET HOD HOL;rw [hc1] at HSTEP;have HD:=zY hdd;clear hdd hDD hc1 hlo hkm;go_wp2_with (refine qam (x:=.tmp 41) (i:=k) (v:=.int .i64 (dd:Int)) HST.out.out rfl rfl rfl rfl qaS (by rw [qbf,HSZ.out]; exact hlt) rfl ?_; intro w5 hb5 hw5; have hst5:=HST.out.put (l':=partL (out++[dd]) n) hw5 (by rw [qaY,HSET.out] at hb5; exact hb5); have HST5:=zY hst5; clear hst5 hb5 hw5);exact ⟨⟨k+1,1,out++[dd],by omega,by go_num,by omega,rfl,HOL.out,HOD.out,HSTEP.out,HST5.out⟩,by simp [intOf]; omega⟩
   ·obtain rfl:=hk2 hkm;have hkm':¬ (k:Int)<(m:Int):=by omega
    clear hk1 hk2;have hv0:¬ (x:Int) - (s:Int)<0:=by omega
    have hdd:subD x 0 s=dd:=hDD;have hv:(x:Int) - (s:Int)=(dd:Int):=by rw [← hdd]; unfold subD; rw [if_neg hlo]; omega
    have hc1:subC x 0 s=0:=by unfold subC; rw [if_neg hlo]
    have hdl:(dd:Int)<256:=by omega
    rw [hdd] at HSTEP HSET HOD HOL;rw [hc1] at HSTEP;have HD:=zY hdd;clear hdd hDD hc1 hlo hkm;go_wp2_with (refine qam (x:=.tmp 41) (i:=k) (v:=.int .i64 (dd:Int)) HST.out.out rfl rfl rfl rfl qaS (by rw [qbf,HSZ.out]; exact hlt) rfl ?_; intro w5 hb5 hw5; have hst5:=HST.out.put (l':=partL (out++[dd]) n) hw5 (by rw [qaY,HSET.out] at hb5; exact hb5); have HST5:=zY hst5; clear hst5 hb5 hw5);exact ⟨⟨k+1,0,out++[dd],by omega,by go_num,by omega,rfl,HOL.out,HOD.out,HSTEP.out,HST5.out⟩,by simp [intOf]; omega⟩
  ·obtain rfl:k=n:=by omega
   have hfin:=minus_end HA.out HB.out hod hol HN.out.symm HLE.out heq;rw [qb2 out _ hol] at hst;have HST:=zY hst;have HFIN:=zY hfin;have HOL:=zY hol;clear hst hfin hol hod heq hs hk hlt;go_wp2_with fail;go_ret;rw [← HFIN.out];exact HST.out.post HOL.out.symm (Nat.le_refl _)
theorem qcP {l:List Nat} {k:Nat} (h:k<l.length):(dV l).toArray[k]?=some (.int .i64 ((l.getD k 0:Nat):Int)):=by
 simp [dV,numV,List.getElem?_eq_getElem h,List.getD_eq_getElem?_getD]
theorem qcR (a b:List Nat) (ha:Dg a) (hb:Dg b) (A B:Option Addr) (c d:Nat) (w:World) (hra:Rd w w.heap.size A (dV a)) (hrb:Rd w w.heap.size B (dV b)) (hla:a.length≤1000000) (hlb:b.length≤1000000) :
  Calls Tryz.prog 42 #[.slice A a.length c,.slice B b.length d] w (DigPost (digN (max a.length b.length+1) (leV a+leV b)) w):=by
 obtain ⟨n,hn⟩:=eX (a.length);obtain ⟨m,hm⟩:=eX (b.length);rw [← hn,← hm];have hn63:(n:Int)≤1000000:=by omega
 have hm63:(m:Int)≤1000000:=by omega
 have HRA:=zY hra;have HRB:=zY hrb;have HA:=zY ha;have HB:=zY hb;have HN:=zY hn;have HM:=zY hm;clear hra hrb ha hb hn hm hla hlb
 by_cases hnm:n<m
 ·have hnm':(m:Int) > (n:Int):=by omega
  have hpp:max n m=m:=Nat.max_eq_right (by omega);have hp1:n≤m:=by omega
  have hp2:m≤m:=Nat.le_refl _;obtain ⟨N,hN⟩:=eX (m+1);have hNi:(m:Int)+1=(N:Int):=by omega
  have hmk:=qbG N (by omega);have hst0:D1 w w.heap.size (partL [] N) _:=qcm (partL [] N) (Below.refl w.heap.size w);have HST0:=zY hst0;have HNN:=zY hN;have Hm:=zY hpp;have HP1:=zY hp1;have HP2:=zY hp2;clear hst0 hN hpp hp1 hp2 hnm;go_enter Tryz.func42,Tryz.ntmps42;go_wp2_with fail;generalize hg:w.heap.size=g at HST0 HRA HRB ⊢;have HG:=zY hg;clear hg hmk
  go_loopw [7,8] (fun s i wr=>∃ (k bor:Nat) (out:List Nat),k≤N∧i=.int .i64 k∧bor≤1∧s=.int .i64 bor∧out.length=k∧Dg out∧leV out+256^k*bor=leV (a.take k)+leV (b.take k)∧D1 w g (partL out N) wr) (fun _ i _=>N - (intOf i).toNat)
  case atStart=>exact ⟨0,0,[],by omega,rfl,by omega,rfl,rfl,by unfold Dg; simp,by simp [leV],HST0.out⟩
  case round =>
   clear HST0;obtain ⟨k,s,out,hk,rfl,hs,rfl,hol,hod,heq,hst⟩:=hrel
   by_cases hlt:k<N
   ·have hlt':(k:Int)≤(m:Int):=by omega
    have hel:Below g w wr:=by have h:=hst.bel; rw [HG.out] at h; exact h
    have hgs:g≤wr.heap.size:=by rw [← HG.out]; exact hst.bel.size
    obtain ⟨x,hx⟩:=eX (a.getD k 0);obtain ⟨y,hy⟩:=eX (b.getD k 0);have hxl:x<256:=by rw [hx]; exact qaA HA.out k
    have hyl:y<256:=by rw [hy]; exact qaA HB.out k
    have hstep:=plus_step hol heq;rw [← hx,← hy] at hstep;have hcarry:(s+x+y)/256≤1:=by omega
    obtain ⟨v,hv⟩:∃ v,s+x+y=v:=⟨_,rfl⟩;rw [hv] at hstep hcarry;obtain ⟨dd,hdd⟩:∃ dd,v%256=dd:=⟨_,rfl⟩;obtain ⟨cc,hcc⟩:∃ cc,v/256=cc:=⟨_,rfl⟩;rw [hdd,hcc] at hstep;rw [hcc] at hcarry;have hddi:(v:Int)%256=(dd:Int):=by omega
    have hcci:(v:Int)/256=(cc:Int):=by omega
    have hset:=qbU out N k dd hol hlt;have hod2:=qcO hod (show dd<256 by omega);have hol2:(out++[dd]).length=k+1:=by rw [List.length_append,hol]; rfl
    have HSTEP:=zY hstep;have HSET:=zY hset;have HOD:=zY hod2;have HOL:=zY hol2;have HST:=zY hst;have HCARRY:=zY hcarry;have HSZ:=zY (qaM out N (by omega));have hx':(x:Int)<256:=by omega
    have hy':(y:Int)<256:=by omega
    have hs':(s:Int)≤1:=by omega
    have hv':(v:Int)≤511:=by omega
    have hKM:(k<m→∃ bd,B=some bd∧wr.cell? (bd.add k)=some (.int .i64 (y:Int)))∧(¬ k<m→y=0):=⟨fun h=>by
     obtain ⟨bd,h1,h2⟩:=qa4 ((HRB.out.below hel).mono hgs) (k:=k) (by rw [← HM.out]; exact h);rw [← hy] at h2;exact ⟨bd,h1,h2⟩,fun h=>by rw [hy]; exact qcx (by rw [← HM.out]; exact h)⟩
    have hKN:(k<n→∃ ad,A=some ad∧wr.cell? (ad.add k)=some (.int .i64 (x:Int)))∧(¬ k<n→x=0):=⟨fun h=>by
     obtain ⟨bd,h1,h2⟩:=qa4 ((HRA.out.below hel).mono hgs) (k:=k) (by rw [← HN.out]; exact h);rw [← hx] at h2;exact ⟨bd,h1,h2⟩,fun h=>by rw [hx]; exact qcx (by rw [← HN.out]; exact h)⟩
    have d0:=hst.out.cell k;rw [qcP (by rw [qaM out N (by omega)]; exact hlt)] at d0;have q0:=hst.out.free k;obtain ⟨hk1,hk2⟩:=hKM;obtain ⟨hj1,hj2⟩:=hKN;clear hst hstep hset hod hod2 hol hol2 heq hx hy hxl hyl hs hel hgs hcarry hdd hcc
    by_cases hkn:k<n <;> by_cases hkm:k<m
    ·obtain ⟨ad,rfl,hca⟩:=hj1 hkn;have hkn':(k:Int)<(n:Int):=by omega
     obtain ⟨bd,rfl,hcb⟩:=hk1 hkm;have hkm':(k:Int)<(m:Int):=by omega
     have hvi:(s:Int)+(x:Int)+(y:Int)=(v:Int):=by omega
     clear hk1 hk2 hj1 hj2 hv hkn hkm;go_wp2_with fail;exact ⟨⟨k+1,cc,out++[dd],by omega,by go_num,HCARRY.out,rfl,HOL.out,HOD.out,HSTEP.out,HST.out.put (qah _ _ _ _) (by have h:=qaj (i:=k) HST.out.out (.int .i64 (dd:Int)); rw [qaY,HSET.out] at h; exact h)⟩,by simp [intOf]; omega⟩
    ·exfalso; omega
    ·obtain rfl:=hj2 hkn;have hkn':¬ (k:Int)<(n:Int):=by omega
     obtain ⟨bd,rfl,hcb⟩:=hk1 hkm;have hkm':(k:Int)<(m:Int):=by omega
     have hvi:(s:Int)+(y:Int)=(v:Int):=by omega
     clear hk1 hk2 hj1 hj2 hv hkn hkm;go_wp2_with fail;exact ⟨⟨k+1,cc,out++[dd],by omega,by go_num,HCARRY.out,rfl,HOL.out,HOD.out,HSTEP.out,HST.out.put (qah _ _ _ _) (by have h:=qaj (i:=k) HST.out.out (.int .i64 (dd:Int)); rw [qaY,HSET.out] at h; exact h)⟩,by simp [intOf]; omega⟩
    ·obtain rfl:=hj2 hkn;have hkn':¬ (k:Int)<(n:Int):=by omega
     obtain rfl:=hk2 hkm;have hkm':¬ (k:Int)<(m:Int):=by omega
     obtain rfl:s=v:=by omega
     clear hk1 hk2 hj1 hj2 hv hkn hkm;go_wp2_with fail;exact ⟨⟨k+1,cc,out++[dd],by omega,by go_num,HCARRY.out,rfl,HOL.out,HOD.out,HSTEP.out,HST.out.put (qah _ _ _ _) (by have h:=qaj (i:=k) HST.out.out (.int .i64 (dd:Int)); rw [qaY,HSET.out] at h; exact h)⟩,by simp [intOf]; omega⟩
   ·obtain rfl:k=N:=by omega
    have hge:¬ (k:Int)≤(m:Int):=by omega
    have hfin:=plus_end (n:=m) HA.out HB.out hod (by rw [hol]; exact HNN.out) (by rw [← HN.out]; exact HP1.out) (by rw [← HM.out]; exact HP2.out) (by rw [← HNN.out]; exact heq);rw [qb2 out _ hol] at hst;have HST:=zY hst;have HFIN:=zY hfin;have HOL:=zY hol;clear hst hfin hol hod heq hs hk hlt;go_wp2_with fail;go_ret;rw [Hm.out,← HFIN.out];exact HST.out.post HOL.out.symm (Nat.le_refl _)
 ·have hnm':¬ (m:Int) > (n:Int):=by omega
  have hpp:max n m=n:=Nat.max_eq_left (by omega);have hp1:n≤n:=Nat.le_refl _;have hp2:m≤n:=by omega
  obtain ⟨N,hN⟩:=eX (n+1);have hNi:(n:Int)+1=(N:Int):=by omega
  have hmk:=qbG N (by omega);have hst0:D1 w w.heap.size (partL [] N) _:=qcm (partL [] N) (Below.refl w.heap.size w);have HST0:=zY hst0;have HNN:=zY hN;have Hn:=zY hpp;have HP1:=zY hp1;have HP2:=zY hp2;clear hst0 hN hpp hp1 hp2 hnm;go_enter Tryz.func42,Tryz.ntmps42;go_wp2_with fail;generalize hg:w.heap.size=g at HST0 HRA HRB ⊢;have HG:=zY hg;clear hg hmk
  go_loopw [7,8] (fun s i wr=>∃ (k bor:Nat) (out:List Nat),k≤N∧i=.int .i64 k∧bor≤1∧s=.int .i64 bor∧out.length=k∧Dg out∧leV out+256^k*bor=leV (a.take k)+leV (b.take k)∧D1 w g (partL out N) wr) (fun _ i _=>N - (intOf i).toNat)
  case atStart=>exact ⟨0,0,[],by omega,rfl,by omega,rfl,rfl,by unfold Dg; simp,by simp [leV],HST0.out⟩
  case round =>
   clear HST0;obtain ⟨k,s,out,hk,rfl,hs,rfl,hol,hod,heq,hst⟩:=hrel
   by_cases hlt:k<N
   ·have hlt':(k:Int)≤(n:Int):=by omega
    have hel:Below g w wr:=by have h:=hst.bel; rw [HG.out] at h; exact h
    have hgs:g≤wr.heap.size:=by rw [← HG.out]; exact hst.bel.size
    obtain ⟨x,hx⟩:=eX (a.getD k 0);obtain ⟨y,hy⟩:=eX (b.getD k 0);have hxl:x<256:=by rw [hx]; exact qaA HA.out k
    have hyl:y<256:=by rw [hy]; exact qaA HB.out k
    have hstep:=plus_step hol heq;rw [← hx,← hy] at hstep;have hcarry:(s+x+y)/256≤1:=by omega
    obtain ⟨v,hv⟩:∃ v,s+x+y=v:=⟨_,rfl⟩;rw [hv] at hstep hcarry;obtain ⟨dd,hdd⟩:∃ dd,v%256=dd:=⟨_,rfl⟩;obtain ⟨cc,hcc⟩:∃ cc,v/256=cc:=⟨_,rfl⟩;rw [hdd,hcc] at hstep;rw [hcc] at hcarry;have hddi:(v:Int)%256=(dd:Int):=by omega
    have hcci:(v:Int)/256=(cc:Int):=by omega
    have hset:=qbU out N k dd hol hlt;have hod2:=qcO hod (show dd<256 by omega);have hol2:(out++[dd]).length=k+1:=by rw [List.length_append,hol]; rfl
    have HSTEP:=zY hstep;have HSET:=zY hset;have HOD:=zY hod2;have HOL:=zY hol2;have HST:=zY hst;have HCARRY:=zY hcarry;have HSZ:=zY (qaM out N (by omega));have hx':(x:Int)<256:=by omega
    have hy':(y:Int)<256:=by omega
    have hs':(s:Int)≤1:=by omega
    have hv':(v:Int)≤511:=by omega
    have hKM:(k<m→∃ bd,B=some bd∧wr.cell? (bd.add k)=some (.int .i64 (y:Int)))∧(¬ k<m→y=0):=⟨fun h=>by
     obtain ⟨bd,h1,h2⟩:=qa4 ((HRB.out.below hel).mono hgs) (k:=k) (by rw [← HM.out]; exact h);rw [← hy] at h2;exact ⟨bd,h1,h2⟩,fun h=>by rw [hy]; exact qcx (by rw [← HM.out]; exact h)⟩
    have hKN:(k<n→∃ ad,A=some ad∧wr.cell? (ad.add k)=some (.int .i64 (x:Int)))∧(¬ k<n→x=0):=⟨fun h=>by
     obtain ⟨bd,h1,h2⟩:=qa4 ((HRA.out.below hel).mono hgs) (k:=k) (by rw [← HN.out]; exact h);rw [← hx] at h2;exact ⟨bd,h1,h2⟩,fun h=>by rw [hx]; exact qcx (by rw [← HN.out]; exact h)⟩
    have d0:=hst.out.cell k;rw [qcP (by rw [qaM out N (by omega)]; exact hlt)] at d0;have q0:=hst.out.free k;obtain ⟨hk1,hk2⟩:=hKM;obtain ⟨hj1,hj2⟩:=hKN;clear hst hstep hset hod hod2 hol hol2 heq hx hy hxl hyl hs hel hgs hcarry hdd hcc
    by_cases hkn:k<n <;> by_cases hkm:k<m
    ·obtain ⟨ad,rfl,hca⟩:=hj1 hkn;have hkn':(k:Int)<(n:Int):=by omega
     obtain ⟨bd,rfl,hcb⟩:=hk1 hkm;have hkm':(k:Int)<(m:Int):=by omega
     have hvi:(s:Int)+(x:Int)+(y:Int)=(v:Int):=by omega
     clear hk1 hk2 hj1 hj2 hv hkn hkm;go_wp2_with fail;exact ⟨⟨k+1,cc,out++[dd],by omega,by go_num,HCARRY.out,rfl,HOL.out,HOD.out,HSTEP.out,HST.out.put (qah _ _ _ _) (by have h:=qaj (i:=k) HST.out.out (.int .i64 (dd:Int)); rw [qaY,HSET.out] at h; exact h)⟩,by simp [intOf]; omega⟩
    ·obtain ⟨ad,rfl,hca⟩:=hj1 hkn;have hkn':(k:Int)<(n:Int):=by omega
     obtain rfl:=hk2 hkm;have hkm':¬ (k:Int)<(m:Int):=by omega
     have hvi:(s:Int)+(x:Int)=(v:Int):=by omega
     clear hk1 hk2 hj1 hj2 hv hkn hkm;go_wp2_with fail;exact ⟨⟨k+1,cc,out++[dd],by omega,by go_num,HCARRY.out,rfl,HOL.out,HOD.out,HSTEP.out,HST.out.put (qah _ _ _ _) (by have h:=qaj (i:=k) HST.out.out (.int .i64 (dd:Int)); rw [qaY,HSET.out] at h; exact h)⟩,by simp [intOf]; omega⟩
    ·exfalso; omega
    ·obtain rfl:=hj2 hkn;have hkn':¬ (k:Int)<(n:Int):=by omega
     obtain rfl:=hk2 hkm;have hkm':¬ (k:Int)<(m:Int):=by omega
     obtain rfl:s=v:=by omega
     clear hk1 hk2 hj1 hj2 hv hkn hkm;go_wp2_with fail;exact ⟨⟨k+1,cc,out++[dd],by omega,by go_num,HCARRY.out,rfl,HOL.out,HOD.out,HSTEP.out,HST.out.put (qah _ _ _ _) (by have h:=qaj (i:=k) HST.out.out (.int .i64 (dd:Int)); rw [qaY,HSET.out] at h; exact h)⟩,by simp [intOf]; omega⟩
   ·obtain rfl:k=N:=by omega
    have hge:¬ (k:Int)≤(n:Int):=by omega
    have hfin:=plus_end (n:=n) HA.out HB.out hod (by rw [hol]; exact HNN.out) (by rw [← HN.out]; exact HP1.out) (by rw [← HM.out]; exact HP2.out) (by rw [← HNN.out]; exact heq);rw [qb2 out _ hol] at hst;have HST:=zY hst;have HFIN:=zY hfin;have HOL:=zY hol;clear hst hfin hol hod heq hs hk hlt;go_wp2_with fail;go_ret;rw [Hn.out,← HFIN.out];exact HST.out.post HOL.out.symm (Nat.le_refl _)
theorem leV_set (d:Nat):∀ (l:List Nat) (p:Nat),p<l.length→leV (l.set p d)+256^p*l.getD p 0=leV l+256^p*d
 | [],p,h=>by simp at h
 | x :: r,0,_=>by
  rw [List.set_cons_zero,leV,leV,Nat.pow_zero,List.getD_cons_zero];omega
 | x :: r,p+1,h=>by
  have ih:=leV_set d r p (by simpa using h);rw [List.set_cons_succ,leV,leV,List.getD_cons_succ,Nat.pow_succ,Nat.mul_right_comm,Nat.mul_right_comm (256^p) 256 d];omega
theorem times_step {out:List Nat} {p c z S v:Nat} (hp:p<out.length) (hv:v=out.getD p 0+z+c) (h:leV out+256^p*c=S) :
  leV (out.set p (v%256))+256^(p+1)*(v/256)=S+256^p*z:=by
 have h1:=leV_set (v%256) out p hp
 have e:256^p*(v%256)+256^(p+1)*(v/256)=256^p*v:=by
  rw [Nat.pow_succ,Nat.mul_assoc,← Nat.mul_add,Nat.mod_add_div]
 have e2:256^p*v=256^p*out.getD p 0+256^p*z+256^p*c:=by rw [hv,Nat.mul_add,Nat.mul_add]
 omega
theorem times_row {b:List Nat} {i j x S:Nat}:S+256^i*(x*leV (b.take j))+256^(i+j)*(x*b.getD j 0)=S+256^i*(x*leV (b.take (j+1))):=by
 rw [qaI,Nat.mul_add,Nat.mul_add,Nat.pow_add]
 have e:256^i*256^j*(x*b.getD j 0)=256^i*(x*(256^j*b.getD j 0)):=by
  rw [Nat.mul_assoc,Nat.mul_left_comm (256^j)]
 omega
theorem times_next {a b:List Nat} {i:Nat}:leV (a.take i)*leV b+256^i*(a.getD i 0*leV b)=leV (a.take (i+1))*leV b:=by
 rw [qaI,Nat.add_mul,Nat.mul_assoc]
theorem times_big {a b:List Nat} {i:Nat} (ha:Dg a) (hb:Dg b):leV (a.take i)*leV b<256^(a.length+b.length+1):=by
 have h1:=qcB a ha;have h2:=qcB b hb;have h3:=leV_take_le a i;have h4:leV (a.take i)*leV b≤256^a.length*256^b.length:=Nat.mul_le_mul (by omega) (by omega);rw [Nat.pow_succ,Nat.pow_add];have h5:0<256^a.length*256^b.length:=Nat.mul_pos (Nat.pow_pos (by decide)) (Nat.pow_pos (by decide));omega
theorem qda {out:List Nat} {k c S T:Nat} (h:leV out+256^k*c=S) (hS:S<256^T) (hc:0<c):k<T:=by
 apply Nat.lt_of_not_le;intro hle;have h1:256^T≤256^k:=Nat.pow_le_pow_right (by decide) hle;have h2:=Nat.mul_le_mul_left (256^k) hc;omega
theorem times_end {out a b:List Nat} (ho:Dg out) (hl:out.length=a.length+b.length+1) (h:leV out=leV (a.take a.length)*leV b):out=digN (a.length+b.length+1) (leV a*leV b):=by
 rw [List.take_length] at h;exact qcb ho hl h
theorem qdT (a b:List Nat) (ha:Dg a) (hb:Dg b) (A B:Option Addr) (c d:Nat) (w:World) (hra:Rd w w.heap.size A (dV a)) (hrb:Rd w w.heap.size B (dV b)) (hla:a.length≤1000000) (hlb:b.length≤1000000) :
  Calls Tryz.prog 74 #[.slice A a.length c,.slice B b.length d] w (DigPost (digN (a.length+b.length+1) (leV a*leV b)) w):=by
 obtain ⟨n,hn⟩:=eX (a.length);obtain ⟨m,hm⟩:=eX (b.length);rw [← hn,← hm];have hn63:(n:Int)≤1000000:=by omega
 have hm63:(m:Int)≤1000000:=by omega
 obtain ⟨T,hT⟩:=eX (n+m+1);have hTi:(n:Int)+(m:Int)+1=(T:Int):=by omega
 have hmk:=qbG T (by omega);have hst0:D1 w w.heap.size (partL [] T) _:=qcm (partL [] T) (Below.refl w.heap.size w);have hz:leV (partL [] T)=0:=by rw [qcV,qbm]
 have hzd:Dg (partL [] T):=fun d h=>by rw [List.eq_of_mem_replicate h]; decide
 have HRA:=zY hra;have HRB:=zY hrb;have HA:=zY ha;have HB:=zY hb;have HN:=zY hn;have HM:=zY hm;have HT:=zY hT;have HST0:=zY hst0;have HZ:=zY hz;have HZD:=zY hzd;have HZL:=zY (qaM [] T (Nat.zero_le _));clear hra hrb ha hb hn hm hla hlb hst0 hT hz hzd;go_enter Tryz.func74,Tryz.ntmps74;go_wp2_with fail;generalize hg:w.heap.size=g at HST0 HRA HRB ⊢;have HG:=zY hg;clear hg hmk
 go_loopw [6] (fun i wr=>∃ (k:Nat) (out:List Nat),k≤n∧i=.int .i64 k∧out.length=T∧Dg out∧leV out=leV (a.take k)*leV b∧D1 w g out wr) (fun i _=>n - (intOf i).toNat)
 case atStart=>exact ⟨0,partL [] T,by omega,rfl,HZL.out,HZD.out,by rw [HZ.out]; simp [leV],HST0.out⟩
 case round =>
  clear HST0 HZ HZD HZL;obtain ⟨i,out,hi,rfl,hol,hod,heq,hst⟩:=hrel
  by_cases hlt:i<n
  ·have hlt':(i:Int)<(n:Int):=by omega
   obtain ⟨x,hx⟩:=eX (a.getD i 0);have hxl:x<256:=by rw [hx]; exact qaA HA.out i
   obtain ⟨S,hS⟩:=eX (leV (a.take i)*leV b);have hxl':(x:Int)<256:=by omega
   have HX:=zY hx;have HXL:=zY hxl;have HS:=zY hS;have hin:leV out+256^(i+0)*0=S+256^i*(x*leV (b.take 0)):=by rw [heq,hS]; simp [leV]
   have HIN:=zY hin;have HOL:=zY hol;have HOD:=zY hod;have HST:=zY hst;clear hx hxl hS hin hol hod hst heq;go_wp2_with fail;obtain ⟨wo,rfl⟩:=eX wr
   go_loopw [7,8] (fun c i8 wr=>∃ (j cy:Nat) (out:List Nat),j≤m∧i8=.int .i64 j∧c=.int .i64 cy∧cy≤255∧out.length=T∧Dg out∧leV out+256^(i+j)*cy=S+256^i*(x*leV (b.take j))∧D1 w g out wr) (fun _ i8 _=>m - (intOf i8).toNat)
   case atStart=>exact ⟨0,0,out,by omega,rfl,rfl,by omega,HOL.out,HOD.out,HIN.out,HST.out⟩
   case round =>
    clear HOL HOD HIN HST;obtain ⟨j,cy,out,hj,rfl,rfl,hcy,hol,hod,heq,hst⟩:=hrel
    by_cases hltj:j<m
    ·have hltj':(j:Int)<(m:Int):=by omega
     obtain ⟨p,hp⟩:=eX (i+j);have hpi:(i:Int)+(j:Int)=(p:Int):=by omega
     have hpT:p<T:=by have:=HT.out; omega
     have hpT':(p:Int)<(T:Int):=by omega
     obtain ⟨y,hy⟩:=eX (b.getD j 0);have hyl:y<256:=by rw [hy]; exact qaA HB.out j
     obtain ⟨od,hodd⟩:=eX (out.getD p 0);have hodl:od<256:=by rw [hodd]; exact qaA hod p
     obtain ⟨z,hz⟩:=eX (x*y);have hzi:(x:Int)*(y:Int)=(z:Int):=by rw [hz]; simp
     have hzl:z≤255*255:=by rw [hz]; exact Nat.mul_le_mul (by have:=HXL.out; omega) (by omega)
     obtain ⟨v,hv⟩:=eX (od+z+cy);have hvi:(od:Int)+(z:Int)+(cy:Int)=(v:Int):=by omega
     rw [← hp] at heq;have hstep:=times_step (v:=v) (by rw [hol]; exact hpT) (by rw [hv,hodd]) heq;rw [hz,hy,hp,times_row,← hp,show p+1=i+(j+1) by omega] at hstep;obtain ⟨dd,hdd⟩:∃ dd,v%256=dd:=⟨_,rfl⟩;obtain ⟨cc,hcc⟩:∃ cc,v/256=cc:=⟨_,rfl⟩;have hddi:(v:Int)%256=(dd:Int):=by omega
     have hcci:(v:Int)/256=(cc:Int):=by omega
     rw [hdd,hcc] at hstep;have hod2:=qdr hod p dd (by omega);have hol2:(out.set p dd).length=T:=by rw [List.length_set]; exact hol
     have hca:∀ u,D1 w g out u→∃ ad,A=some ad∧u.cell? (ad.add i)=some (.int .i64 (x:Int)):=fun u hu=>by
      have hel:Below g w u:=by have h:=hu.bel; rw [HG.out] at h; exact h
      have h:=qa4 ((HRA.out.below hel).mono (by rw [← HG.out]; exact hu.bel.size)) (k:=i) (by rw [← HN.out]; exact hlt);rw [← HX.out] at h; exact h
     have hcb:∀ u,D1 w g out u→∃ ad,B=some ad∧u.cell? (ad.add j)=some (.int .i64 (y:Int)):=fun u hu=>by
      have hel:Below g w u:=by have h:=hu.bel; rw [HG.out] at h; exact h
      have h:=qa4 ((HRB.out.below hel).mono (by rw [← HG.out]; exact hu.bel.size)) (k:=j) (by rw [← HM.out]; exact hltj);rw [← hy] at h; exact h
     obtain ⟨ad,rfl,_⟩:=hca wr hst;obtain ⟨bd,rfl,_⟩:=hcb wr hst
     have hca2:∀ u,D1 w g out u→u.cell? (ad.add i)=some (.int .i64 (x:Int)):=fun u hu=>by
      obtain ⟨ad2,h1,h2⟩:=hca u hu
      injection h1 with h1
      rw [h1]; exact h2
     have hcb2:∀ u,D1 w g out u→u.cell? (bd.add j)=some (.int .i64 (y:Int)):=fun u hu=>by
      obtain ⟨ad2,h1,h2⟩:=hcb u hu
      injection h1 with h1
      rw [h1]; exact h2
     have hco:∀ u,D1 w g out u→u.cell? ⟨g,p,none⟩=some (.int .i64 (od:Int)):=fun u hu=>by
      have d0:=hu.out.cell p;rw [qcP (by rw [hol]; exact hpT),← hodd] at d0;exact d0
     have HCA:=zY hca2;have HCB:=zY hcb2;have HCO:=zY hco;have HSTEP:=zY hstep;have HOD:=zY hod2;have HOL:=zY hol2;have HOLD:=zY hol;have HXL2:=zY hxl';have hyl':(y:Int)<256:=by omega
     have hzl':(z:Int)≤65025:=by omega
     have hodl':(od:Int)<256:=by omega
     have hcyl':(cy:Int)≤255:=by omega
     have hvl':(v:Int)<65536:=by omega
     have hccl:cc≤255:=by omega
     have HCC:=zY hccl;have HHJ:=zY hltj;have HPT:=zY hpT;have HC0:=hst.drew;clear hca hcb hca2 hcb2 hco hstep hod2 hol2 hol hod hst heq hodd hz hy hv hdd hcc hzl hyl hodl hcy hccl hj hltj hp hpT;go_wp2_with fail;refine qal (fun u=>D1 w g out u) (fun u=>D1 w g out u) [(0,some 31),(1,some 32),(2,some 33),(3,some 34),(4,some 35),(5,some 36),(6,some 37),(7,some 38),(8,some 39),(9,some 40),(10,some 41),(11,some 42),(12,some 43),(13,some 44),(14,some 45),(15,some 46),(16,some 47),(17,some 48),(18,some 9)] (by kernel_rfl) (by kernel_rfl) (by decide) (by kernel_rfl) (fun _=>rfl) HC0 ?_;apply yN_
     ·apply dP [];exact fun _=>rfl;rfl;rintro vals - w1 hC1 E hE;simp only [sP] at hE ⊢;go_wp2;exact .mk (hE _ hC1)
     apply yN_
     ·apply dP [];exact fun _=>rfl;rfl;rintro vals ⟨-,-⟩ w1 hC1 E hE;simp only [sP] at hE ⊢;go_wp2;exact .mk (hE _ hC1)
     apply yN_
     ·apply dP [];exact fun _=>rfl;rfl;intro vals vq w1 hC1 E hE;clear vq;simp only [sP] at hE ⊢;go_wp2;exact .mk (hE _ hC1)
     apply yN_
     ·apply dP [(1,some 32),(2,some 33)];exact fun _=>rfl;rfl;intro vals vq w1 hC1 E hE;simp only [sP,vq] at hE ⊢;clear vq;go_wp2;exact .mk (hE _ hC1)
     apply yN_
     ·apply dP [(0,some 31),(3,some 34)];exact fun _=>rfl;rfl;intro vals vq w1 hC1 E hE;simp only [sP,vq] at hE ⊢;clear vq;go_wp2;exact .mk (hE _ hC1)
     apply yN_
     ·apply dP [(4,some 35)];exact fun _=>rfl;rfl;intro vals vq w1 hC1 E hE;have d0:=HCO.out _ hC1;simp only [sP,vq] at hE ⊢;clear vq;go_wp2;exact .mk (hE _ hC1)
     apply yN_
     ·apply dP [];exact fun _=>rfl;rfl;intro vals vq w1 hC1 E hE;clear vq;simp only [sP] at hE ⊢;go_wp2;exact .mk (hE _ hC1)
     apply yN_
     ·apply dP [];exact fun _=>rfl;rfl;intro vals vq w1 hC1 E hE;clear vq;simp only [sP] at hE ⊢;go_wp2;exact .mk (hE _ hC1)
     apply yN_
     ·apply dP [(6,some 37),(7,some 38)];exact fun _=>rfl;rfl;intro vals vq w1 hC1 E hE;simp only [sP,vq] at hE ⊢;clear vq;go_wp2;exact .mk (hE _ hC1)
     apply yN_
     ·apply dP [(8,some 39)];exact fun _=>rfl;rfl;intro vals vq w1 hC1 E hE;have d0:=HCA.out _ hC1;simp only [sP,vq] at hE ⊢;clear vq;go_wp2;exact .mk (hE _ hC1)
     apply yN_
     ·apply dP [];exact fun _=>rfl;rfl;intro vals vq w1 hC1 E hE;clear vq;simp only [sP] at hE ⊢;go_wp2;exact .mk (hE _ hC1)
     apply yN_
     ·apply dP [];exact fun _=>rfl;rfl;intro vals vq w1 hC1 E hE;clear vq;simp only [sP] at hE ⊢;go_wp2;exact .mk (hE _ hC1)
     apply yN_
     ·apply dP [(10,some 41),(11,some 42)];exact fun _=>rfl;rfl;intro vals vq w1 hC1 E hE;simp only [sP,vq] at hE ⊢;clear vq;go_wp2;exact .mk (hE _ hC1)
     apply yN_
     ·apply dP [(12,some 43)];exact fun _=>rfl;rfl;intro vals vq w1 hC1 E hE;have d0:=HCB.out _ hC1;simp only [sP,vq] at hE ⊢;clear vq;go_wp2;exact .mk (hE _ hC1)
     apply yN_
     ·apply dP [(9,some 40),(13,some 44)];exact fun _=>rfl;rfl;intro vals vq w1 hC1 E hE;simp only [sP,vq] at hE ⊢;clear vq;go_wp2;exact .mk (hE _ hC1)
     apply yN_
     ·apply dP [(5,some 36),(14,some 45)];exact fun _=>rfl;rfl;intro vals vq w1 hC1 E hE;simp only [sP,vq] at hE ⊢;clear vq;go_wp2;exact .mk (hE _ hC1)
     apply yN_
     ·apply dP [];exact fun _=>rfl;rfl;intro vals vq w1 hC1 E hE;clear vq;simp only [sP] at hE ⊢;go_wp2;exact .mk (hE _ hC1)
     apply yN_
     ·apply dP [(15,some 46),(16,some 47)];exact fun _=>rfl;rfl;intro vals vq w1 hC1 E hE;simp only [sP,vq] at hE ⊢;clear vq;go_wp2;exact .mk (hE _ hC1)
     apply yL_
     ·apply dP [(17,some 48),(0,some 31),(1,some 32),(2,some 33),(3,some 34),(4,some 35),(5,some 36),(6,some 37),(7,some 38),(8,some 39),(9,some 40),(10,some 41),(11,some 42),(12,some 43),(13,some 44),(14,some 45),(15,some 46),(16,some 47),(17,some 48)];exact fun _=>rfl;rfl;intro vals vq w1 hC1 E hE;simp only [sP,vq] at hE ⊢;clear vq;go_wp2;exact .mk (hE _ hC1)
     intro vals vq w1 hC1;simp only [sP,vq];clear vq;have d0:=HCO.out _ hC1;have q0:=hC1.out.free p;have HST:=zY hC1;clear hC1 HC0;go_wp2_with fail;exact ⟨⟨j+1,cc,out.set p dd,HHJ.out,by go_num,rfl,HCC.out,HOL.out,HOD.out,HSTEP.out,HST.out.put (qah _ _ _ _) (by have h:=qaj (i:=p) HST.out.out (.int .i64 (dd:Int)); rw [qaY] at h; exact h)⟩,by have:=HHJ.out; simp [intOf]; omega⟩
    ·obtain rfl:j=m:=by omega
     obtain ⟨p,hp⟩:=eX (i+j);have hpi:(i:Int)+(j:Int)=(p:Int):=by omega
     have hpT:p≤T:=by have:=HT.out; omega
     obtain ⟨S2,hS2⟩:=eX (leV (a.take (i+1))*leV b)
     have hbig:S2<256^T:=by
      have h:=times_big (i:=i+1) HA.out HB.out;rw [hS2,HT.out,HN.out,HM.out]; exact h
     have htot:leV out+256^p*cy=S2:=by
      rw [hp,heq,hS2,← times_next,HS.out,HX.out,List.take_of_length_le (Nat.le_of_eq HM.out.symm)]
     have HTOT:=zY htot;have HBIG:=zY hbig;have HS2:=zY hS2;have HOL:=zY hol;have HOD:=zY hod;have HST:=zY hst;have HCY:=zY hcy;have HPT:=zY hpT;clear htot hbig hS2 hol hod hst heq hp hcy hpT;go_wp2_with fail;obtain ⟨wi,rfl⟩:=eX wr
     go_loopw [7,10] (fun c k10 wr=>∃ (k cy:Nat) (out:List Nat),k≤T∧k10=.int .i64 k∧c=.int .i64 cy∧cy≤255∧out.length=T∧Dg out∧leV out+256^k*cy=S2∧D1 w g out wr) (fun _ k10 _=>T+1 - (intOf k10).toNat)
     case atStart=>exact ⟨p,cy,out,HPT.out,rfl,rfl,HCY.out,HOL.out,HOD.out,HTOT.out,HST.out⟩
     case round =>
      clear HOL HOD HTOT HST HCY HPT hpi;obtain ⟨k,cy,out,hk,rfl,rfl,hcy,hol,hod,heq,hst⟩:=hrel
      by_cases hc0:0<cy
      ·have hc0':(cy:Int) > 0:=by omega
       have hkT:=qda heq HBIG.out hc0;have hkT':(k:Int)<(T:Int):=by omega
       obtain ⟨od,hodd⟩:=eX (out.getD k 0);have hodl:od<256:=by rw [hodd]; exact qaA hod k
       obtain ⟨v,hv⟩:=eX (od+0+cy);have hvi:(od:Int)+(cy:Int)=(v:Int):=by omega
       have hstep:=times_step (v:=v) (by rw [hol]; exact hkT) (by rw [hv,hodd]) heq;rw [Nat.mul_zero,Nat.add_zero] at hstep;obtain ⟨dd,hdd⟩:∃ dd,v%256=dd:=⟨_,rfl⟩;obtain ⟨cc,hcc⟩:∃ cc,v/256=cc:=⟨_,rfl⟩;have hddi:(v:Int)%256=(dd:Int):=by omega
       have hcci:(v:Int)/256=(cc:Int):=by omega
       rw [hdd,hcc] at hstep;have hod2:=qdr hod k dd (by omega);have hol2:(out.set k dd).length=T:=by rw [List.length_set]; exact hol
       have d0:=hst.out.cell k;rw [qcP (by rw [hol]; exact hkT),← hodd] at d0;have q0:=hst.out.free k;have HSTEP:=zY hstep;have HOD:=zY hod2;have HOL:=zY hol2;have HST:=zY hst;have hodl':(od:Int)<256:=by omega
       have hcyl':(cy:Int)≤255:=by omega
       have hvl':(v:Int)<65536:=by omega
       have HCC:=zY (show cc≤255 by omega);have HKT:=zY hkT;clear hstep hod2 hol2 hol hod hst heq hodd hv hdd hcc hodl hcy hk hkT hc0;clear hvl';go_wp2_with fail;exact ⟨⟨k+1,cc,out.set k dd,HKT.out,by go_num,rfl,HCC.out,HOL.out,HOD.out,HSTEP.out,HST.out.put (qah _ _ _ _) (by have h:=qaj (i:=k) HST.out.out (.int .i64 (dd:Int)); rw [qaY] at h; exact h)⟩,by have:=HKT.out; simp [intOf]; omega⟩
      ·obtain rfl:cy=0:=by omega
       have hout:leV out=leV (a.take (i+1))*leV b:=by rw [← HS2.out,← heq]; simp
       have HOUT:=zY hout;have HOL:=zY hol;have HOD:=zY hod;have HST:=zY hst;clear hout hol hod hst heq hc0 hcy;go_wp2_with fail;exact ⟨⟨i+1,out,hlt,by go_num,HOL.out,HOD.out,HOUT.out,HST.out⟩,by simp [intOf]; omega⟩
  ·obtain rfl:i=n:=by omega
   have hfin:=times_end (a:=a) (b:=b) hod (by rw [hol,HT.out,HN.out,HM.out]) (by rw [← HN.out]; exact heq);rw [← HN.out,← HM.out] at hfin;have HST:=zY hst;have HFIN:=zY hfin;have HOL:=zY hol;clear hst hfin hol hod heq hi hlt;go_wp2_with fail;go_ret;rw [← HFIN.out];exact HST.out.post HOL.out.symm (Nat.le_refl _)
def digVal (v:Value) (u:World):Nat :=
 match v with
 | .slice (some ad) n _=>leV ((List.range n).map fun i=>match u.cell? (ad.add i) with | some (.int _ z)=>z.toNat | _=>0)
 | _=>0
theorem qc7 {u:World} {B:Nat} {A:Option Addr} {l:List Nat} (c:Nat) (h:Rd u B A (dV l)):digVal (.slice A l.length c) u=leV l:=by
 cases A with
 | none =>
  cases l with
  | nil=>rfl
  | cons d r =>
   obtain ⟨ad,h1,_⟩:=h 0 (numV d) (by simp [dV])
   cases h1
 | some ad =>
  rw [digVal]
  congr 1
  apply List.ext_getElem?;intro j
  by_cases hj:j<l.length
  ·obtain ⟨ad2,h1,_,h3⟩:=h.at_ (k:=j) (by rw [qbq]; exact hj)
   injection h1 with h1
   subst h1;rw [dV_at hj] at h3;rw [List.getElem?_map,List.getElem?_range hj,List.getElem?_eq_getElem hj];simp only [Option.map_some,h3,Int.toNat_natCast]
  ·rw [List.getElem?_eq_none (by simp; omega),List.getElem?_eq_none (by omega)]
theorem fold_split (l:List Nat) (h:32<l.length):leV l=leV (l.take 32)+256^32*leV (l.drop 32):=by
 conv=>lhs; rw [← List.take_append_drop 32 l,qa9,List.length_take,Nat.min_eq_left (by omega)]
theorem fold_mod (a b:Nat):(a+b*38)%PN=(a+256^32*b)%PN:=by
 rw [show (256:Nat)^32=38+PN*2 by decide,Nat.add_mul,← Nat.add_assoc,Nat.mul_assoc,Nat.add_mul_mod_self_left,Nat.mul_comm 38]
theorem fold_less (l:List Nat) (hl:Dg l) (h:32<l.length) (h0:l.getD (l.length - 1) 0≠0):leV (l.take 32)+leV (l.drop 32)*38<leV l:=by
 rw [fold_split l h]
 have hpos:0<leV (l.drop 32):=by
  rcases Nat.eq_zero_or_pos (leV (l.drop 32)) with e | e
  ·exfalso
   have h1:=qc0 (l.drop 32) (dg_drop hl 32) (l.length - 33);rw [e,Nat.zero_div] at h1;apply h0
   have h2:(l.drop 32).getD (l.length - 33) 0=l.getD (l.length - 1) 0:=by
    rw [List.getD_eq_getElem?_getD,List.getD_eq_getElem?_getD,List.getElem?_drop,show 32+(l.length - 33)=l.length - 1 by omega]
   rw [← h2,← h1]
  ·exact e
 have e:256^32*leV (l.drop 32)=leV (l.drop 32)*38+leV (l.drop 32)*(256^32 - 38):=by
  rw [← Nat.mul_add,Nat.mul_comm]
 rw [e];have h3:0<leV (l.drop 32)*(256^32 - 38):=Nat.mul_pos hpos (by decide);omega
theorem qdS {a b:List Nat} (ha:Dg a) (hb:Dg b):leV (digN (a.length+b.length+1) (leV a*leV b))=leV a*leV b:=by
 have h:=times_big (i:=a.length) ha hb;rw [List.take_length] at h;exact qaQ _ _ h
theorem qdD {a b:List Nat} (ha:Dg a) (hb:Dg b):leV (digN (max a.length b.length+1) (leV a+leV b))=leV a+leV b:=by
 have h1:=qb9 ha (Nat.le_max_left a.length b.length);have h2:=qb9 hb (Nat.le_max_right a.length b.length);apply qaQ;rw [Nat.pow_succ];omega
theorem mod_less {N V:Nat} (h:V%PN=N%PN) (hv:V<PN):V=N%PN:=by rw [← h,Nat.mod_eq_of_lt hv]
theorem sub_mod {V:Nat} (h:PN≤V):(V - PN)%PN=V%PN:=by
 conv=>rhs; rw [show V=(V - PN)+PN by omega,Nat.add_mod_right]
def RdV (n:Nat) (xs:List Value) (v:Value) (u:World):Prop:=∃ A c,v=.slice A n c∧n≤c∧Rd u u.heap.size A xs
theorem RdV.next {n:Nat} {xs:List Value} {v:Value} {u u':World} (h:RdV n xs v u) (hb:Below u.heap.size u u'):RdV n xs v u':=by
 obtain ⟨A,c,h1,h2,h3⟩:=h;exact ⟨A,c,h1,h2,(h3.below hb).mono hb.size⟩
theorem RdV.of_own {n:Nat} {xs:List Value} {A:Option Addr} {c base:Nat} {e:TypeId} {u:World} (h:OwnX u base e 1 (.slice A n c) n xs):RdV n xs (.slice A n c) u :=
 ⟨A,c,rfl,h.le_cap,Rd.of_own h (Nat.le_refl _)⟩
theorem qd2 (l:List Nat):(refB l).length=32:=by simp [refB]
theorem len_eq {α:Type} {l:List α} {n:Nat} (h:l.length=n) (A:Option Addr) (c:Nat):Value.slice A n c=.slice A l.length c:=by rw [h]
theorem qdA {l:List Nat} {w:World} {A:Option Addr} (h:Rd w w.heap.size A (dV l)) {w':World} (hb:Below w.heap.size w w'):Rd w' w'.heap.size A (dV l):=(h.below hb).mono hb.size
def lenF:Value→Nat | .slice _ n _=>n | _=>0
theorem add32 (ad:Addr):some (⟨ad.block,ad.off+32,none⟩:Addr)=some (ad.add 32):=by simp [Addr.add]
theorem rd_digs {w:World} {B n:Nat} {A:Option Addr} {l:List Nat} (h:Rd w B A (dV l)):Rd w B A (dV (l.take n)):=by
 have h1:=rd_take h n;rw [dV,← List.map_take] at h1;exact h1
theorem rd_digs_drop {w:World} {B n:Nat} {ad:Addr} {l:List Nat} (h:Rd w B (some ad) (dV l)):Rd w B (some (ad.add n)) (dV (l.drop n)):=by
 have h1:=qdf h n;rw [dV,← List.map_drop] at h1;exact h1
theorem qc3 (a:List Nat) (ha:Dg a) (A:Option Addr) (c:Nat) (w:World) (hra:Rd w w.heap.size A (dV a)) (hc:a.length≤c) (hla:a.length≤1000000) :
  Calls Tryz.prog 40 #[.slice A a.length c] w (DigPost (digN 32 (leV a%PN)) w):=by
 obtain ⟨n,hn⟩:=eX (a.length);obtain ⟨N0,hN0⟩:=eX (leV a);rw [← hn,← hN0]
 have hst0:∃ (l:List Nat) (A1:Option Addr) (c1:Nat),Value.slice A n c=.slice A1 l.length c1∧Dg l∧l.length≤1000000∧l.length≤c1∧leV l%PN=N0%PN∧Rd w w.heap.size A1 (dV l)∧Below w.heap.size w w :=
  ⟨a,A,c,by rw [hn],ha,hla,hc,by rw [hN0],hra,Below.refl _ _⟩
 have HST0:=zY hst0;clear hst0 hn hN0 ha hra hc hla;go_enter Tryz.func40,Tryz.ntmps40;go_wp2_with fail;generalize hg:w.heap.size=g at HST0 ⊢;have HG:=zY hg;clear hg
 go_loopw [0] (fun v wr=>∃ (l:List Nat) (A1:Option Addr) (c1:Nat),v=.slice A1 l.length c1∧Dg l∧l.length≤1000000∧l.length≤c1∧leV l%PN=N0%PN∧Rd wr wr.heap.size A1 (dV l)∧Below g w wr) (fun v wr=>digVal v wr)
 case atStart=>have h:=HST0.out; rw [HG.out]; exact h
 case round =>
  clear HST0;obtain ⟨l,A1,c1,rfl,hl,hlen,hlc,hmod,hrd,hbel⟩:=hrel;obtain ⟨m,hm⟩:=eX (l.length);rw [← hm];have hm63:(m:Int)≤1000000:=by omega
  have hmc:(m:Int)≤(c1:Int):=by omega
  have hin0:leV (l.take m)=leV l:=by rw [hm,List.take_length]
  have HL:=zY hl;have HM:=zY hm;have HMOD:=zY hmod;have HRD:=zY hrd;have HBEL:=zY hbel;have HIN0:=zY hin0;clear hl hlen hlc hm hmod hrd hbel hin0;go_wp2_with fail
  go_loop [0] (fun v=>∃ k:Nat,k≤m∧v=.slice A1 k c1∧leV (l.take k)=leV l) (fun v=>lenF v)
  case atStart=>exact ⟨m,Nat.le_refl _,rfl,HIN0.out⟩
  case round =>
   clear HIN0;obtain ⟨k,hk,rfl,hin⟩:=hrel
   by_cases h32:32<k
   ·have h32':(k:Int) > 32:=by omega
    obtain ⟨p,hp⟩:∃ p,k=p+1:=⟨k - 1,by omega⟩;have hpi:(k:Int) - 1=(p:Int):=by omega
    obtain ⟨ad,rfl,hcell⟩:=qa4 HRD.out (k:=p) (by rw [← HM.out]; omega);obtain ⟨x,hx⟩:=eX (l.getD p 0);rw [← hx] at hcell;have hpk:(p:Int)<(k:Int):=by omega
    have hkm:(k:Int)≤(m:Int):=by omega
    by_cases hx0:x=0
    ·subst hx0
     have hnext:leV (l.take p)=leV l:=by
      rw [← hin,hp,qaI,← hx]; simp
     have HNEXT:=zY hnext;have HK:=zY hk;have HP:=zY hp;clear hnext hx hin hk hp h32;go_wp2_with fail;exact ⟨⟨p,by have:=HK.out; have:=HP.out; omega,rfl,HNEXT.out⟩,by have:=HP.out; simp [lenF]; omega⟩
    ·have hx0':¬ (x:Int)=0:=by omega
     obtain ⟨q,hq⟩:∃ q,k=q+32:=⟨k - 32,by omega⟩;have hqi:(k:Int) - 32=(q:Int):=by omega
     have hkc:(k:Int)≤(c1:Int):=by omega
     obtain ⟨L,hL⟩:=eX (l.take k);have hLl:L.length=k:=by rw [hL,List.length_take,Nat.min_eq_left (by rw [← HM.out]; exact hk)]
     have hLd:Dg L:=by rw [hL]; exact qeq HL.out k
     have hrL:Rd wr wr.heap.size (some ad) (dV L):=by rw [hL]; exact rd_digs HRD.out
     obtain ⟨l1,hl1⟩:=eX (digN (q+1+1) (leV (L.drop 32)*leV [38]));have h38:Dg [38]:=by unfold Dg; decide
     have hdl:(L.drop 32).length=q:=by rw [List.length_drop]; omega
     have htl:(L.take 32).length=32:=by rw [List.length_take]; omega
     have hl1v:leV l1=leV (L.drop 32)*38:=by
      have h:=qdS (dg_drop hLd 32) h38;rw [hdl] at h;rw [hl1]; exact h
     have hl1d:Dg l1:=by rw [hl1]; exact qaE _ _
     have hl1l:l1.length=q+2:=by rw [hl1,qai]
     obtain ⟨l2,hl2⟩:=eX (digN (max 32 (q+2)+1) (leV (L.take 32)+leV l1))
     have hl2v:leV l2=leV (L.take 32)+leV (L.drop 32)*38:=by
      have h:=qdD (qeq hLd 32) hl1d;rw [htl,hl1l,hl1v] at h;rw [hl2,hl1v]; exact h
     have hl2d:Dg l2:=by rw [hl2]; exact qaE _ _
     have hl2l:l2.length≤k:=by rw [hl2,qai]; omega
     have hless:=fold_less L hLd (by omega) (by rw [hLl,hL,List.getD_eq_getElem?_getD,List.getElem?_take,if_pos (by omega),show k - 1=p by omega,← List.getD_eq_getElem?_getD,← hx]; exact hx0);rw [← hl2v,hL,hin] at hless
     have hmod2:leV l2%PN=N0%PN:=by
      rw [hl2v,fold_mod,← fold_split L (by omega),hL,hin]; exact HMOD.out
     have c1':∀ u,Below wr.heap.size wr u→∀ A3 c3 A4 c4,Rd u u.heap.size A4 (dV [38])→A3=some (ad.add 32)→Calls Tryz.prog 74 #[.slice A3 q c3,.slice A4 1 c4] u (DigPost l1 u):=fun u hu A3 c3 A4 c4 h4 hA3=>by
      have h:=qdT (L.drop 32) [38] (dg_drop hLd 32) h38 A3 A4 c3 c4 u (by rw [hA3]; exact rd_digs_drop ((hrL.below hu).mono hu.size)) h4 (by omega) (by decide);rw [hdl] at h;rw [hl1]; exact h
     have c2':∀ u,Below wr.heap.size wr u→∀ c3 A4 c4,Rd u u.heap.size A4 (dV l1)→Calls Tryz.prog 42 #[.slice (some ad) 32 c3,.slice A4 (q+2) c4] u (DigPost l2 u):=fun u hu c3 A4 c4 h4=>by
      have h:=qcR (L.take 32) l1 (qeq hLd 32) hl1d (some ad) A4 c3 c4 u (rd_digs ((hrL.below hu).mono hu.size)) h4 (by omega) (by omega);rw [htl,hl1l] at h;rw [hl2]; exact h
     have HKQ:=zY (show k - 32=q by omega);have CT:=zY c1';have CP:=zY c2';have HL2:=zY (show l2.length≤1000000 by omega);have HLESS:=zY hless;have HMOD2:=zY hmod2;have HD2:=zY hl2d;have HL1L:=zY hl1l;have HIN:=zY hin;have HK:=zY hk;have HC0:Below g w wr.drew∧Below wr.heap.size wr wr.drew∧g≤wr.heap.size:=⟨HBEL.out.drew,(Below.refl _ _).drew,by have h:=HBEL.out; rw [← HG.out] at h ⊢; exact h.size⟩;clear hx0 hq hL hLl hLd hrL hl1 h38 hdl htl hl1v hl1d hl1l hl2 hl2v hl2d hl2l hless hmod2 c1' c2' hin hk hx hp h32;go_wp2_with fail
     refine qar (fun u=>Below g w u∧Below wr.heap.size wr u∧g≤wr.heap.size) (fun | false=>(fun _=>True) | true=>(fun _=>True)) (fun | false,_=>false | true,_=>false)
      [fun z _=>z 0=.slice (some ad) k c1,
       fun z _=>z 1=.slice (some ad) 32 c1,
       fun z _=>z 2=.slice (some ad) k c1,
       fun z u=>(fun v u=>∃ c3,v=.slice (some ⟨ad.block,ad.off+32,none⟩) q c3) (z 3) u,
       fun z u=>(RdV 1 (dV [38])) (z 4) u,
       fun z u=>(RdV l1.length (dV l1)) (z 5) u,
       fun z u=>(RdV l2.length (dV l2)) (z 6) u,
       fun z u=>(RdV l2.length (dV l2)) (z 7) u]
      [Eq,Eq,Eq,Eq,fun u u'=>Below u.heap.size u u',fun u u'=>Below u.heap.size u u',fun u u'=>Below u.heap.size u u',Eq]
      (fun _ _=>false) [(0,some 26),(1,some 27),(2,some 28),(3,some 29),(4,some 30),(5,some 31),(6,some 32),(7,some 0)] (by kernel_rfl) (by kernel_rfl) rfl (fun _=>rfl) ?_ ?_ ?_ ?_ ?_ ?_
     ·exact HC0
     ·intro m; cases m; exact trivial; exact trivial
     ·intro m; cases m
      ·refine ⟨?_,?_,?_,?_,?_,?_,?_,?_,trivial⟩ <;> first | exact .inr fun _ _ h h0=>h▸h0 | exact .inr fun _ _ _ h=>h
      ·refine ⟨?_,?_,?_,?_,?_,?_,?_,?_,trivial⟩ <;> first | exact .inr fun _ _ h h0=>h▸h0 | exact .inr fun _ _ _ h=>h
     ·refine ⟨⟨.inl rfl,?_,?_,?_,?_,?_,?_,?_,trivial⟩,⟨?_,.inl rfl,?_,?_,?_,?_,?_,?_,trivial⟩,⟨?_,?_,.inl rfl,?_,?_,?_,?_,?_,trivial⟩,⟨?_,?_,?_,.inl rfl,?_,?_,?_,?_,trivial⟩,⟨?_,?_,?_,.inr (.inr (.inr (fun _ _ _ _ h h0=>h0))),.inl rfl,?_,?_,?_,trivial⟩,⟨?_,?_,?_,.inr (.inr (.inr (fun _ _ _ _ h h0=>h0))),.inr (.inr (.inr (fun _ _ _ _ h h0=>h0.next h))),.inl rfl,?_,?_,trivial⟩,⟨?_,?_,?_,.inr (.inr (.inr (fun _ _ _ _ h h0=>h0))),.inr (.inr (.inr (fun _ _ _ _ h h0=>h0.next h))),.inr (.inr (.inr (fun _ _ _ _ h h0=>h0.next h))),.inl rfl,?_,trivial⟩,⟨?_,?_,?_,?_,?_,?_,?_,.inl rfl,trivial⟩,trivial⟩ <;> first | exact .inr (.inr (.inl rfl)) | exact .inr (.inr (.inr fun _ _ _ _ _ h=>h)) | exact .inr (.inr (.inr fun _ _ _ _ h h0=>by cases h; exact h0))
     ·refine ⟨?_,?_,?_,?_,?_,?_,?_,?_,trivial⟩
      ·refine qac [] (fun _=>rfl) rfl ?_;intro w1 vals hC1 hi0 hf E hE;clear hi0;clear hf;simp only [sP] at hE ⊢;go_wp2;exact .mk (hE _ _ rfl hC1 rfl)
      ·refine qac [(0,some 26)] (fun _=>rfl) rfl ?_;intro w1 vals hC1 hi0 hf E hE;clear hi0;have f0:vals 0=_:=hf 0 rfl
       try dsimp only at f0
       clear hf;simp only [sP,f0] at hE ⊢;clear f0;go_wp2;exact .mk (hE _ _ rfl hC1 rfl)
      ·refine qac [] (fun _=>rfl) rfl ?_;intro w1 vals hC1 hi0 hf E hE;clear hi0;clear hf;simp only [sP] at hE ⊢;go_wp2;exact .mk (hE _ _ rfl hC1 rfl)
      ·refine qac [(2,some 28)] (fun _=>rfl) rfl ?_;intro w1 vals hC1 hi0 hf E hE;clear hi0;have f2:vals 2=_:=hf 2 rfl
       try dsimp only at f2
       clear hf;simp only [sP,f2] at hE ⊢;clear f2;go_wp2;rw [HKQ.out];exact .mk (hE _ _ ⟨_,rfl⟩ hC1 rfl)
      ·refine qac [] (fun _=>rfl) rfl ?_;intro w1 vals hC1 hi0 hf E hE;clear hi0;clear hf;simp only [sP] at hE ⊢;go_wp2;have hnew:=Blk.new w1 3 (dV [38]).toArray;exact .mk (hE _ _ ⟨_,1,rfl,Nat.le_refl _,Rd.of_blk hnew hnew.lt⟩ ⟨hC1.1.alloc (Nat.le_trans hC1.2.2 hC1.2.1.size) _,hC1.2.1.alloc hC1.2.1.size _,hC1.2.2⟩ (below_new _ _))
      ·refine qac [(3,some 29),(4,some 30)] (fun _=>rfl) rfl ?_;intro w1 vals hC1 hi0 hf E hE;clear hi0;have f3:(fun v u=>∃ c3,v=.slice (some ⟨ad.block,ad.off+32,none⟩) q c3) (vals 3) w1:=hf 3 rfl;have f4:(RdV 1 (dV [38])) (vals 4) w1:=hf 4 rfl
       try dsimp only at f3 f4
       clear hf;obtain ⟨c3,hx3⟩:=f3;obtain ⟨A4,c4,hx4,hc4,hr4⟩:=f4;simp only [sP,hx3,hx4] at hE ⊢;clear hx3 hx4;go_wp2_with fail;refine qaa (CT.out _ hC1.2.1 _ _ _ _ hr4 (add32 ad)) ?_;rintro e w2 ⟨A5,c5,rfl,hc5,hr5,hb5⟩;go_wp2_with fail;exact .mk (hE _ _ ⟨A5,c5,rfl,hc5,hr5⟩ ⟨hC1.1.trans (hb5.mono (Nat.le_trans hC1.2.2 hC1.2.1.size)),hC1.2.1.trans (hb5.mono hC1.2.1.size),hC1.2.2⟩ hb5)
      ·refine qac [(1,some 27),(5,some 31),(5,some 31)] (fun _=>rfl) rfl ?_;intro w1 vals hC1 hi0 hf E hE;clear hi0;have f1:vals 1=_:=hf 1 rfl;have f5:(RdV l1.length (dV l1)) (vals 5) w1:=hf 5 rfl
       try dsimp only at f1 f5
       clear hf;obtain ⟨A4,c4,hx4,hc4,hr4⟩:=f5;rw [HL1L.out] at hx4;simp only [sP,f1,hx4] at hE ⊢;clear f1;clear hx4;go_wp2_with fail;refine qaa (CP.out _ hC1.2.1 _ _ _ hr4) ?_;rintro e w2 ⟨A5,c5,rfl,hc5,hr5,hb5⟩;go_wp2_with fail;exact .mk (hE _ _ ⟨A5,c5,rfl,hc5,hr5⟩ ⟨hC1.1.trans (hb5.mono (Nat.le_trans hC1.2.2 hC1.2.1.size)),hC1.2.1.trans (hb5.mono hC1.2.1.size),hC1.2.2⟩ hb5)
      ·refine qac [(6,some 32),(6,some 32),(0,some 26),(1,some 27),(2,some 28),(3,some 29),(4,some 30),(5,some 31),(6,some 32)] (fun _=>rfl) rfl ?_;intro w1 vals hC1 hi0 hf E hE;clear hi0;have f0:vals 0=_:=hf 0 rfl;have f1:vals 1=_:=hf 1 rfl;have f2:vals 2=_:=hf 2 rfl;have f3:(fun v u=>∃ c3,v=.slice (some ⟨ad.block,ad.off+32,none⟩) q c3) (vals 3) w1:=hf 3 rfl;have f4:(RdV 1 (dV [38])) (vals 4) w1:=hf 4 rfl;have f5:(RdV l1.length (dV l1)) (vals 5) w1:=hf 5 rfl;have f6:(RdV l2.length (dV l2)) (vals 6) w1:=hf 6 rfl
       try dsimp only at f0 f1 f2 f3 f4 f5 f6
       clear hf;obtain ⟨A4,c4,hx4,hc4,hr4⟩:=f6;simp only [sP,f0,f1,f2,hx4] at hE ⊢;clear f0 f1 f2;clear hx4;go_wp2;exact .mk (hE _ _ ⟨A4,c4,rfl,hc4,hr4⟩ hC1 rfl)
     intro w1 vals hC1 hf;have f0:vals 0=_:=hf 0 (by decide) rfl;have f1:vals 1=_:=hf 1 (by decide) rfl;have f2:vals 2=_:=hf 2 (by decide) rfl;have f3:(fun v u=>∃ c3,v=.slice (some ⟨ad.block,ad.off+32,none⟩) q c3) (vals 3) w1:=hf 3 (by decide) rfl;have f4:(RdV 1 (dV [38])) (vals 4) w1:=hf 4 (by decide) rfl;have f5:(RdV l1.length (dV l1)) (vals 5) w1:=hf 5 (by decide) rfl;have f6:(RdV l2.length (dV l2)) (vals 6) w1:=hf 6 (by decide) rfl;have f7:(RdV l2.length (dV l2)) (vals 7) w1:=hf 7 (by decide) rfl
     try dsimp only at f0 f1 f2 f3 f4 f5 f6 f7
     clear hf;simp only [sP,f0,f1,f2];clear f0 f1 f2;generalize vals 3=x3 at *;generalize vals 4=x4 at *;generalize vals 5=x5 at *;generalize vals 6=x6 at *;generalize vals 7=x7 at *;obtain ⟨A5,c5,rfl,hc5,hr5⟩:=f7;have HC1:=zY hC1;have HC5:=zY hc5;have HR5:=zY hr5;clear hC1 hc5 hr5 HC0;go_wp2_with fail;refine ⟨⟨l2,A5,c5,rfl,HD2.out,HL2.out,HC5.out,HMOD2.out,HR5.out,HC1.out.1⟩,?_⟩;have hm2:=qc7 c1 HRD.out;rw [← HM.out] at hm2;rw [qc7 c5 HR5.out,hm2];exact HLESS.out
   ·have h32':¬ (k:Int) > 32:=by omega
    have h32'':(k:Int)≤32:=by omega
    obtain ⟨L,hL⟩:=eX (l.take k);have hLl:L.length=k:=by rw [hL,List.length_take,Nat.min_eq_left (by rw [← HM.out]; exact hk)]
    have hLd:Dg L:=by rw [hL]; exact qeq HL.out k
    have hrL:Rd wr wr.heap.size A1 (dV L):=by rw [hL]; exact rd_digs HRD.out
    have hLv:leV L%PN=N0%PN:=by rw [hL,hin]; exact HMOD.out
    have hmk:=qbG 32 (by decide);have hmk':∀ u:World,(Instr.makeSlice 30 (.int .i64 32) (.int .i64 32)).run Tryz.prog u=.ok (.slice (some ⟨u.heap.size,0,none⟩) 32 32) (u.alloc (.cells (dV (partL (L.take 0) 32)).toArray 3)):=hmk;have hgs:g≤wr.heap.size:=by have h:=HBEL.out; rw [← HG.out] at h ⊢; exact h.size
    have hst0:D1 wr wr.heap.size (partL (L.take 0) 32) _:=qcm (partL (L.take 0) 32) (Below.refl wr.heap.size wr);have HST0:=zY hst0;have HLL:=zY hLl;have HLD:=zY hLd;have HRL:=zY hrL;have HLV:=zY hLv;have HGS:=zY hgs;clear hmk hst0 hL hLl hLd hrL hLv hgs hin hk h32 hm63 hmc;go_wp2_with fail;generalize ho:wr.heap.size=o at HST0 HRL HGS ⊢;have HO:=zY ho;clear ho hmk';obtain ⟨wo,rfl⟩:=eX wr
    go_loopw [4] (fun i wr=>∃ j:Nat,j≤k∧i=.int .i64 j∧D1 wo o (partL (L.take j) 32) wr) (fun i _=>k - (intOf i).toNat)
    case atStart=>exact ⟨0,by omega,rfl,HST0.out⟩
    case round =>
     clear HST0;obtain ⟨j,hj,rfl,hst⟩:=hrel;have hel:Below o wo wr:=by have h:=hst.bel; rw [HO.out] at h; exact h
     by_cases hlt:j<k
     ·have hlt':(j:Int)<(k:Int):=by omega
      obtain ⟨ad,rfl,hca⟩:=qa4 ((HRL.out.below hel).mono (by rw [← HO.out]; exact hst.bel.size)) (k:=j) (by rw [HLL.out]; exact hlt);obtain ⟨x,hx⟩:=eX (L.getD j 0);rw [← hx] at hca;have htl:(L.take j).length=j:=by rw [List.length_take,HLL.out]; omega
      have hset:=qbU (L.take j) 32 j x htl (by omega)
      have hnext:L.take j++[x]=L.take (j+1):=by
       rw [qbA (by rw [HLL.out]; exact hlt),hx,List.getD_eq_getElem?_getD,List.getElem?_eq_getElem (by rw [HLL.out]; exact hlt)]; rfl
      rw [hnext] at hset;have d0:=hst.out.cell j;rw [qcP (by rw [qaM _ _ (by rw [htl]; omega)]; omega)] at d0;have q0:=hst.out.free j;have HSET:=zY hset;have HST:=zY hst;have hj32:(j:Int)<32:=by omega
      clear hset hst htl hnext hx hel;go_wp2_with fail;exact ⟨⟨j+1,by omega,by go_num,HST.out.put (qah _ _ _ _) (by have h:=qaj (i:=j) HST.out.out (.int .i64 (x:Int)); rw [qaY,HSET.out] at h; exact h)⟩,by simp [intOf]; omega⟩
     ·obtain rfl:j=k:=by omega
      have hfull:dV (partL (L.take j) 32)=dV (digN 32 (leV L)):=by
       congr 1
       have e1:L.take j=L:=by rw [List.take_of_length_le (by rw [HLL.out]; exact Nat.le_refl _)]
       rw [e1];refine qcb ?_ (qaM _ _ (by rw [HLL.out]; omega)) ?_
       ·intro d hd
        rcases List.mem_append.1 hd with h | h
        ·exact HLD.out d h
        ·rw [List.eq_of_mem_replicate h]; decide
       ·rw [partL,qa9,qbm,Nat.mul_zero,Nat.add_zero]
      have hblk:=hst.out;rw [hfull] at hblk;have hrd:Rd wr wr.heap.size (some ⟨o,0,none⟩) (dV (digN 32 (leV L))):=Rd.of_blk hblk hblk.lt;have hbig:leV L<256^32:=qb9 HLD.out (by rw [HLL.out]; omega);have hbel:Below g w wr:=HBEL.out.trans (hel.mono HGS.out);have hfin0:∃ (V:Nat) (A3:Option Addr) (c3:Nat),Value.slice (some ⟨o,0,none⟩) 32 32=.slice A3 32 c3∧32≤c3∧V<256^32∧V%PN=N0%PN∧Rd wr wr.heap.size A3 (dV (digN 32 V))∧Below g w wr:=⟨leV L,_,32,rfl,Nat.le_refl _,hbig,HLV.out,hrd,hbel⟩;have HFIN0:=zY hfin0;have HHR:Hid (g≤wr.heap.size):=zY (by have h:=hbel; rw [← HG.out] at h ⊢; exact h.size);clear hst hel hfull hblk hrd hbig hbel hfin0 hlt hj;go_wp2_with fail;obtain ⟨wq,rfl⟩:=eX wr
      go_loopw [3] (fun v wr=>∃ (V:Nat) (A3:Option Addr) (c3:Nat),v=.slice A3 32 c3∧32≤c3∧V<256^32∧V%PN=N0%PN∧Rd wr wr.heap.size A3 (dV (digN 32 V))∧Below g w wr) (fun v wr=>digVal v wr)
      case atStart=>exact HFIN0.out
      case round =>
       clear HFIN0;obtain ⟨V,A3,c3,rfl,hc3,hV,hVm,hrV,hbel⟩:=hrel;have HC3:=zY hc3;clear hc3;have hgw:g≤wr.heap.size:=by have h:=hbel; rw [← HG.out] at h ⊢; exact h.size
       have HV:=zY hV;have HVM:=zY hVm;have HRV:=zY hrV;have HBW:=zY hbel;have HGW:=zY hgw;clear hV hVm hrV hbel hgw;go_wp2_with fail;refine qaa (p_any _) ?_;rintro e w4 ⟨A4,c4,rfl,hc4,hr4,hb4⟩;have hless:=less_any (digN 32 V) pL (qaE _ _) pL_dg A3 A4 c3 c4 w4 ((HRV.out.below hb4).mono hb4.size) hr4 (by rw [qai]; decide) (by rw [qcA]; decide);rw [qaQ _ _ HV.out,qd6,qai] at hless;have HLS:=zY hless;have HB4:=zY (HBW.out.trans (hb4.mono HGW.out));have HR4:=zY ((HRV.out.below hb4).mono hb4.size);have HG4:=zY (Nat.le_trans HGW.out hb4.size);clear hc4 hr4 hb4 hless
       by_cases hlp:V<PN
       ·have hls2:=HLS.out;rw [decide_eq_true hlp] at hls2;have HLS2:=zY hls2;have HFV:=zY (mod_less HVM.out hlp);clear hls2 HLS hlp;go_wp2_with fail;refine qaa HLS2.out ?_;rintro e w5 ⟨rfl,rfl⟩;go_wp2_with fail;go_ret;rw [← HFV.out];exact ⟨A3,c3,by rw [qai]; rfl,by rw [qai]; exact HC3.out,HR4.out,by rw [HG.out]; exact HB4.out⟩
       ·have hls2:=HLS.out;rw [decide_eq_false hlp] at hls2;have HLS2:=zY hls2;have HPV:=zY (Nat.le_of_not_lt hlp);clear hls2 HLS hlp;go_wp2_with fail;refine qaa HLS2.out ?_;rintro e w5 ⟨rfl,rfl⟩;go_wp2_with fail;refine qaa (p_any _) ?_;rintro e w6 ⟨A6,c6,rfl,hc6,hr6,hb6⟩;have hmin:=qec (digN 32 V) pL (qaE _ _) pL_dg (by rw [qd6,qaQ _ _ HV.out]; exact HPV.out) A3 A6 c3 c6 w6 ((HR4.out.below hb6).mono hb6.size) hr6 (by rw [qai]; decide) (by rw [qcA]; decide);rw [qaQ _ _ HV.out,qd6,qai] at hmin;have HMIN:=zY hmin;have HB6:=zY (HB4.out.trans (hb6.mono HG4.out));have HG6:=zY (Nat.le_trans HG4.out hb6.size);clear hc6 hr6 hb6 hmin;go_wp2_with fail;refine qaa HMIN.out ?_;rintro e w7 ⟨A7,c7,rfl,hc7,hr7,hb7⟩;rw [qai] at hc7;rw [qai];have HC7:=zY hc7;have HB7:=zY (HB6.out.trans (hb7.mono HG6.out));have HR7:=zY hr7;clear hc7 hr7 hb7;go_wp2_with fail;refine ⟨⟨V - PN,A7,c7,rfl,HC7.out,Nat.lt_of_le_of_lt (Nat.sub_le _ _) HV.out,by rw [sub_mod HPV.out]; exact HVM.out,HR7.out,HB7.out⟩,?_⟩;have e1:=qc7 c7 HR7.out;have e2:=qc7 c3 HRV.out;rw [qai,qaQ _ _ (Nat.lt_of_le_of_lt (Nat.sub_le _ _) HV.out)] at e1;rw [qai,qaQ _ _ HV.out] at e2;rw [e1,e2];exact Nat.sub_lt (Nat.lt_of_lt_of_le (by decide) HPV.out) (by decide)
theorem radd_any (a b:List Nat) (ha:Dg a) (hb:Dg b) (A B:Option Addr) (c d:Nat) (w:World) (hra:Rd w w.heap.size A (dV a)) (hrb:Rd w w.heap.size B (dV b)) (hla:a.length≤100000) (hlb:b.length≤100000) :
  Calls Tryz.prog 43 #[.slice A a.length c,.slice B b.length d] w (DigPost (digN 32 ((leV a+leV b)%PN)) w):=by
 have hp:=qcR a b ha hb A B c d w hra hrb (by omega) (by omega);obtain ⟨S,hS⟩:=eX (digN (max a.length b.length+1) (leV a+leV b));have hSv:leV S=leV a+leV b:=by rw [hS]; exact qdD ha hb
 have hSd:Dg S:=by rw [hS]; exact qaE _ _
 have hSl:S.length≤1000000:=by rw [hS,qai]; omega
 rw [← hS] at hp;rw [← hSv];have HP:=zY hp;have HSD:=zY hSd;have HSL:=zY hSl;generalize a.length=n at *;generalize b.length=m at *;clear hp hS hSv hSd hSl hra hrb hla hlb ha hb;go_enter Tryz.func43,Tryz.ntmps43;go_wp2_with fail;refine qaa HP.out ?_;rintro e w2 ⟨A2,c2,rfl,hc2,hr2,hb2⟩;have hf:=qc3 S HSD.out A2 c2 w2 hr2 hc2 HSL.out;have HF:=zY hf;have HB2:=zY hb2;clear hc2 hr2 hf hb2;go_wp2_with fail;refine qaa HF.out ?_;rintro e w3 ⟨A3,c3,rfl,hc3,hr3,hb3⟩;have HC:=zY hc3;have HR:=zY hr3;have HB3:=zY (HB2.out.trans (hb3.mono HB2.out.size));clear hc3 hr3 hb3;go_wp2_with fail;go_ret;exact ⟨A3,c3,rfl,HC.out,HR.out,HB3.out⟩
theorem rmul_any (a b:List Nat) (ha:Dg a) (hb:Dg b) (A B:Option Addr) (c d:Nat) (w:World) (hra:Rd w w.heap.size A (dV a)) (hrb:Rd w w.heap.size B (dV b)) (hla:a.length≤100000) (hlb:b.length≤100000) :
  Calls Tryz.prog 39 #[.slice A a.length c,.slice B b.length d] w (DigPost (digN 32 (leV a*leV b%PN)) w):=by
 have hp:=qdT a b ha hb A B c d w hra hrb (by omega) (by omega);obtain ⟨S,hS⟩:=eX (digN (a.length+b.length+1) (leV a*leV b));have hSv:leV S=leV a*leV b:=by rw [hS]; exact qdS ha hb
 have hSd:Dg S:=by rw [hS]; exact qaE _ _
 have hSl:S.length≤1000000:=by rw [hS,qai]; omega
 rw [← hS] at hp;rw [← hSv];have HP:=zY hp;have HSD:=zY hSd;have HSL:=zY hSl;generalize a.length=n at *;generalize b.length=m at *;clear hp hS hSv hSd hSl hra hrb hla hlb ha hb;go_enter Tryz.func39,Tryz.ntmps39;go_wp2_with fail;refine qaa HP.out ?_;rintro e w2 ⟨A2,c2,rfl,hc2,hr2,hb2⟩;have hf:=qc3 S HSD.out A2 c2 w2 hr2 hc2 HSL.out;have HF:=zY hf;have HB2:=zY hb2;clear hc2 hr2 hf hb2;go_wp2_with fail;refine qaa HF.out ?_;rintro e w3 ⟨A3,c3,rfl,hc3,hr3,hb3⟩;have HC:=zY hc3;have HR:=zY hr3;have HB3:=zY (HB2.out.trans (hb3.mono HB2.out.size));clear hc3 hr3 hb3;go_wp2_with fail;go_ret;exact ⟨A3,c3,rfl,HC.out,HR.out,HB3.out⟩
theorem rsub_any (a b:List Nat) (ha:Dg a) (hb:Dg b) (hle:leV b≤leV a+PN) (A B:Option Addr) (c d:Nat) (w:World) (hra:Rd w w.heap.size A (dV a)) (hrb:Rd w w.heap.size B (dV b)) (hla:a.length≤100000) (hlb:b.length≤100000) :
  Calls Tryz.prog 13 #[.slice A a.length c,.slice B b.length d] w (DigPost (digN 32 ((leV a+PN - leV b)%PN)) w):=by
 obtain ⟨S,hS⟩:=eX (digN (max a.length pL.length+1) (leV a+leV pL));have hSv:leV S=leV a+PN:=by rw [hS,qdD ha pL_dg,qd6]
 have hSd:Dg S:=by rw [hS]; exact qaE _ _
 have hSl:S.length≤1000000:=by rw [hS,qai,qcA]; omega
 have hp:∀ u,Below w.heap.size w u→∀ A4 c4,Rd u u.heap.size A4 (dV pL)→Calls Tryz.prog 42 #[.slice A a.length c,.slice A4 pL.length c4] u (DigPost S u):=fun u hu A4 c4 h4=>by
  rw [hS];exact qcR a pL ha pL_dg A A4 c c4 u ((hra.below hu).mono hu.size) h4 (by omega) (by decide)
 obtain ⟨D,hD⟩:=eX (digN S.length (leV S - leV b))
 have hDv:leV D=leV a+PN - leV b:=by
  rw [hD,qaQ,hSv];have h:=qcB S hSd;omega
 have hDd:Dg D:=by rw [hD]; exact qaE _ _
 have hDl:D.length≤1000000:=by rw [hD,qai]; exact hSl
 have hm:∀ u,Below w.heap.size w u→∀ A4 c4,Rd u u.heap.size A4 (dV S)→Calls Tryz.prog 41 #[.slice A4 S.length c4,.slice B b.length d] u (DigPost D u):=fun u hu A4 c4 h4=>by
  rw [hD];exact qec S b hSd hb (by rw [hSv]; exact hle) A4 B c4 d u h4 ((hrb.below hu).mono hu.size) hSl (by omega)
 rw [← hDv];have HP:=zY hp;have HMI:=zY hm;have HDD:=zY hDd;have HDL:=zY hDl;generalize a.length=n at *;generalize b.length=m at *;clear hp hm hS hSv hSd hSl hD hDv hDd hDl hra hrb hla hlb ha hb hle;go_enter Tryz.func13,Tryz.ntmps13;go_wp2_with fail;refine qaa (p_any _) ?_;rintro e w1 ⟨A1,c1,rfl,hc1,hr1,hb1⟩;have HC1:=zY (HP.out w1 hb1 A1 c1 hr1);have HB1:=zY hb1;clear hc1 hr1 hb1;go_wp2_with fail;refine qaa HC1.out ?_;rintro e w2 ⟨A2,c2,rfl,hc2,hr2,hb2⟩;have HB2:=zY (HB1.out.trans (hb2.mono HB1.out.size));have HC2:=zY (HMI.out w2 HB2.out A2 c2 hr2);clear hc2 hr2 hb2;go_wp2_with fail;refine qaa HC2.out ?_;rintro e w3 ⟨A3,c3,rfl,hc3,hr3,hb3⟩;have HB3:=zY (HB2.out.trans (hb3.mono HB2.out.size));have hf:=qc3 D HDD.out A3 c3 w3 hr3 hc3 HDL.out;have HF:=zY hf;clear hc3 hr3 hb3 hf;go_wp2_with fail;refine qaa HF.out ?_;rintro e w4 ⟨A4,c4,rfl,hc4,hr4,hb4⟩;have HC:=zY hc4;have HR:=zY hr4;have HB4:=zY (HB3.out.trans (hb4.mono HB3.out.size));clear hc4 hr4 hb4;go_wp2_with fail;go_ret;exact ⟨A4,c4,rfl,HC.out,HR.out,HB4.out⟩
theorem int_step {d:List Nat} {k m N:Nat} (hl:d.length=k) (h:leV d+256^k*m=N):leV (d++[m%256])+256^(k+1)*(m/256)=N:=by
 rw [qdG,hl,Nat.pow_succ]
 have e:256^k*(m%256)+256^k*256*(m/256)=256^k*m:=by
  rw [Nat.mul_assoc,← Nat.mul_add,Nat.mod_add_div]
 omega
theorem rint_nat (N:Nat) (hN:N<9223372036854775808) (w:World) :
  Calls Tryz.prog 14 #[.int .i64 (N:Int)] w (DigPost (digN 32 (N%PN)) w):=by
 have hbig:N<256^9:=Nat.lt_trans hN (by decide);have hpos:¬ (N:Int)<0:=by omega
 have hs0:∃ (k m:Nat) (A:Option Addr) (c:Nat) (d:List Nat),k≤9∧Value.int .i64 (N:Int)=.int .i64 (m:Int)∧Value.slice none 0 0=.slice A k c∧d.length=k∧Dg d∧leV d+256^k*m=N∧m≤N∧OwnX w w.heap.size 3 1 (.slice A k c) k (dV d)∧Below w.heap.size w w :=
  ⟨0,N,none,0,[],by omega,rfl,rfl,rfl,by unfold Dg; simp,by simp [leV],Nat.le_refl _,OwnX.nil _ _ _ _,Below.refl _ _⟩
 have HS0:=zY hs0;have HBIG:=zY hbig;have HNL:=zY hN;clear hs0 hbig hN;go_enter Tryz.func14,Tryz.ntmps14;go_wp2_with fail;generalize hg:w.heap.size=g at HS0 ⊢;have HG:=zY hg;clear hg
 go_loopw [0,3] (fun n v wr=>∃ (k m:Nat) (A:Option Addr) (c:Nat) (d:List Nat),k≤9∧n=.int .i64 (m:Int)∧v=.slice A k c∧d.length=k∧Dg d∧leV d+256^k*m=N∧m≤N∧OwnX wr g 3 1 (.slice A k c) k (dV d)∧Below g w wr) (fun n _ _=>(intOf n).toNat)
 case atStart=>exact HS0.out
 case round =>
  clear HS0;obtain ⟨k,m,A,c,d,hk,rfl,rfl,hdl,hdd,heq,hmN,hown,hbel⟩:=hrel;have hsz:g≤wr.heap.size:=by have h:=hbel; rw [← HG.out] at h ⊢; exact h.size
  by_cases hm0:0<m
  ·have hm0':¬ (m:Int)=0:=by omega
   have hk9:=qda heq HBIG.out hm0;obtain ⟨x,hx⟩:∃ x,m%256=x:=⟨_,rfl⟩;obtain ⟨q,hq⟩:∃ q,m/256=q:=⟨_,rfl⟩;have hxi:(m:Int)%256=(x:Int):=by omega
   have hqi:(m:Int)/256=(q:Int):=by omega
   have hx0:¬ (x:Int)<0:=by omega
   have hstep:=int_step hdl heq;rw [hx,hq] at hstep;have HSTEP:=zY hstep;have HDD:=zY (qcO hdd (show x<256 by omega));have HDL:=zY (show (d++[x]).length=k+1 by rw [List.length_append,hdl]; rfl);have HQM:=zY (show q<m by omega);have HMN:=zY hmN;have HK9:=zY hk9;have HOWN:=zY hown;have HBEL:=zY hbel;have HSZ:=zY hsz;have hm63:(m:Int)≤9223372036854775807:=by have:=HNL.out; omega
   clear hstep hdl hdd heq hmN hown hbel hsz hm0 hx hq hk hk9;go_wp2_with (refine qas qdX rfl rfl HOWN.out rfl rfl rfl rfl (by have:=HK9.out; unfold maxLen; omega) (by have:=HK9.out; omega) HSZ.out ?_; intro A2 c2 w2 hown2 hg2 hn2; have HOWN2:=zY hown2; have HG2:=zY hg2; clear hown2 hg2 hn2);refine ⟨⟨k+1,q,A2,c2,d++[x],HK9.out,rfl,rfl,HDL.out,HDD.out,HSTEP.out,by have:=HQM.out; have:=HMN.out; omega,?_,qaT HBEL.out HOWN.out HSZ.out HG2.out⟩,by have:=HQM.out; simp [intOf]; omega⟩;rw [qb5];exact HOWN2.out
  ·obtain rfl:m=0:=by omega
   have hv:leV d=N:=by rw [← heq]; simp
   have hf:=qc3 d hdd A c wr (Rd.of_own hown (Nat.le_refl _)) (by rw [hdl]; exact hown.le_cap) (by rw [hdl]; omega);rw [hdl,hv] at hf;have HF:=zY hf;have HBEL:=zY hbel;have HSZ:=zY hsz;clear hf hbel hsz hown heq hdd hdl hv hk hmN hm0;go_wp2_with fail;refine qaa HF.out ?_;rintro e w3 ⟨A3,c3,rfl,hc3,hr3,hb3⟩;have HC:=zY hc3;have HR:=zY hr3;have HB3:=zY (HBEL.out.trans (hb3.mono HSZ.out));clear hc3 hr3 hb3;go_wp2_with fail;go_ret;exact ⟨A3,c3,rfl,HC.out,HR.out,by rw [HG.out]; exact HB3.out⟩
theorem rint_neg (N:Nat) (hN:N≤9223372036854775808) (h0:0<N) (w:World) :
  Calls Tryz.prog 14 #[.int .i64 (-(N:Int))] w (DigPost (digN 32 ((PN - N%PN)%PN)) w):=by
 have hbig:N<256^9:=Nat.lt_of_le_of_lt hN (by decide);have hpos:-(N:Int)<0:=by omega
 have hs0:∃ (k m:Nat) (A:Option Addr) (c:Nat) (d:List Nat),k≤9∧Value.int .i64 (-(N:Int))=.int .i64 (-(m:Int))∧Value.slice none 0 0=.slice A k c∧d.length=k∧Dg d∧leV d+256^k*m=N∧m≤N∧OwnX w w.heap.size 3 1 (.slice A k c) k (dV d)∧Below w.heap.size w w :=
  ⟨0,N,none,0,[],by omega,rfl,rfl,rfl,by unfold Dg; simp,by simp [leV],Nat.le_refl _,OwnX.nil _ _ _ _,Below.refl _ _⟩
 have HS0:=zY hs0;have HBIG:=zY hbig;have HNL:=zY hN;clear hs0 hbig hN h0;go_enter Tryz.func14,Tryz.ntmps14;go_wp2_with fail;generalize hg:w.heap.size=g at HS0 ⊢;have HG:=zY hg;clear hg
 go_loopw [0,3] (fun n v wr=>∃ (k m:Nat) (A:Option Addr) (c:Nat) (d:List Nat),k≤9∧n=.int .i64 (-(m:Int))∧v=.slice A k c∧d.length=k∧Dg d∧leV d+256^k*m=N∧m≤N∧OwnX wr g 3 1 (.slice A k c) k (dV d)∧Below g w wr) (fun n _ _=>(-(intOf n)).toNat)
 case atStart=>exact HS0.out
 case round =>
  clear HS0;obtain ⟨k,m,A,c,d,hk,rfl,rfl,hdl,hdd,heq,hmN,hown,hbel⟩:=hrel;have hsz:g≤wr.heap.size:=by have h:=hbel; rw [← HG.out] at h ⊢; exact h.size
  by_cases hm0:0<m
  ·have hm0':¬ (m:Int)=0:=by omega
   have hk9:=qda heq HBIG.out hm0;obtain ⟨x,hx⟩:∃ x,m%256=x:=⟨_,rfl⟩;obtain ⟨q,hq⟩:∃ q,m/256=q:=⟨_,rfl⟩;have hxi:(m:Int)%256=(x:Int):=by omega
   have hqi:(m:Int)/256=(q:Int):=by omega
   have hstep:=int_step hdl heq;rw [hx,hq] at hstep;have HSTEP:=zY hstep;have HDD:=zY (qcO hdd (show x<256 by omega));have HDL:=zY (show (d++[x]).length=k+1 by rw [List.length_append,hdl]; rfl);have HQM:=zY (show q<m by omega);have HMN:=zY hmN;have HK9:=zY hk9;have HOWN:=zY hown;have HBEL:=zY hbel;have HSZ:=zY hsz;have hm63:(m:Int)≤9223372036854775808:=by have:=HNL.out; omega
   clear hstep hdl hdd heq hmN hown hbel hsz hm0 hx hq hk hk9
   by_cases hxz:x=0
   ·subst hxz;go_wp2_with (refine qas qdX rfl rfl HOWN.out rfl rfl rfl rfl (by have:=HK9.out; unfold maxLen; omega) (by have:=HK9.out; omega) HSZ.out ?_; intro A2 c2 w2 hown2 hg2 hn2; have HOWN2:=zY hown2; have HG2:=zY hg2; clear hown2 hg2 hn2);refine ⟨⟨k+1,q,A2,c2,d++[0],HK9.out,rfl,rfl,HDL.out,HDD.out,HSTEP.out,by have:=HQM.out; have:=HMN.out; omega,?_,qaT HBEL.out HOWN.out HSZ.out HG2.out⟩,by have:=HQM.out; simp [intOf]; omega⟩;rw [qb5];exact HOWN2.out
   ·have hxp:0<x:=Nat.pos_of_ne_zero hxz;clear hxz;go_wp2_with (refine qas qdX rfl rfl HOWN.out rfl rfl rfl rfl (by have:=HK9.out; unfold maxLen; omega) (by have:=HK9.out; omega) HSZ.out ?_; intro A2 c2 w2 hown2 hg2 hn2; have HOWN2:=zY hown2; have HG2:=zY hg2; clear hown2 hg2 hn2);refine ⟨⟨k+1,q,A2,c2,d++[x],HK9.out,rfl,rfl,HDL.out,HDD.out,HSTEP.out,by have:=HQM.out; have:=HMN.out; omega,?_,qaT HBEL.out HOWN.out HSZ.out HG2.out⟩,by have:=HQM.out; simp [intOf]; omega⟩;rw [qb5];exact HOWN2.out
  ·obtain rfl:m=0:=by omega
   have hv:leV d=N:=by rw [← heq]; simp
   have hf:=qc3 d hdd A c wr (Rd.of_own hown (Nat.le_refl _)) (by rw [hdl]; exact hown.le_cap) (by rw [hdl]; omega);rw [hdl,hv] at hf;have HF:=zY hf;have HBEL:=zY hbel;have HSZ:=zY hsz;clear hf hbel hsz hown heq hdd hdl hv hk hmN hm0;go_wp2_with fail;refine qaa HF.out ?_;rintro e w3 ⟨A3,c3,rfl,hc3,hr3,hb3⟩;have HC:=zY hc3;have HR:=zY hr3;have HB3:=zY (HBEL.out.trans (hb3.mono HSZ.out));clear hc3 hr3 hb3
   have hz32:DigPost (digN 32 ((PN - N%PN)%PN))=DigPost (digN 32 ((leV (partL [] 32)+PN - leV (digN 32 (N%PN)))%PN)):=by
    rw [qcV,qbm,qaQ _ _ (Nat.lt_trans (Nat.mod_lt _ (by decide)) (by decide:PN<256^32)),Nat.zero_add]
   have HZ:=zY hz32;have hmk:=qbG 32 (by decide);have hmk':∀ u:World,(Instr.makeSlice 30 (.int .i64 32) (.int .i64 32)).run Tryz.prog u=.ok (.slice (some ⟨u.heap.size,0,none⟩) 32 32) (u.alloc (.cells (dV (partL [] 32)).toArray 3)):=hmk;have hnew:=Blk.new w3 3 (dV (partL [] 32)).toArray;have hbn:Below w3.heap.size w3 (w3.alloc (.cells (dV (partL [] 32)).toArray 3)):=below_new _ _
   have hsub:=rsub_any (partL [] 32) (digN 32 (N%PN)) (fun d h=>by rw [List.eq_of_mem_replicate h]; decide) (qaE _ _) (by
    rw [qaQ _ _ (Nat.lt_trans (Nat.mod_lt _ (by decide)) (by decide:PN<256^32))];have:=Nat.mod_lt N (show 0<PN by decide)
    omega) (some ⟨w3.heap.size,0,none⟩) A3 32 c3 _ (Rd.of_blk hnew hnew.lt) ((HR.out.below hbn).mono hbn.size) (by rw [qaM _ _ (Nat.zero_le _)]; decide) (by rw [qai]; decide)
   rw [qaM _ _ (Nat.zero_le _),qai] at hsub;have HSUB:=zY hsub;have HBN:=zY (HB3.out.trans (hbn.mono (by have h:=HB3.out; rw [← HG.out] at h ⊢; exact h.size)));clear hz32 hmk hnew hbn hsub;go_wp2_with fail;rw [qai];refine qaa HSUB.out ?_;rintro e w5 ⟨A5,c5,rfl,hc5,hr5,hb5⟩;have HC5:=zY hc5;have HR5:=zY hr5;have HB5:=zY (HBN.out.trans (hb5.mono (by have h:=HBN.out; rw [← HG.out] at h ⊢; exact h.size)));clear hc5 hr5 hb5;go_wp2_with fail;go_ret;rw [HZ.out];exact ⟨A5,c5,rfl,HC5.out,HR5.out,by rw [HG.out]; exact HB5.out⟩
theorem half_pow (b k:Nat) (h:k<8):b/2^(8 - k)=b/2^(7 - k)/2:=by
 rw [show 8 - k=(7 - k)+1 by omega,Nat.pow_succ,Nat.div_div_eq_div_mul]
theorem expo_step (E b k:Nat) (h:k<8):E*2^(k+1)+b/2^(8 - (k+1))=2*(E*2^k+b/2^(8 - k))+b/2^(7 - k)%2:=by
 rw [half_pow b k h,show 8 - (k+1)=7 - k by omega,Nat.pow_succ,Nat.mul_add,← Nat.mul_assoc E,Nat.mul_comm 2 (E*2^k)];omega
theorem sq_mod (x n:Nat):(x^n%PN)*(x^n%PN)%PN=x^(2*n)%PN:=by rw [qd5,Nat.two_mul]
theorem qea (x n:Nat):(x^n%PN)*x%PN=x^(n+1)%PN:=by rw [Nat.mod_mul_mod,Nat.pow_succ]
theorem drop_val (e:List Nat) (p:Nat) (h:p<e.length):leV (e.drop p)=e.getD p 0+256*leV (e.drop (p+1)):=by
 rw [List.drop_eq_getElem_cons h,leV,List.getD_eq_getElem?_getD,List.getElem?_eq_getElem h]; rfl
theorem rpow_any (a e:List Nat) (ha:Dg a) (he:Dg e) (A B:Option Addr) (c d:Nat) (w:World) (hra:Rd w w.heap.size A (dV a)) (hrb:Rd w w.heap.size B (dV e)) (hla:a.length≤100000) (hlb:e.length≤100000) :
  Calls Tryz.prog 73 #[.slice A a.length c,.slice B e.length d] w (DigPost (digN 32 (leV a^leV e%PN)) w):=by
 obtain ⟨n,hn⟩:=eX (a.length);obtain ⟨m,hm⟩:=eX (e.length);obtain ⟨x,hx⟩:=eX (leV a);rw [← hn,← hm,← hx];have hm63:(m:Int)≤100000:=by omega
 have hmulS:∀ u,Below w.heap.size w u→∀ V,V<PN→∀ A1 c1,Rd u u.heap.size A1 (dV (digN 32 V))→Calls Tryz.prog 39 #[.slice A1 32 c1,.slice A1 32 c1] u (DigPost (digN 32 (V*V%PN)) u):=fun u hu V hV A1 c1 h1=>by
  have h:=rmul_any (digN 32 V) (digN 32 V) (qaE _ _) (qaE _ _) A1 A1 c1 c1 u h1 h1 (by rw [qai]; decide) (by rw [qai]; decide);rw [qaQ _ _ (Nat.lt_trans hV (by decide)),qai] at h;exact h
 have hmulA:∀ u,Below w.heap.size w u→∀ V,V<PN→∀ A1 c1,Rd u u.heap.size A1 (dV (digN 32 V))→Calls Tryz.prog 39 #[.slice A1 32 c1,.slice A n c] u (DigPost (digN 32 (V*x%PN)) u):=fun u hu V hV A1 c1 h1=>by
  have h:=rmul_any (digN 32 V) a (qaE _ _) ha A1 A c1 c u h1 (qdA hra hu) (by rw [qai]; decide) hla;rw [qaQ _ _ (Nat.lt_trans hV (by decide)),qai,← hn,← hx] at h;exact h
 have hcell:∀ u,Below w.heap.size w u→∀ p,p<m→∃ ad,B=some ad∧u.cell? (ad.add p)=some (.int .i64 ((e.getD p 0:Nat):Int)):=fun u hu p hp=>qa4 (qdA hrb hu) (by rw [← hm]; exact hp);have h1:=rint_nat 1 (by decide);have MS:=zY hmulS;have MA:=zY hmulA;have HCELL:=zY hcell;have HE:=zY he;have HM:=zY hm;have H1:=zY h1;clear hmulS hmulA hcell ha he hra hrb hla hlb hn hm hx h1;go_enter Tryz.func73,Tryz.ntmps73;go_wp2_with fail;refine qaa (H1.out _) ?_;rintro e1 w1 ⟨A1,c1,rfl,hc1,hr1,hb1⟩;rw [qai] at hc1;rw [qai]
 have hs0:∃ (j:Nat) (A1':Option Addr) (c1':Nat),j≤m∧Value.slice A1 32 c1=.slice A1' 32 c1'∧32≤c1'∧Value.int .i64 ((m:Int) - 1)=.int .i64 ((m:Int) - 1 - (j:Int))∧Rd w1 w1.heap.size A1' (dV (digN 32 (x^leV (e.drop (m - j))%PN)))∧Below w.heap.size w w1 :=
  ⟨0,A1,c1,Nat.zero_le _,rfl,hc1,by simp,by rw [Nat.sub_zero,HM.out,List.drop_length]; exact hr1,hb1⟩
 have HS0:=zY hs0;clear hc1 hr1 hb1 hs0;go_wp2_with fail
 go_loopw [5,6] (fun v i wr=>∃ (j:Nat) (A1':Option Addr) (c1':Nat),j≤m∧v=.slice A1' 32 c1'∧32≤c1'∧i=.int .i64 ((m:Int) - 1 - (j:Int))∧Rd wr wr.heap.size A1' (dV (digN 32 (x^leV (e.drop (m - j))%PN)))∧Below w.heap.size w wr) (fun _ i _=>(intOf i+1).toNat)
 case atStart=>exact HS0.out
 case round =>
  clear HS0;obtain ⟨j,A2,c2,hj,rfl,hc2,rfl,hrd,hbel⟩:=hrel
  by_cases hlt:j<m
  ·obtain ⟨p,hp⟩:∃ p,p+1+j=m:=⟨m - 1 - j,by omega⟩;have hpi:(m:Int) - 1 - (j:Int)=(p:Int):=by omega
   rw [hpi];obtain ⟨E,hE⟩:=eX (leV (e.drop (m - j)));obtain ⟨b,hb⟩:=eX (e.getD p 0);have hbl:b<256:=by rw [hb]; exact qaA HE.out p
   have hs0:∃ (k:Nat) (A1':Option Addr) (c1':Nat),k≤8∧Value.slice A2 32 c2=.slice A1' 32 c1'∧32≤c1'∧Value.int .i64 128=.int .i64 ((2^(7 - k):Nat):Int)∧Value.int .i64 0=.int .i64 (k:Int)∧Rd wr wr.heap.size A1' (dV (digN 32 (x^(E*2^k+b/2^(8 - k))%PN)))∧Below w.heap.size w wr :=
    ⟨0,A2,c2,by omega,rfl,hc2,rfl,rfl,by rw [Nat.pow_zero,Nat.mul_one,show b/2^(8 - 0)=0 from Nat.div_eq_of_lt hbl,Nat.add_zero,hE]; exact hrd,hbel⟩
   have HS0:=zY hs0;have HEE:=zY hE;have HB:=zY hb;have HBL:=zY hbl;have HP:=zY hp;have HLT:=zY hlt;have hpm:(p:Int)<(m:Int):=by omega
   clear hs0 hE hb hbl hp hlt hrd hbel hj hc2 hpi;go_wp2_with fail;obtain ⟨wo,rfl⟩:=eX wr
   go_loopw [5,7,8] (fun v dv kv wr=>∃ (k:Nat) (A1':Option Addr) (c1':Nat),k≤8∧v=.slice A1' 32 c1'∧32≤c1'∧dv=.int .i64 ((2^(7 - k):Nat):Int)∧kv=.int .i64 (k:Int)∧Rd wr wr.heap.size A1' (dV (digN 32 (x^(E*2^k+b/2^(8 - k))%PN)))∧Below w.heap.size w wr) (fun _ _ kv _=>8 - (intOf kv).toNat)
   case atStart=>exact HS0.out
   case round =>
    clear HS0;obtain ⟨k,A3,c3,hk,rfl,hc3,rfl,rfl,hrd,hbel⟩:=hrel
    by_cases hltk:k<8
    ·have hltk':(k:Int)<8:=by omega
     obtain ⟨dd,hdd⟩:=eX (2^(7 - k));have hd1:1≤dd:=by rw [hdd]; exact Nat.two_pow_pos _
     have hd128:dd≤128:=by rw [hdd]; exact Nat.pow_le_pow_right (n:=2) (by decide) (show 7 - k≤7 by omega)
     obtain ⟨bq,hbq⟩:=eX (b/dd);have hbqi:(b:Int)/(dd:Int)=(bq:Int):=by rw [hbq]; simp
     obtain ⟨bit,hbit⟩:=eX (bq%2);have hbiti:(bq:Int)%2=(bit:Int):=by omega
     obtain ⟨V,hV⟩:=eX (x^(E*2^k+b/2^(8 - k))%PN);have hVl:V<PN:=by rw [hV]; exact Nat.mod_lt _ (by decide)
     have hsq:V*V%PN=x^(2*(E*2^k+b/2^(8 - k)))%PN:=by rw [hV,sq_mod]
     have hex:=expo_step E b k hltk;rw [← hdd,← hbq,← hbit] at hex;rw [← hV] at hrd;rw [← hdd];obtain ⟨V2,hV2⟩:=eX (V*V%PN);have hV2l:V2<PN:=by rw [hV2]; exact Nat.mod_lt _ (by decide)
     have hd2:(if 1<dd then dd/2 else dd)=2^(7 - (k+1)):=by
      by_cases h7:k=7
      ·rw [hdd,h7]; decide
      ·have e7:dd=2^(7 - (k+1))*2:=by rw [hdd,← Nat.pow_succ]; congr 1; omega
       have e8:0<2^(7 - (k+1)):=Nat.two_pow_pos _;rw [if_pos (by omega),e7];omega
     have hlt8:(b:Int)<256:=by have:=HBL.out; omega
     have hbql:(bq:Int)<256:=by have h:=Nat.div_le_self b dd; rw [← hbq] at h; omega
     have hpm2:p<m:=by omega
     obtain ⟨bd,rfl,_⟩:=HCELL.out wr hbel p hpm2;have CALL:=zY (MS.out wr hbel V hVl A3 c3 hrd);rw [← hV2] at CALL;have HV2:=zY hV2;have HV2L:=zY hV2l;have HSQ:=zY hsq;have HEX:=zY hex;have HBEL:=zY hbel;have HPM:=zY hpm2;have HK8:=zY (show k+1≤8 by omega);have hd1':¬ (dd:Int)=0:=by omega
     have hd1'':(0:Int)<(dd:Int):=by omega
     have hd128':(dd:Int)≤128:=by omega
     have hbitl:bit<2:=by omega
     clear hV2 hV2l hsq hex hbel hpm2 hV hVl hrd hdd hbq hk hltk hc3
     by_cases hbitn:bit=1 <;> by_cases hgtn:1<dd
     ·have hbit1:(bq:Int)%2=1:=by omega
      have hdi:(dd:Int) > 1:=by omega
      obtain ⟨d2,hd2e⟩:=eX (dd/2);have hd2i:(dd:Int)/2=(d2:Int):=by omega
      rw [if_pos (show 1<dd by omega),← hd2e] at hd2;have HD2:=zY hd2;clear hd2 hd2e;have hbb:bit=1:=by omega
      have hfin:V2*x%PN=x^(E*2^(k+1)+b/2^(8 - (k+1)))%PN:=by rw [HEX.out,hbb,HV2.out,HSQ.out,qea]
      have HFIN:=zY hfin;clear hfin hbb;clear hbitn hgtn hbiti;go_wp2_with fail;refine qaa CALL.out ?_;rintro e3 w3 ⟨A4,c4,rfl,hc4,hr4,hb4⟩;rw [qai] at hc4;rw [qai];have HB4:=zY (HBEL.out.trans (hb4.mono HBEL.out.size));obtain ⟨ad2,h1,hca⟩:=HCELL.out w3 HB4.out p HPM.out
      injection h1 with h1
      subst h1;rw [← HB.out] at hca;have HC4:=zY hc4;have HR4:=zY hr4;have HMA:=zY (MA.out w3 HB4.out V2 HV2L.out A4 c4 hr4);clear hc4 hr4 hb4;go_wp2_with fail;refine qaa HMA.out ?_;rintro e5 w5 ⟨A5,c5,rfl,hc5,hr5,hb5⟩;rw [qai] at hc5;rw [qai];rw [HFIN.out] at hr5;have HB5:=zY (HB4.out.trans (hb5.mono HB4.out.size));have HC5:=zY hc5;have HR5:=zY hr5;clear hc5 hr5 hb5;go_wp2_with fail;refine ⟨⟨k+1,A5,c5,HK8.out,rfl,HC5.out,by rw [← HD2.out],by go_num,HR5.out,HB5.out⟩,by have:=HK8.out; simp [intOf]; omega⟩
     ·have hbit1:(bq:Int)%2=1:=by omega
      have hdi:¬ (dd:Int) > 1:=by omega
      rw [if_neg (show ¬ 1<dd by omega)] at hd2;have HD2:=zY hd2;clear hd2;have hbb:bit=1:=by omega
      have hfin:V2*x%PN=x^(E*2^(k+1)+b/2^(8 - (k+1)))%PN:=by rw [HEX.out,hbb,HV2.out,HSQ.out,qea]
      have HFIN:=zY hfin;clear hfin hbb;clear hbitn hgtn hbiti;go_wp2_with fail;refine qaa CALL.out ?_;rintro e3 w3 ⟨A4,c4,rfl,hc4,hr4,hb4⟩;rw [qai] at hc4;rw [qai];have HB4:=zY (HBEL.out.trans (hb4.mono HBEL.out.size));obtain ⟨ad2,h1,hca⟩:=HCELL.out w3 HB4.out p HPM.out
      injection h1 with h1
      subst h1;rw [← HB.out] at hca;have HC4:=zY hc4;have HR4:=zY hr4;have HMA:=zY (MA.out w3 HB4.out V2 HV2L.out A4 c4 hr4);clear hc4 hr4 hb4;go_wp2_with fail;refine qaa HMA.out ?_;rintro e5 w5 ⟨A5,c5,rfl,hc5,hr5,hb5⟩;rw [qai] at hc5;rw [qai];rw [HFIN.out] at hr5;have HB5:=zY (HB4.out.trans (hb5.mono HB4.out.size));have HC5:=zY hc5;have HR5:=zY hr5;clear hc5 hr5 hb5;go_wp2_with fail;refine ⟨⟨k+1,A5,c5,HK8.out,rfl,HC5.out,by rw [← HD2.out],by go_num,HR5.out,HB5.out⟩,by have:=HK8.out; simp [intOf]; omega⟩
     ·have hbit1:(bq:Int)%2=0:=by omega
      have hbz:¬ (bq:Int)%2=1:=by omega
      have hdi:(dd:Int) > 1:=by omega
      obtain ⟨d2,hd2e⟩:=eX (dd/2);have hd2i:(dd:Int)/2=(d2:Int):=by omega
      rw [if_pos (show 1<dd by omega),← hd2e] at hd2;have HD2:=zY hd2;clear hd2 hd2e;have hbb:bit=0:=by omega
      have hfin:V2=x^(E*2^(k+1)+b/2^(8 - (k+1)))%PN:=by rw [HEX.out,hbb,HV2.out,HSQ.out,Nat.add_zero]
      have HFIN:=zY hfin;clear hfin hbb;clear hbitn hgtn hbiti;go_wp2_with fail;refine qaa CALL.out ?_;rintro e3 w3 ⟨A4,c4,rfl,hc4,hr4,hb4⟩;rw [qai] at hc4;rw [qai];have HB4:=zY (HBEL.out.trans (hb4.mono HBEL.out.size));obtain ⟨ad2,h1,hca⟩:=HCELL.out w3 HB4.out p HPM.out
      injection h1 with h1
      subst h1;rw [← HB.out] at hca;have HC4:=zY hc4;have HR4:=zY hr4;clear hc4 hr4 hb4;go_wp2_with fail;have hr5:=HR4.out;rw [HFIN.out] at hr5;refine ⟨⟨k+1,A4,c4,HK8.out,rfl,HC4.out,by rw [← HD2.out],by go_num,hr5,HB4.out⟩,by have:=HK8.out; simp [intOf]; omega⟩
     ·have hbit1:(bq:Int)%2=0:=by omega
      have hbz:¬ (bq:Int)%2=1:=by omega
      have hdi:¬ (dd:Int) > 1:=by omega
      rw [if_neg (show ¬ 1<dd by omega)] at hd2;have HD2:=zY hd2;clear hd2;have hbb:bit=0:=by omega
      have hfin:V2=x^(E*2^(k+1)+b/2^(8 - (k+1)))%PN:=by rw [HEX.out,hbb,HV2.out,HSQ.out,Nat.add_zero]
      have HFIN:=zY hfin;clear hfin hbb;clear hbitn hgtn hbiti;go_wp2_with fail;refine qaa CALL.out ?_;rintro e3 w3 ⟨A4,c4,rfl,hc4,hr4,hb4⟩;rw [qai] at hc4;rw [qai];have HB4:=zY (HBEL.out.trans (hb4.mono HBEL.out.size));obtain ⟨ad2,h1,hca⟩:=HCELL.out w3 HB4.out p HPM.out
      injection h1 with h1
      subst h1;rw [← HB.out] at hca;have HC4:=zY hc4;have HR4:=zY hr4;clear hc4 hr4 hb4;go_wp2_with fail;have hr5:=HR4.out;rw [HFIN.out] at hr5;refine ⟨⟨k+1,A4,c4,HK8.out,rfl,HC4.out,by rw [← HD2.out],by go_num,hr5,HB4.out⟩,by have:=HK8.out; simp [intOf]; omega⟩
    ·obtain rfl:k=8:=by omega
     have hval:x^(E*2^8+b/2^(8 - 8))=x^leV (e.drop (m - (j+1))):=by
      have hp:=HP.out;rw [show m - (j+1)=p by omega,drop_val e p (by rw [← HM.out]; omega),← HB.out,show p+1=m - j by omega,← HEE.out]
      congr 1
      rw [show (2:Nat)^8=256 from rfl,Nat.sub_self,Nat.pow_zero,Nat.div_one];omega
     rw [hval] at hrd;have HRD:=zY hrd;have HBEL:=zY hbel;have HC3:=zY hc3;have hp1:(p:Int) - 1=(m:Int) - 1 - ((j+1:Nat):Int):=by have:=HP.out; omega
     have HP1:=zY hp1;clear hval hrd hbel hc3 hk hltk hp1;go_wp2_with fail;exact ⟨⟨j+1,A3,c3,HLT.out,rfl,HC3.out,by rw [HP1.out],HRD.out,HBEL.out⟩,by simp [intOf]⟩
  ·obtain rfl:j=m:=by omega
   rw [Nat.sub_self,List.drop_zero] at hrd;have HRD:=zY hrd;have HBEL:=zY hbel;have HC:=zY hc2;have hpi:(j:Int) - 1 - (j:Int)=-1:=by omega
   rw [hpi];clear hrd hbel hc2 hpi hlt;go_wp2_with fail;go_ret;exact ⟨A2,c2,by rw [qai]; rfl,by rw [qai]; exact HC.out,HRD.out,HBEL.out⟩
theorem two_val:leV [2]=2:=rfl
theorem two_dg:Dg [2]:=by unfold Dg; decide
theorem inv_exp:leV (digN 32 (leV pL - leV [2]))=PN - 2:=by rw [qd6,two_val,qaQ _ _ (by decide)]
theorem rinv_any (a:List Nat) (ha:Dg a) (A:Option Addr) (c:Nat) (w:World) (hra:Rd w w.heap.size A (dV a)) (hla:a.length≤100000) :
  Calls Tryz.prog 38 #[.slice A a.length c] w (DigPost (digN 32 (leV a^(PN - 2)%PN)) w):=by
 have cM:∀ u A1 c1 A2 c2,Rd u u.heap.size A1 (dV pL)→Rd u u.heap.size A2 (dV [2])→Calls Tryz.prog 41 #[.slice A1 32 c1,.slice A2 1 c2] u (DigPost (digN 32 (leV pL - leV [2])) u):=fun u A1 c1 A2 c2 h1 h2=>by
  have h:=qec pL [2] pL_dg two_dg (by rw [qd6,two_val]; decide) A1 A2 c1 c2 u h1 h2 (by rw [qcA]; decide) (by decide);rw [qcA] at h; exact h
 have cP:∀ u,Below w.heap.size w u→∀ A1 c1,Rd u u.heap.size A1 (dV (digN 32 (leV pL - leV [2])))→Calls Tryz.prog 73 #[.slice A a.length c,.slice A1 32 c1] u (DigPost (digN 32 (leV a^(PN - 2)%PN)) u):=fun u hu A1 c1 h1=>by
  have h:=rpow_any a (digN 32 (leV pL - leV [2])) ha (qaE _ _) A A1 c c1 u (qdA hra hu) h1 hla (by rw [qai]; decide);rw [inv_exp,qai] at h; exact h
 generalize a.length=n at *;have CM:=zY cM;have CP:=zY cP;generalize digN 32 (leV a^(PN - 2)%PN)=R at *;have hmm:(digN 32 (leV pL - leV [2])).length=32:=qai _ _;generalize digN 32 (leV pL - leV [2])=E at *;have HEL:=zY hmm;clear ha hra hla cM cP hmm;go_enter Tryz.func38,Tryz.ntmps38;go_wp2_with fail;refine qaa (p_any _) ?_;rintro e w1 ⟨A1,c1,rfl,hc1,hr1,hb1⟩;have hnew:=Blk.new w1 3 (dV [2]).toArray;have hbn:Below w1.heap.size w1 (w1.alloc (.cells (dV [2]).toArray 3)):=below_new _ _;have HCM:=zY (CM.out (w1.alloc (.cells (dV [2]).toArray 3)) A1 c1 (some ⟨w1.heap.size,0,none⟩) 1 (qdA hr1 hbn) (Rd.of_blk hnew hnew.lt));have HB1:=zY (hb1.trans (hbn.mono hb1.size));clear hc1 hr1 hb1 hnew hbn;rw [qcA];go_wp2_with fail;refine qaa HCM.out ?_;rintro e w2 ⟨A2,c2,rfl,hc2,hr2,hb2⟩;rw [HEL.out];have HB2:=zY (HB1.out.trans (hb2.mono HB1.out.size));have HCP:=zY (CP.out w2 HB2.out A2 c2 hr2);clear hc2 hr2 hb2;go_wp2_with fail;refine qaa HCP.out ?_;rintro e w3 ⟨A3,c3,rfl,hc3,hr3,hb3⟩;have HC:=zY hc3;have HR:=zY hr3;have HB3:=zY (HB2.out.trans (hb3.mono HB2.out.size));clear hc3 hr3 hb3;go_wp2_with fail;go_ret;exact ⟨A3,c3,rfl,HC.out,HR.out,HB3.out⟩
def pm (m x:Nat):List Nat→Nat
 | []=>1%m
 | d :: r=>(x^d%m)*((pm m x r)^256%m)%m
theorem pm_eq (m x:Nat):∀ l,pm m x l=x^leV l%m
 | []=>by rw [pm,leV,Nat.pow_zero]
 | d :: r=>by
  rw [pm,pm_eq m x r,leV,Nat.pow_add,Nat.pow_mul',← Nat.pow_mod,← Nat.mul_mod]
theorem qdI:leV invL=PN - 2:=by decide
theorem invL_dg:Dg invL:=by unfold Dg invL; decide
theorem invE_ok {x:E5} (hx:x.Ok):(invE x).Ok:=pwL_ok hx _ _
theorem invE_val (x:E5):(invE x).val%PN=x.val^(PN - 2)%PN:=by
 have h:=pwL_val x invL invL_dg 32 (by decide);rw [show invL.length - 32=0 by decide,List.drop_zero,qdI] at h;exact h
theorem intE_nat (n:Nat):intE (n:Int)=natE n:=by
 unfold intE;rw [if_neg (by omega),Int.natAbs_natCast]
theorem limbs_inj {x y:E5} (h:limbs x=limbs y):x=y:=by
 obtain ⟨a1,b1,c1,d1,e1⟩:=x;obtain ⟨a2,b2,c2,d2,e2⟩:=y;simp only [limbs,List.cons.injEq] at h;obtain ⟨rfl,rfl,rfl,rfl,rfl,_⟩:=h;rfl
theorem eqE {x y:E5} (hx:x.Lt 18446744073709551616) (hy:y.Lt 18446744073709551616):(limbs (leastE x) == limbs (leastE y))=decide (x.val%PN=y.val%PN):=by
 rw [Bool.eq_iff_iff,beq_iff_eq,decide_eq_true_iff,← qcj hx,← qcj hy];exact ⟨fun h=>by rw [limbs_inj h],fun h=>by rw [least_inj (qdF x) (qdF y) h]⟩
def eqB (x y:E5):Bool:=limbs (leastE x) == limbs (leastE y)
def Sm (a b:Nat):Prop:=a%PN=b%PN
theorem Sm.refl (a:Nat):Sm a a:=rfl
theorem Sm.symm {a b:Nat} (h:Sm a b):Sm b a:=Eq.symm h
theorem Sm.trans {a b c:Nat} (h:Sm a b) (k:Sm b c):Sm a c:=Eq.trans h k
theorem Sm.add {a b c d:Nat} (h:Sm a b) (k:Sm c d):Sm (a+c) (b+d):=by
 unfold Sm at *;rw [Nat.add_mod,h,k,← Nat.add_mod]
theorem Sm.mul {a b c d:Nat} (h:Sm a b) (k:Sm c d):Sm (a*c) (b*d):=by
 unfold Sm at *;rw [Nat.mul_mod,h,k,← Nat.mul_mod]
theorem Sm.of {a b:Nat} (h:a=b):Sm a b:=by rw [h]; exact Sm.refl _
theorem Sm.back {a b c:Nat} (h:Sm (a+c) (b+c)):Sm a b:=by
 unfold Sm at *;simp only [PN] at *;omega
theorem sm_add (x y:E5):Sm (addE x y).val (x.val+y.val):=add_val x y
theorem sm_mul (x y:E5):Sm (mulE x y).val (x.val*y.val):=mul_val x y
theorem sm_sub {x y:E5} (hy:y.Ok):Sm ((subE x y).val+y.val) x.val:=sub_val hy
theorem mul_c (x y:E5) (w:World) (hx:x.Ok) (hy:y.Ok):Calls Tryz.prog 47 #[.agg (eV x),.agg (eV y)] w (ElemPost (mulE x y) w):=mul_any x y w hx hy
theorem add_c (x y:E5) (w:World) (hx:x.Ok) (hy:y.Ok):Calls Tryz.prog 52 #[.agg (eV x),.agg (eV y)] w (ElemPost (addE x y) w):=add_any x y w (E5.Lt.mono hx (by decide)) (E5.Lt.mono hy (by decide))
theorem sub_c (x y:E5) (w:World) (hx:x.Ok) (hy:y.Ok):Calls Tryz.prog 49 #[.agg (eV x),.agg (eV y)] w (ElemPost (subE x y) w):=sub_any x y w (E5.Lt.mono hx (by decide)) hy.big
def BoolPost (b:Bool) (w:World) (e:Ending) (w':World):Prop:=e=.returned (.bool b)∧Below w.heap.size w w'
theorem equal_c (x y:E5) (w:World) (hx:x.Ok) (hy:y.Ok):Calls Tryz.prog 55 #[.agg (eV x),.agg (eV y)] w (BoolPost (eqB x y) w):=equal_any x y w hx.big hy.big
theorem qcT {w:World} {B n:Nat} {A:Option Addr} {l:List UInt8} (h:Rd w B A (bytesV l)):Rd w B A (bytesV (l.take n)):=fun i u hi=>by
 refine h i u ?_;rw [bytesV,List.getElem?_map,List.getElem?_take] at hi;rw [bytesV,List.getElem?_map]
 split at hi
 ·exact hi
 ·simp at hi
theorem odd_c (x:E5) (hx:x.Ok) (u:World):Calls Tryz.prog 53 #[.agg (eV x)] u (BoolPost (decide (x.val%PN%2=1)) u):=by
 have h:=odd_any x u hx.big
 have e:(leastE x).a%2=x.val%PN%2:=by
  rw [← qcj hx.big];simp only [E5.val];omega
 rw [e] at h;exact h
theorem qdz (V:Nat):refB (digN 32 V)=byB V:=by
 rw [refB,byB,byN_dig];apply List.ext_getElem?;intro j
 by_cases hj:j<32
 ·rw [List.getElem?_map,List.getElem?_map,List.getElem?_range hj,List.getElem?_eq_getElem (by rw [qai]; exact hj)];simp [List.getD_eq_getElem?_getD,List.getElem?_eq_getElem (show j<(digN 32 V).length by rw [qai]; exact hj)]
 ·rw [List.getElem?_eq_none (by simp; omega),List.getElem?_eq_none (by simp [qai]; omega)]
theorem same_any (a b:List Nat) (ha:Dg a) (hb:Dg b) (hla:a.length=32) (hlb:b.length=32) (A B:Option Addr) (c d:Nat) (w:World) (hra:Rd w w.heap.size A (dV a)) (hrb:Rd w w.heap.size B (dV b)) (hc:32≤c) (hd:32≤d) :
  Calls Tryz.prog 67 #[.slice A 32 c,.slice B 32 d] w (BoolPost (refB a == refB b) w):=by
 obtain ⟨Y,hY⟩:=eX (refB a);obtain ⟨Z,hZ⟩:=eX (refB b);have hYl:Y.length=32:=by rw [hY,qd2]
 have hZl:Z.length=32:=by rw [hZ,qd2]
 have cY:∀ u,Below w.heap.size w u→Calls Tryz.prog 44 #[.slice A 32 c] u (OwnPost 5 32 (bytesV Y) u):=fun u hu=>by
  have h:=qdg a ha A c u ((hra.below hu).mono hu.size) (by omega) (by omega);rw [hla,← hY] at h; exact h
 have cZ:∀ u,Below w.heap.size w u→Calls Tryz.prog 44 #[.slice B 32 d] u (OwnPost 5 32 (bytesV Z) u):=fun u hu=>by
  have h:=qdg b hb B d u ((hrb.below hu).mono hu.size) (by omega) (by omega);rw [hlb,← hZ] at h; exact h
 rw [← hY,← hZ];have CY:=zY cY;have CZ:=zY cZ;have HYL:=zY hYl;have HZL:=zY hZl;clear hra hrb ha hb hla hlb hc hd hY hZ hYl hZl cY cZ;go_enter Tryz.func67,Tryz.ntmps67;go_wp2_with fail;have HC0:Below w.heap.size w w.drew:=(Below.refl _ _).drew
 refine qar (fun u=>Below w.heap.size w u) (fun | false=>(fun _=>True) | true=>(fun _=>True)) (fun | false,_=>false | true,_=>false)
  [fun z _=>z 0=.slice A 32 c,
   fun z u=>(RdV 32 (bytesV Y)) (z 1) u,
   fun z _=>z 2=.string ⟨Y.toArray⟩,
   fun z _=>z 3=.slice B 32 d,
   fun z u=>(RdV 32 (bytesV Z)) (z 4) u,
   fun z _=>z 5=.string ⟨Z.toArray⟩,
   fun z _=>z 6=.bool (Y == Z),
   fun z _=>z 7=.bool (Y == Z)]
  [Eq,fun u u'=>Below u.heap.size u u',Eq,Eq,fun u u'=>Below u.heap.size u u',Eq,Eq,Eq]
  (fun _ _=>false) [(0,some 5),(1,some 6),(2,some 7),(3,some 8),(4,some 9),(5,some 10),(6,some 11),(7,some 4)] (by kernel_rfl) (by kernel_rfl) rfl (fun _=>rfl) ?_ ?_ ?_ ?_ ?_ ?_
 ·exact HC0
 ·intro m; cases m; exact trivial; exact trivial
 ·intro m; cases m
  ·refine ⟨?_,?_,?_,?_,?_,?_,?_,?_,trivial⟩ <;> first | exact .inr fun _ _ h h0=>h▸h0 | exact .inr fun _ _ _ h=>h
  ·refine ⟨?_,?_,?_,?_,?_,?_,?_,?_,trivial⟩ <;> first | exact .inr fun _ _ h h0=>h▸h0 | exact .inr fun _ _ _ h=>h
 ·refine ⟨⟨.inl rfl,?_,?_,?_,?_,?_,?_,?_,trivial⟩,⟨?_,.inl rfl,?_,?_,?_,?_,?_,?_,trivial⟩,⟨?_,?_,.inl rfl,?_,?_,?_,?_,?_,trivial⟩,⟨?_,?_,?_,.inl rfl,?_,?_,?_,?_,trivial⟩,⟨?_,.inr (.inr (.inr (fun _ _ _ _ h h0=>h0.next h))),?_,?_,.inl rfl,?_,?_,?_,trivial⟩,⟨?_,?_,?_,?_,?_,.inl rfl,?_,?_,trivial⟩,⟨?_,?_,?_,?_,?_,?_,.inl rfl,?_,trivial⟩,⟨?_,?_,?_,?_,?_,?_,?_,.inl rfl,trivial⟩,trivial⟩ <;> first | exact .inr (.inr (.inl rfl)) | exact .inr (.inr (.inr fun _ _ _ _ _ h=>h)) | exact .inr (.inr (.inr fun _ _ _ _ h h0=>by cases h; exact h0))
 ·refine ⟨?_,?_,?_,?_,?_,?_,?_,?_,trivial⟩
  ·refine qac [] (fun _=>rfl) rfl ?_;intro w1 vals hC1 hi0 hf E hE;clear hi0;clear hf;simp only [sP] at hE ⊢;go_wp2;exact .mk (hE _ _ rfl hC1 rfl)
  ·refine qac [(0,some 5)] (fun _=>rfl) rfl ?_;intro w1 vals hC1 hi0 hf E hE;clear hi0;have f0:vals 0=_:=hf 0 rfl
   try dsimp only at f0
   clear hf;simp only [sP,f0] at hE ⊢;clear f0;go_wp2_with fail;refine qaa (CY.out _ hC1) ?_;rintro e w2 ⟨A2,c2,rfl,hown,hb2⟩;have hrv:=RdV.of_own hown;go_wp2_with fail;exact .mk (hE _ _ hrv (hC1.trans (hb2.mono hC1.size)) hb2)
  ·refine qac [(1,some 6)] (fun _=>rfl) rfl ?_;intro w1 vals hC1 hi0 hf E hE;clear hi0;have f1:(RdV 32 (bytesV Y)) (vals 1) w1:=hf 1 rfl
   try dsimp only at f1
   clear hf;obtain ⟨A2,c2,hx2,hc2,hrd⟩:=f1;simp only [sP,hx2] at hE ⊢;clear hx2;refine qa1 (l:=Y) hrd Tryz.underlying22 Tryz.underlying5 Tryz.underlying9 rfl rfl (len_eq HYL.out _ _) ?_;go_wp2_with fail;exact .mk (hE _ _ rfl hC1 rfl)
  ·refine qac [] (fun _=>rfl) rfl ?_;intro w1 vals hC1 hi0 hf E hE;clear hi0;clear hf;simp only [sP] at hE ⊢;go_wp2;exact .mk (hE _ _ rfl hC1 rfl)
  ·refine qac [(3,some 8),(1,some 6)] (fun _=>rfl) rfl ?_;intro w1 vals hC1 hi0 hf E hE;clear hi0;have f1:(RdV 32 (bytesV Y)) (vals 1) w1:=hf 1 rfl;have f3:vals 3=_:=hf 3 rfl
   try dsimp only at f1 f3
   clear hf;simp only [sP,f3] at hE ⊢;clear f3;go_wp2_with fail;refine qaa (CZ.out _ hC1) ?_;rintro e w2 ⟨A2,c2,rfl,hown,hb2⟩;have hrv:=RdV.of_own hown;go_wp2_with fail;exact .mk (hE _ _ hrv (hC1.trans (hb2.mono hC1.size)) hb2)
  ·refine qac [(4,some 9)] (fun _=>rfl) rfl ?_;intro w1 vals hC1 hi0 hf E hE;clear hi0;have f4:(RdV 32 (bytesV Z)) (vals 4) w1:=hf 4 rfl
   try dsimp only at f4
   clear hf;obtain ⟨A2,c2,hx2,hc2,hrd⟩:=f4;simp only [sP,hx2] at hE ⊢;clear hx2;refine qa1 (l:=Z) hrd Tryz.underlying22 Tryz.underlying5 Tryz.underlying9 rfl rfl (len_eq HZL.out _ _) ?_;go_wp2_with fail;exact .mk (hE _ _ rfl hC1 rfl)
  ·refine qac [(2,some 7),(5,some 10)] (fun _=>rfl) rfl ?_;intro w1 vals hC1 hi0 hf E hE;clear hi0;have f2:vals 2=_:=hf 2 rfl;have f5:vals 5=_:=hf 5 rfl
   try dsimp only at f2 f5
   clear hf;simp only [sP,f2,f5] at hE ⊢;clear f2 f5;go_wp2;exact .mk (hE _ _ rfl hC1 rfl)
  ·refine qac [(6,some 11),(4,some 9),(0,some 5),(1,some 6),(2,some 7),(3,some 8),(4,some 9),(5,some 10),(6,some 11)] (fun _=>rfl) rfl ?_;intro w1 vals hC1 hi0 hf E hE;clear hi0;have f0:vals 0=_:=hf 0 rfl;have f1:(RdV 32 (bytesV Y)) (vals 1) w1:=hf 1 rfl;have f2:vals 2=_:=hf 2 rfl;have f3:vals 3=_:=hf 3 rfl;have f4:(RdV 32 (bytesV Z)) (vals 4) w1:=hf 4 rfl;have f5:vals 5=_:=hf 5 rfl;have f6:vals 6=_:=hf 6 rfl
   try dsimp only at f0 f1 f2 f3 f4 f5 f6
   clear hf;simp only [sP,f0,f2,f3,f5,f6] at hE ⊢;clear f0 f2 f3 f5 f6;go_wp2;exact .mk (hE _ _ rfl hC1 rfl)
 intro w1 vals hC1 hf;have f0:vals 0=_:=hf 0 (by decide) rfl;have f1:(RdV 32 (bytesV Y)) (vals 1) w1:=hf 1 (by decide) rfl;have f2:vals 2=_:=hf 2 (by decide) rfl;have f3:vals 3=_:=hf 3 (by decide) rfl;have f4:(RdV 32 (bytesV Z)) (vals 4) w1:=hf 4 (by decide) rfl;have f5:vals 5=_:=hf 5 (by decide) rfl;have f6:vals 6=_:=hf 6 (by decide) rfl;have f7:vals 7=_:=hf 7 (by decide) rfl
 try dsimp only at f0 f1 f2 f3 f4 f5 f6 f7
 clear hf;simp only [sP,f0,f2,f3,f5,f6,f7];clear f0 f2 f3 f5 f6 f7;generalize vals 1=x1 at *;generalize vals 4=x4 at *;clear HC0 f1 f4;go_wp2_with fail;go_ret;exact ⟨rfl,hC1⟩
inductive Fc where
 | box (g:Nat) (t:TypeId) (cs:Array Value)
 | rd (A:Option Addr) (xs:List Value)
def Fc.holds:Fc→World→Prop
 | .box g t cs,u=>Blk u g t cs
 | .rd A xs,u=>Rd u u.heap.size A xs
def St:List Fc→World→Prop
 | [],_=>True
 | f :: r,u=>f.holds u∧St r u
theorem Fc.next {f:Fc} {u u':World} (h:f.holds u) (hb:Below u.heap.size u u'):f.holds u':=by
 cases f with
 | box g t cs=>exact Blk.below h hb (Blk.lt h)
 | rd A xs=>exact (Rd.below h hb).mono hb.size
theorem St.next:∀ {fs:List Fc} {u u':World},St fs u→Below u.heap.size u u'→St fs u'
 | [],_,_,_,_=>trivial
 | f :: _,_,_,h,hb=>⟨Fc.next (f:=f) h.1 hb,St.next h.2 hb⟩
def NewBox (B:Nat) (t:TypeId) (cs:Array Value) (v:Value) (u:World):Prop:=∃ o,v=.pointer (some ⟨o,0,none⟩)∧B≤o∧Blk u o t cs
theorem NewBox.next {B:Nat} {t:TypeId} {cs:Array Value} {v:Value} {u u':World} (h:NewBox B t cs v u) (hb:Below u.heap.size u u'):NewBox B t cs v u':=by
 obtain ⟨o,h1,h2,h3⟩:=h;exact ⟨o,h1,h2,h3.below hb h3.lt⟩
theorem NewBox.wrote {B g:Nat} {t:TypeId} {cs:Array Value} {v:Value} {u u':World} (h:NewBox B t cs v u) (hw:Wrote g u u') (hne:v≠.pointer (some ⟨g,0,none⟩)):NewBox B t cs v u':=by
 obtain ⟨o,h1,h2,h3⟩:=h;exact ⟨o,h1,h2,hw.blk h3 fun e=>hne (by rw [h1,e])⟩
theorem NewBox.of {B:Nat} {t:TypeId} {cs:Array Value} {u:World} (hB:B≤u.heap.size):NewBox B t cs (.pointer (some ⟨u.heap.size,0,none⟩)) (u.alloc (.cells cs t)) :=
 ⟨_,rfl,hB,Blk.new _ _ _⟩
theorem qba {u u':World} {o:Obj} (hw:Wrote u.heap.size (u.alloc o) u'):Below u.heap.size u u' :=
 hw.below (below_new _ _) (Nat.le_refl _) (by simp)
structure Pt4 where
 x:E5
 y:E5
 z:E5
 t:E5
structure Pt4.Ok (p:Pt4):Prop where
 x:p.x.Ok
 y:p.y.Ok
 z:p.z.Ok
 t:p.t.Ok
def ptV (p:Pt4):Array Value:=wV (limbs p.x++limbs p.y++limbs p.z++limbs p.t)
theorem qaV (p:Pt4):(ptV p).size=20:=rfl
theorem qao:(Tryz.prog.info? 48).map (·.size)=some 20:=by kernel_rfl
def zP:Pt4:=⟨zE,zE,zE,zE⟩
def PtPost (p:Pt4) (w:World) (e:Ending) (w':World):Prop:=e=.returned (.agg (ptV p))∧Below w.heap.size w w'
def sumP (p q:Pt4) (w:E5):Pt4 :=
 let a:=mulE (subE p.y p.x) (subE q.y q.x)
 let b:=mulE (addE p.y p.x) (addE q.y q.x)
 let c:=mulE (mulE p.t w) q.t
 let z:=mulE p.z q.z
 let e:=subE b a
 let h:=addE b a
 let f:=subE (addE z z) c
 let g:=addE (addE z z) c
 ⟨mulE e f,mulE g h,mulE f g,mulE e h⟩
theorem qdb {p q:Pt4} {w:E5} (hp:p.Ok) (hq:q.Ok) (hw:w.Ok):(sumP p q w).Ok:=by
 have a:=qax (qbb hp.y hp.x) (qbb hq.y hq.x);have b:=qax (qbk hp.y hp.x) (qbk hq.y hq.x);have c:=qax (qax hp.t hw) hq.t;have z:=qax hp.z hq.z;exact ⟨qax (qbb b a) (qbb (qbk z z) c),qax (qbk (qbk z z) c) (qbk b a),qax (qbb (qbk z z) c) (qbk (qbk z z) c),qax (qbb b a) (qbk b a)⟩
def ofP (x y:E5):Pt4:=⟨x,y,intE 1,mulE x y⟩
theorem qd8:(intE 1).Ok:=intE_ok (by decide) (by decide)
theorem ofP_ok {x y:E5} (hx:x.Ok) (hy:y.Ok):(ofP x y).Ok:=⟨hx,hy,qd8,qax hx hy⟩
def negP (p:Pt4):Pt4:=⟨subE zE p.x,p.y,p.z,subE zE p.t⟩
theorem negP_ok {p:Pt4} (hp:p.Ok):(negP p).Ok:=⟨qbb zE_ok hp.x,hp.y,hp.z,qbb zE_ok hp.t⟩
theorem sub_z (x:E5) (hx:x.Ok) (u:World):Calls Tryz.prog 49 #[.agg #[.int .u64 0,.int .u64 0,.int .u64 0,.int .u64 0,.int .u64 0],.agg (eV x)] u (ElemPost (subE zE x) u):=sub_c zE x u zE_ok hx
theorem int1_c (u:World):Calls Tryz.prog 50 #[.int .i64 1] u (ElemPost (intE 1) u):=int_any 1 (by decide) (by decide) u
theorem int0_c (u:World):Calls Tryz.prog 50 #[.int .i64 0] u (ElemPost (intE 0) u):=int_any 0 (by decide) (by decide) u
theorem build_pt (a b c d:E5) (u:World):(Instr.build 48 #[(0,.agg (eV a)),(1,.agg (eV b)),(2,.agg (eV c)),(3,.agg (eV d))]).run Tryz.prog u=.ok (.agg (ptV ⟨a,b,c,d⟩)) u:=by kernel_rfl
theorem qbR {w:World} {ops:Array Oper} {rest:List Oper} {o:Oper} {a:Act} {Q:Exit→Act→World→Prop} {x0 x1 x2 x3:Operand} (A B C D:E5)
  (hgd:o.guard=none) (ho:o.op=.build 48 #[(0,x0),(1,x1),(2,x2),(3,x3)]) (h0:a.eval x0=.agg (eV A)) (h1:a.eval x1=.agg (eV B)) (h2:a.eval x2=.agg (eV C)) (h3:a.eval x3=.agg (eV D))
  (h:wpList Tryz.prog ops Q rest (a.put o.dst (.agg (ptV ⟨A,B,C,D⟩))) w):wpList Tryz.prog ops Q (o :: rest) a w:=by
 refine wpList_plain hgd fun K hK=>?_;unfold Oper.wp execOp;simp only [ho,List.map_toArray,List.map_cons,List.map_nil,h0,h1,h2,h3,Sem.run_bind,Sem.run_pure,Result.andThen_ok,build_pt];exact hK _ _ h
def Cs (fs:List Fc) (w u:World):Prop:=St fs u∧Below w.heap.size w u
theorem Cs.next {fs:List Fc} {w u u':World} (h:Cs fs w u) (hb:Below u.heap.size u u'):Cs fs w u':=⟨h.1.next hb,h.2.trans (hb.mono h.2.size)⟩
theorem St.drew:∀ {fs:List Fc} {u:World},St fs u→St fs u.drew
 | [],_,_=>trivial
 | f :: _,_,h=>⟨(by cases f with
  | box g t cs=>exact h.1
  | rd A xs=>exact h.1),St.drew h.2⟩
theorem Cs.drew {fs:List Fc} {w u:World} (h:Cs fs w u):Cs fs w u.drew:=⟨h.1.drew,h.2.drew⟩
theorem pof_any (x y:E5) (hx:x.Ok) (hy:y.Ok) (w:World):Calls Tryz.prog 54 #[.agg (eV x),.agg (eV y)] w (PtPost (ofP x y) w):=by
 have hu:=Tryz.underlying46;have hp:=Tryz.underlying48;have KX:=zY hx;have KY:=zY hy;obtain ⟨w0,hw0⟩:=eX (((w.alloc (.cells (eV x) 46)).alloc (.cells (eV y) 46)).alloc (.cells (ptV zP) 48))
 have hst:Cs [.box w.heap.size 46 (eV x),.box (w.heap.size+1) 46 (eV y),.box (w.heap.size+1+1) 48 (ptV zP)] w w0:=by
  rw [hw0];exact ⟨⟨((Blk.new _ _ _).alloc _).alloc _,(Blk.newAt (by simp)).alloc _,Blk.newAt (by simp),trivial⟩,((below_new _ _).alloc (by simp) _).alloc (by simp; try omega) _⟩
 have HLR:=zY (show w.heap.size≤w.heap.size+1+1 by omega);clear hx hy;have HW:=zY hw0;have HC0':=zY hst;clear hw0 hst;go_enter Tryz.func54,Tryz.ntmps54;go_wp2_with fail;show Code.wp Tryz.prog _ _ _ (((w.alloc (.cells (eV x) _)).alloc (.cells (eV y) _)).alloc (.cells (ptV zP) _));rw [← HW.out];generalize hgr:w.heap.size+1+1=r at *;generalize hgh:w.heap.size+1=h at *;generalize hgg:w.heap.size=g at *;have HG:=zY hgg;clear hgr hgh hgg;have HC0:=HC0'.out.drew;clear HC0' HW;refine qal (fun u=>Cs [.box g 46 (eV x),.box h 46 (eV y),.box r 48 (ptV zP)] w u) (fun u=>Blk u r 48 (ptV (ofP x y))∧Below w.heap.size w u) [(0,some 5),(1,some 6),(2,some 7),(3,some 8),(4,some 9),(5,some 10),(6,some 11),(7,none)] (by kernel_rfl) (by kernel_rfl) (by decide) (by kernel_rfl) (fun _=>rfl) HC0 ?_;apply yN_
 ·apply dP [];exact fun _=>rfl;rfl;rintro vals - w1 hC1 E hE;simp only [sP] at hE ⊢;refine qab ((hC1.1).1) rfl rfl rfl hu rfl qag ?_;go_wp2_with fail;exact .mk (hE _ hC1)
 apply yN_
 ·apply dP [];exact fun _=>rfl;rfl;rintro vals ⟨-,-⟩ w1 hC1 E hE;simp only [sP] at hE ⊢;refine qab ((hC1.1).2.1) rfl rfl rfl hu rfl qag ?_;go_wp2_with fail;exact .mk (hE _ hC1)
 apply yN_
 ·apply dP [];exact fun _=>rfl;rfl;intro vals vq w1 hC1 E hE;clear vq;simp only [sP] at hE ⊢;go_wp2_with fail;refine qaa (int1_c _) ?_;rintro e w2 ⟨rfl,hb2⟩;go_wp2_with fail;exact .mk (hE _ (hC1.next hb2))
 apply yN_
 ·apply dP [];exact fun _=>rfl;rfl;intro vals vq w1 hC1 E hE;clear vq;simp only [sP] at hE ⊢;refine qab ((hC1.1).1) rfl rfl rfl hu rfl qag ?_;go_wp2_with fail;exact .mk (hE _ hC1)
 apply yN_
 ·apply dP [];exact fun _=>rfl;rfl;intro vals vq w1 hC1 E hE;clear vq;simp only [sP] at hE ⊢;refine qab ((hC1.1).2.1) rfl rfl rfl hu rfl qag ?_;go_wp2_with fail;exact .mk (hE _ hC1)
 apply yN_
 ·apply dP [(3,some 8),(4,some 9),(2,some 7)];exact fun _=>rfl;rfl;intro vals vq w1 hC1 E hE;simp only [sP,vq] at hE ⊢;clear vq;go_wp2_with fail;refine qaa (mul_c x y _ KX.out KY.out) ?_;rintro e w2 ⟨rfl,hb2⟩;go_wp2_with fail;exact .mk (hE _ (hC1.next hb2))
 apply yN_
 ·apply dP [(0,some 5),(1,some 6),(2,some 7),(5,some 10)];exact fun _=>rfl;rfl;intro vals vq w1 hC1 E hE;simp only [sP,vq] at hE ⊢;clear vq;refine qbR x y (intE 1) (mulE x y) rfl rfl rfl rfl rfl rfl ?_;go_wp2_with fail;exact .mk (hE _ hC1)
 apply yL_ (v:=undef)
 ·apply dP [(6,some 11),(5,some 10),(0,some 5),(1,some 6),(2,some 7),(3,some 8),(4,some 9),(5,some 10),(6,some 11)];exact fun _=>rfl;rfl;intro vals vq w1 hC1 E hE;have hlr:=HLR.out;simp only [sP,vq] at hE ⊢;clear vq;refine qaf (cells:=ptV (ofP x y)) hC1.1.2.2.1 rfl rfl rfl rfl qao rfl (by simp [eV,ptV,wV,limbs,Value.oneCell']) ?_;intro w6 hb6 hw6;go_wp2_with fail;exact .mk (hE _ ⟨hb6,hw6.below hC1.2 (by rw [HG.out]; exact hlr) hC1.2.size⟩)
 intro vals vq w1 hC1;simp only [sP,vq];clear vq;go_wp2_with fail;refine bodyPost_ret (qau (P:=Tryz.prog) rfl rfl hC1.1 hp rfl qao) rfl ⟨rfl,hC1.2⟩
section
variable {P:Program} {ops:Array Oper}
structure RIV (ops:Array Oper) (a0:Act) (C:(Nat→Value)→World→Prop) (I0:Bool→World→Prop) (ik:Bool→Nat→Bool) (F:Nat→(Nat→Value)→World→Prop) (kills:Nat→Nat→Bool) (listed:Array Bool) (a:Act) (w:World) (vals:Nat→Value):Prop where
 size:listed.size=ops.size
 tsize:a.tmps.size=a0.tmps.size
 defers:a.defers=a0.defers
 done:∀ j,listed.getD j false=true→∀ d,dstAt ops j=some d→d<a0.tmps.size→a.tmps[d]?=some (vals j)
 other:∀ t,(∀ j,listed.getD j false=true→dstAt ops j≠some t)→a.tmps[t]?=a0.tmps[t]?
 closed:∀ j,listed.getD j false=true→∀ i ∈ waitsOf ops j,listed.getD i false=true
 c:C vals w
 ini:∀ m,(∀ k,listed.getD k false=true→ik m k=false)→I0 m w
 facts:∀ j,listed.getD j false=true→(∀ k,listed.getD k false=true→k≠j→kills k j=false)→F j vals w
def StepAtV (P:Program) (ops:Array Oper) (a0:Act) (C:(Nat→Value)→World→Prop) (I0:Bool→World→Prop) (ik:Bool→Nat→Bool) (F:Nat→(Nat→Value)→World→Prop) (St:Nat→World→World→Prop) (kills:Nat→Nat→Bool) (i:Nat) (o:Oper):Prop :=
 ∀ (w:World) (vals:Nat→Value),C vals w→(∀ m,availIni ops (ik m) i=true→I0 m w)→(∀ j,availAt ops kills j i=true→F j vals w) →
  wpList P ops (fun e a' w'=>e=.normal∧∃ v,a'=(putAll ops vals (waitsOf ops i) a0).put o.dst v∧F i (upd vals i v) w'∧C (upd vals i v) w'∧St i w w') [o] (putAll ops vals (waitsOf ops i) a0) w
theorem RIV.step {a0:Act} {C:(Nat→Value)→World→Prop} {I0:Bool→World→Prop} {ik:Bool→Nat→Bool} {F:Nat→(Nat→Value)→World→Prop} {St:Nat→World→World→Prop} {kills:Nat→Nat→Bool} {Q:Exit→Act→World→Prop}
  (hok:regionOk ops=true) (hini:∀ m i,ik m i=false→∀ w w',St i w w'→I0 m w→I0 m w') (hpres:∀ i k,i<ops.size→i≠k→kills i k=false→(deepWaits ops 5 k).contains i=false→∀ vals v w w',St i w w'→F k vals w→F k (upd vals i v) w')
  (hstep:∀ i o,ops[i]?=some o→StepAtV P ops a0 C I0 ik F St kills i o)
  {listed:Array Bool} {a:Act} {w:World} {vals:Nat→Value} (h:RIV ops a0 C I0 ik F kills listed a w vals) {i:Nat} (hi:i ∈ Region.ready .any ops listed) :
  wpOp P ops Q i (fun a' w'=>∃ vals',RIV ops a0 C I0 ik F kills (listed.setIfInBounds i true) a' w' vals') a w:=by
 obtain ⟨hun,o,ho,hall⟩:=mem_ready.1 hi;have hlt:i<ops.size:=(Array.getElem?_eq_some_iff.1 ho).1;have hltl:i<listed.size:=by rw [h.size]; exact hlt
 have hunf:listed.getD i false=false:=by
  simp [hltl] at hun ⊢; exact hun
 have ok:=okAt hok ho
 have hdist:∀ i j d,i≠j→dstAt ops i=some d→dstAt ops j≠some d:=fun i j d hij hd=>by
  have hil:=qdq hd;exact (okAt hok (Array.getElem?_eq_getElem hil)).dist j (Ne.symm hij) d hd
 have hw:∀ j ∈ waitsOf ops i,listed.getD j false=true:=fun j hj=>by
  obtain ⟨e,he,hb,rfl⟩:=(qed ho).1 hj;exact hall e he hb
 obtain ⟨p1,p2,p3,p4⟩:=qbT hdist vals (waitsOf ops i) a0
 have hlook:∀ t ∈ o.looksAt ops,a.tmps[t]?=(putAll ops vals (waitsOf ops i) a0).tmps[t]?:=by
  intro t ht
  by_cases hex:∃ j,dstAt ops j=some t
  ·obtain ⟨j,hj⟩:=hex
   rcases ok.look t ht j hj with hji | hij
   ·by_cases hts:t<a0.tmps.size
    ·rw [h.done j (hw j hji) t hj hts,p3 j hji t hj hts]
    ·rw [Array.getElem?_eq_none (by rw [h.tsize]; exact Nat.le_of_not_lt hts),Array.getElem?_eq_none (by rw [p1]; exact Nat.le_of_not_lt hts)]
   ·have hjl:¬ listed.getD j false=true:=fun hj'=>by rw [h.closed j hj' i hij] at hunf; cases hunf
    rw [h.other t (fun k hk e=>by
     have:k=j:=by
      rcases Nat.decEq k j with hne | he
      ·exact absurd e (hdist j k t (Ne.symm hne) hj)
      ·exact he
     subst this; exact hjl hk)]
    rw [p4 t (fun k hk e=>by
     have:k=j:=by
      rcases Nat.decEq k j with hne | he
      ·exact absurd e (hdist j k t (Ne.symm hne) hj)
      ·exact he
     subst this; exact hjl (hw k hk))]
  ·have hno:∀ j,dstAt ops j≠some t:=fun j e=>hex ⟨j,e⟩;rw [h.other t (fun j _=>hno j),p4 t (fun j _=>hno j)]
 have heval:∀ x ∈ o.op.operands,a.eval x=(putAll ops vals (waitsOf ops i) a0).eval x:=by
  intro x hx
  cases x with
  | tmp t =>
   have:=hlook t (List.mem_append_left _ (List.mem_filterMap.2 ⟨.tmp t,by simpa using hx,rfl⟩));simp only [Act.eval,Array.getD_eq_getD_getElem?,this]
  | _=>rfl
 have hexec:execOp a.eval o=execOp (putAll ops vals (waitsOf ops i) a0).eval o:=execOp_congr o ok.sel heval
 have hwant:Region.wanted o (yielded ops a.tmps)=Region.wanted o (yielded ops (putAll ops vals (waitsOf ops i) a0).tmps):=by
  unfold Region.wanted
  cases hg:o.guard with
  | none=>rfl
  | some gw =>
   obtain ⟨g,want⟩:=gw
   have:yielded ops a.tmps g=yielded ops (putAll ops vals (waitsOf ops i) a0).tmps g:=by
    unfold yielded
    cases ht:(ops[g]?).bind (·.dst) with
    | none=>rfl
    | some t =>
     have:=hlook t (by
      refine List.mem_append_right _ ?_;simp [hg,ht])
     simp only [Option.bind_some,this]
   simp only [this]
 have havail:∀ j,availAt ops kills j i=true→F j vals w:=by
  intro j hj;simp only [availAt,Bool.and_eq_true] at hj;obtain ⟨hj1,hj2⟩:=hj;have hjl:=hw j (by simpa using hj1);refine h.facts j hjl fun k hk hkj=>?_
  have hkl:k<ops.size:=by
   rcases Nat.lt_or_ge k ops.size with h' | h'
   ·exact h'
   ·rw [← h.size] at h'; simp [Array.getElem?_eq_none h'] at hk
  have:=(List.all_eq_true.1 hj2) k (List.mem_range.2 hkl);simp only [Bool.or_eq_true,beq_iff_eq,Bool.not_eq_true'] at this
  rcases this with ((this | this) | this) | this
  ·subst this; rw [hunf] at hk; cases hk
  ·exact absurd this hkj
  ·exact this
  ·have:=qbt (L:=fun j=>listed.getD j false=true) h.closed 5 k hk i (by simpa using this);simp only [hunf] at this; cases this
 have hini0:∀ m,availIni ops (ik m) i=true→I0 m w:=by
  intro m hj2;refine h.ini m fun k hk=>?_
  have hkl:k<ops.size:=by
   rcases Nat.lt_or_ge k ops.size with h' | h'
   ·exact h'
   ·rw [← h.size] at h'; simp [Array.getElem?_eq_none h'] at hk
  have:=(List.all_eq_true.1 hj2) k (List.mem_range.2 hkl);simp only [Bool.or_eq_true,beq_iff_eq,Bool.not_eq_true'] at this
  rcases this with (this | this) | this
  ·subst this; rw [hunf] at hk; cases hk
  ·exact this
  ·have:=qbt (L:=fun j=>listed.getD j false=true) h.closed 5 k hk i (by simpa using this);simp only [hunf] at this; cases this
 have hend:∀ (v:Value) (w':World),(∃ v',(putAll ops vals (waitsOf ops i) a0).put o.dst v=(putAll ops vals (waitsOf ops i) a0).put o.dst v'∧F i (upd vals i v') w'∧C (upd vals i v') w'∧St i w w') →
   ∃ vals',RIV ops a0 C I0 ik F kills (listed.setIfInBounds i true) (a.put o.dst v) w' vals':=by
  rintro v w' ⟨v',hv,hF,hC,hSt⟩;have hdo:dstAt ops i=o.dst:=by simp [dstAt,ho]
  refine ⟨upd vals i v',⟨by simp [h.size],(qdB _ _ _).trans h.tsize,(qbD _ _ _).trans h.defers,?_,?_,?_,hC,?_,?_⟩⟩
  ·intro j hj d hd hlt'
   by_cases hji:j=i
   ·subst hji;rw [hdo] at hd;simp only [upd,if_true];rw [hd] at hv ⊢;rw [qd4 _ _ _ (by rw [h.tsize]; exact hlt')];have:=congrArg (fun a:Act=>a.tmps[d]?) hv;rw [qd4 _ _ _ (by rw [p1]; exact hlt'),qd4 _ _ _ (by rw [p1]; exact hlt')] at this;exact this
   ·simp only [upd,hji,if_false];rw [qaz _ (Ne.symm hji)] at hj;rw [qch _ _ _ _ (fun e=>hdist j i d hji hd (hdo.trans e))];exact h.done j hj d hd hlt'
  ·intro t ht;rw [qch _ _ _ _ (fun e=>ht i (qaJ _ _ hltl) (hdo.trans e))];refine h.other t fun j hj=>?_
   by_cases hji:j=i
   ·subst hji; rw [hunf] at hj; cases hj
   ·exact ht j (by rw [qaz _ (Ne.symm hji)]; exact hj)
  ·intro j hj k hk
   by_cases hki:k=i
   ·subst hki; exact qaJ _ _ hltl
   ·rw [qaz _ (Ne.symm hki)]
    by_cases hji:j=i
    ·subst hji; exact hw k hk
    ·rw [qaz _ (Ne.symm hji)] at hj;exact h.closed j hj k hk
  ·intro m hk;refine hini m i (hk i (qaJ _ _ hltl)) _ _ hSt (h.ini m fun k hk'=>hk k ?_)
   by_cases hki:k=i
   ·subst hki; exact qaJ _ _ hltl
   ·rw [qaz _ (Ne.symm hki)]; exact hk'
  ·intro j hj hk
   by_cases hji:j=i
   ·subst hji; exact hF
   ·have hj0:=hj;rw [qaz _ (Ne.symm hji)] at hj
    refine hpres i j hlt (Ne.symm hji) (hk i (qaJ _ _ hltl) (Ne.symm hji)) (by
     by_cases hc:(deepWaits ops 5 j).contains i=true
     ·have:=qbt (L:=fun j=>listed.getD j false=true) h.closed 5 j hj i (by simpa using hc);simp only [hunf] at this; cases this
     ·simpa using hc) _ _ _ _ hSt (h.facts j hj fun k hk' hkj=>?_)
    refine hk k ?_ hkj
    by_cases hki:k=i
    ·subst hki; exact qaJ _ _ hltl
    ·rw [qaz _ (Ne.symm hki)]; exact hk'
 have hs:=hstep i o ho w vals h.c hini0 havail;unfold wpOp;simp only [ho];simp only [wpList] at hs;rw [hwant]
 split
 ·rename_i hwt
  rw [if_pos hwt] at hs
  rcases hs with hs | ⟨_,a₀,w₀,hq⟩
  case inr=>exact absurd hq.1 (by simp)
  refine .inl ?_;unfold Oper.wp at *;rw [hexec];generalize (execOp (putAll ops vals (waitsOf ops i) a0).eval o).run P w=r at *
  cases r with
  | ok n w' =>
   cases n <;> simp only [Oper.upon] at hs ⊢
   case value v=>exact hend v w' hs.2
   case skip=>exact hend _ w' hs.2
   case defer d =>
    obtain ⟨_,v,hv,_⟩:=hs;have:=congrArg Act.defers hv;rw [qbD,qbD] at this;exact absurd this (by simp)
   case enter f args =>
    refine Calls.mono hs fun e w'' he=>?_
    cases e with
    | returned v=>exact hend v w'' he.2
    | panicked c=>exact absurd he.1 (by simp)
    | outgrown=>obtain ⟨_,_,hq⟩:=he; exact absurd hq.1 (by simp)
   case row row args=>exact Rows.mono hs fun v w'' he=>hend v w'' he.2
  | halt x w' =>
   cases x <;> simp only [Oper.upon] at hs ⊢
   exact absurd hs.1 (by simp)
 ·rename_i hwt
  rw [if_neg hwt] at hs;exact hend _ _ hs.2
theorem wp_region_relV {id:Nat} {a0:Act} {w0:World} {Q:Exit→Act→World→Prop} (C:(Nat→Value)→World→Prop) (I0:Bool→World→Prop) (ik:Bool→Nat→Bool) (F:Nat→(Nat→Value)→World→Prop) (St:Nat→World→World→Prop) (kills:Nat→Nat→Bool)
  (hm:P.follows .mixedOrders=true) (hok:regionOk ops=true) (hC:C (fun _=>undef) w0.drew) (hI:∀ m,I0 m w0.drew) (hini:∀ m i,ik m i=false→∀ w w',St i w w'→I0 m w→I0 m w')
  (hpres:∀ i k,i<ops.size→i≠k→kills i k=false→(deepWaits ops 5 k).contains i=false→∀ vals v w w',St i w w'→F k vals w→F k (upd vals i v) w')
  (hstep:∀ i o,ops[i]?=some o→StepAtV P ops a0 C I0 ik F St kills i o)
  (hfin:∀ w vals,C vals w→(∀ j,j<ops.size→aliveAt ops kills j=true→F j vals w)→Q .normal (putAll ops vals (List.range ops.size) a0) w) :
  (Code.region id ops true).wp P Q a0 w0:=by
 have hdist:∀ i j d,i≠j→dstAt ops i=some d→dstAt ops j≠some d:=fun i j d hij hd=>by
  have hil:=qdq hd;exact (okAt hok (Array.getElem?_eq_getElem hil)).dist j (Ne.symm hij) d hd
 have final:∀ listed a w vals,RIV ops a0 C I0 ik F kills listed a w vals→Region.ready .any ops listed=[]→Q .normal a w:=by
  intro listed a w vals h hr;have hall:∀ j,j<ops.size→listed.getD j false=true:=fun j hj=>all_listed hok h.size hr (j+1) j (by omega) hj;obtain ⟨p1,p2,p3,p4⟩:=qbT hdist vals (List.range ops.size) a0
  have ha:a=putAll ops vals (List.range ops.size) a0:=by
   have ht:a.tmps=(putAll ops vals (List.range ops.size) a0).tmps:=by
    apply Array.ext_getElem?;intro t
    by_cases hex:∃ j,dstAt ops j=some t
    ·obtain ⟨j,hj⟩:=hex;have hjl:=qdq hj
     by_cases hts:t<a0.tmps.size
     ·rw [h.done j (hall j hjl) t hj hts,p3 j (List.mem_range.2 hjl) t hj hts]
     ·rw [Array.getElem?_eq_none (by rw [h.tsize]; exact Nat.le_of_not_lt hts),Array.getElem?_eq_none (by rw [p1]; exact Nat.le_of_not_lt hts)]
    ·have hno:∀ j,dstAt ops j≠some t:=fun j e=>hex ⟨j,e⟩;rw [h.other t (fun j _=>hno j),p4 t (fun j _=>hno j)]
   have hd:a.defers=(putAll ops vals (List.range ops.size) a0).defers:=h.defers.trans p2.symm
   cases a
   simp only at ht hd;rw [ht,hd]
  rw [ha];refine hfin w vals h.c fun j hj hal=>h.facts j (hall j hj) fun k hk hkj=>?_
  have hkl:k<ops.size:=by
   rcases Nat.lt_or_ge k ops.size with h' | h'
   ·exact h'
   ·rw [← h.size] at h'; simp [Array.getElem?_eq_none h'] at hk
  have:=(List.all_eq_true.1 hal) k (List.mem_range.2 hkl)
  simpa [hkj] using this
 refine wp_region_any hm ?_
 have key:∀ (fuel:Nat) (listed:Array Bool) (a:Act) (w:World) (vals:Nat→Value),listed.toList.countP (fun b=>!b)≤fuel→RIV ops a0 C I0 ik F kills listed a w vals→wpAny P .any ops Q fuel listed a w:=by
  intro fuel
  induction fuel with
  | zero =>
   intro listed a w vals hc h
   have hr:Region.ready .any ops listed=[]:=by
    refine List.eq_nil_iff_forall_not_mem.2 fun i hi=>?_;obtain ⟨hun,o,ho,_⟩:=mem_ready.1 hi;have hlt:i<listed.size:=by rw [h.size]; exact (Array.getElem?_eq_some_iff.1 ho).1
    have h0:listed.toList.countP (fun b=>!b)=0:=by omega
    rw [List.countP_eq_zero] at h0;have:=h0 (listed[i]) (by simp);simp [hlt] at hun;simp [hun] at this
   exact ⟨hr,final listed a w vals h hr⟩
  | succ fuel ih =>
   intro listed a w vals hc h;refine ⟨fun hr=>final listed a w vals h hr,fun i hi=>?_⟩;obtain ⟨hun,o,ho,_⟩:=mem_ready.1 hi;have hlt:i<listed.size:=by rw [h.size]; exact (Array.getElem?_eq_some_iff.1 ho).1
   refine wpOp_mono (fun a' w' ⟨vals',h'⟩=>ih _ _ _ vals' (count_set hlt (by simp [hlt] at hun ⊢; exact hun) hc) h') (h.step (Q:=Q) hok hini hpres hstep hi)
 refine key _ _ _ _ (fun _=>undef) ?_ ⟨by simp,rfl,rfl,?_,?_,?_,hC,fun m _=>hI m,?_⟩
 ·have:=List.countP_le_length (p:=fun b:Bool=>!b) (l:=(Array.replicate ops.size false).toList)
  simpa using this
 ·intro j hj; simp [Array.getElem?_replicate] at hj; split at hj <;> simp at hj
 ·intro t _; rfl
 ·intro j hj; simp [Array.getElem?_replicate] at hj; split at hj <;> simp at hj
 ·intro j hj; simp [Array.getElem?_replicate] at hj; split at hj <;> simp at hj
theorem qcd {id:Nat} {l:List Oper} {a0:Act} {w0:World} {Q:Exit→Act→World→Prop} (C:(Nat→Value)→World→Prop) (I0:Bool→World→Prop) (ik:Bool→Nat→Bool) (Fs:List ((Nat→Value)→World→Prop)) (Sts:List (World→World→Prop)) (kills:Nat→Nat→Bool) (ps:List (Nat × Option Tmp))
  (hm:P.follows .mixedOrders=true) (hok:regionOk l.toArray=true) (hlen:Sts.length=l.length) (hps:∀ vals,putAll l.toArray vals (List.range l.toArray.size) a0=puts vals ps a0) (hC:C (fun _=>undef) w0.drew) (hI:∀ m,I0 m w0.drew) (hini:∀ m,IniL (ik m) (I0 m) 0 Sts)
  (hpres:KeepsL kills (fun i k=>(deepWaits l.toArray 5 k).contains i) Fs 0 Sts)
  (hstep:StepsL (StepAtV P l.toArray a0 C I0 ik (fct Fs) (stp Sts) kills) 0 l)
  (hfin:∀ w vals,C vals w→(∀ j,j<l.toArray.size→aliveAt l.toArray kills j=true→fct Fs j vals w)→Q .normal (puts vals ps a0) w) :
  (Code.region id l.toArray true).wp P Q a0 w0 :=
 wp_region_relV C I0 ik (fct Fs) (stp Sts) kills hm hok hC hI (fun m i hi w w' hS h=>by
   have:=qei (hini m) i (by simpa using hi) w w' hS;exact this h)
  (fun i k hil hik hk hs vals v w w' hS hf=>by
   have:=qcL hpres i k (by simpa using hik) (by simpa using hk) (by simpa using hs) (by rw [hlen]; simpa using hil) vals v w w' hS;rw [Nat.zero_add] at this;exact this hf)
  (fun i o ho=>by
   have:=qcF hstep i o (by simpa using ho)
   simpa using this)
  (fun w vals hc hf=>by rw [hps]; exact hfin w vals hc hf)
theorem qay {a0:Act} {C:(Nat→Value)→World→Prop} {I0:Bool→World→Prop} {ik:Bool→Nat→Bool} {F:Nat→(Nat→Value)→World→Prop} {St:Nat→World→World→Prop} {kills:Nat→Nat→Bool} {i:Nat} {o:Oper} (ps:List (Nat × Option Tmp))
  (hps:∀ vals,putAll ops vals (waitsOf ops i) a0=puts vals ps a0) (hg:o.guard=none)
  (h:∀ w vals,C vals w→(∀ m,availIni ops (ik m) i=true→I0 m w)→(∀ j,availAt ops kills j i=true→F j vals w) →
   ∀ E:Act→World→Prop,(∀ v w',F i (upd vals i v) w'→C (upd vals i v) w'→St i w w'→E ((puts vals ps a0).put o.dst v) w')→wpList P #[] (EndOf E) [o] (puts vals ps a0) w) :
  StepAtV P ops a0 C I0 ik F St kills i o:=by
 intro w vals hc h0 hf;have h1:=h w vals hc h0 hf (fun a' w'=>∃ v,a'=(puts vals ps a0).put o.dst v∧F i (upd vals i v) w'∧C (upd vals i v) w'∧St i w w') fun v w' h1 h2 h3=>⟨v,rfl,h1,h2,h3⟩;rw [hps];show wpList P ops (EndOf fun a' w'=>∃ v,a'=(puts vals ps a0).put o.dst v∧F i (upd vals i v) w'∧C (upd vals i v) w'∧St i w w') [o] (puts vals ps a0) w;have hw:∀ (O:Array Oper) (t:Array Value),Region.wanted o (yielded O t)=true:=fun O t=>by simp [Region.wanted,hg]
 simp only [wpList,hw,if_true] at h1 ⊢;exact h1
end
def LtV (v:Value) (w:World):Prop:=v=undef∨∃ o,v=.pointer (some ⟨o,0,none⟩)∧o<w.heap.size
structure C2 (ws:World) (i j:Nat) (vals:Nat→Value) (u:World):Prop where
 bel:Below ws.heap.size ws u
 lti:LtV (vals i) u
 ltj:LtV (vals j) u
 ne:vals i=undef∨vals j=undef∨vals i≠vals j
theorem LtV.mono {v:Value} {u u':World} (h:LtV v u) (hs:u.heap.size≤u'.heap.size):LtV v u':=by
 rcases h with h | ⟨o,h1,h2⟩
 ·exact .inl h
 ·exact .inr ⟨o,h1,Nat.lt_of_lt_of_le h2 hs⟩
theorem C2.init {ws u:World} {i j:Nat} (h:Below ws.heap.size ws u):C2 ws i j (fun _=>undef) u:=⟨h,.inl rfl,.inl rfl,.inl rfl⟩
theorem C2.other {ws u u':World} {i j k:Nat} {v:Value} {vals:Nat→Value} (h:C2 ws i j vals u) (hi:i≠k) (hj:j≠k) (hb:Below ws.heap.size ws u') (hs:u.heap.size≤u'.heap.size):C2 ws i j (upd vals k v) u':=by
 have e1:upd vals k v i=vals i:=if_neg hi;have e2:upd vals k v j=vals j:=if_neg hj;exact ⟨hb,by rw [e1]; exact h.lti.mono hs,by rw [e2]; exact h.ltj.mono hs,by rw [e1,e2]; exact h.ne⟩
theorem C2.same {ws u:World} {i j k:Nat} {v:Value} {vals:Nat→Value} (h:C2 ws i j vals u) (hi:i≠k) (hj:j≠k):C2 ws i j (upd vals k v) u:=h.other hi hj h.bel (Nat.le_refl _)
theorem C2.setI {ws u u':World} {i j:Nat} {vals:Nat→Value} (h:C2 ws i j vals u) (hij:j≠i) (hb:Below ws.heap.size ws u') (hs:u.heap.size<u'.heap.size):C2 ws i j (upd vals i (.pointer (some ⟨u.heap.size,0,none⟩))) u':=by
 have e1:upd vals i (.pointer (some ⟨u.heap.size,0,none⟩)) i=.pointer (some ⟨u.heap.size,0,none⟩):=if_pos rfl;have e2:upd vals i (.pointer (some ⟨u.heap.size,0,none⟩)) j=vals j:=if_neg hij;refine ⟨hb,by rw [e1]; exact .inr ⟨_,rfl,hs⟩,by rw [e2]; exact h.ltj.mono (Nat.le_of_lt hs),?_⟩;rw [e1,e2]
 rcases h.ltj with h1 | ⟨o,h1,h2⟩
 ·exact .inr (.inl h1)
 ·refine .inr (.inr ?_);rw [h1];intro e
  injection e with e
  injection e with e
  injection e with e
  omega
theorem C2.setJ {ws u u':World} {i j:Nat} {vals:Nat→Value} (h:C2 ws i j vals u) (hij:i≠j) (hb:Below ws.heap.size ws u') (hs:u.heap.size<u'.heap.size):C2 ws i j (upd vals j (.pointer (some ⟨u.heap.size,0,none⟩))) u':=by
 have e1:upd vals j (.pointer (some ⟨u.heap.size,0,none⟩)) j=.pointer (some ⟨u.heap.size,0,none⟩):=if_pos rfl;have e2:upd vals j (.pointer (some ⟨u.heap.size,0,none⟩)) i=vals i:=if_neg hij;refine ⟨hb,by rw [e2]; exact h.lti.mono (Nat.le_of_lt hs),by rw [e1]; exact .inr ⟨_,rfl,hs⟩,?_⟩;rw [e1,e2]
 rcases h.lti with h1 | ⟨o,h1,h2⟩
 ·exact .inl h1
 ·refine .inr (.inr ?_);rw [h1];intro e
  injection e with e
  injection e with e
  injection e with e
  omega
theorem C2.apart {ws u:World} {i j:Nat} {vals:Nat→Value} (h:C2 ws i j vals u) {o p:Nat} (h1:vals i=.pointer (some ⟨o,0,none⟩)) (h2:vals j=.pointer (some ⟨p,0,none⟩)):o≠p:=by
 rintro rfl
 rcases h.ne with e | e | e
 ·rw [h1] at e; cases e
 ·rw [h2] at e; cases e
 ·exact e (h1.trans h2.symm)
set_option maxHeartbeats 8000000 in
theorem sum_any (p q:Pt4) (tw:E5) (w:World) (hkp:p.Ok) (hkq:q.Ok) (hkw:tw.Ok):Calls Tryz.prog 61 #[.agg (ptV p),.agg (ptV q),.agg (eV tw)] w (PtPost (sumP p q tw) w):=by
 have hu:=Tryz.underlying46;have hp:=Tryz.underlying48;have KP:=zY hkp;have KQ:=zY hkq;have KW:=zY hkw;obtain ⟨w0,hw0⟩:=eX ((((w.alloc (.cells (ptV p) 48)).alloc (.cells (ptV q) 48)).alloc (.cells (eV tw) 46)).alloc (.cells (ptV zP) 48))
 have hst:Cs [.box w.heap.size 48 (ptV p),.box (w.heap.size+1) 48 (ptV q),.box (w.heap.size+1+1) 46 (eV tw),.box (w.heap.size+1+1+1) 48 (ptV zP)] w w0:=by
  rw [hw0];exact ⟨⟨(((Blk.new _ _ _).alloc _).alloc _).alloc _,((Blk.newAt (by simp)).alloc _).alloc _,(Blk.newAt (by simp)).alloc _,Blk.newAt (by simp),trivial⟩,(((below_new _ _).alloc (by simp) _).alloc (by simp; try omega) _).alloc (by simp; try omega) _⟩
 have HLR:=zY (show w.heap.size≤w.heap.size+1+1+1 by omega);clear hkp hkq hkw;have HW:=zY hw0;have HST0:=zY hst;clear hw0 hst;go_enter Tryz.func61,Tryz.ntmps61;go_wp2_with fail;show Code.wp Tryz.prog _ _ _ ((((w.alloc (.cells (ptV p) _)).alloc (.cells (ptV q) _)).alloc (.cells (eV tw) _)).alloc (.cells (ptV zP) _));rw [← HW.out];generalize w.heap.size+1+1+1=r at *;generalize w.heap.size+1+1=gw at *;generalize w.heap.size+1=gq at *;generalize hgp:w.heap.size=gp at HST0 ⊢;clear HW hgp;have HC0:Below w0.heap.size w0 w0.drew:=(Below.refl _ _).drew
 refine qar (fun u=>Below w0.heap.size w0 u) (fun | false=>(fun _=>True) | true=>(fun _=>True)) (fun | false,_=>false | true,_=>false)
  [fun z _=>z 0=.pointer (some ⟨gp,5,none⟩),
   fun z _=>z 1=.agg (eV (p.y)),
   fun z _=>z 2=.pointer (some ⟨gp,0,none⟩),
   fun z _=>z 3=.agg (eV (p.x)),
   fun z _=>z 4=.agg (eV (subE (p.y) (p.x))),
   fun z _=>z 5=.pointer (some ⟨gq,5,none⟩),
   fun z _=>z 6=.agg (eV (q.y)),
   fun z _=>z 7=.pointer (some ⟨gq,0,none⟩),
   fun z _=>z 8=.agg (eV (q.x)),
   fun z _=>z 9=.agg (eV (subE (q.y) (q.x))),
   fun z _=>z 10=.agg (eV (mulE (subE (p.y) (p.x)) (subE (q.y) (q.x)))),
   fun z u=>(NewBox w0.heap.size 46 (eV zE)) (z 11) u,
   fun z u=>NewBox w0.heap.size 46 (eV (mulE (subE (p.y) (p.x)) (subE (q.y) (q.x)))) (z 11) u]
  [Eq,Eq,Eq,Eq,fun u u'=>Below u.heap.size u u',Eq,Eq,Eq,Eq,fun u u'=>Below u.heap.size u u',fun u u'=>Below u.heap.size u u',fun u u'=>Below u.heap.size u u',fun _ _=>True]
  (fun i k=>(i == 12 && k == 11)) [(0,some 15),(1,some 16),(2,some 17),(3,some 18),(4,some 19),(5,some 20),(6,some 21),(7,some 22),(8,some 23),(9,some 24),(10,some 25),(11,some 7),(12,none)] (by kernel_rfl) (by kernel_rfl) rfl (fun _=>rfl) ?_ ?_ ?_ ?_ ?_ ?_
 ·exact HC0
 ·intro m; cases m; exact trivial; exact trivial
 ·intro m; cases m
  ·refine ⟨?_,?_,?_,?_,?_,?_,?_,?_,?_,?_,?_,?_,?_,trivial⟩ <;> first | exact .inr fun _ _ h h0=>h▸h0 | exact .inr fun _ _ _ h=>h
  ·refine ⟨?_,?_,?_,?_,?_,?_,?_,?_,?_,?_,?_,?_,?_,trivial⟩ <;> first | exact .inr fun _ _ h h0=>h▸h0 | exact .inr fun _ _ _ h=>h
 ·refine ⟨⟨.inl rfl,?_,?_,?_,?_,?_,?_,?_,?_,?_,?_,?_,?_,trivial⟩,⟨?_,.inl rfl,?_,?_,?_,?_,?_,?_,?_,?_,?_,?_,?_,trivial⟩,⟨?_,?_,.inl rfl,?_,?_,?_,?_,?_,?_,?_,?_,?_,?_,trivial⟩,⟨?_,?_,?_,.inl rfl,?_,?_,?_,?_,?_,?_,?_,?_,?_,trivial⟩,⟨?_,?_,?_,?_,.inl rfl,?_,?_,?_,?_,?_,?_,.inr (.inr (.inr (fun _ _ _ _ h h0=>h0.next h))),?_,trivial⟩,⟨?_,?_,?_,?_,?_,.inl rfl,?_,?_,?_,?_,?_,?_,?_,trivial⟩,⟨?_,?_,?_,?_,?_,?_,.inl rfl,?_,?_,?_,?_,?_,?_,trivial⟩,⟨?_,?_,?_,?_,?_,?_,?_,.inl rfl,?_,?_,?_,?_,?_,trivial⟩,⟨?_,?_,?_,?_,?_,?_,?_,?_,.inl rfl,?_,?_,?_,?_,trivial⟩,⟨?_,?_,?_,?_,?_,?_,?_,?_,?_,.inl rfl,?_,.inr (.inr (.inr (fun _ _ _ _ h h0=>h0.next h))),?_,trivial⟩,⟨?_,?_,?_,?_,?_,?_,?_,?_,?_,?_,.inl rfl,.inr (.inr (.inr (fun _ _ _ _ h h0=>h0.next h))),?_,trivial⟩,⟨?_,?_,?_,?_,?_,?_,?_,?_,?_,?_,?_,.inl rfl,?_,trivial⟩,⟨?_,?_,?_,?_,?_,?_,?_,?_,?_,?_,?_,.inr (.inl rfl),.inl rfl,trivial⟩,trivial⟩ <;> first | exact .inr (.inr (.inl rfl)) | exact .inr (.inr (.inr fun _ _ _ _ _ h=>h)) | exact .inr (.inr (.inr fun _ _ _ _ h h0=>by cases h; exact h0))
 ·refine ⟨?_,?_,?_,?_,?_,?_,?_,?_,?_,?_,?_,?_,?_,trivial⟩
  ·refine qac [] (fun _=>rfl) rfl ?_;intro w1 vals hC1 hi0 hf E hE;clear hi0;clear hf;simp only [sP] at hE ⊢;go_wp2;exact .mk (hE _ _ rfl hC1 rfl)
  ·refine qac [(0,some 15)] (fun _=>rfl) rfl ?_;intro w1 vals hC1 hi0 hf E hE;clear hi0;have f0:vals 0=_:=hf 0 rfl
   try dsimp only at f0
   clear hf;have hs:=HST0.out.next hC1;simp only [sP,f0] at hE ⊢;clear f0;refine qan (n:=5) (r:=eV (p.y)) (hs.1.1) (by rw [qaV]; decide) rfl rfl rfl rfl hu rfl qag ?_;go_wp2_with fail;exact .mk (hE _ _ rfl hC1 rfl)
  ·refine qac [] (fun _=>rfl) rfl ?_;intro w1 vals hC1 hi0 hf E hE;clear hi0;clear hf;simp only [sP] at hE ⊢;go_wp2;exact .mk (hE _ _ rfl hC1 rfl)
  ·refine qac [(2,some 17)] (fun _=>rfl) rfl ?_;intro w1 vals hC1 hi0 hf E hE;clear hi0;have f2:vals 2=_:=hf 2 rfl
   try dsimp only at f2
   clear hf;have hs:=HST0.out.next hC1;simp only [sP,f2] at hE ⊢;clear f2;refine qan (n:=5) (r:=eV (p.x)) (hs.1.1) (by rw [qaV]; decide) rfl rfl rfl rfl hu rfl qag ?_;go_wp2_with fail;exact .mk (hE _ _ rfl hC1 rfl)
  ·refine qac [(1,some 16),(3,some 18)] (fun _=>rfl) rfl ?_;intro w1 vals hC1 hi0 hf E hE;clear hi0;have f1:vals 1=_:=hf 1 rfl;have f3:vals 3=_:=hf 3 rfl
   try dsimp only at f1 f3
   clear hf;simp only [sP,f1,f3] at hE ⊢;clear f1 f3;go_wp2_with fail;refine qaa (sub_c _ _ _ (KP.out.y) (KP.out.x)) ?_;rintro e w2 ⟨rfl,hb2⟩;go_wp2_with fail;exact .mk (hE _ _ rfl (hC1.trans (hb2.mono hC1.size)) hb2)
  ·refine qac [] (fun _=>rfl) rfl ?_;intro w1 vals hC1 hi0 hf E hE;clear hi0;clear hf;simp only [sP] at hE ⊢;go_wp2;exact .mk (hE _ _ rfl hC1 rfl)
  ·refine qac [(5,some 20)] (fun _=>rfl) rfl ?_;intro w1 vals hC1 hi0 hf E hE;clear hi0;have f5:vals 5=_:=hf 5 rfl
   try dsimp only at f5
   clear hf;have hs:=HST0.out.next hC1;simp only [sP,f5] at hE ⊢;clear f5;refine qan (n:=5) (r:=eV (q.y)) (hs.1.2.1) (by rw [qaV]; decide) rfl rfl rfl rfl hu rfl qag ?_;go_wp2_with fail;exact .mk (hE _ _ rfl hC1 rfl)
  ·refine qac [] (fun _=>rfl) rfl ?_;intro w1 vals hC1 hi0 hf E hE;clear hi0;clear hf;simp only [sP] at hE ⊢;go_wp2;exact .mk (hE _ _ rfl hC1 rfl)
  ·refine qac [(7,some 22)] (fun _=>rfl) rfl ?_;intro w1 vals hC1 hi0 hf E hE;clear hi0;have f7:vals 7=_:=hf 7 rfl
   try dsimp only at f7
   clear hf;have hs:=HST0.out.next hC1;simp only [sP,f7] at hE ⊢;clear f7;refine qan (n:=5) (r:=eV (q.x)) (hs.1.2.1) (by rw [qaV]; decide) rfl rfl rfl rfl hu rfl qag ?_;go_wp2_with fail;exact .mk (hE _ _ rfl hC1 rfl)
  ·refine qac [(6,some 21),(8,some 23),(4,some 19)] (fun _=>rfl) rfl ?_;intro w1 vals hC1 hi0 hf E hE;clear hi0;have f4:vals 4=_:=hf 4 rfl;have f6:vals 6=_:=hf 6 rfl;have f8:vals 8=_:=hf 8 rfl
   try dsimp only at f4 f6 f8
   clear hf;simp only [sP,f4,f6,f8] at hE ⊢;clear f4 f6 f8;go_wp2_with fail;refine qaa (sub_c _ _ _ (KQ.out.y) (KQ.out.x)) ?_;rintro e w2 ⟨rfl,hb2⟩;go_wp2_with fail;exact .mk (hE _ _ rfl (hC1.trans (hb2.mono hC1.size)) hb2)
  ·refine qac [(4,some 19),(9,some 24),(9,some 24)] (fun _=>rfl) rfl ?_;intro w1 vals hC1 hi0 hf E hE;clear hi0;have f4:vals 4=_:=hf 4 rfl;have f9:vals 9=_:=hf 9 rfl
   try dsimp only at f4 f9
   clear hf;simp only [sP,f4,f9] at hE ⊢;clear f4 f9;go_wp2_with fail;refine qaa (mul_c _ _ _ (qbb (KP.out.y) (KP.out.x)) (qbb (KQ.out.y) (KQ.out.x))) ?_;rintro e w2 ⟨rfl,hb2⟩;go_wp2_with fail;exact .mk (hE _ _ rfl (hC1.trans (hb2.mono hC1.size)) hb2)
  ·refine qac [] (fun _=>rfl) rfl ?_;intro w1 vals hC1 hi0 hf E hE;clear hi0;clear hf;simp only [sP] at hE ⊢;go_wp2;exact .mk (hE _ _ (NewBox.of hC1.size) (hC1.alloc hC1.size _) (below_new _ _))
  ·refine qac [(11,some 7),(10,some 25),(10,some 25),(0,some 15),(1,some 16),(2,some 17),(3,some 18),(4,some 19),(5,some 20),(6,some 21),(7,some 22),(8,some 23),(9,some 24),(10,some 25),(11,some 7)] (fun _=>rfl) rfl ?_;intro w1 vals hC1 hi0 hf E hE;clear hi0;have f0:vals 0=_:=hf 0 rfl;have f1:vals 1=_:=hf 1 rfl;have f2:vals 2=_:=hf 2 rfl;have f3:vals 3=_:=hf 3 rfl;have f4:vals 4=_:=hf 4 rfl;have f5:vals 5=_:=hf 5 rfl;have f6:vals 6=_:=hf 6 rfl;have f7:vals 7=_:=hf 7 rfl;have f8:vals 8=_:=hf 8 rfl;have f9:vals 9=_:=hf 9 rfl;have f10:vals 10=_:=hf 10 rfl;have f11:(NewBox w0.heap.size 46 (eV zE)) (vals 11) w1:=hf 11 rfl
   try dsimp only at f0 f1 f2 f3 f4 f5 f6 f7 f8 f9 f10 f11
   clear hf;obtain ⟨o,hx,ho,hblk⟩:=f11;have hx':=hx;simp only [sP,f0,f1,f2,f3,f4,f5,f6,f7,f8,f9,f10,hx] at hE ⊢;clear f0 f1 f2 f3 f4 f5 f6 f7 f8 f9 f10;clear hx;refine qaf (cells:=eV (mulE (subE (p.y) (p.x)) (subE (q.y) (q.x)))) hblk rfl rfl rfl rfl qag rfl (by simp [eV,ptV,wV,limbs,Value.oneCell']) ?_;intro w2 hb2 hw2;go_wp2_with fail;exact .mk (hE undef _ ⟨o,hx',ho,hb2⟩ (hw2.below hC1 ho hC1.size) trivial)
 intro w1 vals hC1 hf;have f0:vals 0=_:=hf 0 (by decide) rfl;have f1:vals 1=_:=hf 1 (by decide) rfl;have f2:vals 2=_:=hf 2 (by decide) rfl;have f3:vals 3=_:=hf 3 (by decide) rfl;have f4:vals 4=_:=hf 4 (by decide) rfl;have f5:vals 5=_:=hf 5 (by decide) rfl;have f6:vals 6=_:=hf 6 (by decide) rfl;have f7:vals 7=_:=hf 7 (by decide) rfl;have f8:vals 8=_:=hf 8 (by decide) rfl;have f9:vals 9=_:=hf 9 (by decide) rfl;have f10:vals 10=_:=hf 10 (by decide) rfl;have f12:(fun z u=>NewBox w0.heap.size 46 (eV (mulE (subE (p.y) (p.x)) (subE (q.y) (q.x)))) (z 11) u) vals w1:=hf 12 (by decide) rfl
 try dsimp only at f0 f1 f2 f3 f4 f5 f6 f7 f8 f9 f10 f12
 clear hf;simp only [sP,f0,f1,f2,f3,f4,f5,f6,f7,f8,f9,f10];clear f0 f1 f2 f3 f4 f5 f6 f7 f8 f9 f10;generalize vals 11=x11 at *;obtain ⟨o1,rfl,hlo1,hblk1⟩:=f12;obtain ⟨a,ha⟩:=eX (mulE (subE (p.y) (p.x)) (subE (q.y) (q.x)));rw [← ha] at hblk1;have Ka:=zY (show a.Ok by rw [ha]; exact qax (qbb (KP.out.y) (KP.out.x)) (qbb (KQ.out.y) (KQ.out.x)));have Ea:=zY ha;have HST1:=zY (show Cs (.box o1 46 (eV a) :: [.box gp 48 (ptV p),.box gq 48 (ptV q),.box gw 46 (eV tw),.box r 48 (ptV zP)]) w w1 from ⟨⟨hblk1,(HST0.out.next hC1).1⟩,(HST0.out.next hC1).2⟩);clear hC1 HC0 HST0 hblk1 hlo1 ha;obtain ⟨v1,rfl⟩:=eX w1;go_wp2_with fail;have HC0:Below v1.heap.size v1 v1.drew:=(Below.refl _ _).drew
 refine qar (fun u=>Below v1.heap.size v1 u) (fun | false=>(fun _=>True) | true=>(fun _=>True)) (fun | false,_=>false | true,_=>false)
  [fun z _=>z 0=.pointer (some ⟨gp,5,none⟩),
   fun z _=>z 1=.agg (eV (p.y)),
   fun z _=>z 2=.pointer (some ⟨gp,0,none⟩),
   fun z _=>z 3=.agg (eV (p.x)),
   fun z _=>z 4=.agg (eV (addE (p.y) (p.x))),
   fun z _=>z 5=.pointer (some ⟨gq,5,none⟩),
   fun z _=>z 6=.agg (eV (q.y)),
   fun z _=>z 7=.pointer (some ⟨gq,0,none⟩),
   fun z _=>z 8=.agg (eV (q.x)),
   fun z _=>z 9=.agg (eV (addE (q.y) (q.x))),
   fun z _=>z 10=.agg (eV (mulE (addE (p.y) (p.x)) (addE (q.y) (q.x)))),
   fun z u=>(NewBox v1.heap.size 46 (eV zE)) (z 11) u,
   fun z u=>NewBox v1.heap.size 46 (eV (mulE (addE (p.y) (p.x)) (addE (q.y) (q.x)))) (z 11) u]
  [Eq,Eq,Eq,Eq,fun u u'=>Below u.heap.size u u',Eq,Eq,Eq,Eq,fun u u'=>Below u.heap.size u u',fun u u'=>Below u.heap.size u u',fun u u'=>Below u.heap.size u u',fun _ _=>True]
  (fun i k=>(i == 12 && k == 11)) [(0,some 26),(1,some 27),(2,some 28),(3,some 29),(4,some 30),(5,some 31),(6,some 32),(7,some 33),(8,some 34),(9,some 35),(10,some 36),(11,some 8),(12,none)] (by kernel_rfl) (by kernel_rfl) rfl (fun _=>rfl) ?_ ?_ ?_ ?_ ?_ ?_
 ·exact HC0
 ·intro m; cases m; exact trivial; exact trivial
 ·intro m; cases m
  ·refine ⟨?_,?_,?_,?_,?_,?_,?_,?_,?_,?_,?_,?_,?_,trivial⟩ <;> first | exact .inr fun _ _ h h0=>h▸h0 | exact .inr fun _ _ _ h=>h
  ·refine ⟨?_,?_,?_,?_,?_,?_,?_,?_,?_,?_,?_,?_,?_,trivial⟩ <;> first | exact .inr fun _ _ h h0=>h▸h0 | exact .inr fun _ _ _ h=>h
 ·refine ⟨⟨.inl rfl,?_,?_,?_,?_,?_,?_,?_,?_,?_,?_,?_,?_,trivial⟩,⟨?_,.inl rfl,?_,?_,?_,?_,?_,?_,?_,?_,?_,?_,?_,trivial⟩,⟨?_,?_,.inl rfl,?_,?_,?_,?_,?_,?_,?_,?_,?_,?_,trivial⟩,⟨?_,?_,?_,.inl rfl,?_,?_,?_,?_,?_,?_,?_,?_,?_,trivial⟩,⟨?_,?_,?_,?_,.inl rfl,?_,?_,?_,?_,?_,?_,.inr (.inr (.inr (fun _ _ _ _ h h0=>h0.next h))),?_,trivial⟩,⟨?_,?_,?_,?_,?_,.inl rfl,?_,?_,?_,?_,?_,?_,?_,trivial⟩,⟨?_,?_,?_,?_,?_,?_,.inl rfl,?_,?_,?_,?_,?_,?_,trivial⟩,⟨?_,?_,?_,?_,?_,?_,?_,.inl rfl,?_,?_,?_,?_,?_,trivial⟩,⟨?_,?_,?_,?_,?_,?_,?_,?_,.inl rfl,?_,?_,?_,?_,trivial⟩,⟨?_,?_,?_,?_,?_,?_,?_,?_,?_,.inl rfl,?_,.inr (.inr (.inr (fun _ _ _ _ h h0=>h0.next h))),?_,trivial⟩,⟨?_,?_,?_,?_,?_,?_,?_,?_,?_,?_,.inl rfl,.inr (.inr (.inr (fun _ _ _ _ h h0=>h0.next h))),?_,trivial⟩,⟨?_,?_,?_,?_,?_,?_,?_,?_,?_,?_,?_,.inl rfl,?_,trivial⟩,⟨?_,?_,?_,?_,?_,?_,?_,?_,?_,?_,?_,.inr (.inl rfl),.inl rfl,trivial⟩,trivial⟩ <;> first | exact .inr (.inr (.inl rfl)) | exact .inr (.inr (.inr fun _ _ _ _ _ h=>h)) | exact .inr (.inr (.inr fun _ _ _ _ h h0=>by cases h; exact h0))
 ·refine ⟨?_,?_,?_,?_,?_,?_,?_,?_,?_,?_,?_,?_,?_,trivial⟩
  ·refine qac [] (fun _=>rfl) rfl ?_;intro w1 vals hC1 hi0 hf E hE;clear hi0;clear hf;simp only [sP] at hE ⊢;go_wp2;exact .mk (hE _ _ rfl hC1 rfl)
  ·refine qac [(0,some 26)] (fun _=>rfl) rfl ?_;intro w1 vals hC1 hi0 hf E hE;clear hi0;have f0:vals 0=_:=hf 0 rfl
   try dsimp only at f0
   clear hf;have hs:=HST1.out.next hC1;simp only [sP,f0] at hE ⊢;clear f0;refine qan (n:=5) (r:=eV (p.y)) (hs.1.2.1) (by rw [qaV]; decide) rfl rfl rfl rfl hu rfl qag ?_;go_wp2_with fail;exact .mk (hE _ _ rfl hC1 rfl)
  ·refine qac [] (fun _=>rfl) rfl ?_;intro w1 vals hC1 hi0 hf E hE;clear hi0;clear hf;simp only [sP] at hE ⊢;go_wp2;exact .mk (hE _ _ rfl hC1 rfl)
  ·refine qac [(2,some 28)] (fun _=>rfl) rfl ?_;intro w1 vals hC1 hi0 hf E hE;clear hi0;have f2:vals 2=_:=hf 2 rfl
   try dsimp only at f2
   clear hf;have hs:=HST1.out.next hC1;simp only [sP,f2] at hE ⊢;clear f2;refine qan (n:=5) (r:=eV (p.x)) (hs.1.2.1) (by rw [qaV]; decide) rfl rfl rfl rfl hu rfl qag ?_;go_wp2_with fail;exact .mk (hE _ _ rfl hC1 rfl)
  ·refine qac [(1,some 27),(3,some 29)] (fun _=>rfl) rfl ?_;intro w1 vals hC1 hi0 hf E hE;clear hi0;have f1:vals 1=_:=hf 1 rfl;have f3:vals 3=_:=hf 3 rfl
   try dsimp only at f1 f3
   clear hf;simp only [sP,f1,f3] at hE ⊢;clear f1 f3;go_wp2_with fail;refine qaa (add_c _ _ _ (KP.out.y) (KP.out.x)) ?_;rintro e w2 ⟨rfl,hb2⟩;go_wp2_with fail;exact .mk (hE _ _ rfl (hC1.trans (hb2.mono hC1.size)) hb2)
  ·refine qac [] (fun _=>rfl) rfl ?_;intro w1 vals hC1 hi0 hf E hE;clear hi0;clear hf;simp only [sP] at hE ⊢;go_wp2;exact .mk (hE _ _ rfl hC1 rfl)
  ·refine qac [(5,some 31)] (fun _=>rfl) rfl ?_;intro w1 vals hC1 hi0 hf E hE;clear hi0;have f5:vals 5=_:=hf 5 rfl
   try dsimp only at f5
   clear hf;have hs:=HST1.out.next hC1;simp only [sP,f5] at hE ⊢;clear f5;refine qan (n:=5) (r:=eV (q.y)) (hs.1.2.2.1) (by rw [qaV]; decide) rfl rfl rfl rfl hu rfl qag ?_;go_wp2_with fail;exact .mk (hE _ _ rfl hC1 rfl)
  ·refine qac [] (fun _=>rfl) rfl ?_;intro w1 vals hC1 hi0 hf E hE;clear hi0;clear hf;simp only [sP] at hE ⊢;go_wp2;exact .mk (hE _ _ rfl hC1 rfl)
  ·refine qac [(7,some 33)] (fun _=>rfl) rfl ?_;intro w1 vals hC1 hi0 hf E hE;clear hi0;have f7:vals 7=_:=hf 7 rfl
   try dsimp only at f7
   clear hf;have hs:=HST1.out.next hC1;simp only [sP,f7] at hE ⊢;clear f7;refine qan (n:=5) (r:=eV (q.x)) (hs.1.2.2.1) (by rw [qaV]; decide) rfl rfl rfl rfl hu rfl qag ?_;go_wp2_with fail;exact .mk (hE _ _ rfl hC1 rfl)
  ·refine qac [(6,some 32),(8,some 34),(4,some 30)] (fun _=>rfl) rfl ?_;intro w1 vals hC1 hi0 hf E hE;clear hi0;have f4:vals 4=_:=hf 4 rfl;have f6:vals 6=_:=hf 6 rfl;have f8:vals 8=_:=hf 8 rfl
   try dsimp only at f4 f6 f8
   clear hf;simp only [sP,f4,f6,f8] at hE ⊢;clear f4 f6 f8;go_wp2_with fail;refine qaa (add_c _ _ _ (KQ.out.y) (KQ.out.x)) ?_;rintro e w2 ⟨rfl,hb2⟩;go_wp2_with fail;exact .mk (hE _ _ rfl (hC1.trans (hb2.mono hC1.size)) hb2)
  ·refine qac [(4,some 30),(9,some 35),(9,some 35)] (fun _=>rfl) rfl ?_;intro w1 vals hC1 hi0 hf E hE;clear hi0;have f4:vals 4=_:=hf 4 rfl;have f9:vals 9=_:=hf 9 rfl
   try dsimp only at f4 f9
   clear hf;simp only [sP,f4,f9] at hE ⊢;clear f4 f9;go_wp2_with fail;refine qaa (mul_c _ _ _ (qbk (KP.out.y) (KP.out.x)) (qbk (KQ.out.y) (KQ.out.x))) ?_;rintro e w2 ⟨rfl,hb2⟩;go_wp2_with fail;exact .mk (hE _ _ rfl (hC1.trans (hb2.mono hC1.size)) hb2)
  ·refine qac [] (fun _=>rfl) rfl ?_;intro w1 vals hC1 hi0 hf E hE;clear hi0;clear hf;simp only [sP] at hE ⊢;go_wp2;exact .mk (hE _ _ (NewBox.of hC1.size) (hC1.alloc hC1.size _) (below_new _ _))
  ·refine qac [(11,some 8),(10,some 36),(10,some 36),(0,some 26),(1,some 27),(2,some 28),(3,some 29),(4,some 30),(5,some 31),(6,some 32),(7,some 33),(8,some 34),(9,some 35),(10,some 36),(11,some 8)] (fun _=>rfl) rfl ?_;intro w1 vals hC1 hi0 hf E hE;clear hi0;have f0:vals 0=_:=hf 0 rfl;have f1:vals 1=_:=hf 1 rfl;have f2:vals 2=_:=hf 2 rfl;have f3:vals 3=_:=hf 3 rfl;have f4:vals 4=_:=hf 4 rfl;have f5:vals 5=_:=hf 5 rfl;have f6:vals 6=_:=hf 6 rfl;have f7:vals 7=_:=hf 7 rfl;have f8:vals 8=_:=hf 8 rfl;have f9:vals 9=_:=hf 9 rfl;have f10:vals 10=_:=hf 10 rfl;have f11:(NewBox v1.heap.size 46 (eV zE)) (vals 11) w1:=hf 11 rfl
   try dsimp only at f0 f1 f2 f3 f4 f5 f6 f7 f8 f9 f10 f11
   clear hf;obtain ⟨o,hx,ho,hblk⟩:=f11;have hx':=hx;simp only [sP,f0,f1,f2,f3,f4,f5,f6,f7,f8,f9,f10,hx] at hE ⊢;clear f0 f1 f2 f3 f4 f5 f6 f7 f8 f9 f10;clear hx;refine qaf (cells:=eV (mulE (addE (p.y) (p.x)) (addE (q.y) (q.x)))) hblk rfl rfl rfl rfl qag rfl (by simp [eV,ptV,wV,limbs,Value.oneCell']) ?_;intro w2 hb2 hw2;go_wp2_with fail;exact .mk (hE undef _ ⟨o,hx',ho,hb2⟩ (hw2.below hC1 ho hC1.size) trivial)
 intro w1 vals hC1 hf;have f0:vals 0=_:=hf 0 (by decide) rfl;have f1:vals 1=_:=hf 1 (by decide) rfl;have f2:vals 2=_:=hf 2 (by decide) rfl;have f3:vals 3=_:=hf 3 (by decide) rfl;have f4:vals 4=_:=hf 4 (by decide) rfl;have f5:vals 5=_:=hf 5 (by decide) rfl;have f6:vals 6=_:=hf 6 (by decide) rfl;have f7:vals 7=_:=hf 7 (by decide) rfl;have f8:vals 8=_:=hf 8 (by decide) rfl;have f9:vals 9=_:=hf 9 (by decide) rfl;have f10:vals 10=_:=hf 10 (by decide) rfl;have f12:(fun z u=>NewBox v1.heap.size 46 (eV (mulE (addE (p.y) (p.x)) (addE (q.y) (q.x)))) (z 11) u) vals w1:=hf 12 (by decide) rfl
 try dsimp only at f0 f1 f2 f3 f4 f5 f6 f7 f8 f9 f10 f12
 clear hf;simp only [sP,f0,f1,f2,f3,f4,f5,f6,f7,f8,f9,f10];clear f0 f1 f2 f3 f4 f5 f6 f7 f8 f9 f10;generalize vals 11=x11 at *;obtain ⟨o2,rfl,hlo2,hblk2⟩:=f12;obtain ⟨b,hb⟩:=eX (mulE (addE (p.y) (p.x)) (addE (q.y) (q.x)));rw [← hb] at hblk2;have Kb:=zY (show b.Ok by rw [hb]; exact qax (qbk (KP.out.y) (KP.out.x)) (qbk (KQ.out.y) (KQ.out.x)));have Eb:=zY hb;have HST2:=zY (show Cs (.box o2 46 (eV b) :: [.box o1 46 (eV a),.box gp 48 (ptV p),.box gq 48 (ptV q),.box gw 46 (eV tw),.box r 48 (ptV zP)]) w w1 from ⟨⟨hblk2,(HST1.out.next hC1).1⟩,(HST1.out.next hC1).2⟩);clear hC1 HC0 HST1 hblk2 hlo2 hb;obtain ⟨v2,rfl⟩:=eX w1;go_wp2_with fail;have HC0:Below v2.heap.size v2 v2.drew:=(Below.refl _ _).drew
 refine qar (fun u=>Below v2.heap.size v2 u) (fun | false=>(fun _=>True) | true=>(fun _=>True)) (fun | false,_=>false | true,_=>false)
  [fun z _=>z 0=.pointer (some ⟨gp,15,none⟩),
   fun z _=>z 1=.agg (eV (p.t)),
   fun z _=>z 2=.agg (eV (tw)),
   fun z _=>z 3=.agg (eV (mulE (p.t) (tw))),
   fun z _=>z 4=.pointer (some ⟨gq,15,none⟩),
   fun z _=>z 5=.agg (eV (q.t)),
   fun z _=>z 6=.agg (eV (mulE (mulE (p.t) (tw)) (q.t))),
   fun z u=>(NewBox v2.heap.size 46 (eV zE)) (z 7) u,
   fun z u=>NewBox v2.heap.size 46 (eV (mulE (mulE (p.t) (tw)) (q.t))) (z 7) u]
  [Eq,Eq,Eq,fun u u'=>Below u.heap.size u u',Eq,Eq,fun u u'=>Below u.heap.size u u',fun u u'=>Below u.heap.size u u',fun _ _=>True]
  (fun i k=>(i == 8 && k == 7)) [(0,some 37),(1,some 38),(2,some 39),(3,some 40),(4,some 41),(5,some 42),(6,some 43),(7,some 9),(8,none)] (by kernel_rfl) (by kernel_rfl) rfl (fun _=>rfl) ?_ ?_ ?_ ?_ ?_ ?_
 ·exact HC0
 ·intro m; cases m; exact trivial; exact trivial
 ·intro m; cases m
  ·refine ⟨?_,?_,?_,?_,?_,?_,?_,?_,?_,trivial⟩ <;> first | exact .inr fun _ _ h h0=>h▸h0 | exact .inr fun _ _ _ h=>h
  ·refine ⟨?_,?_,?_,?_,?_,?_,?_,?_,?_,trivial⟩ <;> first | exact .inr fun _ _ h h0=>h▸h0 | exact .inr fun _ _ _ h=>h
 ·refine ⟨⟨.inl rfl,?_,?_,?_,?_,?_,?_,?_,?_,trivial⟩,⟨?_,.inl rfl,?_,?_,?_,?_,?_,?_,?_,trivial⟩,⟨?_,?_,.inl rfl,?_,?_,?_,?_,?_,?_,trivial⟩,⟨?_,?_,?_,.inl rfl,?_,?_,?_,.inr (.inr (.inr (fun _ _ _ _ h h0=>h0.next h))),?_,trivial⟩,⟨?_,?_,?_,?_,.inl rfl,?_,?_,?_,?_,trivial⟩,⟨?_,?_,?_,?_,?_,.inl rfl,?_,?_,?_,trivial⟩,⟨?_,?_,?_,?_,?_,?_,.inl rfl,.inr (.inr (.inr (fun _ _ _ _ h h0=>h0.next h))),?_,trivial⟩,⟨?_,?_,?_,?_,?_,?_,?_,.inl rfl,?_,trivial⟩,⟨?_,?_,?_,?_,?_,?_,?_,.inr (.inl rfl),.inl rfl,trivial⟩,trivial⟩ <;> first | exact .inr (.inr (.inl rfl)) | exact .inr (.inr (.inr fun _ _ _ _ _ h=>h)) | exact .inr (.inr (.inr fun _ _ _ _ h h0=>by cases h; exact h0))
 ·refine ⟨?_,?_,?_,?_,?_,?_,?_,?_,?_,trivial⟩
  ·refine qac [] (fun _=>rfl) rfl ?_;intro w1 vals hC1 hi0 hf E hE;clear hi0;clear hf;simp only [sP] at hE ⊢;go_wp2;exact .mk (hE _ _ rfl hC1 rfl)
  ·refine qac [(0,some 37)] (fun _=>rfl) rfl ?_;intro w1 vals hC1 hi0 hf E hE;clear hi0;have f0:vals 0=_:=hf 0 rfl
   try dsimp only at f0
   clear hf;have hs:=HST2.out.next hC1;simp only [sP,f0] at hE ⊢;clear f0;refine qan (n:=5) (r:=eV (p.t)) (hs.1.2.2.1) (by rw [qaV]; decide) rfl rfl rfl rfl hu rfl qag ?_;go_wp2_with fail;exact .mk (hE _ _ rfl hC1 rfl)
  ·refine qac [] (fun _=>rfl) rfl ?_;intro w1 vals hC1 hi0 hf E hE;clear hi0;clear hf;have hs:=HST2.out.next hC1;simp only [sP] at hE ⊢;refine qab (hs.1.2.2.2.2.1) rfl rfl rfl hu rfl qag ?_;go_wp2_with fail;exact .mk (hE _ _ rfl hC1 rfl)
  ·refine qac [(1,some 38),(2,some 39)] (fun _=>rfl) rfl ?_;intro w1 vals hC1 hi0 hf E hE;clear hi0;have f1:vals 1=_:=hf 1 rfl;have f2:vals 2=_:=hf 2 rfl
   try dsimp only at f1 f2
   clear hf;simp only [sP,f1,f2] at hE ⊢;clear f1 f2;go_wp2_with fail;refine qaa (mul_c _ _ _ (KP.out.t) (KW.out)) ?_;rintro e w2 ⟨rfl,hb2⟩;go_wp2_with fail;exact .mk (hE _ _ rfl (hC1.trans (hb2.mono hC1.size)) hb2)
  ·refine qac [] (fun _=>rfl) rfl ?_;intro w1 vals hC1 hi0 hf E hE;clear hi0;clear hf;simp only [sP] at hE ⊢;go_wp2;exact .mk (hE _ _ rfl hC1 rfl)
  ·refine qac [(4,some 41)] (fun _=>rfl) rfl ?_;intro w1 vals hC1 hi0 hf E hE;clear hi0;have f4:vals 4=_:=hf 4 rfl
   try dsimp only at f4
   clear hf;have hs:=HST2.out.next hC1;simp only [sP,f4] at hE ⊢;clear f4;refine qan (n:=5) (r:=eV (q.t)) (hs.1.2.2.2.1) (by rw [qaV]; decide) rfl rfl rfl rfl hu rfl qag ?_;go_wp2_with fail;exact .mk (hE _ _ rfl hC1 rfl)
  ·refine qac [(3,some 40),(5,some 42),(3,some 40)] (fun _=>rfl) rfl ?_;intro w1 vals hC1 hi0 hf E hE;clear hi0;have f3:vals 3=_:=hf 3 rfl;have f5:vals 5=_:=hf 5 rfl
   try dsimp only at f3 f5
   clear hf;simp only [sP,f3,f5] at hE ⊢;clear f3 f5;go_wp2_with fail;refine qaa (mul_c _ _ _ (qax (KP.out.t) (KW.out)) (KQ.out.t)) ?_;rintro e w2 ⟨rfl,hb2⟩;go_wp2_with fail;exact .mk (hE _ _ rfl (hC1.trans (hb2.mono hC1.size)) hb2)
  ·refine qac [] (fun _=>rfl) rfl ?_;intro w1 vals hC1 hi0 hf E hE;clear hi0;clear hf;simp only [sP] at hE ⊢;go_wp2;exact .mk (hE _ _ (NewBox.of hC1.size) (hC1.alloc hC1.size _) (below_new _ _))
  ·refine qac [(7,some 9),(6,some 43),(6,some 43),(0,some 37),(1,some 38),(2,some 39),(3,some 40),(4,some 41),(5,some 42),(6,some 43),(7,some 9)] (fun _=>rfl) rfl ?_;intro w1 vals hC1 hi0 hf E hE;clear hi0;have f0:vals 0=_:=hf 0 rfl;have f1:vals 1=_:=hf 1 rfl;have f2:vals 2=_:=hf 2 rfl;have f3:vals 3=_:=hf 3 rfl;have f4:vals 4=_:=hf 4 rfl;have f5:vals 5=_:=hf 5 rfl;have f6:vals 6=_:=hf 6 rfl;have f7:(NewBox v2.heap.size 46 (eV zE)) (vals 7) w1:=hf 7 rfl
   try dsimp only at f0 f1 f2 f3 f4 f5 f6 f7
   clear hf;obtain ⟨o,hx,ho,hblk⟩:=f7;have hx':=hx;simp only [sP,f0,f1,f2,f3,f4,f5,f6,hx] at hE ⊢;clear f0 f1 f2 f3 f4 f5 f6;clear hx;refine qaf (cells:=eV (mulE (mulE (p.t) (tw)) (q.t))) hblk rfl rfl rfl rfl qag rfl (by simp [eV,ptV,wV,limbs,Value.oneCell']) ?_;intro w2 hb2 hw2;go_wp2_with fail;exact .mk (hE undef _ ⟨o,hx',ho,hb2⟩ (hw2.below hC1 ho hC1.size) trivial)
 intro w1 vals hC1 hf;have f0:vals 0=_:=hf 0 (by decide) rfl;have f1:vals 1=_:=hf 1 (by decide) rfl;have f2:vals 2=_:=hf 2 (by decide) rfl;have f3:vals 3=_:=hf 3 (by decide) rfl;have f4:vals 4=_:=hf 4 (by decide) rfl;have f5:vals 5=_:=hf 5 (by decide) rfl;have f6:vals 6=_:=hf 6 (by decide) rfl;have f8:(fun z u=>NewBox v2.heap.size 46 (eV (mulE (mulE (p.t) (tw)) (q.t))) (z 7) u) vals w1:=hf 8 (by decide) rfl
 try dsimp only at f0 f1 f2 f3 f4 f5 f6 f8
 clear hf;simp only [sP,f0,f1,f2,f3,f4,f5,f6];clear f0 f1 f2 f3 f4 f5 f6;generalize vals 7=x7 at *;obtain ⟨o3,rfl,hlo3,hblk3⟩:=f8;obtain ⟨c,hc⟩:=eX (mulE (mulE (p.t) (tw)) (q.t));rw [← hc] at hblk3;have Kc:=zY (show c.Ok by rw [hc]; exact qax (qax (KP.out.t) (KW.out)) (KQ.out.t));have Ec:=zY hc;have HST3:=zY (show Cs (.box o3 46 (eV c) :: [.box o2 46 (eV b),.box o1 46 (eV a),.box gp 48 (ptV p),.box gq 48 (ptV q),.box gw 46 (eV tw),.box r 48 (ptV zP)]) w w1 from ⟨⟨hblk3,(HST2.out.next hC1).1⟩,(HST2.out.next hC1).2⟩);clear hC1 HC0 HST2 hblk3 hlo3 hc;obtain ⟨v3,rfl⟩:=eX w1
 go_wp2_with (first
  | (refine qan (x:=.tmp 44) (n:=5) (r:=eV p.z) (HST3.out.1.2.2.2.1) (by rw [qaV]; decide) rfl rfl rfl rfl hu rfl qag ?_)
  | (refine qan (x:=.tmp 46) (n:=5) (r:=eV q.z) (HST3.out.1.2.2.2.2.1) (by rw [qaV]; decide) rfl rfl rfl rfl hu rfl qag ?_))
 refine qaa (mul_c p.z q.z _ KP.out.z KQ.out.z) ?_;rintro e w2 ⟨rfl,hb2⟩;obtain ⟨zz,hz⟩:=eX (mulE p.z q.z);rw [← hz];have Kz:=zY (show zz.Ok by rw [hz]; exact qax KP.out.z KQ.out.z);have Ez:=zY hz;have HX:=zY (HST3.out.next hb2);clear hz hb2 HST3;go_wp2_with (refine qaf (x:=.tmp 10) (cells:=eV zz) (Blk.new _ _ _) rfl rfl rfl rfl qag rfl (by simp [eV,ptV,wV,limbs,Value.oneCell']) ?_; intro v9 hb9 hw9; have HST9:=zY (show Cs (.box w2.heap.size 46 (eV zz) :: [.box o3 46 (eV c),.box o2 46 (eV b),.box o1 46 (eV a),.box gp 48 (ptV p),.box gq 48 (ptV q),.box gw 46 (eV tw),.box r 48 (ptV zP)]) w v9 from ⟨⟨hb9,(HX.out.next (qba hw9)).1⟩,(HX.out.next (qba hw9)).2⟩); clear hb9 hw9 HX);generalize w2.heap.size=oz at *;have HC0:C2 v9 6 7 (fun _=>undef) v9.drew:=C2.init (Below.refl _ _).drew
 refine qcd (C2 v9 6 7) (fun | false=>(fun _=>True) | true=>(fun _=>True)) (fun | false,_=>false | true,_=>false)
  [fun z _=>z 0=.agg (eV (b)),
   fun z _=>z 1=.agg (eV (a)),
   fun z _=>z 2=.agg (eV (subE (b) (a))),
   fun z _=>z 3=.agg (eV (b)),
   fun z _=>z 4=.agg (eV (a)),
   fun z _=>z 5=.agg (eV (addE (b) (a))),
   fun z u=>(NewBox v9.heap.size 46 (eV zE)) (z 6) u,
   fun z u=>(NewBox v9.heap.size 46 (eV zE)) (z 7) u,
   fun z u=>NewBox v9.heap.size 46 (eV (subE (b) (a))) (z 6) u∧NewBox v9.heap.size 46 (eV zE) (z 7) u,
   fun z u=>NewBox v9.heap.size 46 (eV (subE (b) (a))) (z 6) u∧NewBox v9.heap.size 46 (eV (addE (b) (a))) (z 7) u]
  [Eq,Eq,fun u u'=>Below u.heap.size u u',Eq,Eq,fun u u'=>Below u.heap.size u u',fun u u'=>Below u.heap.size u u',fun u u'=>Below u.heap.size u u',fun _ _=>True,fun _ _=>True]
  (fun i k=>(i == 8 && k == 6) || (i == 8 && k == 7) || (i == 9 && k == 6) || (i == 9 && k == 7) || (i == 9 && k == 8)) [(0,some 49),(1,some 50),(2,some 51),(3,some 52),(4,some 53),(5,some 54),(6,some 11),(7,some 12),(8,none),(9,none)] (by kernel_rfl) (by kernel_rfl) rfl (fun _=>rfl) ?_ ?_ ?_ ?_ ?_ ?_
 ·exact HC0
 ·intro m; cases m; exact trivial; exact trivial
 ·intro m; cases m
  ·refine ⟨?_,?_,?_,?_,?_,?_,?_,?_,?_,?_,trivial⟩ <;> first | exact .inr fun _ _ h h0=>h▸h0 | exact .inr fun _ _ _ h=>h
  ·refine ⟨?_,?_,?_,?_,?_,?_,?_,?_,?_,?_,trivial⟩ <;> first | exact .inr fun _ _ h h0=>h▸h0 | exact .inr fun _ _ _ h=>h
 ·refine ⟨⟨.inl rfl,?_,?_,?_,?_,?_,?_,?_,?_,?_,trivial⟩,⟨?_,.inl rfl,?_,?_,?_,?_,?_,?_,?_,?_,trivial⟩,⟨?_,?_,.inl rfl,?_,?_,?_,.inr (.inr (.inr (fun _ _ _ _ h h0=>h0.next h))),.inr (.inr (.inr (fun _ _ _ _ h h0=>h0.next h))),?_,?_,trivial⟩,⟨?_,?_,?_,.inl rfl,?_,?_,?_,?_,?_,?_,trivial⟩,⟨?_,?_,?_,?_,.inl rfl,?_,?_,?_,?_,?_,trivial⟩,⟨?_,?_,?_,?_,?_,.inl rfl,.inr (.inr (.inr (fun _ _ _ _ h h0=>h0.next h))),.inr (.inr (.inr (fun _ _ _ _ h h0=>h0.next h))),?_,?_,trivial⟩,⟨?_,?_,?_,?_,?_,?_,.inl rfl,.inr (.inr (.inr (fun _ _ _ _ h h0=>h0.next h))),?_,?_,trivial⟩,⟨?_,?_,?_,?_,?_,?_,.inr (.inr (.inr (fun _ _ _ _ h h0=>h0.next h))),.inl rfl,?_,?_,trivial⟩,⟨?_,?_,?_,?_,?_,?_,.inr (.inl rfl),.inr (.inl rfl),.inl rfl,?_,trivial⟩,⟨?_,?_,?_,?_,?_,?_,.inr (.inl rfl),.inr (.inl rfl),.inr (.inl rfl),.inl rfl,trivial⟩,trivial⟩ <;> first | exact .inr (.inr (.inl rfl)) | exact .inr (.inr (.inr fun _ _ _ _ _ h=>h)) | exact .inr (.inr (.inr fun _ _ _ _ h h0=>by cases h; exact h0))
 ·refine ⟨?_,?_,?_,?_,?_,?_,?_,?_,?_,?_,trivial⟩
  ·refine qay [] (fun _=>rfl) rfl ?_;intro w1 vals hC1 hi0 hf E hE;clear hi0;clear hf;have hs:=HST9.out.next hC1.bel;simp only [sP] at hE ⊢;refine qab (hs.1.2.2.1) rfl rfl rfl hu rfl qag ?_;go_wp2_with fail;exact .mk (hE _ _ rfl (hC1.same (by decide) (by decide)) rfl)
  ·refine qay [] (fun _=>rfl) rfl ?_;intro w1 vals hC1 hi0 hf E hE;clear hi0;clear hf;have hs:=HST9.out.next hC1.bel;simp only [sP] at hE ⊢;refine qab (hs.1.2.2.2.1) rfl rfl rfl hu rfl qag ?_;go_wp2_with fail;exact .mk (hE _ _ rfl (hC1.same (by decide) (by decide)) rfl)
  ·refine qay [(0,some 49),(1,some 50)] (fun _=>rfl) rfl ?_;intro w1 vals hC1 hi0 hf E hE;clear hi0;have f0:vals 0=_:=hf 0 rfl;have f1:vals 1=_:=hf 1 rfl
   try dsimp only at f0 f1
   clear hf;simp only [sP,f0,f1] at hE ⊢;clear f0 f1;go_wp2_with fail;refine qaa (sub_c _ _ _ (Kb.out) (Ka.out)) ?_;rintro e w2 ⟨rfl,hb2⟩;go_wp2_with fail;exact .mk (hE _ _ rfl (hC1.other (by decide) (by decide) (hC1.bel.trans (hb2.mono hC1.bel.size)) hb2.size) hb2)
  ·refine qay [] (fun _=>rfl) rfl ?_;intro w1 vals hC1 hi0 hf E hE;clear hi0;clear hf;have hs:=HST9.out.next hC1.bel;simp only [sP] at hE ⊢;refine qab (hs.1.2.2.1) rfl rfl rfl hu rfl qag ?_;go_wp2_with fail;exact .mk (hE _ _ rfl (hC1.same (by decide) (by decide)) rfl)
  ·refine qay [] (fun _=>rfl) rfl ?_;intro w1 vals hC1 hi0 hf E hE;clear hi0;clear hf;have hs:=HST9.out.next hC1.bel;simp only [sP] at hE ⊢;refine qab (hs.1.2.2.2.1) rfl rfl rfl hu rfl qag ?_;go_wp2_with fail;exact .mk (hE _ _ rfl (hC1.same (by decide) (by decide)) rfl)
  ·refine qay [(3,some 52),(4,some 53),(2,some 51)] (fun _=>rfl) rfl ?_;intro w1 vals hC1 hi0 hf E hE;clear hi0;have f2:vals 2=_:=hf 2 rfl;have f3:vals 3=_:=hf 3 rfl;have f4:vals 4=_:=hf 4 rfl
   try dsimp only at f2 f3 f4
   clear hf;simp only [sP,f2,f3,f4] at hE ⊢;clear f2 f3 f4;go_wp2_with fail;refine qaa (add_c _ _ _ (Kb.out) (Ka.out)) ?_;rintro e w2 ⟨rfl,hb2⟩;go_wp2_with fail;exact .mk (hE _ _ rfl (hC1.other (by decide) (by decide) (hC1.bel.trans (hb2.mono hC1.bel.size)) hb2.size) hb2)
  ·refine qay [] (fun _=>rfl) rfl ?_;intro w1 vals hC1 hi0 hf E hE;clear hi0;clear hf;simp only [sP] at hE ⊢;go_wp2;exact .mk (hE _ _ (NewBox.of hC1.bel.size) (hC1.setI (by decide) (hC1.bel.alloc hC1.bel.size _) (by simp)) (below_new _ _))
  ·refine qay [] (fun _=>rfl) rfl ?_;intro w1 vals hC1 hi0 hf E hE;clear hi0;clear hf;simp only [sP] at hE ⊢;go_wp2;exact .mk (hE _ _ (NewBox.of hC1.bel.size) (hC1.setJ (by decide) (hC1.bel.alloc hC1.bel.size _) (by simp)) (below_new _ _))
  ·refine qay [(6,some 11),(2,some 51),(5,some 54),(0,some 49),(1,some 50),(2,some 51),(6,some 11),(7,some 12)] (fun _=>rfl) rfl ?_;intro w1 vals hC1 hi0 hf E hE;clear hi0;have f0:vals 0=_:=hf 0 rfl;have f1:vals 1=_:=hf 1 rfl;have f2:vals 2=_:=hf 2 rfl;have f5:vals 5=_:=hf 5 rfl;have f6:(NewBox v9.heap.size 46 (eV zE)) (vals 6) w1:=hf 6 rfl;have f7:(NewBox v9.heap.size 46 (eV zE)) (vals 7) w1:=hf 7 rfl
   try dsimp only at f0 f1 f2 f5 f6 f7
   clear hf;obtain ⟨o,hx,ho,hblk⟩:=f6;obtain ⟨o7,hx7,ho7,hblk7⟩:=f7;have hne:=hC1.apart hx hx7;have hx':=hx;have hx7':=hx7;simp only [sP,f0,f1,f2,f5,hx,hx7] at hE ⊢;clear f0 f1 f2 f5;clear hx hx7;refine qaf (cells:=eV (subE (b) (a))) hblk rfl rfl rfl rfl qag rfl (by simp [eV,ptV,wV,limbs,Value.oneCell']) ?_;intro w2 hb2 hw2;go_wp2_with fail;exact .mk (hE undef _ ⟨⟨o,hx',ho,hb2⟩,⟨o7,hx7',ho7,hw2.blk hblk7 (Ne.symm hne)⟩⟩ (hC1.other (by decide) (by decide) (hw2.below hC1.bel ho hC1.bel.size) (Nat.le_of_eq hw2.size.symm)) trivial)
  ·refine qay [(7,some 12),(5,some 54),(8,none),(0,some 49),(1,some 50),(2,some 51),(3,some 52),(4,some 53),(5,some 54),(6,some 11),(7,some 12),(8,none)] (fun _=>rfl) rfl ?_;intro w1 vals hC1 hi0 hf E hE;clear hi0;have f0:vals 0=_:=hf 0 rfl;have f1:vals 1=_:=hf 1 rfl;have f2:vals 2=_:=hf 2 rfl;have f3:vals 3=_:=hf 3 rfl;have f4:vals 4=_:=hf 4 rfl;have f5:vals 5=_:=hf 5 rfl;have f8:(fun z u=>NewBox v9.heap.size 46 (eV (subE (b) (a))) (z 6) u∧NewBox v9.heap.size 46 (eV zE) (z 7) u) vals w1:=hf 8 rfl
   try dsimp only at f0 f1 f2 f3 f4 f5 f8
   clear hf;obtain ⟨⟨o,hx,ho,hblk⟩,⟨o7,hx7,ho7,hblk7⟩⟩:=f8;have hne:=hC1.apart hx hx7;have hx':=hx;have hx7':=hx7;simp only [sP,f0,f1,f2,f3,f4,f5,hx,hx7] at hE ⊢;clear f0 f1 f2 f3 f4 f5;clear hx hx7;refine qaf (cells:=eV (addE (b) (a))) hblk7 rfl rfl rfl rfl qag rfl (by simp [eV,ptV,wV,limbs,Value.oneCell']) ?_;intro w2 hb2 hw2;go_wp2_with fail;exact .mk (hE undef _ ⟨⟨o,hx',ho,hw2.blk hblk hne⟩,⟨o7,hx7',ho7,hb2⟩⟩ (hC1.other (by decide) (by decide) (hw2.below hC1.bel ho7 hC1.bel.size) (Nat.le_of_eq hw2.size.symm)) trivial)
 intro w1 vals hC1 hf;have f0:vals 0=_:=hf 0 (by decide) rfl;have f1:vals 1=_:=hf 1 (by decide) rfl;have f2:vals 2=_:=hf 2 (by decide) rfl;have f3:vals 3=_:=hf 3 (by decide) rfl;have f4:vals 4=_:=hf 4 (by decide) rfl;have f5:vals 5=_:=hf 5 (by decide) rfl;have f9:(fun z u=>NewBox v9.heap.size 46 (eV (subE (b) (a))) (z 6) u∧NewBox v9.heap.size 46 (eV (addE (b) (a))) (z 7) u) vals w1:=hf 9 (by decide) rfl
 try dsimp only at f0 f1 f2 f3 f4 f5 f9
 clear hf;simp only [sP,f0,f1,f2,f3,f4,f5];clear f0 f1 f2 f3 f4 f5;generalize vals 6=x6 at *;generalize vals 7=x7 at *;obtain ⟨⟨o4a,rfl,hlo4a,hblk4a⟩,⟨o4b,rfl,hlo4b,hblk4b⟩⟩:=f9;obtain ⟨e,he⟩:=eX (subE (b) (a));rw [← he] at hblk4a;have Ke:=zY (show e.Ok by rw [he]; exact qbb (Kb.out) (Ka.out));have Ee:=zY he;obtain ⟨h,hh⟩:=eX (addE (b) (a));rw [← hh] at hblk4b;have Kh:=zY (show h.Ok by rw [hh]; exact qbk (Kb.out) (Ka.out));have Eh:=zY hh;have HST4:=zY (show Cs (.box o4a 46 (eV e) :: .box o4b 46 (eV h) :: [.box oz 46 (eV zz),.box o3 46 (eV c),.box o2 46 (eV b),.box o1 46 (eV a),.box gp 48 (ptV p),.box gq 48 (ptV q),.box gw 46 (eV tw),.box r 48 (ptV zP)]) w w1 from ⟨⟨hblk4a,hblk4b,(HST9.out.next hC1.bel).1⟩,(HST9.out.next hC1.bel).2⟩);clear hC1 HC0 HST9 hblk4a hblk4b hlo4a hlo4b he hh;obtain ⟨v4,rfl⟩:=eX w1;go_wp2_with fail;have HC0:C2 v4 10 11 (fun _=>undef) v4.drew:=C2.init (Below.refl _ _).drew
 refine qcd (C2 v4 10 11) (fun | false=>(fun _=>True) | true=>(fun _=>True)) (fun | false,_=>false | true,_=>false)
  [fun z _=>z 0=.agg (eV (zz)),
   fun z _=>z 1=.agg (eV (zz)),
   fun z _=>z 2=.agg (eV (addE (zz) (zz))),
   fun z _=>z 3=.agg (eV (c)),
   fun z _=>z 4=.agg (eV (subE (addE (zz) (zz)) (c))),
   fun z _=>z 5=.agg (eV (zz)),
   fun z _=>z 6=.agg (eV (zz)),
   fun z _=>z 7=.agg (eV (addE (zz) (zz))),
   fun z _=>z 8=.agg (eV (c)),
   fun z _=>z 9=.agg (eV (addE (addE (zz) (zz)) (c))),
   fun z u=>(NewBox v4.heap.size 46 (eV zE)) (z 10) u,
   fun z u=>(NewBox v4.heap.size 46 (eV zE)) (z 11) u,
   fun z u=>NewBox v4.heap.size 46 (eV (subE (addE (zz) (zz)) (c))) (z 10) u∧NewBox v4.heap.size 46 (eV zE) (z 11) u,
   fun z u=>NewBox v4.heap.size 46 (eV (subE (addE (zz) (zz)) (c))) (z 10) u∧NewBox v4.heap.size 46 (eV (addE (addE (zz) (zz)) (c))) (z 11) u]
  [Eq,Eq,fun u u'=>Below u.heap.size u u',Eq,fun u u'=>Below u.heap.size u u',Eq,Eq,fun u u'=>Below u.heap.size u u',Eq,fun u u'=>Below u.heap.size u u',fun u u'=>Below u.heap.size u u',fun u u'=>Below u.heap.size u u',fun _ _=>True,fun _ _=>True]
  (fun i k=>(i == 12 && k == 10) || (i == 12 && k == 11) || (i == 13 && k == 10) || (i == 13 && k == 11) || (i == 13 && k == 12)) [(0,some 55),(1,some 56),(2,some 57),(3,some 58),(4,some 59),(5,some 60),(6,some 61),(7,some 62),(8,some 63),(9,some 64),(10,some 13),(11,some 14),(12,none),(13,none)] (by kernel_rfl) (by kernel_rfl) rfl (fun _=>rfl) ?_ ?_ ?_ ?_ ?_ ?_
 ·exact HC0
 ·intro m; cases m; exact trivial; exact trivial
 ·intro m; cases m
  ·refine ⟨?_,?_,?_,?_,?_,?_,?_,?_,?_,?_,?_,?_,?_,?_,trivial⟩ <;> first | exact .inr fun _ _ h h0=>h▸h0 | exact .inr fun _ _ _ h=>h
  ·refine ⟨?_,?_,?_,?_,?_,?_,?_,?_,?_,?_,?_,?_,?_,?_,trivial⟩ <;> first | exact .inr fun _ _ h h0=>h▸h0 | exact .inr fun _ _ _ h=>h
 ·refine ⟨⟨.inl rfl,?_,?_,?_,?_,?_,?_,?_,?_,?_,?_,?_,?_,?_,trivial⟩,⟨?_,.inl rfl,?_,?_,?_,?_,?_,?_,?_,?_,?_,?_,?_,?_,trivial⟩,⟨?_,?_,.inl rfl,?_,?_,?_,?_,?_,?_,?_,.inr (.inr (.inr (fun _ _ _ _ h h0=>h0.next h))),.inr (.inr (.inr (fun _ _ _ _ h h0=>h0.next h))),?_,?_,trivial⟩,⟨?_,?_,?_,.inl rfl,?_,?_,?_,?_,?_,?_,?_,?_,?_,?_,trivial⟩,⟨?_,?_,?_,?_,.inl rfl,?_,?_,?_,?_,?_,.inr (.inr (.inr (fun _ _ _ _ h h0=>h0.next h))),.inr (.inr (.inr (fun _ _ _ _ h h0=>h0.next h))),?_,?_,trivial⟩,⟨?_,?_,?_,?_,?_,.inl rfl,?_,?_,?_,?_,?_,?_,?_,?_,trivial⟩,⟨?_,?_,?_,?_,?_,?_,.inl rfl,?_,?_,?_,?_,?_,?_,?_,trivial⟩,⟨?_,?_,?_,?_,?_,?_,?_,.inl rfl,?_,?_,.inr (.inr (.inr (fun _ _ _ _ h h0=>h0.next h))),.inr (.inr (.inr (fun _ _ _ _ h h0=>h0.next h))),?_,?_,trivial⟩,⟨?_,?_,?_,?_,?_,?_,?_,?_,.inl rfl,?_,?_,?_,?_,?_,trivial⟩,⟨?_,?_,?_,?_,?_,?_,?_,?_,?_,.inl rfl,.inr (.inr (.inr (fun _ _ _ _ h h0=>h0.next h))),.inr (.inr (.inr (fun _ _ _ _ h h0=>h0.next h))),?_,?_,trivial⟩,⟨?_,?_,?_,?_,?_,?_,?_,?_,?_,?_,.inl rfl,.inr (.inr (.inr (fun _ _ _ _ h h0=>h0.next h))),?_,?_,trivial⟩,⟨?_,?_,?_,?_,?_,?_,?_,?_,?_,?_,.inr (.inr (.inr (fun _ _ _ _ h h0=>h0.next h))),.inl rfl,?_,?_,trivial⟩,⟨?_,?_,?_,?_,?_,?_,?_,?_,?_,?_,.inr (.inl rfl),.inr (.inl rfl),.inl rfl,?_,trivial⟩,⟨?_,?_,?_,?_,?_,?_,?_,?_,?_,?_,.inr (.inl rfl),.inr (.inl rfl),.inr (.inl rfl),.inl rfl,trivial⟩,trivial⟩ <;> first | exact .inr (.inr (.inl rfl)) | exact .inr (.inr (.inr fun _ _ _ _ _ h=>h)) | exact .inr (.inr (.inr fun _ _ _ _ h h0=>by cases h; exact h0))
 ·refine ⟨?_,?_,?_,?_,?_,?_,?_,?_,?_,?_,?_,?_,?_,?_,trivial⟩
  ·refine qay [] (fun _=>rfl) rfl ?_;intro w1 vals hC1 hi0 hf E hE;clear hi0;clear hf;have hs:=HST4.out.next hC1.bel;simp only [sP] at hE ⊢;refine qab (hs.1.2.2.1) rfl rfl rfl hu rfl qag ?_;go_wp2_with fail;exact .mk (hE _ _ rfl (hC1.same (by decide) (by decide)) rfl)
  ·refine qay [] (fun _=>rfl) rfl ?_;intro w1 vals hC1 hi0 hf E hE;clear hi0;clear hf;have hs:=HST4.out.next hC1.bel;simp only [sP] at hE ⊢;refine qab (hs.1.2.2.1) rfl rfl rfl hu rfl qag ?_;go_wp2_with fail;exact .mk (hE _ _ rfl (hC1.same (by decide) (by decide)) rfl)
  ·refine qay [(0,some 55),(1,some 56)] (fun _=>rfl) rfl ?_;intro w1 vals hC1 hi0 hf E hE;clear hi0;have f0:vals 0=_:=hf 0 rfl;have f1:vals 1=_:=hf 1 rfl
   try dsimp only at f0 f1
   clear hf;simp only [sP,f0,f1] at hE ⊢;clear f0 f1;go_wp2_with fail;refine qaa (add_c _ _ _ (Kz.out) (Kz.out)) ?_;rintro e w2 ⟨rfl,hb2⟩;go_wp2_with fail;exact .mk (hE _ _ rfl (hC1.other (by decide) (by decide) (hC1.bel.trans (hb2.mono hC1.bel.size)) hb2.size) hb2)
  ·refine qay [] (fun _=>rfl) rfl ?_;intro w1 vals hC1 hi0 hf E hE;clear hi0;clear hf;have hs:=HST4.out.next hC1.bel;simp only [sP] at hE ⊢;refine qab (hs.1.2.2.2.1) rfl rfl rfl hu rfl qag ?_;go_wp2_with fail;exact .mk (hE _ _ rfl (hC1.same (by decide) (by decide)) rfl)
  ·refine qay [(2,some 57),(3,some 58),(2,some 57)] (fun _=>rfl) rfl ?_;intro w1 vals hC1 hi0 hf E hE;clear hi0;have f2:vals 2=_:=hf 2 rfl;have f3:vals 3=_:=hf 3 rfl
   try dsimp only at f2 f3
   clear hf;simp only [sP,f2,f3] at hE ⊢;clear f2 f3;go_wp2_with fail;refine qaa (sub_c _ _ _ (qbk (Kz.out) (Kz.out)) (Kc.out)) ?_;rintro e w2 ⟨rfl,hb2⟩;go_wp2_with fail;exact .mk (hE _ _ rfl (hC1.other (by decide) (by decide) (hC1.bel.trans (hb2.mono hC1.bel.size)) hb2.size) hb2)
  ·refine qay [] (fun _=>rfl) rfl ?_;intro w1 vals hC1 hi0 hf E hE;clear hi0;clear hf;have hs:=HST4.out.next hC1.bel;simp only [sP] at hE ⊢;refine qab (hs.1.2.2.1) rfl rfl rfl hu rfl qag ?_;go_wp2_with fail;exact .mk (hE _ _ rfl (hC1.same (by decide) (by decide)) rfl)
  ·refine qay [] (fun _=>rfl) rfl ?_;intro w1 vals hC1 hi0 hf E hE;clear hi0;clear hf;have hs:=HST4.out.next hC1.bel;simp only [sP] at hE ⊢;refine qab (hs.1.2.2.1) rfl rfl rfl hu rfl qag ?_;go_wp2_with fail;exact .mk (hE _ _ rfl (hC1.same (by decide) (by decide)) rfl)
  ·refine qay [(5,some 60),(6,some 61),(4,some 59)] (fun _=>rfl) rfl ?_;intro w1 vals hC1 hi0 hf E hE;clear hi0;have f4:vals 4=_:=hf 4 rfl;have f5:vals 5=_:=hf 5 rfl;have f6:vals 6=_:=hf 6 rfl
   try dsimp only at f4 f5 f6
   clear hf;simp only [sP,f4,f5,f6] at hE ⊢;clear f4 f5 f6;go_wp2_with fail;refine qaa (add_c _ _ _ (Kz.out) (Kz.out)) ?_;rintro e w2 ⟨rfl,hb2⟩;go_wp2_with fail;exact .mk (hE _ _ rfl (hC1.other (by decide) (by decide) (hC1.bel.trans (hb2.mono hC1.bel.size)) hb2.size) hb2)
  ·refine qay [] (fun _=>rfl) rfl ?_;intro w1 vals hC1 hi0 hf E hE;clear hi0;clear hf;have hs:=HST4.out.next hC1.bel;simp only [sP] at hE ⊢;refine qab (hs.1.2.2.2.1) rfl rfl rfl hu rfl qag ?_;go_wp2_with fail;exact .mk (hE _ _ rfl (hC1.same (by decide) (by decide)) rfl)
  ·refine qay [(7,some 62),(8,some 63),(7,some 62)] (fun _=>rfl) rfl ?_;intro w1 vals hC1 hi0 hf E hE;clear hi0;have f7:vals 7=_:=hf 7 rfl;have f8:vals 8=_:=hf 8 rfl
   try dsimp only at f7 f8
   clear hf;simp only [sP,f7,f8] at hE ⊢;clear f7 f8;go_wp2_with fail;refine qaa (add_c _ _ _ (qbk (Kz.out) (Kz.out)) (Kc.out)) ?_;rintro e w2 ⟨rfl,hb2⟩;go_wp2_with fail;exact .mk (hE _ _ rfl (hC1.other (by decide) (by decide) (hC1.bel.trans (hb2.mono hC1.bel.size)) hb2.size) hb2)
  ·refine qay [] (fun _=>rfl) rfl ?_;intro w1 vals hC1 hi0 hf E hE;clear hi0;clear hf;simp only [sP] at hE ⊢;go_wp2;exact .mk (hE _ _ (NewBox.of hC1.bel.size) (hC1.setI (by decide) (hC1.bel.alloc hC1.bel.size _) (by simp)) (below_new _ _))
  ·refine qay [] (fun _=>rfl) rfl ?_;intro w1 vals hC1 hi0 hf E hE;clear hi0;clear hf;simp only [sP] at hE ⊢;go_wp2;exact .mk (hE _ _ (NewBox.of hC1.bel.size) (hC1.setJ (by decide) (hC1.bel.alloc hC1.bel.size _) (by simp)) (below_new _ _))
  ·refine qay [(10,some 13),(4,some 59),(9,some 64),(0,some 55),(1,some 56),(2,some 57),(3,some 58),(4,some 59),(10,some 13),(11,some 14)] (fun _=>rfl) rfl ?_;intro w1 vals hC1 hi0 hf E hE;clear hi0;have f0:vals 0=_:=hf 0 rfl;have f1:vals 1=_:=hf 1 rfl;have f2:vals 2=_:=hf 2 rfl;have f3:vals 3=_:=hf 3 rfl;have f4:vals 4=_:=hf 4 rfl;have f9:vals 9=_:=hf 9 rfl;have f10:(NewBox v4.heap.size 46 (eV zE)) (vals 10) w1:=hf 10 rfl;have f11:(NewBox v4.heap.size 46 (eV zE)) (vals 11) w1:=hf 11 rfl
   try dsimp only at f0 f1 f2 f3 f4 f9 f10 f11
   clear hf;obtain ⟨o,hx,ho,hblk⟩:=f10;obtain ⟨o7,hx7,ho7,hblk7⟩:=f11;have hne:=hC1.apart hx hx7;have hx':=hx;have hx7':=hx7;simp only [sP,f0,f1,f2,f3,f4,f9,hx,hx7] at hE ⊢;clear f0 f1 f2 f3 f4 f9;clear hx hx7;refine qaf (cells:=eV (subE (addE (zz) (zz)) (c))) hblk rfl rfl rfl rfl qag rfl (by simp [eV,ptV,wV,limbs,Value.oneCell']) ?_;intro w2 hb2 hw2;go_wp2_with fail;exact .mk (hE undef _ ⟨⟨o,hx',ho,hb2⟩,⟨o7,hx7',ho7,hw2.blk hblk7 (Ne.symm hne)⟩⟩ (hC1.other (by decide) (by decide) (hw2.below hC1.bel ho hC1.bel.size) (Nat.le_of_eq hw2.size.symm)) trivial)
  ·refine qay [(11,some 14),(9,some 64),(12,none),(0,some 55),(1,some 56),(2,some 57),(3,some 58),(4,some 59),(5,some 60),(6,some 61),(7,some 62),(8,some 63),(9,some 64),(10,some 13),(11,some 14),(12,none)] (fun _=>rfl) rfl ?_;intro w1 vals hC1 hi0 hf E hE;clear hi0;have f0:vals 0=_:=hf 0 rfl;have f1:vals 1=_:=hf 1 rfl;have f2:vals 2=_:=hf 2 rfl;have f3:vals 3=_:=hf 3 rfl;have f4:vals 4=_:=hf 4 rfl;have f5:vals 5=_:=hf 5 rfl;have f6:vals 6=_:=hf 6 rfl;have f7:vals 7=_:=hf 7 rfl;have f8:vals 8=_:=hf 8 rfl;have f9:vals 9=_:=hf 9 rfl;have f12:(fun z u=>NewBox v4.heap.size 46 (eV (subE (addE (zz) (zz)) (c))) (z 10) u∧NewBox v4.heap.size 46 (eV zE) (z 11) u) vals w1:=hf 12 rfl
   try dsimp only at f0 f1 f2 f3 f4 f5 f6 f7 f8 f9 f12
   clear hf;obtain ⟨⟨o,hx,ho,hblk⟩,⟨o7,hx7,ho7,hblk7⟩⟩:=f12;have hne:=hC1.apart hx hx7;have hx':=hx;have hx7':=hx7;simp only [sP,f0,f1,f2,f3,f4,f5,f6,f7,f8,f9,hx,hx7] at hE ⊢;clear f0 f1 f2 f3 f4 f5 f6 f7 f8 f9;clear hx hx7;refine qaf (cells:=eV (addE (addE (zz) (zz)) (c))) hblk7 rfl rfl rfl rfl qag rfl (by simp [eV,ptV,wV,limbs,Value.oneCell']) ?_;intro w2 hb2 hw2;go_wp2_with fail;exact .mk (hE undef _ ⟨⟨o,hx',ho,hw2.blk hblk hne⟩,⟨o7,hx7',ho7,hb2⟩⟩ (hC1.other (by decide) (by decide) (hw2.below hC1.bel ho7 hC1.bel.size) (Nat.le_of_eq hw2.size.symm)) trivial)
 intro w1 vals hC1 hf;have f0:vals 0=_:=hf 0 (by decide) rfl;have f1:vals 1=_:=hf 1 (by decide) rfl;have f2:vals 2=_:=hf 2 (by decide) rfl;have f3:vals 3=_:=hf 3 (by decide) rfl;have f4:vals 4=_:=hf 4 (by decide) rfl;have f5:vals 5=_:=hf 5 (by decide) rfl;have f6:vals 6=_:=hf 6 (by decide) rfl;have f7:vals 7=_:=hf 7 (by decide) rfl;have f8:vals 8=_:=hf 8 (by decide) rfl;have f9:vals 9=_:=hf 9 (by decide) rfl;have f13:(fun z u=>NewBox v4.heap.size 46 (eV (subE (addE (zz) (zz)) (c))) (z 10) u∧NewBox v4.heap.size 46 (eV (addE (addE (zz) (zz)) (c))) (z 11) u) vals w1:=hf 13 (by decide) rfl
 try dsimp only at f0 f1 f2 f3 f4 f5 f6 f7 f8 f9 f13
 clear hf;simp only [sP,f0,f1,f2,f3,f4,f5,f6,f7,f8,f9];clear f0 f1 f2 f3 f4 f5 f6 f7 f8 f9;generalize vals 10=x10 at *;generalize vals 11=x11 at *;obtain ⟨⟨o5a,rfl,hlo5a,hblk5a⟩,⟨o5b,rfl,hlo5b,hblk5b⟩⟩:=f13;obtain ⟨f,hf⟩:=eX (subE (addE (zz) (zz)) (c));rw [← hf] at hblk5a;have Kf:=zY (show f.Ok by rw [hf]; exact qbb (qbk (Kz.out) (Kz.out)) (Kc.out));have Ef:=zY hf;obtain ⟨g,hg⟩:=eX (addE (addE (zz) (zz)) (c));rw [← hg] at hblk5b;have Kg:=zY (show g.Ok by rw [hg]; exact qbk (qbk (Kz.out) (Kz.out)) (Kc.out));have Eg:=zY hg;have HST5:=zY (show Cs (.box o5a 46 (eV f) :: .box o5b 46 (eV g) :: [.box o4a 46 (eV e),.box o4b 46 (eV h),.box oz 46 (eV zz),.box o3 46 (eV c),.box o2 46 (eV b),.box o1 46 (eV a),.box gp 48 (ptV p),.box gq 48 (ptV q),.box gw 46 (eV tw),.box r 48 (ptV zP)]) w w1 from ⟨⟨hblk5a,hblk5b,(HST4.out.next hC1.bel).1⟩,(HST4.out.next hC1.bel).2⟩);clear hC1 HC0 HST4 hblk5a hblk5b hlo5a hlo5b hf hg;obtain ⟨v5,rfl⟩:=eX w1;go_wp2_with fail;have HC0:=HST5.out.drew;clear HST5;refine qal (fun u=>Cs [.box o5a 46 (eV f),.box o5b 46 (eV g),.box o4a 46 (eV e),.box o4b 46 (eV h),.box oz 46 (eV zz),.box o3 46 (eV c),.box o2 46 (eV b),.box o1 46 (eV a),.box gp 48 (ptV p),.box gq 48 (ptV q),.box gw 46 (eV tw),.box r 48 (ptV zP)] w u) (fun u=>Blk u r 48 (ptV (⟨mulE (e) (f),mulE (g) (h),mulE (f) (g),mulE (e) (h)⟩))∧Below w.heap.size w u) [(0,some 65),(1,some 66),(2,some 67),(3,some 68),(4,some 69),(5,some 70),(6,some 71),(7,some 72),(8,some 73),(9,some 74),(10,some 75),(11,some 76),(12,some 77),(13,none)] (by kernel_rfl) (by kernel_rfl) (by decide) (by kernel_rfl) (fun _=>rfl) HC0 ?_;apply yN_
 ·apply dP [];exact fun _=>rfl;rfl;rintro vals - w1 hC1 E hE;have hs:=hC1;simp only [sP] at hE ⊢;refine qab (hs.1.2.2.1) rfl rfl rfl hu rfl qag ?_;go_wp2_with fail;exact .mk (hE _ hC1)
 apply yN_
 ·apply dP [];exact fun _=>rfl;rfl;rintro vals ⟨-,-⟩ w1 hC1 E hE;have hs:=hC1;simp only [sP] at hE ⊢;refine qab (hs.1.1) rfl rfl rfl hu rfl qag ?_;go_wp2_with fail;exact .mk (hE _ hC1)
 apply yN_
 ·apply dP [(0,some 65),(1,some 66)];exact fun _=>rfl;rfl;intro vals vq w1 hC1 E hE;simp only [sP,vq] at hE ⊢;clear vq;go_wp2_with fail;refine qaa (mul_c _ _ _ (Ke.out) (Kf.out)) ?_;rintro e w2 ⟨rfl,hb2⟩;go_wp2_with fail;exact .mk (hE _ (hC1.next hb2))
 apply yN_
 ·apply dP [];exact fun _=>rfl;rfl;intro vals vq w1 hC1 E hE;clear vq;have hs:=hC1;simp only [sP] at hE ⊢;refine qab (hs.1.2.1) rfl rfl rfl hu rfl qag ?_;go_wp2_with fail;exact .mk (hE _ hC1)
 apply yN_
 ·apply dP [];exact fun _=>rfl;rfl;intro vals vq w1 hC1 E hE;clear vq;have hs:=hC1;simp only [sP] at hE ⊢;refine qab (hs.1.2.2.2.1) rfl rfl rfl hu rfl qag ?_;go_wp2_with fail;exact .mk (hE _ hC1)
 apply yN_
 ·apply dP [(3,some 68),(4,some 69),(2,some 67)];exact fun _=>rfl;rfl;intro vals vq w1 hC1 E hE;simp only [sP,vq] at hE ⊢;clear vq;go_wp2_with fail;refine qaa (mul_c _ _ _ (Kg.out) (Kh.out)) ?_;rintro e w2 ⟨rfl,hb2⟩;go_wp2_with fail;exact .mk (hE _ (hC1.next hb2))
 apply yN_
 ·apply dP [];exact fun _=>rfl;rfl;intro vals vq w1 hC1 E hE;clear vq;have hs:=hC1;simp only [sP] at hE ⊢;refine qab (hs.1.1) rfl rfl rfl hu rfl qag ?_;go_wp2_with fail;exact .mk (hE _ hC1)
 apply yN_
 ·apply dP [];exact fun _=>rfl;rfl;intro vals vq w1 hC1 E hE;clear vq;have hs:=hC1;simp only [sP] at hE ⊢;refine qab (hs.1.2.1) rfl rfl rfl hu rfl qag ?_;go_wp2_with fail;exact .mk (hE _ hC1)
 apply yN_
 ·apply dP [(6,some 71),(7,some 72),(5,some 70)];exact fun _=>rfl;rfl;intro vals vq w1 hC1 E hE;simp only [sP,vq] at hE ⊢;clear vq;go_wp2_with fail;refine qaa (mul_c _ _ _ (Kf.out) (Kg.out)) ?_;rintro e w2 ⟨rfl,hb2⟩;go_wp2_with fail;exact .mk (hE _ (hC1.next hb2))
 apply yN_
 ·apply dP [];exact fun _=>rfl;rfl;intro vals vq w1 hC1 E hE;clear vq;have hs:=hC1;simp only [sP] at hE ⊢;refine qab (hs.1.2.2.1) rfl rfl rfl hu rfl qag ?_;go_wp2_with fail;exact .mk (hE _ hC1)
 apply yN_
 ·apply dP [];exact fun _=>rfl;rfl;intro vals vq w1 hC1 E hE;clear vq;have hs:=hC1;simp only [sP] at hE ⊢;refine qab (hs.1.2.2.2.1) rfl rfl rfl hu rfl qag ?_;go_wp2_with fail;exact .mk (hE _ hC1)
 apply yN_
 ·apply dP [(9,some 74),(10,some 75),(8,some 73)];exact fun _=>rfl;rfl;intro vals vq w1 hC1 E hE;simp only [sP,vq] at hE ⊢;clear vq;go_wp2_with fail;refine qaa (mul_c _ _ _ (Ke.out) (Kh.out)) ?_;rintro e w2 ⟨rfl,hb2⟩;go_wp2_with fail;exact .mk (hE _ (hC1.next hb2))
 apply yN_
 ·apply dP [(2,some 67),(5,some 70),(8,some 73),(11,some 76)];exact fun _=>rfl;rfl;intro vals vq w1 hC1 E hE;simp only [sP,vq] at hE ⊢;clear vq;refine qbR (mulE (e) (f)) (mulE (g) (h)) (mulE (f) (g)) (mulE (e) (h)) rfl rfl rfl rfl rfl rfl ?_;go_wp2_with fail;exact .mk (hE _ hC1)
 apply yL_ (v:=undef)
 ·apply dP [(12,some 77),(11,some 76),(0,some 65),(1,some 66),(2,some 67),(3,some 68),(4,some 69),(5,some 70),(6,some 71),(7,some 72),(8,some 73),(9,some 74),(10,some 75),(11,some 76),(12,some 77)];exact fun _=>rfl;rfl;intro vals vq w1 hC1 E hE;have hlr:=HLR.out;simp only [sP,vq] at hE ⊢;clear vq;refine qaf (cells:=ptV (⟨mulE (e) (f),mulE (g) (h),mulE (f) (g),mulE (e) (h)⟩)) (hC1.1.2.2.2.2.2.2.2.2.2.2.2.1) rfl rfl rfl rfl qao rfl (by simp [eV,ptV,wV,limbs,Value.oneCell']) ?_;intro w6 hb6 hw6;go_wp2_with fail;exact .mk (hE _ ⟨hb6,hw6.below hC1.2 hlr hC1.2.size⟩)
 intro vals vq w1 hC1;simp only [sP,vq];clear vq;clear HC0;go_wp2_with fail;refine bodyPost_ret (qau (P:=Tryz.prog) rfl rfl hC1.1 hp rfl qao) rfl ⟨?_,hC1.2⟩;rw [Ef.out,Eg.out,Ee.out,Eh.out,Ez.out,Ea.out,Eb.out,Ec.out];rfl
theorem Wrote.refl (g:Nat) (w:World):Wrote g w w:=⟨World.grownBy.refl w _,rfl⟩
theorem Wrote.trans {g:Nat} {a b c:World} (h:Wrote g a b) (k:Wrote g b c):Wrote g a c:=⟨h.grown.trans k.grown,k.size.trans h.size⟩
theorem Wrote.drew {g:Nat} {a b:World} (h:Wrote g a b):Wrote g a b.drew:=⟨grown_drew h.grown,h.size⟩
def revS (l:List Nat):Nat→List Nat
 | 0=>l
 | k+1=>((revS l k).set k ((revS l k).getD (31 - k) 0)).set (31 - k) ((revS l k).getD k 0)
theorem qcI (l:List Nat):∀ k,(revS l k).length=l.length
 | 0=>rfl
 | k+1=>by rw [revS,List.length_set,List.length_set,qcI l k]
theorem revS_dg {l:List Nat} (h:Dg l):∀ k,Dg (revS l k)
 | 0=>h
 | k+1=>qdr (qdr (revS_dg h k) _ _ (qaA (revS_dg h k) _)) _ _ (qaA (revS_dg h k) _)
theorem qco (l:List Nat):(bnV l).toArray.size=l.length:=by simp [bnV]
theorem qb8:(Tryz.prog.info? 5).map (·.size)=some 1:=by kernel_rfl
theorem qet {l:List Nat} {k:Nat} (h:k<l.length):(bnV l).toArray[k]?=some (.int .u8 ((l.getD k 0:Nat):Int)):=by
 simp [bnV,List.getElem?_eq_getElem h,List.getD_eq_getElem?_getD]
theorem reverse_any (l:List Nat) (hl:l.length=32) (g:Nat) (t:TypeId) (c:Nat) (w:World) (hb:Blk w g t (bnV l).toArray) :
  Calls Tryz.prog 85 #[.slice (some ⟨g,0,none⟩) 32 c] w (fun e w'=>(∃ v,e=.returned v)∧Blk w' g t (bnV (revS l 16)).toArray∧Wrote g w w'):=by
 have hs0:Blk w g t (bnV (revS l 0)).toArray∧Wrote g w w:=⟨hb,Wrote.refl g w⟩;have HS0:=zY hs0;have HL:=zY hl;clear hs0 hb hl;go_enter Tryz.func85,Tryz.ntmps85;go_wp2_with fail
 go_loopw [2,3] (fun i j wr=>∃ k:Nat,k≤16∧i=.int .i64 k∧j=.int .i64 (31 - (k:Int))∧Blk wr g t (bnV (revS l k)).toArray∧Wrote g w wr) (fun i _ _=>16 - (intOf i).toNat)
 case atStart=>exact ⟨0,by omega,rfl,rfl,HS0.out.1,HS0.out.2⟩
 case round =>
  clear HS0;obtain ⟨k,hk,rfl,rfl,hblk,hwr⟩:=hrel
  by_cases hlt:k<16
  ·obtain ⟨m,hm⟩:=eX (31 - k);have hmi:(31:Int) - (k:Int)=(m:Int):=by omega
   have hkm:(k:Int)<(m:Int):=by omega
   have hm32:(m:Int)<32:=by omega
   rw [hmi];obtain ⟨R,hR⟩:=eX (revS l k);obtain ⟨a,ha⟩:=eX (R.getD k 0);obtain ⟨b,hbb⟩:=eX (R.getD m 0);have hRl:R.length=32:=by rw [hR,qcI]; exact HL.out
   have hnext:revS l (k+1)=(R.set k b).set m a:=by rw [revS,← hR,← hm,← ha,← hbb]
   rw [← hR] at hblk;have HKA:=zY (show (bnV R).toArray[k]?=some (.int .u8 (a:Int)) by rw [ha]; exact qet (by omega));have HKB:=zY (show (bnV R).toArray[m]?=some (.int .u8 (b:Int)) by rw [hbb]; exact qet (by omega));have HNEXT:=zY hnext;have HRL:=zY hRl;have HK:=zY hlt;have HM:=zY hm;have HWR:=zY hwr;have HI0:Blk wr.drew g t (bnV R).toArray:=hblk;have HC0:Wrote g wr wr.drew:=(Wrote.refl g wr).drew;clear hnext hRl ha hbb hR hwr hblk hm hlt hmi;go_wp2_with fail
   refine qar (fun u=>Wrote g wr u) (fun | false=>(fun u=>Blk u g t (bnV R).toArray) | true=>(fun _=>True)) (fun | false,i=>i == 13 || i == 15 | true,_=>false)
    [fun z _=>z 0=.slice (some ⟨g,0,none⟩) 32 c,
     fun z _=>z 1=.int .i64 (k:Int),
     fun z _=>z 2=.slice (some ⟨g,0,none⟩) 32 c,
     fun z _=>z 3=.int .i64 (m:Int),
     fun z _=>z 4=.slice (some ⟨g,0,none⟩) 32 c,
     fun z _=>z 5=.int .i64 (m:Int),
     fun z _=>z 6=.pointer (some ⟨g,m,none⟩),
     fun z _=>z 7=.int .u8 (b:Int),
     fun z _=>z 8=.slice (some ⟨g,0,none⟩) 32 c,
     fun z _=>z 9=.int .i64 (k:Int),
     fun z _=>z 10=.pointer (some ⟨g,k,none⟩),
     fun z _=>z 11=.int .u8 (a:Int),
     fun z _=>z 12=.pointer (some ⟨g,k,none⟩),
     fun z u=>Blk u g t (bnV (R.set k b)).toArray,
     fun z _=>z 14=.pointer (some ⟨g,m,none⟩),
     fun z u=>Blk u g t (bnV ((R.set k b).set m a)).toArray]
    [Eq,Eq,Eq,Eq,Eq,Eq,Eq,Eq,Eq,Eq,Eq,Eq,Eq,fun _ _=>True,Eq,fun _ _=>True]
    (fun i k=>(i == 15 && k == 13)) [(0,some 14),(1,some 15),(2,some 16),(3,some 17),(4,some 18),(5,some 19),(6,some 20),(7,some 21),(8,some 22),(9,some 23),(10,some 24),(11,some 25),(12,some 26),(13,none),(14,some 27),(15,none)] (by kernel_rfl) (by kernel_rfl) rfl (fun _=>rfl) ?_ ?_ ?_ ?_ ?_ ?_
   ·exact HC0
   ·intro m; cases m; exact HI0; exact trivial
   ·intro m; cases m
    ·refine ⟨?_,?_,?_,?_,?_,?_,?_,?_,?_,?_,?_,?_,?_,.inl rfl,?_,.inl rfl,trivial⟩ <;> exact .inr fun _ _ h h0=>h▸h0
    ·refine ⟨?_,?_,?_,?_,?_,?_,?_,?_,?_,?_,?_,?_,?_,?_,?_,?_,trivial⟩ <;> first | exact .inr fun _ _ h h0=>h▸h0 | exact .inr fun _ _ _ h=>h
   ·refine ⟨⟨.inl rfl,?_,?_,?_,?_,?_,?_,?_,?_,?_,?_,?_,?_,?_,?_,?_,trivial⟩,⟨?_,.inl rfl,?_,?_,?_,?_,?_,?_,?_,?_,?_,?_,?_,?_,?_,?_,trivial⟩,⟨?_,?_,.inl rfl,?_,?_,?_,?_,?_,?_,?_,?_,?_,?_,?_,?_,?_,trivial⟩,⟨?_,?_,?_,.inl rfl,?_,?_,?_,?_,?_,?_,?_,?_,?_,?_,?_,?_,trivial⟩,⟨?_,?_,?_,?_,.inl rfl,?_,?_,?_,?_,?_,?_,?_,?_,?_,?_,?_,trivial⟩,⟨?_,?_,?_,?_,?_,.inl rfl,?_,?_,?_,?_,?_,?_,?_,?_,?_,?_,trivial⟩,⟨?_,?_,?_,?_,?_,?_,.inl rfl,?_,?_,?_,?_,?_,?_,?_,?_,?_,trivial⟩,⟨?_,?_,?_,?_,?_,?_,?_,.inl rfl,?_,?_,?_,?_,?_,?_,?_,?_,trivial⟩,⟨?_,?_,?_,?_,?_,?_,?_,?_,.inl rfl,?_,?_,?_,?_,?_,?_,?_,trivial⟩,⟨?_,?_,?_,?_,?_,?_,?_,?_,?_,.inl rfl,?_,?_,?_,?_,?_,?_,trivial⟩,⟨?_,?_,?_,?_,?_,?_,?_,?_,?_,?_,.inl rfl,?_,?_,?_,?_,?_,trivial⟩,⟨?_,?_,?_,?_,?_,?_,?_,?_,?_,?_,?_,.inl rfl,?_,?_,?_,?_,trivial⟩,⟨?_,?_,?_,?_,?_,?_,?_,?_,?_,?_,?_,?_,.inl rfl,?_,?_,?_,trivial⟩,⟨?_,?_,?_,?_,?_,?_,?_,?_,?_,?_,?_,?_,?_,.inl rfl,?_,?_,trivial⟩,⟨?_,?_,?_,?_,?_,?_,?_,?_,?_,?_,?_,?_,?_,?_,.inl rfl,?_,trivial⟩,⟨?_,?_,?_,?_,?_,?_,?_,?_,?_,?_,?_,?_,?_,.inr (.inl rfl),?_,.inl rfl,trivial⟩,trivial⟩ <;> first | exact .inr (.inr (.inl rfl)) | exact .inr (.inr (.inr fun _ _ _ _ _ h=>h)) | exact .inr (.inr (.inr fun _ _ _ _ h h0=>by cases h; exact h0))
   ·refine ⟨?_,?_,?_,?_,?_,?_,?_,?_,?_,?_,?_,?_,?_,?_,?_,?_,trivial⟩
    ·refine qac [] (fun _=>rfl) rfl ?_;intro w1 vals hC1 hi0 hf E hE;have hI1:(fun u=>Blk u g t (bnV R).toArray) w1:=hi0 false rfl
     try dsimp only at hI1
     clear hi0;clear hf;simp only [sP] at hE ⊢;go_wp2;exact .mk (hE _ _ rfl hC1 rfl)
    ·refine qac [] (fun _=>rfl) rfl ?_;intro w1 vals hC1 hi0 hf E hE;have hI1:(fun u=>Blk u g t (bnV R).toArray) w1:=hi0 false rfl
     try dsimp only at hI1
     clear hi0;clear hf;simp only [sP] at hE ⊢;go_wp2;exact .mk (hE _ _ rfl hC1 rfl)
    ·refine qac [] (fun _=>rfl) rfl ?_;intro w1 vals hC1 hi0 hf E hE;clear hi0;clear hf;simp only [sP] at hE ⊢;go_wp2;exact .mk (hE _ _ rfl hC1 rfl)
    ·refine qac [] (fun _=>rfl) rfl ?_;intro w1 vals hC1 hi0 hf E hE;clear hi0;clear hf;simp only [sP] at hE ⊢;go_wp2;exact .mk (hE _ _ rfl hC1 rfl)
    ·refine qac [] (fun _=>rfl) rfl ?_;intro w1 vals hC1 hi0 hf E hE;have hI1:(fun u=>Blk u g t (bnV R).toArray) w1:=hi0 false rfl
     try dsimp only at hI1
     clear hi0;clear hf;simp only [sP] at hE ⊢;go_wp2;exact .mk (hE _ _ rfl hC1 rfl)
    ·refine qac [] (fun _=>rfl) rfl ?_;intro w1 vals hC1 hi0 hf E hE;have hI1:(fun u=>Blk u g t (bnV R).toArray) w1:=hi0 false rfl
     try dsimp only at hI1
     clear hi0;clear hf;simp only [sP] at hE ⊢;go_wp2;exact .mk (hE _ _ rfl hC1 rfl)
    ·refine qac [(4,some 18),(5,some 19)] (fun _=>rfl) rfl ?_;intro w1 vals hC1 hi0 hf E hE;have hI1:(fun u=>Blk u g t (bnV R).toArray) w1:=hi0 false rfl
     try dsimp only at hI1
     clear hi0;have f4:vals 4=_:=hf 4 rfl;have f5:vals 5=_:=hf 5 rfl
     try dsimp only at f4 f5
     clear hf;simp only [sP,f4,f5] at hE ⊢;clear f4 f5;go_wp2;exact .mk (hE _ _ rfl hC1 rfl)
    ·refine qac [(6,some 20)] (fun _=>rfl) rfl ?_;intro w1 vals hC1 hi0 hf E hE;have hI1:(fun u=>Blk u g t (bnV R).toArray) w1:=hi0 false rfl
     try dsimp only at hI1
     clear hi0;have f6:vals 6=_:=hf 6 rfl
     try dsimp only at f6
     clear hf;have d0:=hI1.cell m;rw [HKB.out] at d0;simp only [sP,f6] at hE ⊢;clear f6;go_wp2;exact .mk (hE _ _ rfl hC1 rfl)
    ·refine qac [] (fun _=>rfl) rfl ?_;intro w1 vals hC1 hi0 hf E hE;have hI1:(fun u=>Blk u g t (bnV R).toArray) w1:=hi0 false rfl
     try dsimp only at hI1
     clear hi0;clear hf;simp only [sP] at hE ⊢;go_wp2;exact .mk (hE _ _ rfl hC1 rfl)
    ·refine qac [] (fun _=>rfl) rfl ?_;intro w1 vals hC1 hi0 hf E hE;have hI1:(fun u=>Blk u g t (bnV R).toArray) w1:=hi0 false rfl
     try dsimp only at hI1
     clear hi0;clear hf;simp only [sP] at hE ⊢;go_wp2;exact .mk (hE _ _ rfl hC1 rfl)
    ·refine qac [(8,some 22),(9,some 23)] (fun _=>rfl) rfl ?_;intro w1 vals hC1 hi0 hf E hE;have hI1:(fun u=>Blk u g t (bnV R).toArray) w1:=hi0 false rfl
     try dsimp only at hI1
     clear hi0;have f8:vals 8=_:=hf 8 rfl;have f9:vals 9=_:=hf 9 rfl
     try dsimp only at f8 f9
     clear hf;simp only [sP,f8,f9] at hE ⊢;clear f8 f9;go_wp2;exact .mk (hE _ _ rfl hC1 rfl)
    ·refine qac [(10,some 24)] (fun _=>rfl) rfl ?_;intro w1 vals hC1 hi0 hf E hE;have hI1:(fun u=>Blk u g t (bnV R).toArray) w1:=hi0 false rfl
     try dsimp only at hI1
     clear hi0;have f10:vals 10=_:=hf 10 rfl
     try dsimp only at f10
     clear hf;have d0:=hI1.cell k;rw [HKA.out] at d0;simp only [sP,f10] at hE ⊢;clear f10;go_wp2;exact .mk (hE _ _ rfl hC1 rfl)
    ·refine qac [(0,some 14),(1,some 15),(0,some 14),(1,some 15),(4,some 18),(5,some 19),(6,some 20),(7,some 21),(11,some 25)] (fun _=>rfl) rfl ?_;intro w1 vals hC1 hi0 hf E hE;have hI1:(fun u=>Blk u g t (bnV R).toArray) w1:=hi0 false rfl
     try dsimp only at hI1
     clear hi0;have f0:vals 0=_:=hf 0 rfl;have f1:vals 1=_:=hf 1 rfl;have f4:vals 4=_:=hf 4 rfl;have f5:vals 5=_:=hf 5 rfl;have f6:vals 6=_:=hf 6 rfl;have f7:vals 7=_:=hf 7 rfl;have f11:vals 11=_:=hf 11 rfl
     try dsimp only at f0 f1 f4 f5 f6 f7 f11
     clear hf;simp only [sP,f0,f1,f4,f5,f6,f7,f11] at hE ⊢;clear f0 f1 f4 f5 f6 f7 f11;go_wp2;exact .mk (hE _ _ rfl hC1 rfl)
    ·refine qac [(12,some 26),(7,some 21),(0,some 14),(1,some 15),(4,some 18),(5,some 19),(6,some 20),(7,some 21),(11,some 25)] (fun _=>rfl) rfl ?_;intro w1 vals hC1 hi0 hf E hE;have hI1:(fun u=>Blk u g t (bnV R).toArray) w1:=hi0 false rfl
     try dsimp only at hI1
     clear hi0;have f0:vals 0=_:=hf 0 rfl;have f1:vals 1=_:=hf 1 rfl;have f4:vals 4=_:=hf 4 rfl;have f5:vals 5=_:=hf 5 rfl;have f6:vals 6=_:=hf 6 rfl;have f7:vals 7=_:=hf 7 rfl;have f11:vals 11=_:=hf 11 rfl;have f12:vals 12=_:=hf 12 rfl
     try dsimp only at f0 f1 f4 f5 f6 f7 f11 f12
     clear hf;simp only [sP,f0,f1,f4,f5,f6,f7,f11,f12] at hE ⊢;clear f0 f1 f4 f5 f6 f7 f11 f12;refine qam (i:=k) (v:=.int .u8 (b:Int)) hI1 rfl rfl rfl rfl qb8 (by rw [qco,HRL.out]; have:=HK.out; omega) rfl ?_;intro w2 hb2 hw2;rw [qbN] at hb2;go_wp2_with fail;exact .mk (hE undef _ hb2 (hC1.trans hw2) trivial)
    ·refine qac [(2,some 16),(3,some 17),(0,some 14),(1,some 15),(2,some 16),(3,some 17),(4,some 18),(5,some 19),(6,some 20),(7,some 21),(8,some 22),(9,some 23),(10,some 24),(11,some 25),(12,some 26),(13,none)] (fun _=>rfl) rfl ?_;intro w1 vals hC1 hi0 hf E hE;clear hi0;have f0:vals 0=_:=hf 0 rfl;have f1:vals 1=_:=hf 1 rfl;have f2:vals 2=_:=hf 2 rfl;have f3:vals 3=_:=hf 3 rfl;have f4:vals 4=_:=hf 4 rfl;have f5:vals 5=_:=hf 5 rfl;have f6:vals 6=_:=hf 6 rfl;have f7:vals 7=_:=hf 7 rfl;have f8:vals 8=_:=hf 8 rfl;have f9:vals 9=_:=hf 9 rfl;have f10:vals 10=_:=hf 10 rfl;have f11:vals 11=_:=hf 11 rfl;have f12:vals 12=_:=hf 12 rfl;have f13:(fun z u=>Blk u g t (bnV (R.set k b)).toArray) vals w1:=hf 13 rfl
     try dsimp only at f0 f1 f2 f3 f4 f5 f6 f7 f8 f9 f10 f11 f12 f13
     clear hf;simp only [sP,f0,f1,f2,f3,f4,f5,f6,f7,f8,f9,f10,f11,f12] at hE ⊢;clear f0 f1 f2 f3 f4 f5 f6 f7 f8 f9 f10 f11 f12;go_wp2;exact .mk (hE _ _ rfl hC1 rfl)
    ·refine qac [(14,some 27),(11,some 25),(13,none),(0,some 14),(1,some 15),(2,some 16),(3,some 17),(4,some 18),(5,some 19),(6,some 20),(7,some 21),(8,some 22),(9,some 23),(10,some 24),(11,some 25),(12,some 26),(13,none)] (fun _=>rfl) rfl ?_;intro w1 vals hC1 hi0 hf E hE;clear hi0;have f0:vals 0=_:=hf 0 rfl;have f1:vals 1=_:=hf 1 rfl;have f2:vals 2=_:=hf 2 rfl;have f3:vals 3=_:=hf 3 rfl;have f4:vals 4=_:=hf 4 rfl;have f5:vals 5=_:=hf 5 rfl;have f6:vals 6=_:=hf 6 rfl;have f7:vals 7=_:=hf 7 rfl;have f8:vals 8=_:=hf 8 rfl;have f9:vals 9=_:=hf 9 rfl;have f10:vals 10=_:=hf 10 rfl;have f11:vals 11=_:=hf 11 rfl;have f12:vals 12=_:=hf 12 rfl;have f13:(fun z u=>Blk u g t (bnV (R.set k b)).toArray) vals w1:=hf 13 rfl;have f14:vals 14=_:=hf 14 rfl
     try dsimp only at f0 f1 f2 f3 f4 f5 f6 f7 f8 f9 f10 f11 f12 f13 f14
     clear hf;simp only [sP,f0,f1,f2,f3,f4,f5,f6,f7,f8,f9,f10,f11,f12,f14] at hE ⊢;clear f0 f1 f2 f3 f4 f5 f6 f7 f8 f9 f10 f11 f12 f14;refine qam (i:=m) (v:=.int .u8 (a:Int)) f13 rfl rfl rfl rfl qb8 (by rw [qco,List.length_set,HRL.out]; have:=HM.out; omega) rfl ?_;intro w2 hb2 hw2;rw [qbN] at hb2;go_wp2_with fail;exact .mk (hE undef _ hb2 (hC1.trans hw2) trivial)
   intro w1 vals hC1 hf;have f0:vals 0=_:=hf 0 (by decide) rfl;have f1:vals 1=_:=hf 1 (by decide) rfl;have f2:vals 2=_:=hf 2 (by decide) rfl;have f3:vals 3=_:=hf 3 (by decide) rfl;have f4:vals 4=_:=hf 4 (by decide) rfl;have f5:vals 5=_:=hf 5 (by decide) rfl;have f6:vals 6=_:=hf 6 (by decide) rfl;have f7:vals 7=_:=hf 7 (by decide) rfl;have f8:vals 8=_:=hf 8 (by decide) rfl;have f9:vals 9=_:=hf 9 (by decide) rfl;have f10:vals 10=_:=hf 10 (by decide) rfl;have f11:vals 11=_:=hf 11 (by decide) rfl;have f12:vals 12=_:=hf 12 (by decide) rfl;have f14:vals 14=_:=hf 14 (by decide) rfl;have f15:(fun z u=>Blk u g t (bnV ((R.set k b).set m a)).toArray) vals w1:=hf 15 (by decide) rfl
   try dsimp only at f0 f1 f2 f3 f4 f5 f6 f7 f8 f9 f10 f11 f12 f14 f15
   clear hf;simp only [sP,f0,f1,f2,f3,f4,f5,f6,f7,f8,f9,f10,f11,f12,f14];clear f0 f1 f2 f3 f4 f5 f6 f7 f8 f9 f10 f11 f12 f14;rw [← HNEXT.out] at f15;have HF:=zY f15;have HC1:=zY hC1;clear hC1 f15 HC0 HI0;have hm1:(m:Int) - 1=31 - ((k+1:Nat):Int):=by have:=HM.out; have:=HK.out; omega
   have HM1:=zY hm1;clear hm1;go_wp2_with fail;exact ⟨⟨k+1,HK.out,by go_num,by rw [HM1.out],HF.out,HWR.out.trans HC1.out⟩,by have:=HK.out; simp [intOf]; omega⟩
  ·obtain rfl:k=16:=by omega
   have HF:=zY hblk;have HWR:=zY hwr;clear hblk hwr hlt hk;go_wp2_with fail;refine bodyPost_end (results_none rfl _ _ _) rfl ?_;exact ⟨⟨_,rfl⟩,HF.out,HWR.out⟩
def toB (l:List Nat):List UInt8:=l.map UInt8.ofNat
theorem toB_v {l:List Nat} (h:Dg l):bytesV (toB l)=bnV l:=by rw [← qdN,toB,qcv l h]
def knownE (l:List Nat):E5:=readE (toB (revS l 16))
theorem readE_ok (l:List UInt8):(readE l).Ok:=by
 unfold readE
 split
 ·exact ofN_ok _
 ·exact zE_ok
theorem qb3 (l:List Nat):(knownE l).Ok:=readE_ok _
theorem qc2 (l:List Nat) (hd:Dg l) (hl:l.length=32) (w:World):Calls Tryz.prog 59 #[.agg (bnV l).toArray] w (ElemPost (knownE l) w):=by
 have hu:=Tryz.underlying46;obtain ⟨w0,hw0⟩:=eX ((w.alloc (.cells (bnV l).toArray 85)).alloc (.cells (eV zE) 46));obtain ⟨R,hR⟩:=eX (revS l 16);have hRl:R.length=32:=by rw [hR,qcI]; exact hl
 have hbg:Blk w0 w.heap.size 85 (bnV l).toArray:=by rw [hw0]; exact (Blk.new _ _ _).alloc _
 have hbr:Blk w0 (w.heap.size+1) 46 (eV zE):=by rw [hw0]; exact Blk.newAt (by simp)
 have hbel:Below w.heap.size w w0:=by rw [hw0]; exact (below_new _ _).alloc (by simp) _
 have hrev:=reverse_any l hl w.heap.size 85 32 w0 hbg;rw [← hR] at hrev
 have hread:∀ u g,Blk u g 85 (bnV R).toArray→Calls Tryz.prog 46 #[.slice (some ⟨g,0,none⟩) 32 32] u (ReadPost (toB R) u):=fun u g hb=>by
  have hv:bytesV (toB R)=bnV R:=toB_v (by rw [hR]; exact revS_dg hd 16);have hlen:(toB R).length=32:=by rw [toB,List.length_map,hRl]
  have h:=read_any (toB R) (some ⟨g,0,none⟩) 32 u (by rw [hv]; exact Rd.of_blk hb hb.lt) (by rw [hlen]; exact Nat.le_refl _) (by rw [hlen]; decide);rw [hlen] at h; exact h
 have HW:=zY hw0;have HREV:=zY hrev;have HREAD:=zY hread;have HBR:=zY hbr;have HBEL:=zY hbel;have HR:=zY hR;have hne:w.heap.size+1≠w.heap.size:=by omega
 have HNE:=zY hne;have HLR:=zY (show w.heap.size≤w.heap.size+1 by omega);clear hw0 hRl hbg hbr hbel hrev hread hR hd hl hne;generalize hcs:(bnV l).toArray=cs at *;go_enter Tryz.func59,Tryz.ntmps59;go_wp2_with fail;show Calls _ _ _ ((w.alloc (.cells cs _)).alloc (.cells (eV zE) _)) _;rw [← HW.out];generalize w.heap.size+1=r at *;generalize hgg:w.heap.size=g at *;have HG:=zY hgg;clear hgg HW;refine qaa HREV.out ?_;rintro e w1 ⟨⟨v,rfl⟩,hb1,hw1⟩;have HB1:=zY hb1;have HBR1:=zY (hw1.blk HBR.out HNE.out);have HBEL1:=zY (hw1.below HBEL.out (Nat.le_refl _) (by have h:=HBEL.out; rw [← HG.out] at h ⊢; exact h.size));clear hb1 hw1 HBR HBEL HREV;go_wp2_with fail;refine qaa (HREAD.out w1 g HB1.out) ?_;rintro e w2 ⟨rfl,hb2⟩;have HGS:Hid (g≤w1.heap.size):=zY (by have h:=HBEL1.out; rw [← HG.out] at h ⊢; exact h.size);have HBEL2:=zY (HBEL1.out.trans (hb2.mono HGS.out));have HBR2:=zY (HBR1.out.below hb2 HBR1.out.lt);clear hb2 HBEL1 HBR1
 go_wp2_with (first
  | (refine qaf (x:=.tmp 4) (cells:=eV (readE (toB R))) (Blk.new _ _ _) rfl rfl rfl rfl qag rfl (by simp [eV,wV,limbs,Value.oneCell']) ?_; intro w3 hb3 hw3; have HB3:=zY hb3; have HBR3:=zY (HBR2.out.below (qba hw3) HBR2.out.lt); have HBEL3:=zY (HBEL2.out.trans ((qba hw3).mono (by have h:=HBEL2.out; rw [← HG.out] at h ⊢; exact h.size))); clear hb3 hw3)
  | (refine qab (x:=.tmp 4) HB3.out rfl rfl rfl hu rfl qag ?_)
  | (refine qaf (x:=.tmp 2) (cells:=eV (readE (toB R))) HBR3.out rfl rfl rfl rfl qag rfl (by simp [eV,wV,limbs,Value.oneCell']) ?_; intro w4 hb4 hw4; have HB4:=zY hb4; have HW4:=zY hw4; clear hb4 hw4))
 refine bodyPost_ret (qau (P:=Tryz.prog) rfl rfl HB4.out hu rfl qag) rfl ⟨by rw [knownE,← HR.out],?_⟩;rw [HG.out];exact HW4.out.below HBEL3.out HLR.out (by have h:=HBEL3.out; rw [← HG.out] at h ⊢; exact h.size)
def dL:List Nat:=[82,3,108,238,43,111,254,115,140,199,64,121,119,121,232,152,0,112,10,77,65,65,216,171,117,235,77,202,19,89,120,163]
def turnL:List Nat:=[43,131,36,128,79,193,223,11,43,77,0,153,61,251,215,167,47,67,24,6,173,47,228,120,196,238,27,39,74,14,160,176]
def bxL:List Nat:=[33,105,54,211,205,110,83,254,192,164,226,49,253,214,220,92,105,44,199,96,149,37,167,178,201,86,45,96,143,37,213,26]
def byL:List Nat:=List.replicate 31 102++[88]
def dE:E5:=knownE dL
def turnE:E5:=knownE turnL
theorem dE_ok:dE.Ok:=qb3 _
theorem turnE_ok:turnE.Ok:=qb3 _
theorem d_known (u:World):Calls Tryz.prog 59 #[.agg (bnV dL).toArray] u (ElemPost dE u):=qc2 dL (by unfold Dg; decide) rfl u
theorem turn_known (u:World):Calls Tryz.prog 59 #[.agg (bnV turnL).toArray] u (ElemPost turnE u):=qc2 turnL (by unfold Dg; decide) rfl u
theorem bx_known (u:World):Calls Tryz.prog 59 #[.agg (bnV bxL).toArray] u (ElemPost (knownE bxL) u):=qc2 bxL (by unfold Dg; decide) rfl u
theorem by_known (u:World):Calls Tryz.prog 59 #[.agg (bnV byL).toArray] u (ElemPost (knownE byL) u):=qc2 byL (by unfold Dg; decide) rfl u
theorem d_any (w:World):Calls Tryz.prog 51 #[] w (ElemPost dE w):=by
 have hu:=Tryz.underlying46;have HK:=zY d_known;have hbr:Blk (w.alloc (.cells (eV zE) 46)) w.heap.size 46 (eV zE):=Blk.new _ _ _;have hbel:Below w.heap.size w (w.alloc (.cells (eV zE) 46)):=below_new _ _;have HBR:=zY hbr;have HBEL:=zY hbel;clear hbr hbel;generalize dE=X at *;go_enter Tryz.func51,Tryz.ntmps51;go_wp2_with fail;refine qaa (HK.out _) ?_;rintro e w2 ⟨rfl,hb2⟩;have HBR2:=zY (HBR.out.below hb2 HBR.out.lt);have HBEL2:=zY (HBEL.out.trans (hb2.mono (by simp)));clear hb2 HBR HBEL;go_wp2_with (refine qaf (x:=.tmp 0) (cells:=eV X) HBR2.out rfl rfl rfl rfl qag rfl (by simp [eV,wV,limbs,Value.oneCell']) ?_; intro w4 hb4 hw4; have HB4:=zY hb4; have HW4:=zY hw4; clear hb4 hw4);refine bodyPost_ret (qau (P:=Tryz.prog) rfl rfl HB4.out hu rfl qag) rfl ⟨rfl,HW4.out.below HBEL2.out (Nat.le_refl _) HBEL2.out.size⟩
theorem turn_any (w:World):Calls Tryz.prog 80 #[] w (ElemPost turnE w):=by
 have hu:=Tryz.underlying46;have HK:=zY turn_known;have hbr:Blk (w.alloc (.cells (eV zE) 46)) w.heap.size 46 (eV zE):=Blk.new _ _ _;have hbel:Below w.heap.size w (w.alloc (.cells (eV zE) 46)):=below_new _ _;have HBR:=zY hbr;have HBEL:=zY hbel;clear hbr hbel;generalize turnE=X at *;go_enter Tryz.func80,Tryz.ntmps80;go_wp2_with fail;refine qaa (HK.out _) ?_;rintro e w2 ⟨rfl,hb2⟩;have HBR2:=zY (HBR.out.below hb2 HBR.out.lt);have HBEL2:=zY (HBEL.out.trans (hb2.mono (by simp)));clear hb2 HBR HBEL;go_wp2_with (refine qaf (x:=.tmp 0) (cells:=eV X) HBR2.out rfl rfl rfl rfl qag rfl (by simp [eV,wV,limbs,Value.oneCell']) ?_; intro w4 hb4 hw4; have HB4:=zY hb4; have HW4:=zY hw4; clear hb4 hw4);refine bodyPost_ret (qau (P:=Tryz.prog) rfl rfl HB4.out hu rfl qag) rfl ⟨rfl,HW4.out.below HBEL2.out (Nat.le_refl _) HBEL2.out.size⟩
def zeroP:Pt4:=ofP (intE 0) (intE 1)
theorem int0_ok:(intE 0).Ok:=intE_ok (by decide) (by decide)
theorem zeroP_ok:zeroP.Ok:=ofP_ok int0_ok qd8
theorem zero_any (w:World):Calls Tryz.prog 60 #[] w (PtPost zeroP w):=by
 have hp:=Tryz.underlying48;have H0:=zY int0_c;have H1:=zY int1_c;have HO:=zY (fun u=>pof_any (intE 0) (intE 1) int0_ok qd8 u);have hbr:Blk (w.alloc (.cells (ptV zP) 48)) w.heap.size 48 (ptV zP):=Blk.new _ _ _;have hbel:Below w.heap.size w (w.alloc (.cells (ptV zP) 48)):=below_new _ _;have HBR:=zY hbr;have HBEL:=zY hbel;clear hbr hbel;have HZ:Hid (zeroP=ofP (intE 0) (intE 1)):=zY rfl;generalize ofP (intE 0) (intE 1)=X at *;generalize intE 0=I0 at *;generalize intE 1=I1 at *;go_enter Tryz.func60,Tryz.ntmps60;go_wp2_with fail;refine qaa (H0.out _) ?_;rintro e w1 ⟨rfl,hb1⟩;have HBR1:=zY (HBR.out.below hb1 HBR.out.lt);have HBEL1:=zY (HBEL.out.trans (hb1.mono (by simp)));clear hb1 HBR HBEL;go_wp2_with fail;refine qaa (H1.out _) ?_;rintro e w2 ⟨rfl,hb2⟩;have HBR2:=zY (HBR1.out.below hb2 HBR1.out.lt);have HBEL2:=zY (HBEL1.out.trans (hb2.mono HBEL1.out.size));clear hb2 HBR1 HBEL1;go_wp2_with fail;refine qaa (HO.out _) ?_;rintro e w3 ⟨rfl,hb3⟩;have HBR3:=zY (HBR2.out.below hb3 HBR2.out.lt);have HBEL3:=zY (HBEL2.out.trans (hb3.mono HBEL2.out.size));clear hb3 HBR2 HBEL2;go_wp2_with (refine qaf (x:=.tmp 0) (cells:=ptV X) HBR3.out rfl rfl rfl rfl qao rfl (by simp [ptV,wV,limbs,Value.oneCell']) ?_; intro w4 hb4 hw4; have HB4:=zY hb4; have HW4:=zY hw4; clear hb4 hw4);refine bodyPost_ret (qau (P:=Tryz.prog) rfl rfl HB4.out hp rfl qao) rfl ⟨by rw [HZ.out],HW4.out.below HBEL3.out (Nat.le_refl _) HBEL3.out.size⟩
theorem d2_ok:(addE dE dE).Ok:=qbk dE_ok dE_ok
def addP (p q:Pt4):Pt4:=sumP p q (addE dE dE)
theorem addP_ok {p q:Pt4} (hp:p.Ok) (hq:q.Ok):(addP p q).Ok:=qdb hp hq d2_ok
theorem padd_any (p q:Pt4) (w:World) (hkp:p.Ok) (hkq:q.Ok):Calls Tryz.prog 23 #[.agg (ptV p),.agg (ptV q)] w (PtPost (addP p q) w):=by
 have hu:=Tryz.underlying46;have hp:=Tryz.underlying48;have KP:=zY hkp;have KQ:=zY hkq;obtain ⟨X,hX⟩:=eX dE;have hadd:addP p q=sumP p q (addE X X):=by rw [hX]; rfl
 have CD:=zY (show ∀ u,Calls Tryz.prog 51 #[] u (ElemPost X u) from fun u=>by rw [hX]; exact d_any u);have KX:=zY (show X.Ok by rw [hX]; exact dE_ok);rw [hadd];clear hX hadd;obtain ⟨w0,hw0⟩:=eX ((((w.alloc (.cells (ptV p) 48)).alloc (.cells (ptV q) 48)).alloc (.cells (ptV zP) 48)))
 have hst:Cs [.box (w.heap.size) 48 (ptV p),.box (w.heap.size+1) 48 (ptV q),.box (w.heap.size+1+1) 48 (ptV zP)] w w0:=by
  rw [hw0];exact ⟨⟨(((Blk.new _ _ _).alloc _).alloc _),((Blk.newAt (by simp)).alloc _),(Blk.newAt (by simp)),trivial⟩,(((below_new _ _).alloc (by simp; try omega) _).alloc (by simp; try omega) _)⟩
 have HLR:=zY (show w.heap.size≤w.heap.size+1+1 by omega);have HW:=zY hw0;have HST0:=zY hst;clear hw0 hst hkp hkq;go_enter Tryz.func23,Tryz.ntmps23;go_wp2_with fail;show Code.wp Tryz.prog _ _ _ (((w.alloc (.cells (ptV p) _)).alloc (.cells (ptV q) _)).alloc (.cells (ptV zP) _));rw [← HW.out];generalize w.heap.size+1+1=r at *;generalize w.heap.size+1=gq at *;generalize hgp:w.heap.size=gp at HST0 ⊢;clear HW hgp;have HC0:=HST0.out.drew;clear HST0;refine qal (fun u=>Cs [.box gp 48 (ptV p),.box gq 48 (ptV q),.box r 48 (ptV zP)] w u) (fun u=>Blk u r 48 (ptV (sumP (p) (q) (addE (X) (X))))∧Below w.heap.size w u) [(0,some 5),(1,some 6),(2,some 7),(3,some 8),(4,some 9),(5,some 10),(6,none)] (by kernel_rfl) (by kernel_rfl) (by decide) (by kernel_rfl) (fun _=>rfl) HC0 ?_;apply yN_
 ·apply dP [];exact fun _=>rfl;rfl;rintro vals - w1 hC1 E hE;have hs:=hC1;simp only [sP] at hE ⊢;refine qab (hs.1.1) rfl rfl rfl hp rfl qao ?_;go_wp2_with fail;exact .mk (hE _ hC1)
 apply yN_
 ·apply dP [];exact fun _=>rfl;rfl;rintro vals ⟨-,-⟩ w1 hC1 E hE;have hs:=hC1;simp only [sP] at hE ⊢;refine qab (hs.1.2.1) rfl rfl rfl hp rfl qao ?_;go_wp2_with fail;exact .mk (hE _ hC1)
 apply yN_
 ·apply dP [];exact fun _=>rfl;rfl;intro vals vq w1 hC1 E hE;clear vq;simp only [sP] at hE ⊢;go_wp2_with fail;refine qaa (CD.out _) ?_;rintro e w2 ⟨rfl,hb2⟩;go_wp2_with fail;exact .mk (hE _ (hC1.next hb2))
 apply yN_
 ·apply dP [(2,some 7)];exact fun _=>rfl;rfl;intro vals vq w1 hC1 E hE;simp only [sP,vq] at hE ⊢;clear vq;go_wp2_with fail;refine qaa (CD.out _) ?_;rintro e w2 ⟨rfl,hb2⟩;go_wp2_with fail;exact .mk (hE _ (hC1.next hb2))
 apply yN_
 ·apply dP [(2,some 7),(3,some 8),(3,some 8)];exact fun _=>rfl;rfl;intro vals vq w1 hC1 E hE;simp only [sP,vq] at hE ⊢;clear vq;go_wp2_with fail;refine qaa (add_c _ _ _ (KX.out) (KX.out)) ?_;rintro e w2 ⟨rfl,hb2⟩;go_wp2_with fail;exact .mk (hE _ (hC1.next hb2))
 apply yN_
 ·apply dP [(0,some 5),(1,some 6),(4,some 9),(4,some 9)];exact fun _=>rfl;rfl;intro vals vq w1 hC1 E hE;simp only [sP,vq] at hE ⊢;clear vq;go_wp2_with fail;refine qaa (sum_any _ _ _ _ (KP.out) (KQ.out) (qbk (KX.out) (KX.out))) ?_;rintro e w2 ⟨rfl,hb2⟩;go_wp2_with fail;exact .mk (hE _ (hC1.next hb2))
 apply yL_ (v:=undef)
 ·apply dP [(5,some 10),(5,some 10),(0,some 5),(1,some 6),(2,some 7),(3,some 8),(4,some 9),(5,some 10)];exact fun _=>rfl;rfl;intro vals vq w1 hC1 E hE;have hlr:=HLR.out;simp only [sP,vq] at hE ⊢;clear vq;refine qaf (cells:=ptV (sumP (p) (q) (addE (X) (X)))) (hC1.1.2.2.1) rfl rfl rfl rfl qao rfl (by simp [eV,ptV,wV,limbs,Value.oneCell']) ?_;intro w6 hb6 hw6;go_wp2_with fail;exact .mk (hE _ ⟨hb6,hw6.below hC1.2 hlr hC1.2.size⟩)
 intro vals vq w1 hC1;simp only [sP,vq];clear vq;clear HC0;go_wp2_with fail;refine bodyPost_ret (qau (P:=Tryz.prog) rfl rfl hC1.1 hp rfl qao) rfl ⟨rfl,hC1.2⟩
theorem pneg_any (p:Pt4) (w:World) (hkp:p.Ok):Calls Tryz.prog 24 #[.agg (ptV p)] w (PtPost (negP p) w):=by
 have hu:=Tryz.underlying46;have hp:=Tryz.underlying48;have KP:=zY hkp;obtain ⟨w0,hw0⟩:=eX (((w.alloc (.cells (ptV p) 48)).alloc (.cells (ptV zP) 48)))
 have hst:Cs [.box (w.heap.size) 48 (ptV p),.box (w.heap.size+1) 48 (ptV zP)] w w0:=by
  rw [hw0];exact ⟨⟨((Blk.new _ _ _).alloc _),(Blk.newAt (by simp)),trivial⟩,((below_new _ _).alloc (by simp; try omega) _)⟩
 have HLR:=zY (show w.heap.size≤w.heap.size+1 by omega);have HW:=zY hw0;have HST0:=zY hst;clear hw0 hst hkp;go_enter Tryz.func24,Tryz.ntmps24;go_wp2_with fail;show Code.wp Tryz.prog _ _ _ ((w.alloc (.cells (ptV p) _)).alloc (.cells (ptV zP) _));rw [← HW.out];generalize w.heap.size+1=r at *;generalize hgp:w.heap.size=gp at HST0 ⊢;clear HW hgp;have HC0:=HST0.out.drew;clear HST0;refine qal (fun u=>Cs [.box gp 48 (ptV p),.box r 48 (ptV zP)] w u) (fun u=>Blk u r 48 (ptV (⟨subE (zE) (p.x),p.y,p.z,subE (zE) (p.t)⟩))∧Below w.heap.size w u) [(0,some 3),(1,some 4),(2,some 5),(3,some 6),(4,some 7),(5,some 8),(6,some 9),(7,some 10),(8,some 11),(9,some 12),(10,some 13),(11,some 14),(12,some 15),(13,none)] (by kernel_rfl) (by kernel_rfl) (by decide) (by kernel_rfl) (fun _=>rfl) HC0 ?_;apply yN_
 ·apply dP [];exact fun _=>rfl;rfl;rintro vals - w1 hC1 E hE;simp only [sP] at hE ⊢;go_wp2;exact .mk (hE _ hC1)
 apply yN_
 ·apply dP [];exact fun _=>rfl;rfl;rintro vals ⟨-,-⟩ w1 hC1 E hE;simp only [sP] at hE ⊢;go_wp2;exact .mk (hE _ hC1)
 apply yN_
 ·apply dP [(1,some 4)];exact fun _=>rfl;rfl;intro vals vq w1 hC1 E hE;have hs:=hC1;simp only [sP,vq] at hE ⊢;clear vq;refine qan (n:=5) (r:=eV (p.x)) (hs.1.1) (by rw [qaV]; decide) rfl rfl rfl rfl hu rfl qag ?_;go_wp2_with fail;exact .mk (hE _ hC1)
 apply yN_
 ·apply dP [(0,some 3),(2,some 5)];exact fun _=>rfl;rfl;intro vals vq w1 hC1 E hE;simp only [sP,vq] at hE ⊢;clear vq;go_wp2_with fail;refine qaa (sub_z _ (KP.out.x) _) ?_;rintro e w2 ⟨rfl,hb2⟩;go_wp2_with fail;exact .mk (hE _ (hC1.next hb2))
 apply yN_
 ·apply dP [];exact fun _=>rfl;rfl;intro vals vq w1 hC1 E hE;clear vq;simp only [sP] at hE ⊢;go_wp2;exact .mk (hE _ hC1)
 apply yN_
 ·apply dP [(4,some 7)];exact fun _=>rfl;rfl;intro vals vq w1 hC1 E hE;have hs:=hC1;simp only [sP,vq] at hE ⊢;clear vq;refine qan (n:=5) (r:=eV (p.y)) (hs.1.1) (by rw [qaV]; decide) rfl rfl rfl rfl hu rfl qag ?_;go_wp2_with fail;exact .mk (hE _ hC1)
 apply yN_
 ·apply dP [];exact fun _=>rfl;rfl;intro vals vq w1 hC1 E hE;clear vq;simp only [sP] at hE ⊢;go_wp2;exact .mk (hE _ hC1)
 apply yN_
 ·apply dP [(6,some 9)];exact fun _=>rfl;rfl;intro vals vq w1 hC1 E hE;have hs:=hC1;simp only [sP,vq] at hE ⊢;clear vq;refine qan (n:=5) (r:=eV (p.z)) (hs.1.1) (by rw [qaV]; decide) rfl rfl rfl rfl hu rfl qag ?_;go_wp2_with fail;exact .mk (hE _ hC1)
 apply yN_
 ·apply dP [];exact fun _=>rfl;rfl;intro vals vq w1 hC1 E hE;clear vq;simp only [sP] at hE ⊢;go_wp2;exact .mk (hE _ hC1)
 apply yN_
 ·apply dP [];exact fun _=>rfl;rfl;intro vals vq w1 hC1 E hE;clear vq;simp only [sP] at hE ⊢;go_wp2;exact .mk (hE _ hC1)
 apply yN_
 ·apply dP [(9,some 12)];exact fun _=>rfl;rfl;intro vals vq w1 hC1 E hE;have hs:=hC1;simp only [sP,vq] at hE ⊢;clear vq;refine qan (n:=5) (r:=eV (p.t)) (hs.1.1) (by rw [qaV]; decide) rfl rfl rfl rfl hu rfl qag ?_;go_wp2_with fail;exact .mk (hE _ hC1)
 apply yN_
 ·apply dP [(8,some 11),(10,some 13),(3,some 6)];exact fun _=>rfl;rfl;intro vals vq w1 hC1 E hE;simp only [sP,vq] at hE ⊢;clear vq;go_wp2_with fail;refine qaa (sub_z _ (KP.out.t) _) ?_;rintro e w2 ⟨rfl,hb2⟩;go_wp2_with fail;exact .mk (hE _ (hC1.next hb2))
 apply yN_
 ·apply dP [(3,some 6),(5,some 8),(7,some 10),(11,some 14)];exact fun _=>rfl;rfl;intro vals vq w1 hC1 E hE;simp only [sP,vq] at hE ⊢;clear vq;refine qbR (subE (zE) (p.x)) (p.y) (p.z) (subE (zE) (p.t)) rfl rfl rfl rfl rfl rfl ?_;go_wp2_with fail;exact .mk (hE _ hC1)
 apply yL_ (v:=undef)
 ·apply dP [(12,some 15),(11,some 14),(0,some 3),(1,some 4),(2,some 5),(3,some 6),(4,some 7),(5,some 8),(6,some 9),(7,some 10),(8,some 11),(9,some 12),(10,some 13),(11,some 14),(12,some 15)];exact fun _=>rfl;rfl;intro vals vq w1 hC1 E hE;have hlr:=HLR.out;simp only [sP,vq] at hE ⊢;clear vq;refine qaf (cells:=ptV (⟨subE (zE) (p.x),p.y,p.z,subE (zE) (p.t)⟩)) (hC1.1.2.1) rfl rfl rfl rfl qao rfl (by simp [eV,ptV,wV,limbs,Value.oneCell']) ?_;intro w6 hb6 hw6;go_wp2_with fail;exact .mk (hE _ ⟨hb6,hw6.below hC1.2 hlr hC1.2.size⟩)
 intro vals vq w1 hC1;simp only [sP,vq];clear vq;clear HC0;go_wp2_with fail;refine bodyPost_ret (qau (P:=Tryz.prog) rfl rfl hC1.1 hp rfl qao) rfl ⟨rfl,hC1.2⟩
def pmS (T:E5) (p out:Pt4) (bit:Nat):Pt4:=if bit=1 then sumP (sumP out out T) p T else sumP out out T
def pmB (T:E5) (p out:Pt4) (b:Nat):Nat→Pt4
 | 0=>out
 | j+1=>pmS T p (pmB T p out b j) (b/2^(7 - j)%2)
def pmL (T:E5) (p:Pt4) (l:List Nat):Nat→Pt4
 | 0=>zeroP
 | j+1=>pmB T p (pmL T p l j) (l.getD (l.length - 1 - j) 0) 8
section
variable {T:E5} {p out:Pt4} (hT:T.Ok) (hp:p.Ok)
include hT hp
theorem pmS_ok (ho:out.Ok) (bit:Nat):(pmS T p out bit).Ok:=by
 unfold pmS
 split
 ·exact qdb (qdb ho ho hT) hp hT
 ·exact qdb ho ho hT
theorem pmB_ok (ho:out.Ok) (b:Nat):∀ j,(pmB T p out b j).Ok
 | 0=>ho
 | j+1=>pmS_ok hT hp (pmB_ok ho b j) _
theorem pmL_ok (l:List Nat):∀ j,(pmL T p l j).Ok
 | 0=>zeroP_ok
 | j+1=>pmB_ok hT hp (pmL_ok l j) _ 8
end
def mulP (p:Pt4) (l:List UInt8):Pt4:=pmL (addE dE dE) p (digs (l.take 32)) (min l.length 32)
theorem mulP_ok {p:Pt4} (hp:p.Ok) (l:List UInt8):(mulP p l).Ok:=pmL_ok d2_ok hp _ _
structure PM (w0:World) (g r o ow:Nat) (p cur:Pt4) (T:E5) (u:World):Prop where
 bel:Below w0.heap.size w0 u
 x:Blk u g 48 (ptV p)
 z:Blk u r 48 (ptV zP)
 y:Blk u o 48 (ptV cur)
 t:Blk u ow 46 (eV T)
 lo:w0.heap.size≤o
 lr:w0.heap.size≤r
 go:g≠o
 ro:r≠o
 wo:ow≠o
theorem PM.next {w0 u u':World} {g r o ow:Nat} {p cur:Pt4} {T:E5} (k:PM w0 g r o ow p cur T u) (hb:Below u.heap.size u u'):PM w0 g r o ow p cur T u' :=
 ⟨k.bel.trans (hb.mono k.bel.size),k.x.below hb k.x.lt,k.z.below hb k.z.lt,k.y.below hb k.y.lt,k.t.below hb k.t.lt,k.lo,k.lr,k.go,k.ro,k.wo⟩
theorem PM.put {w0 u u':World} {g r o ow:Nat} {p cur cur':Pt4} {T:E5} (k:PM w0 g r o ow p cur T u) (hw:Wrote o u u') (hb:Blk u' o 48 (ptV cur')):PM w0 g r o ow p cur' T u' :=
 ⟨hw.below k.bel k.lo k.bel.size,hw.blk k.x k.go,hw.blk k.z k.ro,hb,hw.blk k.t k.wo,k.lo,k.lr,k.go,k.ro,k.wo⟩
theorem pmul_any (p:Pt4) (hkp:p.Ok) (l:List UInt8) (A:Option Addr) (c:Nat) (w:World) (hr:Rd w w.heap.size A (bytesV l)) (hc:l.length≤c) :
  Calls Tryz.prog 22 #[.agg (ptV p),.slice A l.length c] w (PtPost (mulP p l) w):=by
 have hu:=Tryz.underlying46;have hp:=Tryz.underlying48;obtain ⟨X,hX⟩:=eX dE;obtain ⟨T,hT⟩:=eX (addE X X);have okX:X.Ok:=by rw [hX]; exact dE_ok
 have okT:T.Ok:=by rw [hT]; exact qbk okX okX
 have CD:=zY (show ∀ u,Calls Tryz.prog 51 #[] u (ElemPost X u) from fun u=>by rw [hX]; exact d_any u);have CA:=zY (show ∀ u,Calls Tryz.prog 52 #[.agg (eV X),.agg (eV X)] u (ElemPost T u) from fun u=>by rw [hT]; exact add_c X X u okX okX);have CS:=zY (show ∀ (a b:Pt4),a.Ok→b.Ok→∀ u,Calls Tryz.prog 61 #[.agg (ptV a),.agg (ptV b),.agg (eV T)] u (PtPost (sumP a b T) u) from fun a b ha hb u=>sum_any a b T u ha hb okT);have hmul:mulP p l=pmL T p (digs (l.take 32)) (min l.length 32):=by rw [hT,hX]; rfl
 obtain ⟨Z,hZ⟩:=eX zeroP;have CZ:=zY (show ∀ u,Calls Tryz.prog 60 #[] u (PtPost Z u) from fun u=>by rw [hZ]; exact zero_any u);obtain ⟨n,hn⟩:=eX (l.length);rw [hmul,← hn];rw [← hn] at hc;obtain ⟨m,hm⟩:=eX (min n 32);have hmin1:(if (32:Int)<(n:Int) then (32:Int) else (n:Int))=(m:Int):=by rw [hm]; split <;> omega
 have hmin2:(if 32<n then (32:Int) else (n:Int))=(m:Int):=by rw [hm]; split <;> omega
 have hm32:(m:Int)≤32:=by omega
 have hmn:(m:Int)≤(n:Int):=by omega
 rw [← hm];generalize hL:digs (l.take 32)=L at *;have hLl:L.length=m:=by rw [← hL,digs,List.length_map,List.length_take,hm,hn,Nat.min_comm]
 have hLat:∀ k,k<m→∀ u,Below w.heap.size w u→∃ ad,A=some ad∧u.cell? (ad.add k)=some (.int .u8 ((L.getD k 0:Nat):Int)):=fun k hk u hb=>by
  have hkl:k<l.length:=by omega
  obtain ⟨ad,h1,_,h3⟩:=(hr.below hb).at_ (k:=k) (by rw [qaq]; exact hkl);refine ⟨ad,h1,?_⟩;rw [h3,← hL];have hk32:k<32:=by omega
  simp [bytesV,byteV,digs,List.getD_eq_getElem?_getD,List.getElem?_take,hk32,hkl]
 have hLd:Dg L:=by rw [← hL]; exact digs_lt _
 have KP:=zY hkp;have OKT:=zY okT;have HLAT:=zY hLat;have HLL:=zY hLl;have HLD:=zY hLd;have HZ:=zY hZ;obtain ⟨w0,hw0⟩:=eX ((w.alloc (.cells (ptV p) 48)).alloc (.cells (ptV zP) 48));have HX0:=zY (show Blk w0 w.heap.size 48 (ptV p) by rw [hw0]; exact (Blk.new _ _ _).alloc _);have HR0:=zY (show Blk w0 (w.heap.size+1) 48 (ptV zP) by rw [hw0]; exact Blk.newAt (by simp));have HB0:=zY (show Below w.heap.size w w0 by rw [hw0]; exact (below_new _ _).alloc (by simp) _);have HLR:=zY (show w.heap.size≤w.heap.size+1 by omega);have HW:=zY hw0;clear hw0 hkp hX hT okX okT hmul hZ hn hm hL hLl hLat hLd hr hc;go_enter Tryz.func22,Tryz.ntmps22;go_wp2_with fail;show Calls _ _ _ ((w.alloc (.cells (ptV p) _)).alloc (.cells (ptV zP) _)) _;rw [← HW.out];generalize w.heap.size+1=r at *;generalize hgg:w.heap.size=g at HX0 ⊢;clear hgg HW;refine qaa (CZ.out _) ?_;rintro e w1 ⟨rfl,hb1⟩;have HX1:=zY (HX0.out.below hb1 HX0.out.lt);have HR1:=zY (HR0.out.below hb1 HR0.out.lt);have HB1:=zY (HB0.out.trans (hb1.mono HB0.out.size));clear hb1 HX0 HR0 HB0;go_wp2_with fail;refine qaa (CD.out _) ?_;rintro e w2 ⟨rfl,hb2⟩;have HX2:=zY (HX1.out.below hb2 HX1.out.lt);have HR2:=zY (HR1.out.below hb2 HR1.out.lt);have HB2:=zY (HB1.out.trans (hb2.mono HB1.out.size));clear hb2 HX1 HR1 HB1;go_wp2_with fail;refine qaa (CD.out _) ?_;rintro e w3 ⟨rfl,hb3⟩;have HX3:=zY (HX2.out.below hb3 HX2.out.lt);have HR3:=zY (HR2.out.below hb3 HR2.out.lt);have HB3:=zY (HB2.out.trans (hb3.mono HB2.out.size));clear hb3 HX2 HR2 HB2;go_wp2_with fail;refine qaa (CA.out _) ?_;rintro e w4 ⟨rfl,hb4⟩;have hx4:=HX3.out.below hb4 HX3.out.lt;have hr4:=HR3.out.below hb4 HR3.out.lt;have hb4':=HB3.out.trans (hb4.mono HB3.out.size);clear hb4 HX3 HR3 HB3;obtain ⟨w5,hw5⟩:=eX ((w4.alloc (.cells (ptV zP) 48)).alloc (.cells (eV zE) 46));have hsz5:(w4.alloc (.cells (ptV zP) 48)).heap.size=w4.heap.size+1:=by simp
 have HB5:=zY (show Below w.heap.size w w5 by rw [hw5]; exact (hb4'.alloc hb4'.size _).alloc (by rw [hsz5]; have:=hb4'.size; omega) _);have HX5:=zY (show Blk w5 g 48 (ptV p) by rw [hw5]; exact (hx4.alloc _).alloc _);have HR5:=zY (show Blk w5 r 48 (ptV zP) by rw [hw5]; exact (hr4.alloc _).alloc _);have HY5:=zY (show Blk w5 w4.heap.size 48 (ptV zP) by rw [hw5]; exact (Blk.new _ _ _).alloc _);have HT5:=zY (show Blk w5 (w4.heap.size+1) 46 (eV zE) by rw [hw5]; exact Blk.newAt (by simp));have HGO:=zY (Nat.ne_of_lt hx4.lt);have HRO:=zY (Nat.ne_of_lt hr4.lt);have HLO:=zY hb4'.size;have HW5:=zY hw5;have HWO:=zY (show w4.heap.size+1≠w4.heap.size by omega);have HLW:=zY (show w.heap.size≤w4.heap.size+1 by have:=hb4'.size; omega);have HGW:=zY (show g≠w4.heap.size+1 by have:=hx4.lt; omega);have HRW:=zY (show r≠w4.heap.size+1 by have:=hr4.lt; omega);clear hw5 hx4 hr4 hb4' hsz5
 go_wp2_with (first
  | (refine qaf (x:=.tmp 5) (g:=w4.heap.size) (cells:=ptV Z) (old:=ptV zP) (t:=48) ((Blk.new _ _ _).alloc _) rfl rfl rfl rfl qao rfl (by simp [ptV,wV,limbs,Value.oneCell']) ?_; intro w6 hb6 hw6)
  | (refine qaf (x:=.tmp 6) (g:=w4.heap.size+1) (cells:=eV T) (old:=eV zE) (t:=46) (hw6.blk (Blk.newAt (by simp)) HWO.out) rfl rfl rfl rfl qag rfl (by simp [eV,wV,limbs,Value.oneCell']) ?_; intro w7 hb7 hw7))
 have hw6':Wrote w4.heap.size w5 w6:=by rw [HW5.out]; exact hw6
 have hst:PM w g r w4.heap.size (w4.heap.size+1) p (pmL T p L 0) T w7:=by
  have h6:=hw6'.below HB5.out HLO.out HB5.out.size;refine ⟨hw7.below h6 HLW.out h6.size,hw7.blk (hw6'.blk HX5.out HGO.out) HGW.out,hw7.blk (hw6'.blk HR5.out HRO.out) HRW.out,?_,hb7,HLO.out,HLR.out,HGO.out,HRO.out,HWO.out⟩;rw [HZ.out] at hb6;exact hw7.blk hb6 (Ne.symm HWO.out)
 have HST:=zY hst;clear hw6' hst hb6 hw6 hb7 hw7 HB5 HX5 HR5 HY5 HT5 HGO HRO HLO HW5 HWO HLW HGW HRW hmin1 hmin2 HZ CZ CD CA HLR;generalize w4.heap.size+1=ow at *;generalize w4.heap.size=o at *;clear w5
 go_loopw [7] (fun i wr=>∃ j:Nat,j≤m∧i=.int .i64 ((m:Int) - 1 - (j:Int))∧PM w g r o ow p (pmL T p L j) T wr) (fun i _=>(intOf i+1).toNat)
 case atStart=>exact ⟨0,Nat.zero_le _,by go_num,HST.out⟩
 case round =>
  clear HST;obtain ⟨j,hj,rfl,hst⟩:=hrel
  by_cases hlt:j<m
  ·obtain ⟨q,hq⟩:∃ q,q+1+j=m:=⟨m - 1 - j,by omega⟩;have hqi:(m:Int) - 1 - (j:Int)=(q:Int):=by omega
   rw [hqi];obtain ⟨cur,hcur⟩:=eX (pmL T p L j);rw [← hcur] at hst;obtain ⟨b,hb⟩:=eX (L.getD q 0);have hst':PM w g r o ow p (pmB T p cur b 0) T wr:=hst;have hcok:cur.Ok:=by rw [hcur]; exact pmL_ok OKT.out KP.out L j
   have hqm:(q:Int)<(m:Int):=by omega
   have HST:=zY hst';have HCUR:=zY hcur;have HCOK:=zY hcok;have HB:=zY hb;have HQ:=zY hq;have HJ:=zY hlt;clear hst hst' hcur hcok hb hqi hq hlt hj;go_wp2_with fail;obtain ⟨wo,rfl⟩:=eX wr
   go_loopw [8] (fun c wr=>∃ k:Nat,k≤8∧c=.int .i64 (7 - (k:Int))∧PM w g r o ow p (pmB T p cur b k) T wr) (fun c _=>(intOf c+1).toNat)
   case atStart=>exact ⟨0,by omega,rfl,HST.out⟩
   case round =>
    clear HST;obtain ⟨k,hk,rfl,hst⟩:=hrel
    by_cases hltk:k<8
    ·obtain ⟨s,hs⟩:∃ s,s+k=7:=⟨7 - k,by omega⟩;have hsi:(7:Int) - (k:Int)=(s:Int):=by omega
     have hs8:(s:Int)<8:=by omega
     have hbit:pmB T p cur b (k+1)=pmS T p (pmB T p cur b k) (b/2^s%2):=by rw [pmB,show 7 - k=s by omega]
     obtain ⟨y,hy⟩:=eX (pmB T p cur b k);have hyok:y.Ok:=by rw [hy]; exact pmB_ok OKT.out KP.out HCOK.out b k
     rw [← hy] at hst hbit;rw [hsi];obtain ⟨ad,rfl,_⟩:=HLAT.out q (by omega) wr hst.bel;have hb256:b<256:=by rw [HB.out]; exact qaA HLD.out q
     obtain ⟨bq,hbq⟩:=eX (b/2^s);have hbqi:(b:Int)/2^s=(bq:Int):=by rw [hbq,qcf]
     have hbql:bq<256:=by rw [hbq]; exact Nat.lt_of_le_of_lt (Nat.div_le_self _ _) hb256
     rw [← hbq] at hbit;have hand:=and8_one bq hbql;obtain ⟨cb,hcb⟩:=eX (bq%2);rw [← hcb] at hbit hand;have hcb2:cb<2:=by omega
     have hcell:∀ u,Below w.heap.size w u→u.cell? (ad.add q)=some (.int .u8 (b:Int)):=fun u hu=>by
      obtain ⟨ad2,h1,h2⟩:=HLAT.out q (by omega) u hu
      injection h1 with h1
      rw [h1,HB.out]; exact h2
     have HCELL:=zY hcell;have HBIT:=zY hbit;have HAND:=zY hand;have HYOK:=zY hyok;have HBQI:=zY hbqi;have HS:=zY hs;have HK:=zY hltk;have HST:=zY hst;have hqn:(q:Int)<(n:Int):=by omega
     clear hcell hbit hand hyok hbqi hs hst hb256 hbq hbql hcb hy hk hsi
     rcases Nat.lt_or_ge cb 1 with hc1 | hc1
     ·have hcc:cb=0:=by omega
      rw [hcc] at HAND HBIT;have hand2:bits .and .u8 ((b:Int)/2^s) 1=0:=by rw [HBQI.out]; exact HAND.out
      clear hcc hcb2 hc1 hltk
      go_wp2_with (first
       | (refine qab (x:=.tmp 5) HST.out.y rfl rfl rfl hp rfl qao ?_)
       | (refine qab (x:=.tmp 6) HST.out.t rfl rfl rfl hu rfl qag ?_))
      refine qaa (CS.out y y HYOK.out HYOK.out _) ?_;rintro e w3 ⟨rfl,hb3⟩;have hst3:=HST.out.next hb3;clear HST;go_wp2_with (refine qaf (x:=.tmp 5) (cells:=ptV (sumP y y T)) hst3.y rfl rfl rfl rfl qao rfl (by simp [ptV,wV,limbs,Value.oneCell']) ?_; intro w6 hb6 hw6; have hst6:=hst3.put hw6 hb6; have hcell6:=HCELL.out w6 hst6.bel; have HST6:=zY hst6; clear hst3 hst6 hb6 hw6);have hq1:(s:Int) - 1=7 - ((k+1:Nat):Int):=by have:=HS.out; omega
      refine ⟨⟨k+1,by have:=HK.out; omega,by rw [hq1],?_⟩,by simp [intOf]⟩;rw [HBIT.out];exact HST6.out
     ·have hcc:cb=1:=by omega
      rw [hcc] at HAND HBIT;have hand2:bits .and .u8 ((b:Int)/2^s) 1=1:=by rw [HBQI.out]; exact HAND.out
      clear hcc hcb2 hc1 hltk
      go_wp2_with (first
       | (refine qab (x:=.tmp 5) HST.out.y rfl rfl rfl hp rfl qao ?_)
       | (refine qab (x:=.tmp 6) HST.out.t rfl rfl rfl hu rfl qag ?_))
      refine qaa (CS.out y y HYOK.out HYOK.out _) ?_;rintro e w3 ⟨rfl,hb3⟩;have hst3:=HST.out.next hb3;clear HST
      go_wp2_with (first
       | (refine qaf (x:=.tmp 5) (cells:=ptV (sumP y y T)) hst3.y rfl rfl rfl rfl qao rfl (by simp [ptV,wV,limbs,Value.oneCell']) ?_; intro w6 hb6 hw6; have hst6:=hst3.put hw6 hb6; have hcell6:=HCELL.out w6 hst6.bel; have HST6:=zY hst6; clear hst3 hst6 hb6 hw6)
       | (refine qab (x:=.tmp 5) HST6.out.y rfl rfl rfl hp rfl qao ?_)
       | (refine qab (x:=.tmp 2) HST6.out.x rfl rfl rfl hp rfl qao ?_)
       | (refine qab (x:=.tmp 6) HST6.out.t rfl rfl rfl hu rfl qag ?_))
      refine qaa (CS.out (sumP y y T) p (qdb HYOK.out HYOK.out OKT.out) KP.out _) ?_;rintro e w7 ⟨rfl,hb7⟩;have hst7:=HST6.out.next hb7;go_wp2_with (refine qaf (x:=.tmp 5) (cells:=ptV (sumP (sumP y y T) p T)) hst7.y rfl rfl rfl rfl qao rfl (by simp [ptV,wV,limbs,Value.oneCell']) ?_; intro w8 hb8 hw8; have hst8:=hst7.put hw8 hb8; have HST8:=zY hst8; clear hst7 hst8 hb8 hw8);have hq1:(s:Int) - 1=7 - ((k+1:Nat):Int):=by have:=HS.out; omega
      refine ⟨⟨k+1,by have:=HK.out; omega,by rw [hq1],?_⟩,by simp [intOf]⟩;rw [HBIT.out];exact HST8.out
    ·obtain rfl:k=8:=by omega
     have hend:pmB T p cur b 8=pmL T p L (j+1):=by
      rw [pmL,← HCUR.out,HB.out,HLL.out,show m - 1 - j=q by have:=HQ.out; omega]
     rw [hend] at hst;have hq1:(q:Int) - 1=(m:Int) - 1 - ((j+1:Nat):Int):=by have:=HQ.out; omega
     have HQ1:=zY hq1;have HST:=zY hst;clear hst hend hq1 hk hltk;go_wp2_with fail;exact ⟨⟨j+1,HJ.out,by rw [HQ1.out],HST.out⟩,by simp [intOf]⟩
  ·obtain rfl:j=m:=by omega
   have hpi:(j:Int) - 1 - (j:Int)=-1:=by omega
   rw [hpi];have HST:=zY hst;clear hst hpi hlt
   go_wp2_with (first
    | (refine qab (x:=.tmp 5) HST.out.y rfl rfl rfl hp rfl qao ?_)
    | (refine qaf (x:=.tmp 4) (cells:=ptV (pmL T p L j)) HST.out.z rfl rfl rfl rfl qao rfl (by simp [ptV,wV,limbs,Value.oneCell']) ?_; intro w6 hb6 hw6))
   refine bodyPost_ret (qau (P:=Tryz.prog) rfl rfl hb6 hp rfl qao) rfl ⟨rfl,?_⟩;exact hw6.below HST.out.bel HST.out.lr HST.out.bel.size
def oddP (p:Pt4):Bool:=decide ((mulE p.x (invE p.z)).val%PN%2=1)
def bytP (p:Pt4):List Nat :=
 let l:=byN (leastE (mulE p.y (invE p.z))).val
 if oddP p then l.set 31 (l.getD 31 0 ||| 128) else l
def PbyPost (p:Pt4) (w:World) (e:Ending) (w':World):Prop :=
 ∃ o,e=.returned (.slice (some ⟨o,0,none⟩) 32 32)∧w.heap.size≤o∧Blk w' o 5 (bnV (bytP p)).toArray∧Below w.heap.size w w'
theorem byN_31 (N:Nat):(byN N).getD 31 0<256:=qaA (byN_lt N) 31
theorem pbytes_any (p:Pt4) (hkp:p.Ok) (w:World):Calls Tryz.prog 26 #[.agg (ptV p)] w (PbyPost p w):=by
 have hu:=Tryz.underlying46;have hp:=Tryz.underlying48;obtain ⟨I,hI⟩:=eX (invE p.z);have okI:I.Ok:=by rw [hI]; exact invE_ok hkp.z
 obtain ⟨V,hV⟩:=eX ((leastE (mulE p.y I)).val);obtain ⟨ob,hob⟩:=eX (oddP p);have hres:bytP p=if ob then (byN V).set 31 ((byN V).getD 31 0 ||| 128) else byN V:=by rw [hob,hV,hI]; rfl
 have cI:∀ u,Calls Tryz.prog 62 #[.agg (eV p.z)] u (ElemPost I u):=fun u=>by rw [hI]; exact inv_any p.z hkp.z u
 have cB:∀ u,Calls Tryz.prog 63 #[.agg (eV (mulE p.y I))] u (BytesPost V u):=fun u=>by rw [hV]; exact bytes_any _ u (qax hkp.y okI).big
 have cO:∀ u,Calls Tryz.prog 53 #[.agg (eV (mulE p.x I))] u (BoolPost ob u):=fun u=>by
  have h:=odd_c (mulE p.x I) (qax hkp.x okI) u;rw [show decide ((mulE p.x I).val%PN%2=1)=ob by rw [hob,hI]; rfl] at h;exact h
 have CI:=zY cI;have CB:=zY cB;have CO:=zY cO;have HRES:=zY hres;have CY:=zY (fun u=>mul_c p.y I u hkp.y okI);have CX:=zY (fun u=>mul_c p.x I u hkp.x okI);have HX0:=zY (Blk.new w 48 (ptV p));have HB0:=zY (below_new w (.cells (ptV p) 48));clear hI okI hV hob hres cI cB cO hkp;go_enter Tryz.func26,Tryz.ntmps26;go_wp2_with (refine qan (x:=.tmp 5) (n:=5) (r:=eV p.z) HX0.out (by rw [qaV]; decide) rfl rfl rfl rfl hu rfl qag ?_);refine qaa (CI.out _) ?_;rintro e w1 ⟨rfl,hb1⟩;have HX1:=zY (HX0.out.below hb1 HX0.out.lt);have HB1:=zY (HB0.out.trans (hb1.mono HB0.out.size));clear hb1 HX0 HB0
 go_wp2_with (first
  | (refine qaf (x:=.tmp 3) (cells:=eV I) (Blk.new _ _ _) rfl rfl rfl rfl qag rfl (by simp [eV,wV,limbs,Value.oneCell']) ?_; intro w2 hb2 hw2; have hk2:=qba hw2; have HI2:=zY hb2; have HX2:=zY (HX1.out.below hk2 HX1.out.lt); have HB2:=zY (HB1.out.trans (hk2.mono HB1.out.size)); clear hb2 hw2 hk2 HX1 HB1)
  | (refine qan (x:=.tmp 8) (n:=5) (r:=eV p.y) HX2.out (by rw [qaV]; decide) rfl rfl rfl rfl hu rfl qag ?_)
  | (refine qab (x:=.tmp 3) HI2.out rfl rfl rfl hu rfl qag ?_))
 refine qaa (CY.out _) ?_;rintro e w3 ⟨rfl,hb3⟩;have HX3:=zY (HX2.out.below hb3 HX2.out.lt);have HI3:=zY (HI2.out.below hb3 HI2.out.lt);have HB3:=zY (HB2.out.trans (hb3.mono HB2.out.size));clear hb3 HX2 HB2 HI2;generalize w1.heap.size=gi at *;go_wp2_with fail;refine qaa (CB.out _) ?_;rintro e w4 ⟨o,rfl,hlo,hblk,hb4⟩;have HX4:=zY (HX3.out.below hb4 HX3.out.lt);have HI4:=zY (HI3.out.below hb4 HI3.out.lt);have HLO:=zY (Nat.le_trans HB3.out.size hlo);have HB4:=zY (HB3.out.trans (hb4.mono HB3.out.size));have HO4:=zY hblk;clear hb4 hlo hblk HX3 HI3 HB3
 go_wp2_with (first
  | (refine qan (x:=.tmp 13) (n:=5) (r:=eV p.x) HX4.out (by rw [qaV]; decide) rfl rfl rfl rfl hu rfl qag ?_)
  | (refine qab (x:=.tmp 3) HI4.out rfl rfl rfl hu rfl qag ?_))
 refine qaa (CX.out _) ?_;rintro e w5 ⟨rfl,hb5⟩;have HLO5:=zY HLO.out;have HO5:=zY (HO4.out.below hb5 HO4.out.lt);have HB5:=zY (HB4.out.trans (hb5.mono HB4.out.size));clear hb5 HX4 HI4 HB4 HO4;go_wp2_with fail;refine qaa (CO.out _) ?_;rintro e w6 ⟨rfl,hb6⟩;have HO6:=zY (HO5.out.below hb6 HO5.out.lt);have HB6:=zY (HB5.out.trans (hb6.mono HB5.out.size));clear hb6 HB5 HO5;obtain ⟨x,hx⟩:=eX ((byN V).getD 31 0);have hxl:x<256:=by rw [hx]; exact byN_31 V
 have hor:=or8 (a:=x) (b:=128) hxl (by decide);have hc:=qet (l:=byN V) (k:=31) (by rw [qa0]; decide);rw [← hx] at hc;have d0:=HO6.out.cell 31;rw [hc] at d0;have q0:=HO6.out.free 31;rw [← hx] at HRES;obtain ⟨y,hy⟩:=eX (x ||| 128);rw [← hy] at hor HRES;have hor':bits .or .u8 (x:Int) 128=(y:Int):=hor;have hx256:(x:Int)<256:=by omega
 clear hx hxl hc hy hor
 cases ob
 ·go_wp2_with fail;go_ret;refine ⟨o,rfl,HLO5.out,?_,HB6.out⟩;rw [HRES.out];exact HO6.out
 ·go_wp2_with fail;go_ret;have h:=qaj (i:=31) HO6.out (.int .u8 (y:Int));rw [qbN] at h;refine ⟨o,rfl,HLO5.out,?_,(qah _ _ _ _).below HB6.out HLO5.out HB6.out.size⟩;rw [HRES.out];exact h
def baseP:Pt4:=ofP (knownE bxL) (knownE byL)
theorem baseP_ok:baseP.Ok:=ofP_ok (qb3 _) (qb3 _)
def fillB (k:Nat):List Nat:=List.replicate k 102++List.replicate (32 - k) 0
theorem fillB_set:∀ k,k<32→(fillB k).set k 102=fillB (k+1):=by decide
theorem fillB_len:∀ k,k<33→(fillB k).length=32:=by decide
theorem fillB_end:(fillB 32).set 31 88=byL:=by decide
theorem arr_size:(Tryz.prog.info? 85).map (·.size)=some 32:=by kernel_rfl
theorem arr_size0:(Tryz.prog.info? 85).map (·.size)=some (bnV (fillB 0)).toArray.size:=by rw [qco]; exact arr_size
theorem fillB_cells:(bnV (fillB 0)).toArray.all (·.oneCell')=true:=by simp [bnV,fillB,Value.oneCell']
structure BM (w0:World) (r gx ga:Nat) (x:E5) (l:List Nat) (u:World):Prop where
 bel:Below w0.heap.size w0 u
 z:Blk u r 48 (ptV zP)
 x:Blk u gx 46 (eV x)
 a:Blk u ga 85 (bnV l).toArray
 la:w0.heap.size≤ga
 lr:w0.heap.size≤r
 ra:r≠ga
 xa:gx≠ga
theorem BM.put {w0 u u':World} {r gx ga:Nat} {x:E5} {l l':List Nat} (k:BM w0 r gx ga x l u) (hw:Wrote ga u u') (hb:Blk u' ga 85 (bnV l').toArray):BM w0 r gx ga x l' u' :=
 ⟨hw.below k.bel k.la k.bel.size,hw.blk k.z k.ra,hw.blk k.x k.xa,hb,k.la,k.lr,k.ra,k.xa⟩
theorem BM.next {w0 u u':World} {r gx ga:Nat} {x:E5} {l:List Nat} (k:BM w0 r gx ga x l u) (hb:Below u.heap.size u u'):BM w0 r gx ga x l u' :=
 ⟨k.bel.trans (hb.mono k.bel.size),k.z.below hb k.z.lt,k.x.below hb k.x.lt,k.a.below hb k.a.lt,k.la,k.lr,k.ra,k.xa⟩
theorem BM.drew {w0 u:World} {r gx ga:Nat} {x:E5} {l:List Nat} (k:BM w0 r gx ga x l u):BM w0 r gx ga x l u.drew:=⟨k.bel.drew,k.z,k.x,k.a,k.la,k.lr,k.ra,k.xa⟩
theorem base_any (w:World):Calls Tryz.prog 21 #[] w (PtPost baseP w):=by
 have hu:=Tryz.underlying46;have hp:=Tryz.underlying48;have hua:=Tryz.underlying85;obtain ⟨X,hX⟩:=eX (knownE bxL);obtain ⟨Y,hY⟩:=eX (knownE byL);have okX:X.Ok:=by rw [hX]; exact qb3 _
 have okY:Y.Ok:=by rw [hY]; exact qb3 _
 have hbase:baseP=ofP X Y:=by rw [hX,hY]; rfl
 have CX:=zY (show ∀ u,Calls Tryz.prog 59 #[.agg (bnV bxL).toArray] u (ElemPost X u) from fun u=>by rw [hX]; exact bx_known u);have cy:∀ u,Calls Tryz.prog 59 #[.agg (bnV byL).toArray] u (ElemPost Y u):=fun u=>by rw [hY]; exact by_known u
 have hsz:(Tryz.prog.info? 85).map (·.size)=some (bnV byL).toArray.size:=by rw [qco]; exact arr_size
 have HSZ:=zY hsz;have CY:=zY cy;have CO:=zY (fun u=>pof_any X Y okX okY u);have HBASE:=zY hbase;have HX0:=zY (Blk.new w 48 (ptV zP));have HB0:=zY (below_new w (.cells (ptV zP) 48));clear hX hY okX okY hbase cy hsz;go_enter Tryz.func21,Tryz.ntmps21;go_wp2_with fail;refine qaa (CX.out _) ?_;rintro e w1 ⟨rfl,hb1⟩;have HX1:=zY (HX0.out.below hb1 HX0.out.lt);have HB1:=zY (HB0.out.trans (hb1.mono HB0.out.size));clear hb1 HX0 HB0
 go_wp2_with (first
  | (refine qaf (x:=.tmp 1) (cells:=eV X) (Blk.new _ _ _) rfl rfl rfl rfl qag rfl (by simp [eV,wV,limbs,Value.oneCell']) ?_; intro w2 hb2 hw2; have hk2:=qba hw2; have HE2:=zY hb2; have HX2:=zY (HX1.out.below hk2 HX1.out.lt); have HB2:=zY (HB1.out.trans (hk2.mono HB1.out.size)); clear hb2 hw2 hk2 HB1)
  | (refine qaf (x:=.tmp 2) (cells:=(bnV (fillB 0)).toArray) (Blk.new _ _ _) rfl rfl rfl rfl arr_size0 rfl fillB_cells ?_; intro w3 hb3 hw3; have hk3:=qba hw3; have HST:=zY (show BM w w.heap.size w1.heap.size w2.heap.size X (fillB 0) w3 from ⟨HB2.out.trans (hk3.mono HB2.out.size),HX2.out.below hk3 HX2.out.lt,HE2.out.below hk3 HE2.out.lt,hb3,HB2.out.size,Nat.le_refl _,Nat.ne_of_lt HX2.out.lt,Nat.ne_of_lt HE2.out.lt⟩); clear hb3 hw3 hk3 HB2 HX2 HE2))
 generalize w2.heap.size=ga at *;generalize w1.heap.size=gx at *;generalize w.heap.size=r at HST ⊢
 go_loopw [7] (fun i wr=>∃ k:Nat,k≤32∧i=.int .i64 k∧BM w r gx ga X (fillB k) wr) (fun i _=>32 - (intOf i).toNat)
 case atStart=>exact ⟨0,by omega,rfl,HST.out⟩
 case round =>
  clear HST;obtain ⟨k,hk,rfl,hst⟩:=hrel
  by_cases hlt:k<32
  ·have hlt':(k:Int)<32:=by omega
   have HST:=zY hst;clear hst;go_wp2_with (refine qam (x:=.tmp 11) (i:=k) (v:=.int .u8 102) HST.out.a rfl rfl rfl rfl qb8 (by rw [qco,fillB_len k (by omega)]; exact hlt) rfl ?_; intro w5 hb5 hw5; have hst5:=HST.out.put (l':=fillB (k+1)) hw5 (by rw [show (Value.int IntKind.u8 102)=.int .u8 ((102:Nat):Int) from rfl,qbN,fillB_set k hlt] at hb5; exact hb5); have HST5:=zY hst5; clear hst5 hb5 hw5);exact ⟨⟨k+1,by omega,by go_num,HST5.out⟩,by simp [intOf]; omega⟩
  ·obtain rfl:k=32:=by omega
   have HST:=zY hst;clear hst hlt hk;go_wp2_with (refine qam (x:=.tmp 13) (i:=31) (v:=.int .u8 88) HST.out.a rfl rfl rfl rfl qb8 (by rw [qco,fillB_len 32 (by omega)]; decide) rfl ?_; intro w5 hb5 hw5; have hst5:=HST.out.put (l':=byL) hw5 (by rw [show (Value.int IntKind.u8 88)=.int .u8 ((88:Nat):Int) from rfl,qbN,fillB_end] at hb5; exact hb5); have HST5:=zY hst5; clear hst5 hb5 hw5);have HC0:=HST5.out.drew;clear HST HST5;refine qal (fun u=>BM w r gx ga X byL u) (fun u=>Blk u r 48 (ptV (ofP X Y))∧Below w.heap.size w u) [(0,some 14),(1,some 15),(2,some 16),(3,some 17),(4,none)] (by kernel_rfl) (by kernel_rfl) (by decide) (by kernel_rfl) (fun _=>rfl) HC0 ?_;apply yN_
   ·apply dP [];exact fun _=>rfl;rfl;rintro vals - w1 hC1 E hE;simp only [sP] at hE ⊢;refine qab hC1.x rfl rfl rfl hu rfl qag ?_;go_wp2_with fail;exact .mk (hE _ hC1)
   apply yN_
   ·apply dP [];exact fun _=>rfl;rfl;rintro vals ⟨-,-⟩ w1 hC1 E hE;simp only [sP] at hE ⊢;refine qab hC1.a rfl rfl rfl hua rfl HSZ.out ?_;go_wp2_with fail;exact .mk (hE _ hC1)
   apply yN_
   ·apply dP [(1,some 15)];exact fun _=>rfl;rfl;intro vals vq w1 hC1 E hE;simp only [sP,vq] at hE ⊢;clear vq;go_wp2_with fail;refine qaa (CY.out _) ?_;rintro e w2 ⟨rfl,hb2⟩;go_wp2_with fail;exact .mk (hE _ (hC1.next hb2))
   apply yN_
   ·apply dP [(0,some 14),(2,some 16),(2,some 16)];exact fun _=>rfl;rfl;intro vals vq w1 hC1 E hE;simp only [sP,vq] at hE ⊢;clear vq;go_wp2_with fail;refine qaa (CO.out _) ?_;rintro e w2 ⟨rfl,hb2⟩;go_wp2_with fail;exact .mk (hE _ (hC1.next hb2))
   apply yL_ (v:=undef)
   ·apply dP [(3,some 17),(3,some 17),(0,some 14),(1,some 15),(2,some 16),(3,some 17)];exact fun _=>rfl;rfl;intro vals vq w1 hC1 E hE;simp only [sP,vq] at hE ⊢;clear vq;refine qaf (cells:=ptV (ofP X Y)) hC1.z rfl rfl rfl rfl qao rfl (by simp [ptV,wV,limbs,Value.oneCell']) ?_;intro w6 hb6 hw6;go_wp2_with fail;exact .mk (hE _ ⟨hb6,hw6.below hC1.bel hC1.lr hC1.bel.size⟩)
   intro vals vq w1 hC1;simp only [sP,vq];clear vq;clear HC0;go_wp2_with fail;refine bodyPost_ret (qau (P:=Tryz.prog) rfl rfl hC1.1 hp rfl qao) rfl ⟨by rw [HBASE.out],hC1.2⟩
end Go.Proofs.YtdgheahbafnboaaGreatDoor
