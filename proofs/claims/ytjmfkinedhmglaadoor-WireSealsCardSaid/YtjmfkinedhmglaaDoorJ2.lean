/-
  Joined texts: Fr Rb Grow Dig Rl Dgn Rdv Pm Sm Smc St RegV SumP Rev Cd Pa Pmul Pby Bas Prime Ptn Rn Cat ShaS Bsn Owz Secp Turned Row64 Mix64 SumC.
-/
import Derived.Laws.MakeOwn
import Derived.Laws.OwnMore
import Derived.Test.YtjmfkinedhmglaaDoorProg
import Derived.BigQuiet
import Derived.Deep.QuietTactic
import Derived.IntWalk
import Derived.Deep.DeepCutAuto
import Derived.Test.YtjmfkinedhmglaaDoorJ1
namespace Go.Proofs.YtjmfkinedhmglaaDoor
set_option linter.unusedSimpArgs false
set_option linter.unusedVariables false
set_option maxRecDepth 100000
set_option maxHeartbeats 4000000
open Go.RowKit
def ReadPost (l:List UInt8) (w:World) (e:Ending) (w':World):Prop:=e=.returned (.tuple #[.agg (eV (readE l)),.int .i64 (readF l)])∧Below w.heap.size w w'
theorem read_any (l:List UInt8) (A:Option Addr) (c:Nat) (w:World) (hr:Rd w w.heap.size A (bytesV l)) (hc:l.length≤c) (hl:l.length≤1000000) :
  Calls Tryd.prog 38 #[.slice A l.length c] w (ReadPost l w):=by
 have hu:=Tryd.underlying46
 by_cases h32:l.length=32
 ·obtain ⟨N,hN⟩:=eX (leV (digs l))
  have hNl:N<256^32:=by
   have h:=leV_lt (digs l) (qbn l);rw [show (digs l).length=32 by rw [digs,List.length_map,h32]] at h;rw [hN]; exact h
  have hst0:G2 w (w.heap.size+1) w.heap.size (mixV (ofN N) zE 0) (eV zE) ((w.alloc (.cells (eV zE) 46)).alloc (.cells (eV zE) 46)) :=
   ⟨(below_new _ _).alloc (by simp) _,Blk.newAt (by simp),(Blk.new _ _ _).alloc _,by omega,Nat.le_refl _,by omega⟩
  rw [h32];have HST0:=zY hst0;have HR:=zY hr;have HL:=zY h32;have HN:=zY hN;have HNL:=zY hNl;clear hst0 hr hc hl h32 hN hNl;go_enter Tryd.func38,Tryd.ntmps38;go_wp2_with fail;generalize ho:w.heap.size+1=o at *;generalize hg:w.heap.size=g at *;have HHO:=zY ho;have HHG:=zY hg;clear ho hg
  go_loopw [13] (fun i wr=>∃ k:Nat,k≤5∧i=.int .i64 k∧G2 w o g (mixV (ofN N) zE k) (eV zE) wr) (fun i _=>5 - (intOf i).toNat)
  case atStart=>exact ⟨0,by omega,rfl,HST0.out⟩
  case round =>
   clear HST0;obtain ⟨i,hi,rfl,hst⟩:=hrel
   by_cases hlt:i<5
   ·have hlt':(i:Int)<5:=by omega
    obtain ⟨n,hn⟩:=eX (i*51);have hni:(i:Int)*51=(n:Int):=by omega
    obtain ⟨q,hq⟩:=eX (n/8);have hqi:(n:Int)/8=(q:Int):=by omega
    have hq25:q≤25:=by omega
    have HST:=zY hst;have HNN:=zY hn;have HQ:=zY hq;clear hst hn hq;go_wp2_with fail;obtain ⟨wo,rfl⟩:=eX wr
    go_loopw [7,18] (fun v c wr=>∃ k:Nat,k≤8∧c=.int .i64 k∧v=.int .u64 (winN N q k:Nat)∧G2 w o g (mixV (ofN N) zE i) (eV zE) wr) (fun _ c _=>8 - (intOf c).toNat)
    case atStart=>exact ⟨0,by omega,rfl,by rw [win_zero]; rfl,HST.out⟩
    case round =>
     clear HST;obtain ⟨k,hk,rfl,rfl,hst⟩:=hrel
     by_cases hltk:k<8
     ·have hltk':(k:Int)<8:=by omega
      obtain ⟨p,hp⟩:=eX (q+k);have hpi:(q:Int)+(k:Int)=(p:Int):=by omega
      by_cases hp32:p<32
      ·have hp32':(p:Int)<32:=by omega
       obtain ⟨b,hb⟩:=eX (N/256^p%256);have hbl:b<256:=by rw [hb]; exact Nat.mod_lt _ (by decide)
       have hbl':(b:Int)<256:=by omega
       have hpl:p<l.length:=by rw [HL.out]; exact hp32
       have hbv:(bytesV l)[p]'(by rw [qam]; exact hpl)=.int .u8 (b:Int):=by
        have e1:b=l[p].toNat:=by
         rw [hb,HN.out,leV_at _ (qbn l),digs,List.getD_eq_getElem?_getD,List.getElem?_map,List.getElem?_eq_getElem hpl];rfl
        rw [e1];simp [bytesV,byteV]
       have hbel:=hst.bel;rw [HHG.out] at hbel;have hrd:=HR.out.below hbel;obtain ⟨ad,rfl,hadl,hcell⟩:=hrd.at_ (k:=p) (by rw [qam]; exact hpl);rw [hbv] at hcell;obtain ⟨e,he⟩:=eX (8*k);have hei:(8:Int)*(k:Int)=(e:Int):=by omega
       have he64:(e:Int)<64:=by omega
       have hstep:=win_step N q k;rw [← hp,← hb,← he] at hstep;have hyl:=win_lt N q k (by omega);obtain ⟨y,hy⟩:=eX (winN N q k);rw [← hy] at hstep hyl;rw [← hy];obtain ⟨s,hs⟩:=eX (b*2^e);rw [← hs] at hstep
       have hsl:s<18446744073709551616:=by
        have e1:2^e≤2^56:=Nat.pow_le_pow_right (by decide) (by omega);have e2:b*2^e≤255*2^56:=Nat.mul_le_mul (by omega) e1;rw [hs]; exact Nat.lt_of_le_of_lt e2 (by decide)
       have hsi:(b:Int)*2^e%18446744073709551616=(s:Int):=by rw [shl_int,← hs]; omega
       have hor:=or64 y s hyl hsl;rw [hstep] at hor;have HST:=zY hst;have HSI:=zY hsi;have HOR:=zY hor;clear hst hp hy hs hsl hyl hstep hb hbl hbv hbel hrd he hpl hsi hor;go_wp2_with fail;have hw1:IntKind.u64.wrap ((b:Int)*2^e)=(s:Int):=by rw [IntKind.wrap_u64]; exact HSI.out
       rw [hw1,HOR.out];exact ⟨⟨k+1,by omega,by go_num,rfl,HST.out⟩,by simp [intOf]; omega⟩
      ·have hp32':¬ (p:Int)<32:=by omega
       have hw:=win_over N q k HNL.out (by omega);rw [← hw];have HST:=zY hst;clear hst hw hp;go_wp2_with fail;exact ⟨⟨k+1,by omega,by go_num,rfl,HST.out⟩,by simp [intOf]; omega⟩
     ·obtain rfl:k=8:=by omega
      obtain ⟨r,hr⟩:=eX (n%8);have hri:(n:Int)%8=(r:Int):=by omega
      have hr8:(r:Int)<8:=by omega
      have hlimb:=win_limb N n;rw [← HQ.out,← hr] at hlimb;have hat:=ofN_at N i hlt;rw [Nat.mul_comm 51,← HNN.out,← hlimb] at hat;have hvl:=win_lt N q 8 (by omega);obtain ⟨v,hv⟩:=eX (winN N q 8/2^r);have hvi:((winN N q 8:Nat):Int)/2^r=(v:Int):=by rw [qbA,hv]
      rw [← hv] at hat;have hvl2:v<18446744073709551616:=by rw [hv]; exact Nat.lt_of_le_of_lt (Nat.div_le_self _ _) hvl
      have hmk:=qcY v hvl2;have hset:=qbN (ofN N) zE i hlt;rw [hat,← hmk] at hset;have HSET:=zY hset;have HVI:=zY hvi;have d0:=hst.x.cell i;rw [qb3 _ _ _ hlt] at d0;have f0:=hst.x.free i;have HST:=zY hst;clear hset hst hmk hvl2 hvl hv hat hlimb hr hvi;go_wp2_with fail;refine ⟨⟨i+1,by omega,by go_num,HST.out.putX (qaf _ _ _ _) ?_⟩,by simp [intOf]; omega⟩;rw [HVI.out];have h:=qag (i:=i) HST.out.x (.int .u64 (bits .and .u64 (v:Int) 2251799813685247));rw [HSET.out] at h;exact h
   ·obtain rfl:i=5:=by omega
    rw [qbO] at hst;have HST:=zY hst;clear hst;go_wp2_with fail;obtain ⟨X,hX⟩:=eX (ofN N);have hXl:X.Lt 18446744073709551616:=by rw [hX]; exact (ofN_lt N).mono (by decide)
    obtain ⟨M,hM⟩:=eX ((leastE X).val);have hsame:(byB M=l)=(N<PN):=by rw [hM,hX,HN.out]; exact read_same l HL.out
    have hmay:mayR l=decide (byB M=l):=by
     rw [mayR,Bool.eq_iff_iff,decide_eq_true_iff,decide_eq_true_iff,hsame,← HN.out];exact ⟨fun h=>h.2,fun h=>⟨HL.out,h⟩⟩
    rw [← hX] at HST;have HXL:=zY hXl;have HM:=zY hM;have HC0:=HST.out.drew;have HX:=zY hX;have HMAY:=zY hmay;clear hX hXl hM hmay hsame HST
    by_cases heq:byB M=l
    ·have HEQ:=zY heq;clear heq
     refine qak (fun u=>G2 w o g (eV X) (eV zE) u) (fun | false=>(fun _=>True) | true=>(fun _=>True)) (fun | false,_=>false | true,_=>false)
      [fun z _=>z 0=.agg (eV X),
       fun z u=>∃ o2,z 1=.slice (some ⟨o2,0,none⟩) 32 32∧Blk u o2 5 (bnV (byN M)).toArray,
       fun z _=>z 2=.string ⟨l.toArray⟩,
       fun z _=>z 3=.slice A 32 c,
       fun z _=>z 4=.string ⟨l.toArray⟩,
       fun z _=>z 5=.bool false]
      [Eq,fun u u'=>Below u.heap.size u u',Eq,Eq,Eq,Eq]
      (fun _ _=>false) [(0,some 49),(1,some 50),(2,some 51),(3,some 52),(4,some 53),(5,some 54)] (by kernel_rfl) (by kernel_rfl) rfl (fun _=>rfl) ?_ ?_ ?_ ?_ ?_ ?_
     ·exact HC0
     ·intro m; cases m; exact trivial; exact trivial
     ·intro m; cases m
      ·refine ⟨?_,.inr (fun _ _ _ h=>h),?_,?_,?_,?_,trivial⟩ <;> exact .inr fun _ _ h h0=>h▸h0
      ·refine ⟨?_,.inr (fun _ _ _ h=>h),?_,?_,?_,?_,trivial⟩ <;> exact .inr fun _ _ h h0=>h▸h0
     ·refine ⟨⟨.inl rfl,?_,?_,?_,?_,?_,trivial⟩,⟨?_,.inl rfl,?_,?_,?_,?_,trivial⟩,⟨?_,?_,.inl rfl,?_,?_,?_,trivial⟩,⟨?_,?_,?_,.inl rfl,?_,?_,trivial⟩,⟨?_,?_,?_,?_,.inl rfl,?_,trivial⟩,⟨?_,?_,?_,?_,?_,.inl rfl,trivial⟩,trivial⟩ <;> first | exact .inr (.inr (.inl rfl)) | exact .inr (.inr (.inr fun _ _ _ _ _ h=>h)) | exact .inr (.inr (.inr fun _ _ _ _ h h0=>by cases h; exact h0))
     ·refine ⟨?_,?_,?_,?_,?_,?_,trivial⟩
      ·refine qaa [] (fun _=>rfl) rfl ?_;intro w1 vals hC1 hi0 hf E hE;clear hi0;clear hf;simp only [sP] at hE ⊢;refine qac hC1.x rfl rfl rfl hu rfl qad ?_;go_wp2_with fail;exact .mk (hE _ _ rfl hC1 rfl)
      ·refine qaa [(0,some 49)] (fun _=>rfl) rfl ?_;intro w1 vals hC1 hi0 hf E hE;clear hi0;have f0:vals 0=_:=hf 0 rfl
       try dsimp only at f0
       clear hf;simp only [sP,f0] at hE ⊢;clear f0;go_wp2_with fail;refine qab (qc9 X _ HXL.out) ?_;rintro e w2 ⟨o2,rfl,hlo,hblk,hb2⟩;rw [← HM.out] at hblk;go_wp2_with fail;exact .mk (hE _ _ ⟨o2,rfl,hblk⟩ (hC1.next hb2) hb2)
      ·refine qaa [(1,some 50)] (fun _=>rfl) rfl ?_;intro w1 vals hC1 hi0 hf E hE;clear hi0;have f1:(fun z u=>∃ o2,z 1=.slice (some ⟨o2,0,none⟩) 32 32∧Blk u o2 5 (bnV (byN M)).toArray) vals w1:=hf 1 rfl
       try dsimp only at f1
       clear hf;obtain ⟨o2,hx,hblk⟩:=f1;simp only [sP,hx] at hE ⊢;clear hx;rw [bnV_byB] at hblk;refine qaw (l:=byB M) (Rd.of_blk hblk hblk.lt) Tryd.underlying22 Tryd.underlying5 Tryd.underlying9 rfl rfl (by rw [qaU]; rfl) ?_;rw [HEQ.out];go_wp2_with fail;exact .mk (hE _ _ rfl hC1 rfl)
      ·refine qaa [] (fun _=>rfl) rfl ?_;intro w1 vals hC1 hi0 hf E hE;clear hi0;clear hf;simp only [sP] at hE ⊢;go_wp2;exact .mk (hE _ _ rfl hC1 rfl)
      ·refine qaa [(3,some 52)] (fun _=>rfl) rfl ?_;intro w1 vals hC1 hi0 hf E hE;clear hi0;have f3:vals 3=_:=hf 3 rfl
       try dsimp only at f3
       clear hf;have hbel:=hC1.bel;rw [HHG.out] at hbel;simp only [sP,f3] at hE ⊢;clear f3;refine qaw (l:=l) (HR.out.below hbel) Tryd.underlying22 Tryd.underlying5 Tryd.underlying9 rfl rfl (by rw [HL.out]; rfl) ?_;go_wp2_with fail;exact .mk (hE _ _ rfl hC1 rfl)
      ·refine qaa [(2,some 51),(4,some 53)] (fun _=>rfl) rfl ?_;intro w1 vals hC1 hi0 hf E hE;clear hi0;have f2:vals 2=_:=hf 2 rfl;have f4:vals 4=_:=hf 4 rfl
       try dsimp only at f2 f4
       clear hf;simp only [sP,f2,f4] at hE ⊢;clear f2 f4;go_wp2;exact .mk (hE _ _ rfl hC1 rfl)
     intro w1 vals hC1 hf;have f0:vals 0=_:=hf 0 (by decide) rfl;have f1:(fun z u=>∃ o2,z 1=.slice (some ⟨o2,0,none⟩) 32 32∧Blk u o2 5 (bnV (byN M)).toArray) vals w1:=hf 1 (by decide) rfl;have f2:vals 2=_:=hf 2 (by decide) rfl;have f3:vals 3=_:=hf 3 (by decide) rfl;have f4:vals 4=_:=hf 4 (by decide) rfl;have f5:vals 5=_:=hf 5 (by decide) rfl
     try dsimp only at f0 f1 f2 f3 f4 f5
     clear hf;simp only [sP,f0,f2,f3,f4,f5];clear f0 f2 f3 f4 f5;generalize vals 1=x1 at *;clear HC0 f1;have HC1:=zY hC1;clear hC1;have hok:mayR l=true:=by rw [HMAY.out]; exact decide_eq_true HEQ.out
     have hE1:readE l=X:=by rw [readE,if_pos hok,HX.out,HN.out]
     have hF1:readF l=0:=by rw [readF,if_pos hok]
     have HE1:=zY hE1;have HF1:=zY hF1;clear hok hE1 hF1
     go_wp2_with (first
      | (refine qac (x:=.tmp 4) HC1.out.x rfl rfl rfl hu rfl qad ?_)
      | (refine qae (x:=.tmp 2) (cells:=eV X) HC1.out.z rfl rfl rfl rfl qad rfl (by simp [eV,wV,limbs,Value.oneCell']) ?_; intro w5 hb5 hw5; have HB5:=zY hb5; have HW5:=zY hw5; clear hb5 hw5))
     refine bodyPost_ret (qal (P:=Tryd.prog) rfl rfl HB5.out hu rfl qad) rfl ⟨by rw [HE1.out,HF1.out]; rfl,?_⟩;exact HW5.out.below HC1.out.bel HC1.out.lr HC1.out.bel.size
    ·have HEQ:=zY heq;clear heq
     refine qak (fun u=>G2 w o g (eV X) (eV zE) u) (fun | false=>(fun _=>True) | true=>(fun _=>True)) (fun | false,_=>false | true,_=>false)
      [fun z _=>z 0=.agg (eV X),
       fun z u=>∃ o2,z 1=.slice (some ⟨o2,0,none⟩) 32 32∧Blk u o2 5 (bnV (byN M)).toArray,
       fun z _=>z 2=.string ⟨(byB M).toArray⟩,
       fun z _=>z 3=.slice A 32 c,
       fun z _=>z 4=.string ⟨l.toArray⟩,
       fun z _=>z 5=.bool true]
      [Eq,fun u u'=>Below u.heap.size u u',Eq,Eq,Eq,Eq]
      (fun _ _=>false) [(0,some 49),(1,some 50),(2,some 51),(3,some 52),(4,some 53),(5,some 54)] (by kernel_rfl) (by kernel_rfl) rfl (fun _=>rfl) ?_ ?_ ?_ ?_ ?_ ?_
     ·exact HC0
     ·intro m; cases m; exact trivial; exact trivial
     ·intro m; cases m
      ·refine ⟨?_,.inr (fun _ _ _ h=>h),?_,?_,?_,?_,trivial⟩ <;> exact .inr fun _ _ h h0=>h▸h0
      ·refine ⟨?_,.inr (fun _ _ _ h=>h),?_,?_,?_,?_,trivial⟩ <;> exact .inr fun _ _ h h0=>h▸h0
     ·refine ⟨⟨.inl rfl,?_,?_,?_,?_,?_,trivial⟩,⟨?_,.inl rfl,?_,?_,?_,?_,trivial⟩,⟨?_,?_,.inl rfl,?_,?_,?_,trivial⟩,⟨?_,?_,?_,.inl rfl,?_,?_,trivial⟩,⟨?_,?_,?_,?_,.inl rfl,?_,trivial⟩,⟨?_,?_,?_,?_,?_,.inl rfl,trivial⟩,trivial⟩ <;> first | exact .inr (.inr (.inl rfl)) | exact .inr (.inr (.inr fun _ _ _ _ _ h=>h)) | exact .inr (.inr (.inr fun _ _ _ _ h h0=>by cases h; exact h0))
     ·refine ⟨?_,?_,?_,?_,?_,?_,trivial⟩
      ·refine qaa [] (fun _=>rfl) rfl ?_;intro w1 vals hC1 hi0 hf E hE;clear hi0;clear hf;simp only [sP] at hE ⊢;refine qac hC1.x rfl rfl rfl hu rfl qad ?_;go_wp2_with fail;exact .mk (hE _ _ rfl hC1 rfl)
      ·refine qaa [(0,some 49)] (fun _=>rfl) rfl ?_;intro w1 vals hC1 hi0 hf E hE;clear hi0;have f0:vals 0=_:=hf 0 rfl
       try dsimp only at f0
       clear hf;simp only [sP,f0] at hE ⊢;clear f0;go_wp2_with fail;refine qab (qc9 X _ HXL.out) ?_;rintro e w2 ⟨o2,rfl,hlo,hblk,hb2⟩;rw [← HM.out] at hblk;go_wp2_with fail;exact .mk (hE _ _ ⟨o2,rfl,hblk⟩ (hC1.next hb2) hb2)
      ·refine qaa [(1,some 50)] (fun _=>rfl) rfl ?_;intro w1 vals hC1 hi0 hf E hE;clear hi0;have f1:(fun z u=>∃ o2,z 1=.slice (some ⟨o2,0,none⟩) 32 32∧Blk u o2 5 (bnV (byN M)).toArray) vals w1:=hf 1 rfl
       try dsimp only at f1
       clear hf;obtain ⟨o2,hx,hblk⟩:=f1;simp only [sP,hx] at hE ⊢;clear hx;rw [bnV_byB] at hblk;refine qaw (l:=byB M) (Rd.of_blk hblk hblk.lt) Tryd.underlying22 Tryd.underlying5 Tryd.underlying9 rfl rfl (by rw [qaU]; rfl) ?_;go_wp2_with fail;exact .mk (hE _ _ rfl hC1 rfl)
      ·refine qaa [] (fun _=>rfl) rfl ?_;intro w1 vals hC1 hi0 hf E hE;clear hi0;clear hf;simp only [sP] at hE ⊢;go_wp2;exact .mk (hE _ _ rfl hC1 rfl)
      ·refine qaa [(3,some 52)] (fun _=>rfl) rfl ?_;intro w1 vals hC1 hi0 hf E hE;clear hi0;have f3:vals 3=_:=hf 3 rfl
       try dsimp only at f3
       clear hf;have hbel:=hC1.bel;rw [HHG.out] at hbel;simp only [sP,f3] at hE ⊢;clear f3;refine qaw (l:=l) (HR.out.below hbel) Tryd.underlying22 Tryd.underlying5 Tryd.underlying9 rfl rfl (by rw [HL.out]; rfl) ?_;go_wp2_with fail;exact .mk (hE _ _ rfl hC1 rfl)
      ·refine qaa [(2,some 51),(4,some 53)] (fun _=>rfl) rfl ?_;intro w1 vals hC1 hi0 hf E hE;clear hi0;have f2:vals 2=_:=hf 2 rfl;have f4:vals 4=_:=hf 4 rfl
       try dsimp only at f2 f4
       clear hf;simp only [sP,f2,f4] at hE ⊢;clear f2 f4;go_wp2;refine .mk (hE _ _ ?_ hC1 rfl);have h1:(byB M == l)=false:=beq_false_of_ne HEQ.out;show Value.bool (!byB M == l)=.bool true;rw [h1];rfl
     intro w1 vals hC1 hf;have f0:vals 0=_:=hf 0 (by decide) rfl;have f1:(fun z u=>∃ o2,z 1=.slice (some ⟨o2,0,none⟩) 32 32∧Blk u o2 5 (bnV (byN M)).toArray) vals w1:=hf 1 (by decide) rfl;have f2:vals 2=_:=hf 2 (by decide) rfl;have f3:vals 3=_:=hf 3 (by decide) rfl;have f4:vals 4=_:=hf 4 (by decide) rfl;have f5:vals 5=_:=hf 5 (by decide) rfl
     try dsimp only at f0 f1 f2 f3 f4 f5
     clear hf;simp only [sP,f0,f2,f3,f4,f5];clear f0 f2 f3 f4 f5;generalize vals 1=x1 at *;clear HC0 f1;have HC1:=zY hC1;clear hC1;have hok:mayR l=false:=by rw [HMAY.out]; exact decide_eq_false HEQ.out
     have hE1:readE l=zE:=by rw [readE,hok]; rfl
     have hF1:readF l=2:=by rw [readF,hok]; rfl
     have HE1:=zY hE1;have HF1:=zY hF1;clear hok hE1 hF1
     go_wp2_with (first
      | (refine qae (x:=.tmp 2) (cells:=eV zE) HC1.out.z rfl rfl rfl rfl qad rfl (by simp [eV,wV,limbs,Value.oneCell']) ?_; intro w5 hb5 hw5; have HB5:=zY hb5; have HW5:=zY hw5; clear hb5 hw5))
     refine bodyPost_ret (qal (P:=Tryd.prog) rfl rfl HB5.out hu rfl qad) rfl ⟨by rw [HE1.out,HF1.out]; rfl,?_⟩;exact HW5.out.below HC1.out.bel HC1.out.lr HC1.out.bel.size
 ·have hno:mayR l=false:=by simp [mayR,h32]
  have hE:readE l=zE:=by rw [readE,hno]; rfl
  have hF:readF l=2:=by rw [readF,hno]; rfl
  unfold ReadPost;rw [hE,hF];obtain ⟨n,hn⟩:=eX (l.length);rw [← hn];have hn32:¬ (n:Int)=32:=by omega
  have hb0:=Blk.new w 46 (eV zE);have HB0:=zY hb0;clear hr hc hl h32 hno hE hF hn hb0;go_enter Tryd.func38,Tryd.ntmps38;go_wp2_with (refine qae (x:=.tmp 2) (cells:=eV zE) HB0.out rfl rfl rfl rfl qad rfl (by simp [eV,wV,limbs,Value.oneCell']) ?_; intro w5 hb5 hw5; have HB5:=zY hb5; have HW5:=zY hw5; clear hb5 hw5);refine bodyPost_ret (qal (P:=Tryd.prog) rfl rfl HB5.out hu rfl qad) rfl ⟨rfl,?_⟩;exact HW5.out.below (below_new _ _) (Nat.le_refl _) (by simp)
theorem sl_bytes:SlT Tryd.prog 22 5 1 1:=SlT.mk1 (z:=.int .u8 0) Tryd.underlying22 (by kernel_rfl) rfl (by decide)
def numV (n:Nat):Value:=.int .i64 (n:Int)
def dV (l:List Nat):List Value:=l.map numV
theorem qcM {α:Type} {l:List α} {k:Nat} (h:k<l.length):l.take (k+1)=l.take k++[l[k]]:=List.take_succ_eq_append_getElem h
def OwnPost (e0:TypeId) (n:Nat) (xs:List Value) (w:World) (e:Ending) (w':World):Prop :=
 ∃ A c,e=.returned (.slice A n c)∧OwnX w' w.heap.size e0 1 (.slice A n c) n xs∧Below w.heap.size w w'
theorem qbT {B:Nat} {w w1 w2:World} {A:Option Addr} {n c:Nat} {e:TypeId} {xs:List Value} (hb:Below B w w1) (ho:OwnX w1 B e 1 (.slice A n c) n xs) (hB:B≤w1.heap.size) (hg:w1.grownBy w2 (Value.slice A n c).ownBlock):Below B w w2 :=
 hb.grown hg hB fun k hk=>(ho.lt k hk).1
theorem own_none {w:World} {base e m c:Nat} {A:Option Addr} {xs:List Value} (h:w.ownsRow base e 1 (.slice A m c) m xs):w.ownsRow base e 1 (.slice A 0 c) 0 []:=by
 refine ⟨rfl,?_⟩
 rcases h.2 with ⟨hv,rfl⟩ | ⟨g,cap,cur,hv,hb,hg,hn,hm,hs,_⟩
 ·exact .inl ⟨hv,rfl⟩
 ·injection hv with h1 h2 h3
  subst h1 h3;exact .inr ⟨g,c,cur,rfl,hb,hg,Nat.zero_le _,hm,hs,by simp⟩
theorem u8z:∃ i,Tryd.prog.info? 5=some i∧i.zero=some (.int .u8 0):=by
 obtain ⟨i,hi,h0,_,_⟩:=info_parts (show (Tryd.prog.info? 5).map (fun i=>(i.zero,i.size,i.bytes))=some (some (.int .u8 0),1,1) by kernel_rfl);exact ⟨i,hi,h0⟩
def GrowPost (w:World) (e:Ending) (w':World):Prop :=
 ∃ A c,e=.returned (.slice A 0 c)∧w'.ownsRow w.heap.size 5 1 (.slice A 0 c) 0 []∧Below w.heap.size w w'
theorem grow_any (n:Nat) (hn:n≤40000) (w:World) :
  Calls Tryd.prog 68 #[.slice none 0 0,.int .i64 (n:Int)] w (GrowPost w):=by
 have h0:(0:Int)≤n:=by omega
 have h1:(n:Int)≤40000:=by omega
 have hu8:∃ i,Tryd.prog.info? 5=some i∧i.zero=some (.int .u8 0):=u8z
 rcases Nat.eq_zero_or_pos n with h00 | hp
 ·have h2:(n:Int)≤0:=by omega
  clear h00;go_enter Tryd.func68,Tryd.ntmps68;go_wp2_with fail;go_ret;exact ⟨_,_,rfl,⟨rfl,.inl ⟨rfl,rfl⟩⟩,Below.refl _ _⟩
 ·have h2:(0:Int)<n:=by omega
  have HP:=zY hp;clear hp;go_enter Tryd.func68,Tryd.ntmps68;have hg:=qbD (w:=w) (base:=w.heap.size) (e:=5) (n:=0) (m:=n) (old:=0) (z:=.int .u8 0) (xs:=[]) (news:=List.replicate n (Value.int .u8 0)) (size:=1) (by simp) (by simp) rfl (by unfold maxLen; omega) (Nat.le_refl _);simp only [Nat.zero_add,List.nil_append,Array.empty_append] at hg;have hzc:Builtin.zeroCells #[.int .u8 0] n=(List.replicate n (Value.int .u8 0)).toArray:=by apply Array.ext'; exact qbw n
  rw [← hzc] at hg;have HO:=zY (own_none hg);have hcap:=(qcU (OwnX.of hg)).1;have HB:=zY (fun o=>qbb (B:=w.heap.size) (v:=.slice none 0 0) (qaR w o _) (Nat.le_refl _) (by intro k hk; simp [Value.ownBlock] at hk))
  have h48:¬ (281474976710656<Builtin.nextslicecap n 0*Tryd.t5.bytes):=by
   have:=growslice_fits (bytes:=Tryd.t5.bytes) (need:=n) (old:=0) (by omega) (by show n*1≤_; omega);omega
  have h63:¬ (9223372036854775807<(n:Int)):=by omega
  have hbb:¬ (281474976710656<(n:Int)*(Tryd.t5.bytes:Int)):=by show ¬ (281474976710656<(n:Int)*1); omega
  have hmm:¬ (281474976710656<(n:Int)):=by omega
  have hn0:¬ n=0:=by omega
  clear hg hzc;go_wp2_with fail;go_ret;exact ⟨_,_,rfl,HO.out,HB.out _⟩
def Dg (l:List Nat):Prop:=∀ d ∈ l,d<256
theorem qaV {l:List Nat} (h:Dg l) (k:Nat):l.getD k 0<256:=by
 rw [List.getD_eq_getElem?_getD]
 by_cases hk:k<l.length
 ·rw [List.getElem?_eq_getElem hk]; exact h _ (List.getElem_mem hk)
 ·rw [List.getElem?_eq_none (by omega)]; decide
def DigPost (l:List Nat) (w:World) (e:Ending) (w':World):Prop :=
 ∃ A c,e=.returned (.slice A l.length c)∧l.length≤c∧Rd w' w'.heap.size A (dV l)∧Below w.heap.size w w'
structure D1 (w0:World) (o:Nat) (l:List Nat) (u:World):Prop where
 bel:Below w0.heap.size w0 u
 out:Blk u o 3 (dV l).toArray
 lo:w0.heap.size≤o
theorem D1.put {w0 u u':World} {o:Nat} {l l':List Nat} (k:D1 w0 o l u) (hw:Wrote o u u') (hb:Blk u' o 3 (dV l').toArray):D1 w0 o l' u' :=
 ⟨hw.below k.bel k.lo k.bel.size,hb,k.lo⟩
theorem D1.next {w0 u u':World} {o:Nat} {l:List Nat} (k:D1 w0 o l u) (hb:Below u.heap.size u u'):D1 w0 o l u' :=
 ⟨k.bel.trans (hb.mono k.bel.size),k.out.below hb k.out.lt,k.lo⟩
theorem D1.drew {w0 u:World} {o:Nat} {l:List Nat} (k:D1 w0 o l u):D1 w0 o l u.drew:=⟨k.bel.drew,k.out,k.lo⟩
theorem D1.post {w0 u:World} {o n c:Nat} {l:List Nat} (k:D1 w0 o l u) (hn:n=l.length) (hc:n≤c):DigPost l w0 (.returned (.slice (some ⟨o,0,none⟩) n c)) u :=
 ⟨_,c,by rw [hn],by omega,Rd.of_blk k.out k.out.lt,k.bel⟩
def digN (n N:Nat):List Nat:=(List.range n).map fun j=>N/256^j%256
theorem qc7 (n N:Nat):(digN n N).length=n:=by simp [digN]
theorem digN_dg (n N:Nat):Dg (digN n N):=fun d h=>by
 obtain ⟨j,_,rfl⟩:=List.mem_map.1 h;exact Nat.mod_lt _ (by decide)
theorem digN_val (n N:Nat) (h:N<256^n):leV (digN n N)=N:=by rw [digN,leV_mod,Nat.mod_eq_of_lt h]
theorem digN_eq {l:List Nat} {n N:Nat} (h:Dg l) (hl:l.length=n) (hv:leV l=N):l=digN n N:=by
 have hlt:=leV_lt l h;rw [hv,hl] at hlt;exact leV_ext l _ (by rw [hl,qc7]) h (digN_dg n N) (by rw [hv,digN_val n N hlt])
theorem byN_dig (N:Nat):byN N=digN 32 N:=rfl
theorem dg_snoc {l:List Nat} {d:Nat} (h:Dg l) (hd:d<256):Dg (l++[d]):=fun x hx=>by
 rcases List.mem_append.1 hx with h1 | h1
 ·exact h x h1
 ·rw [List.mem_singleton.1 h1]; exact hd
theorem dg_set {l:List Nat} (h:Dg l) (k d:Nat) (hd:d<256):Dg (l.set k d):=fun x hx=>by
 rcases List.mem_or_eq_of_mem_set hx with h1 | h1
 ·exact h x h1
 ·rw [h1]; exact hd
def partL (out:List Nat) (n:Nat):List Nat:=out++List.replicate (n - out.length) 0
theorem qct (out:List Nat) (n:Nat) (h:out.length≤n):(partL out n).length=n:=by simp [partL]; omega
theorem partL_full (out:List Nat) (n:Nat) (h:out.length=n):partL out n=out:=by simp [partL,h]
theorem partL_set (out:List Nat) (n k d:Nat) (hk:out.length=k) (h:k<n):(partL out n).set k d=partL (out++[d]) n:=by
 subst hk;obtain ⟨r,hr⟩:∃ r,n - out.length=r+1:=⟨n - out.length - 1,by omega⟩;have hr2:n - (out++[d]).length=r:=by simp; omega
 rw [partL,partL,hr,hr2,List.set_append_right _ _ (Nat.le_refl _),Nat.sub_self,List.replicate_succ,List.set_cons_zero];simp
def RdV (n:Nat) (xs:List Value) (v:Value) (u:World):Prop:=∃ A c,v=.slice A n c∧n≤c∧Rd u u.heap.size A xs
theorem RdV.next {n:Nat} {xs:List Value} {v:Value} {u u':World} (h:RdV n xs v u) (hb:Below u.heap.size u u'):RdV n xs v u':=by
 obtain ⟨A,c,h1,h2,h3⟩:=h;exact ⟨A,c,h1,h2,(h3.below hb).mono hb.size⟩
theorem RdV.of_own {n:Nat} {xs:List Value} {A:Option Addr} {c base:Nat} {e:TypeId} {u:World} (h:OwnX u base e 1 (.slice A n c) n xs):RdV n xs (.slice A n c) u :=
 ⟨A,c,rfl,h.le_cap,Rd.of_own h (Nat.le_refl _)⟩
def pm (m x:Nat):List Nat→Nat
 | []=>1%m
 | d :: r=>(x^d%m)*((pm m x r)^256%m)%m
theorem pm_eq (m x:Nat):∀ l,pm m x l=x^leV l%m
 | []=>by rw [pm,leV,Nat.pow_zero]
 | d :: r=>by
  rw [pm,pm_eq m x r,leV,Nat.pow_add,Nat.pow_mul',← Nat.pow_mod,← Nat.mul_mod]
theorem invL_val:leV invL=PN - 2:=by decide
theorem invL_dg:Dg invL:=by unfold Dg invL; decide
theorem invE_ok {x:E5} (hx:x.Ok):(invE x).Ok:=pwL_ok hx _ _
theorem invE_val (x:E5):(invE x).val%PN=x.val^(PN - 2)%PN:=by
 have h:=pwL_val x invL invL_dg 32 (by decide);rw [show invL.length - 32=0 by decide,List.drop_zero,invL_val] at h;exact h
theorem intE_nat (n:Nat):intE (n:Int)=natE n:=by
 unfold intE;rw [if_neg (by omega),Int.natAbs_natCast]
theorem limbs_inj {x y:E5} (h:limbs x=limbs y):x=y:=by
 obtain ⟨a1,b1,c1,d1,e1⟩:=x;obtain ⟨a2,b2,c2,d2,e2⟩:=y;simp only [limbs,List.cons.injEq] at h;obtain ⟨rfl,rfl,rfl,rfl,rfl,_⟩:=h;rfl
theorem eqE {x y:E5} (hx:x.Lt 18446744073709551616) (hy:y.Lt 18446744073709551616):(limbs (leastE x) == limbs (leastE y))=decide (x.val%PN=y.val%PN):=by
 rw [Bool.eq_iff_iff,beq_iff_eq,decide_eq_true_iff,← qbE hx,← qbE hy];exact ⟨fun h=>by rw [limbs_inj h],fun h=>by rw [least_inj (qcE x) (qcE y) h]⟩
def eqB (x y:E5):Bool:=limbs (leastE x) == limbs (leastE y)
def Sm (a b:Nat):Prop:=a%PN=b%PN
theorem Sm.refl (a:Nat):Sm a a:=rfl
theorem Sm.symm {a b:Nat} (h:Sm a b):Sm b a:=Eq.symm h
theorem Sm.trans {a b c:Nat} (h:Sm a b) (k:Sm b c):Sm a c:=Eq.trans h k
theorem Sm.add {a b c d:Nat} (h:Sm a b) (k:Sm c d):Sm (a+c) (b+d):=by
 unfold Sm at *;rw [Nat.add_mod,h,k,← Nat.add_mod]
theorem Sm.mul {a b c d:Nat} (h:Sm a b) (k:Sm c d):Sm (a*c) (b*d):=by
 unfold Sm at *;rw [Nat.mul_mod,h,k,← Nat.mul_mod]
theorem Sm.of {a b:Nat} (h:a=b):Sm a b:=by rw [h]; exact Sm.refl _
theorem Sm.back {a b c:Nat} (h:Sm (a+c) (b+c)):Sm a b:=by
 unfold Sm at *;simp only [PN] at *;omega
theorem sm_add (x y:E5):Sm (addE x y).val (x.val+y.val):=add_val x y
theorem sm_mul (x y:E5):Sm (mulE x y).val (x.val*y.val):=mul_val x y
theorem sm_sub {x y:E5} (hy:y.Ok):Sm ((subE x y).val+y.val) x.val:=sub_val hy
theorem mul_c (x y:E5) (w:World) (hx:x.Ok) (hy:y.Ok):Calls Tryd.prog 39 #[.agg (eV x),.agg (eV y)] w (ElemPost (mulE x y) w):=mul_any x y w hx hy
theorem add_c (x y:E5) (w:World) (hx:x.Ok) (hy:y.Ok):Calls Tryd.prog 44 #[.agg (eV x),.agg (eV y)] w (ElemPost (addE x y) w):=add_any x y w (E5.Lt.mono hx (by decide)) (E5.Lt.mono hy (by decide))
theorem sub_c (x y:E5) (w:World) (hx:x.Ok) (hy:y.Ok):Calls Tryd.prog 41 #[.agg (eV x),.agg (eV y)] w (ElemPost (subE x y) w):=sub_any x y w (E5.Lt.mono hx (by decide)) hy.big
def BoolPost (b:Bool) (w:World) (e:Ending) (w':World):Prop:=e=.returned (.bool b)∧Below w.heap.size w w'
theorem equal_c (x y:E5) (w:World) (hx:x.Ok) (hy:y.Ok):Calls Tryd.prog 47 #[.agg (eV x),.agg (eV y)] w (BoolPost (eqB x y) w):=equal_any x y w hx.big hy.big
theorem rd_takeB {w:World} {B n:Nat} {A:Option Addr} {l:List UInt8} (h:Rd w B A (bytesV l)):Rd w B A (bytesV (l.take n)):=fun i u hi=>by
 refine h i u ?_;rw [bytesV,List.getElem?_map,List.getElem?_take] at hi;rw [bytesV,List.getElem?_map]
 split at hi
 ·exact hi
 ·simp at hi
theorem odd_c (x:E5) (hx:x.Ok) (u:World):Calls Tryd.prog 45 #[.agg (eV x)] u (BoolPost (decide (x.val%PN%2=1)) u):=by
 have h:=odd_any x u hx.big
 have e:(leastE x).a%2=x.val%PN%2:=by
  rw [← qbE hx.big];simp only [E5.val];omega
 rw [e] at h;exact h
inductive Fc where
 | box (g:Nat) (t:TypeId) (cs:Array Value)
 | rd (A:Option Addr) (xs:List Value)
def Fc.holds:Fc→World→Prop
 | .box g t cs,u=>Blk u g t cs
 | .rd A xs,u=>Rd u u.heap.size A xs
def St:List Fc→World→Prop
 | [],_=>True
 | f :: r,u=>f.holds u∧St r u
theorem Fc.next {f:Fc} {u u':World} (h:f.holds u) (hb:Below u.heap.size u u'):f.holds u':=by
 cases f with
 | box g t cs=>exact Blk.below h hb (Blk.lt h)
 | rd A xs=>exact (Rd.below h hb).mono hb.size
theorem St.next:∀ {fs:List Fc} {u u':World},St fs u→Below u.heap.size u u'→St fs u'
 | [],_,_,_,_=>trivial
 | f :: _,_,_,h,hb=>⟨Fc.next (f:=f) h.1 hb,St.next h.2 hb⟩
def NewBox (B:Nat) (t:TypeId) (cs:Array Value) (v:Value) (u:World):Prop:=∃ o,v=.pointer (some ⟨o,0,none⟩)∧B≤o∧Blk u o t cs
theorem NewBox.next {B:Nat} {t:TypeId} {cs:Array Value} {v:Value} {u u':World} (h:NewBox B t cs v u) (hb:Below u.heap.size u u'):NewBox B t cs v u':=by
 obtain ⟨o,h1,h2,h3⟩:=h;exact ⟨o,h1,h2,h3.below hb h3.lt⟩
theorem NewBox.of {B:Nat} {t:TypeId} {cs:Array Value} {u:World} (hB:B≤u.heap.size):NewBox B t cs (.pointer (some ⟨u.heap.size,0,none⟩)) (u.alloc (.cells cs t)) :=
 ⟨_,rfl,hB,Blk.new _ _ _⟩
theorem qaW {u u':World} {o:Obj} (hw:Wrote u.heap.size (u.alloc o) u'):Below u.heap.size u u' :=
 hw.below (below_new _ _) (Nat.le_refl _) (by simp)
structure Pt4 where
 x:E5
 y:E5
 z:E5
 t:E5
structure Pt4.Ok (p:Pt4):Prop where
 x:p.x.Ok
 y:p.y.Ok
 z:p.z.Ok
 t:p.t.Ok
def ptV (p:Pt4):Array Value:=wV (limbs p.x++limbs p.y++limbs p.z++limbs p.t)
theorem qaG (p:Pt4):(ptV p).size=20:=rfl
theorem qai:(Tryd.prog.info? 48).map (·.size)=some 20:=by kernel_rfl
def zP:Pt4:=⟨zE,zE,zE,zE⟩
def PtPost (p:Pt4) (w:World) (e:Ending) (w':World):Prop:=e=.returned (.agg (ptV p))∧Below w.heap.size w w'
def sumP (p q:Pt4) (w:E5):Pt4 :=
 let a:=mulE (subE p.y p.x) (subE q.y q.x)
 let b:=mulE (addE p.y p.x) (addE q.y q.x)
 let c:=mulE (mulE p.t w) q.t
 let z:=mulE p.z q.z
 let e:=subE b a
 let h:=addE b a
 let f:=subE (addE z z) c
 let g:=addE (addE z z) c
 ⟨mulE e f,mulE g h,mulE f g,mulE e h⟩
theorem qcj {p q:Pt4} {w:E5} (hp:p.Ok) (hq:q.Ok) (hw:w.Ok):(sumP p q w).Ok:=by
 have a:=qaq (qaP hp.y hp.x) (qaP hq.y hq.x);have b:=qaq (qaT hp.y hp.x) (qaT hq.y hq.x);have c:=qaq (qaq hp.t hw) hq.t;have z:=qaq hp.z hq.z;exact ⟨qaq (qaP b a) (qaP (qaT z z) c),qaq (qaT (qaT z z) c) (qaT b a),qaq (qaP (qaT z z) c) (qaT (qaT z z) c),qaq (qaP b a) (qaT b a)⟩
def ofP (x y:E5):Pt4:=⟨x,y,intE 1,mulE x y⟩
theorem qcV:(intE 1).Ok:=intE_ok (by decide) (by decide)
theorem ofP_ok {x y:E5} (hx:x.Ok) (hy:y.Ok):(ofP x y).Ok:=⟨hx,hy,qcV,qaq hx hy⟩
def negP (p:Pt4):Pt4:=⟨subE zE p.x,p.y,p.z,subE zE p.t⟩
theorem negP_ok {p:Pt4} (hp:p.Ok):(negP p).Ok:=⟨qaP zE_ok hp.x,hp.y,hp.z,qaP zE_ok hp.t⟩
theorem sub_z (x:E5) (hx:x.Ok) (u:World):Calls Tryd.prog 41 #[.agg #[.int .u64 0,.int .u64 0,.int .u64 0,.int .u64 0,.int .u64 0],.agg (eV x)] u (ElemPost (subE zE x) u):=sub_c zE x u zE_ok hx
theorem int1_c (u:World):Calls Tryd.prog 42 #[.int .i64 1] u (ElemPost (intE 1) u):=int_any 1 (by decide) (by decide) u
theorem int0_c (u:World):Calls Tryd.prog 42 #[.int .i64 0] u (ElemPost (intE 0) u):=int_any 0 (by decide) (by decide) u
theorem build_pt (a b c d:E5) (u:World):(Instr.build 48 #[(0,.agg (eV a)),(1,.agg (eV b)),(2,.agg (eV c)),(3,.agg (eV d))]).run Tryd.prog u=.ok (.agg (ptV ⟨a,b,c,d⟩)) u:=by kernel_rfl
theorem qbi {w:World} {ops:Array Oper} {rest:List Oper} {o:Oper} {a:Act} {Q:Exit→Act→World→Prop} {x0 x1 x2 x3:Operand} (A B C D:E5)
  (hgd:o.guard=none) (ho:o.op=.build 48 #[(0,x0),(1,x1),(2,x2),(3,x3)]) (h0:a.eval x0=.agg (eV A)) (h1:a.eval x1=.agg (eV B)) (h2:a.eval x2=.agg (eV C)) (h3:a.eval x3=.agg (eV D))
  (h:wpList Tryd.prog ops Q rest (a.put o.dst (.agg (ptV ⟨A,B,C,D⟩))) w):wpList Tryd.prog ops Q (o :: rest) a w:=by
 refine wpList_plain hgd fun K hK=>?_;unfold Oper.wp execOp;simp only [ho,List.map_toArray,List.map_cons,List.map_nil,h0,h1,h2,h3,Sem.run_bind,Sem.run_pure,Result.andThen_ok,build_pt];exact hK _ _ h
def Cs (fs:List Fc) (w u:World):Prop:=St fs u∧Below w.heap.size w u
theorem Cs.next {fs:List Fc} {w u u':World} (h:Cs fs w u) (hb:Below u.heap.size u u'):Cs fs w u':=⟨h.1.next hb,h.2.trans (hb.mono h.2.size)⟩
theorem St.drew:∀ {fs:List Fc} {u:World},St fs u→St fs u.drew
 | [],_,_=>trivial
 | f :: _,_,h=>⟨(by cases f with
  | box g t cs=>exact h.1
  | rd A xs=>exact h.1),St.drew h.2⟩
theorem Cs.drew {fs:List Fc} {w u:World} (h:Cs fs w u):Cs fs w u.drew:=⟨h.1.drew,h.2.drew⟩
theorem pof_any (x y:E5) (hx:x.Ok) (hy:y.Ok) (w:World):Calls Tryd.prog 46 #[.agg (eV x),.agg (eV y)] w (PtPost (ofP x y) w):=by
 have hu:=Tryd.underlying46;have hp:=Tryd.underlying48;have KX:=zY hx;have KY:=zY hy;obtain ⟨w0,hw0⟩:=eX (((w.alloc (.cells (eV x) 46)).alloc (.cells (eV y) 46)).alloc (.cells (ptV zP) 48))
 have hst:Cs [.box w.heap.size 46 (eV x),.box (w.heap.size+1) 46 (eV y),.box (w.heap.size+1+1) 48 (ptV zP)] w w0:=by
  rw [hw0];exact ⟨⟨((Blk.new _ _ _).alloc _).alloc _,(Blk.newAt (by simp)).alloc _,Blk.newAt (by simp),trivial⟩,((below_new _ _).alloc (by simp) _).alloc (by simp; try omega) _⟩
 have HLR:=zY (show w.heap.size≤w.heap.size+1+1 by omega);clear hx hy;have HW:=zY hw0;have HC0':=zY hst;clear hw0 hst;go_enter Tryd.func46,Tryd.ntmps46;go_wp2_with fail;show Code.wp Tryd.prog _ _ _ (((w.alloc (.cells (eV x) _)).alloc (.cells (eV y) _)).alloc (.cells (ptV zP) _));rw [← HW.out];generalize hgr:w.heap.size+1+1=r at *;generalize hgh:w.heap.size+1=h at *;generalize hgg:w.heap.size=g at *;have HG:=zY hgg;clear hgr hgh hgg;have HC0:=HC0'.out.drew;clear HC0' HW;refine qaj (fun u=>Cs [.box g 46 (eV x),.box h 46 (eV y),.box r 48 (ptV zP)] w u) (fun u=>Blk u r 48 (ptV (ofP x y))∧Below w.heap.size w u) [(0,some 5),(1,some 6),(2,some 7),(3,some 8),(4,some 9),(5,some 10),(6,some 11),(7,none)] (by kernel_rfl) (by kernel_rfl) (by decide) (by kernel_rfl) (fun _=>rfl) HC0 ?_;apply yN_
 ·apply dP [];exact fun _=>rfl;rfl;rintro vals - w1 hC1 E hE;simp only [sP] at hE ⊢;refine qac ((hC1.1).1) rfl rfl rfl hu rfl qad ?_;go_wp2_with fail;exact .mk (hE _ hC1)
 apply yN_
 ·apply dP [];exact fun _=>rfl;rfl;rintro vals ⟨-,-⟩ w1 hC1 E hE;simp only [sP] at hE ⊢;refine qac ((hC1.1).2.1) rfl rfl rfl hu rfl qad ?_;go_wp2_with fail;exact .mk (hE _ hC1)
 apply yN_
 ·apply dP [];exact fun _=>rfl;rfl;intro vals vq w1 hC1 E hE;clear vq;simp only [sP] at hE ⊢;go_wp2_with fail;refine qab (int1_c _) ?_;rintro e w2 ⟨rfl,hb2⟩;go_wp2_with fail;exact .mk (hE _ (hC1.next hb2))
 apply yN_
 ·apply dP [];exact fun _=>rfl;rfl;intro vals vq w1 hC1 E hE;clear vq;simp only [sP] at hE ⊢;refine qac ((hC1.1).1) rfl rfl rfl hu rfl qad ?_;go_wp2_with fail;exact .mk (hE _ hC1)
 apply yN_
 ·apply dP [];exact fun _=>rfl;rfl;intro vals vq w1 hC1 E hE;clear vq;simp only [sP] at hE ⊢;refine qac ((hC1.1).2.1) rfl rfl rfl hu rfl qad ?_;go_wp2_with fail;exact .mk (hE _ hC1)
 apply yN_
 ·apply dP [(3,some 8),(4,some 9),(2,some 7)];exact fun _=>rfl;rfl;intro vals vq w1 hC1 E hE;simp only [sP,vq] at hE ⊢;clear vq;go_wp2_with fail;refine qab (mul_c x y _ KX.out KY.out) ?_;rintro e w2 ⟨rfl,hb2⟩;go_wp2_with fail;exact .mk (hE _ (hC1.next hb2))
 apply yN_
 ·apply dP [(0,some 5),(1,some 6),(2,some 7),(5,some 10)];exact fun _=>rfl;rfl;intro vals vq w1 hC1 E hE;simp only [sP,vq] at hE ⊢;clear vq;refine qbi x y (intE 1) (mulE x y) rfl rfl rfl rfl rfl rfl ?_;go_wp2_with fail;exact .mk (hE _ hC1)
 apply yL_ (v:=undef)
 ·apply dP [(6,some 11),(5,some 10),(0,some 5),(1,some 6),(2,some 7),(3,some 8),(4,some 9),(5,some 10),(6,some 11)];exact fun _=>rfl;rfl;intro vals vq w1 hC1 E hE;have hlr:=HLR.out;simp only [sP,vq] at hE ⊢;clear vq;refine qae (cells:=ptV (ofP x y)) hC1.1.2.2.1 rfl rfl rfl rfl qai rfl (by simp [eV,ptV,wV,limbs,Value.oneCell']) ?_;intro w6 hb6 hw6;go_wp2_with fail;exact .mk (hE _ ⟨hb6,hw6.below hC1.2 (by rw [HG.out]; exact hlr) hC1.2.size⟩)
 intro vals vq w1 hC1;simp only [sP,vq];clear vq;go_wp2_with fail;refine bodyPost_ret (qap (P:=Tryd.prog) rfl rfl hC1.1 hp rfl qai) rfl ⟨rfl,hC1.2⟩
section
variable {P:Program} {ops:Array Oper}
structure RIV (ops:Array Oper) (a0:Act) (C:(Nat→Value)→World→Prop) (I0:Bool→World→Prop) (ik:Bool→Nat→Bool) (F:Nat→(Nat→Value)→World→Prop) (kills:Nat→Nat→Bool) (listed:Array Bool) (a:Act) (w:World) (vals:Nat→Value):Prop where
 size:listed.size=ops.size
 tsize:a.tmps.size=a0.tmps.size
 defers:a.defers=a0.defers
 done:∀ j,listed.getD j false=true→∀ d,dstAt ops j=some d→d<a0.tmps.size→a.tmps[d]?=some (vals j)
 other:∀ t,(∀ j,listed.getD j false=true→dstAt ops j≠some t)→a.tmps[t]?=a0.tmps[t]?
 closed:∀ j,listed.getD j false=true→∀ i ∈ waitsOf ops j,listed.getD i false=true
 c:C vals w
 ini:∀ m,(∀ k,listed.getD k false=true→ik m k=false)→I0 m w
 facts:∀ j,listed.getD j false=true→(∀ k,listed.getD k false=true→k≠j→kills k j=false)→F j vals w
def StepAtV (P:Program) (ops:Array Oper) (a0:Act) (C:(Nat→Value)→World→Prop) (I0:Bool→World→Prop) (ik:Bool→Nat→Bool) (F:Nat→(Nat→Value)→World→Prop) (St:Nat→World→World→Prop) (kills:Nat→Nat→Bool) (i:Nat) (o:Oper):Prop :=
 ∀ (w:World) (vals:Nat→Value),C vals w→(∀ m,availIni ops (ik m) i=true→I0 m w)→(∀ j,availAt ops kills j i=true→F j vals w) →
  wpList P ops (fun e a' w'=>e=.normal∧∃ v,a'=(putAll ops vals (waitsOf ops i) a0).put o.dst v∧F i (upd vals i v) w'∧C (upd vals i v) w'∧St i w w') [o] (putAll ops vals (waitsOf ops i) a0) w
theorem RIV.step {a0:Act} {C:(Nat→Value)→World→Prop} {I0:Bool→World→Prop} {ik:Bool→Nat→Bool} {F:Nat→(Nat→Value)→World→Prop} {St:Nat→World→World→Prop} {kills:Nat→Nat→Bool} {Q:Exit→Act→World→Prop}
  (hok:regionOk ops=true) (hini:∀ m i,ik m i=false→∀ w w',St i w w'→I0 m w→I0 m w') (hpres:∀ i k,i<ops.size→i≠k→kills i k=false→(deepWaits ops 5 k).contains i=false→∀ vals v w w',St i w w'→F k vals w→F k (upd vals i v) w')
  (hstep:∀ i o,ops[i]?=some o→StepAtV P ops a0 C I0 ik F St kills i o)
  {listed:Array Bool} {a:Act} {w:World} {vals:Nat→Value} (h:RIV ops a0 C I0 ik F kills listed a w vals) {i:Nat} (hi:i ∈ Region.ready .any ops listed) :
  wpOp P ops Q i (fun a' w'=>∃ vals',RIV ops a0 C I0 ik F kills (listed.setIfInBounds i true) a' w' vals') a w:=by
 obtain ⟨hun,o,ho,hall⟩:=mem_ready.1 hi;have hlt:i<ops.size:=(Array.getElem?_eq_some_iff.1 ho).1;have hltl:i<listed.size:=by rw [h.size]; exact hlt
 have hunf:listed.getD i false=false:=by
  simp [hltl] at hun ⊢; exact hun
 have ok:=okAt hok ho
 have hdist:∀ i j d,i≠j→dstAt ops i=some d→dstAt ops j≠some d:=fun i j d hij hd=>by
  have hil:=qcv hd;exact (okAt hok (Array.getElem?_eq_getElem hil)).dist j (Ne.symm hij) d hd
 have hw:∀ j ∈ waitsOf ops i,listed.getD j false=true:=fun j hj=>by
  obtain ⟨e,he,hb,rfl⟩:=(qcX ho).1 hj;exact hall e he hb
 obtain ⟨p1,p2,p3,p4⟩:=qbk hdist vals (waitsOf ops i) a0
 have hlook:∀ t ∈ o.looksAt ops,a.tmps[t]?=(putAll ops vals (waitsOf ops i) a0).tmps[t]?:=by
  intro t ht
  by_cases hex:∃ j,dstAt ops j=some t
  ·obtain ⟨j,hj⟩:=hex
   rcases ok.look t ht j hj with hji | hij
   ·by_cases hts:t<a0.tmps.size
    ·rw [h.done j (hw j hji) t hj hts,p3 j hji t hj hts]
    ·rw [Array.getElem?_eq_none (by rw [h.tsize]; exact Nat.le_of_not_lt hts),Array.getElem?_eq_none (by rw [p1]; exact Nat.le_of_not_lt hts)]
   ·have hjl:¬ listed.getD j false=true:=fun hj'=>by rw [h.closed j hj' i hij] at hunf; cases hunf
    rw [h.other t (fun k hk e=>by
     have:k=j:=by
      rcases Nat.decEq k j with hne | he
      ·exact absurd e (hdist j k t (Ne.symm hne) hj)
      ·exact he
     subst this; exact hjl hk)]
    rw [p4 t (fun k hk e=>by
     have:k=j:=by
      rcases Nat.decEq k j with hne | he
      ·exact absurd e (hdist j k t (Ne.symm hne) hj)
      ·exact he
     subst this; exact hjl (hw k hk))]
  ·have hno:∀ j,dstAt ops j≠some t:=fun j e=>hex ⟨j,e⟩;rw [h.other t (fun j _=>hno j),p4 t (fun j _=>hno j)]
 have heval:∀ x ∈ o.op.operands,a.eval x=(putAll ops vals (waitsOf ops i) a0).eval x:=by
  intro x hx
  cases x with
  | tmp t =>
   have:=hlook t (List.mem_append_left _ (List.mem_filterMap.2 ⟨.tmp t,by simpa using hx,rfl⟩));simp only [Act.eval,Array.getD_eq_getD_getElem?,this]
  | _=>rfl
 have hexec:execOp a.eval o=execOp (putAll ops vals (waitsOf ops i) a0).eval o:=execOp_congr o ok.sel heval
 have hwant:Region.wanted o (yielded ops a.tmps)=Region.wanted o (yielded ops (putAll ops vals (waitsOf ops i) a0).tmps):=by
  unfold Region.wanted
  cases hg:o.guard with
  | none=>rfl
  | some gw =>
   obtain ⟨g,want⟩:=gw
   have:yielded ops a.tmps g=yielded ops (putAll ops vals (waitsOf ops i) a0).tmps g:=by
    unfold yielded
    cases ht:(ops[g]?).bind (·.dst) with
    | none=>rfl
    | some t =>
     have:=hlook t (by
      refine List.mem_append_right _ ?_;simp [hg,ht])
     simp only [Option.bind_some,this]
   simp only [this]
 have havail:∀ j,availAt ops kills j i=true→F j vals w:=by
  intro j hj;simp only [availAt,Bool.and_eq_true] at hj;obtain ⟨hj1,hj2⟩:=hj;have hjl:=hw j (by simpa using hj1);refine h.facts j hjl fun k hk hkj=>?_
  have hkl:k<ops.size:=by
   rcases Nat.lt_or_ge k ops.size with h' | h'
   ·exact h'
   ·rw [← h.size] at h'; simp [Array.getElem?_eq_none h'] at hk
  have:=(List.all_eq_true.1 hj2) k (List.mem_range.2 hkl);simp only [Bool.or_eq_true,beq_iff_eq,Bool.not_eq_true'] at this
  rcases this with ((this | this) | this) | this
  ·subst this; rw [hunf] at hk; cases hk
  ·exact absurd this hkj
  ·exact this
  ·have:=qa0 (L:=fun j=>listed.getD j false=true) h.closed 5 k hk i (by simpa using this);simp only [hunf] at this; cases this
 have hini0:∀ m,availIni ops (ik m) i=true→I0 m w:=by
  intro m hj2;refine h.ini m fun k hk=>?_
  have hkl:k<ops.size:=by
   rcases Nat.lt_or_ge k ops.size with h' | h'
   ·exact h'
   ·rw [← h.size] at h'; simp [Array.getElem?_eq_none h'] at hk
  have:=(List.all_eq_true.1 hj2) k (List.mem_range.2 hkl);simp only [Bool.or_eq_true,beq_iff_eq,Bool.not_eq_true'] at this
  rcases this with (this | this) | this
  ·subst this; rw [hunf] at hk; cases hk
  ·exact this
  ·have:=qa0 (L:=fun j=>listed.getD j false=true) h.closed 5 k hk i (by simpa using this);simp only [hunf] at this; cases this
 have hend:∀ (v:Value) (w':World),(∃ v',(putAll ops vals (waitsOf ops i) a0).put o.dst v=(putAll ops vals (waitsOf ops i) a0).put o.dst v'∧F i (upd vals i v') w'∧C (upd vals i v') w'∧St i w w') →
   ∃ vals',RIV ops a0 C I0 ik F kills (listed.setIfInBounds i true) (a.put o.dst v) w' vals':=by
  rintro v w' ⟨v',hv,hF,hC,hSt⟩;have hdo:dstAt ops i=o.dst:=by simp [dstAt,ho]
  refine ⟨upd vals i v',⟨by simp [h.size],(qcD _ _ _).trans h.tsize,(qa9 _ _ _).trans h.defers,?_,?_,?_,hC,?_,?_⟩⟩
  ·intro j hj d hd hlt'
   by_cases hji:j=i
   ·subst hji;rw [hdo] at hd;simp only [upd,if_true];rw [hd] at hv ⊢;rw [qcT _ _ _ (by rw [h.tsize]; exact hlt')];have:=congrArg (fun a:Act=>a.tmps[d]?) hv;rw [qcT _ _ _ (by rw [p1]; exact hlt'),qcT _ _ _ (by rw [p1]; exact hlt')] at this;exact this
   ·simp only [upd,hji,if_false];rw [qat _ (Ne.symm hji)] at hj;rw [qbB _ _ _ _ (fun e=>hdist j i d hji hd (hdo.trans e))];exact h.done j hj d hd hlt'
  ·intro t ht;rw [qbB _ _ _ _ (fun e=>ht i (qav _ _ hltl) (hdo.trans e))];refine h.other t fun j hj=>?_
   by_cases hji:j=i
   ·subst hji; rw [hunf] at hj; cases hj
   ·exact ht j (by rw [qat _ (Ne.symm hji)]; exact hj)
  ·intro j hj k hk
   by_cases hki:k=i
   ·subst hki; exact qav _ _ hltl
   ·rw [qat _ (Ne.symm hki)]
    by_cases hji:j=i
    ·subst hji; exact hw k hk
    ·rw [qat _ (Ne.symm hji)] at hj;exact h.closed j hj k hk
  ·intro m hk;refine hini m i (hk i (qav _ _ hltl)) _ _ hSt (h.ini m fun k hk'=>hk k ?_)
   by_cases hki:k=i
   ·subst hki; exact qav _ _ hltl
   ·rw [qat _ (Ne.symm hki)]; exact hk'
  ·intro j hj hk
   by_cases hji:j=i
   ·subst hji; exact hF
   ·have hj0:=hj;rw [qat _ (Ne.symm hji)] at hj
    refine hpres i j hlt (Ne.symm hji) (hk i (qav _ _ hltl) (Ne.symm hji)) (by
     by_cases hc:(deepWaits ops 5 j).contains i=true
     ·have:=qa0 (L:=fun j=>listed.getD j false=true) h.closed 5 j hj i (by simpa using hc);simp only [hunf] at this; cases this
     ·simpa using hc) _ _ _ _ hSt (h.facts j hj fun k hk' hkj=>?_)
    refine hk k ?_ hkj
    by_cases hki:k=i
    ·subst hki; exact qav _ _ hltl
    ·rw [qat _ (Ne.symm hki)]; exact hk'
 have hs:=hstep i o ho w vals h.c hini0 havail;unfold wpOp;simp only [ho];simp only [wpList] at hs;rw [hwant]
 split
 ·rename_i hwt
  rw [if_pos hwt] at hs
  rcases hs with hs | ⟨_,a₀,w₀,hq⟩
  case inr=>exact absurd hq.1 (by simp)
  refine .inl ?_;unfold Oper.wp at *;rw [hexec];generalize (execOp (putAll ops vals (waitsOf ops i) a0).eval o).run P w=r at *
  cases r with
  | ok n w' =>
   cases n <;> simp only [Oper.upon] at hs ⊢
   case value v=>exact hend v w' hs.2
   case skip=>exact hend _ w' hs.2
   case defer d =>
    obtain ⟨_,v,hv,_⟩:=hs;have:=congrArg Act.defers hv;rw [qa9,qa9] at this;exact absurd this (by simp)
   case enter f args =>
    refine Calls.mono hs fun e w'' he=>?_
    cases e with
    | returned v=>exact hend v w'' he.2
    | panicked c=>exact absurd he.1 (by simp)
    | outgrown=>obtain ⟨_,_,hq⟩:=he; exact absurd hq.1 (by simp)
   case row row args=>exact Rows.mono hs fun v w'' he=>hend v w'' he.2
  | halt x w' =>
   cases x <;> simp only [Oper.upon] at hs ⊢
   exact absurd hs.1 (by simp)
 ·rename_i hwt
  rw [if_neg hwt] at hs;exact hend _ _ hs.2
theorem wp_region_relV {id:Nat} {a0:Act} {w0:World} {Q:Exit→Act→World→Prop} (C:(Nat→Value)→World→Prop) (I0:Bool→World→Prop) (ik:Bool→Nat→Bool) (F:Nat→(Nat→Value)→World→Prop) (St:Nat→World→World→Prop) (kills:Nat→Nat→Bool)
  (hm:P.follows .mixedOrders=true) (hok:regionOk ops=true) (hC:C (fun _=>undef) w0.drew) (hI:∀ m,I0 m w0.drew) (hini:∀ m i,ik m i=false→∀ w w',St i w w'→I0 m w→I0 m w')
  (hpres:∀ i k,i<ops.size→i≠k→kills i k=false→(deepWaits ops 5 k).contains i=false→∀ vals v w w',St i w w'→F k vals w→F k (upd vals i v) w')
  (hstep:∀ i o,ops[i]?=some o→StepAtV P ops a0 C I0 ik F St kills i o)
  (hfin:∀ w vals,C vals w→(∀ j,j<ops.size→aliveAt ops kills j=true→F j vals w)→Q .normal (putAll ops vals (List.range ops.size) a0) w) :
  (Code.region id ops true).wp P Q a0 w0:=by
 have hdist:∀ i j d,i≠j→dstAt ops i=some d→dstAt ops j≠some d:=fun i j d hij hd=>by
  have hil:=qcv hd;exact (okAt hok (Array.getElem?_eq_getElem hil)).dist j (Ne.symm hij) d hd
 have final:∀ listed a w vals,RIV ops a0 C I0 ik F kills listed a w vals→Region.ready .any ops listed=[]→Q .normal a w:=by
  intro listed a w vals h hr;have hall:∀ j,j<ops.size→listed.getD j false=true:=fun j hj=>all_listed hok h.size hr (j+1) j (by omega) hj;obtain ⟨p1,p2,p3,p4⟩:=qbk hdist vals (List.range ops.size) a0
  have ha:a=putAll ops vals (List.range ops.size) a0:=by
   have ht:a.tmps=(putAll ops vals (List.range ops.size) a0).tmps:=by
    apply Array.ext_getElem?;intro t
    by_cases hex:∃ j,dstAt ops j=some t
    ·obtain ⟨j,hj⟩:=hex;have hjl:=qcv hj
     by_cases hts:t<a0.tmps.size
     ·rw [h.done j (hall j hjl) t hj hts,p3 j (List.mem_range.2 hjl) t hj hts]
     ·rw [Array.getElem?_eq_none (by rw [h.tsize]; exact Nat.le_of_not_lt hts),Array.getElem?_eq_none (by rw [p1]; exact Nat.le_of_not_lt hts)]
    ·have hno:∀ j,dstAt ops j≠some t:=fun j e=>hex ⟨j,e⟩;rw [h.other t (fun j _=>hno j),p4 t (fun j _=>hno j)]
   have hd:a.defers=(putAll ops vals (List.range ops.size) a0).defers:=h.defers.trans p2.symm
   cases a
   simp only at ht hd;rw [ht,hd]
  rw [ha];refine hfin w vals h.c fun j hj hal=>h.facts j (hall j hj) fun k hk hkj=>?_
  have hkl:k<ops.size:=by
   rcases Nat.lt_or_ge k ops.size with h' | h'
   ·exact h'
   ·rw [← h.size] at h'; simp [Array.getElem?_eq_none h'] at hk
  have:=(List.all_eq_true.1 hal) k (List.mem_range.2 hkl)
  simpa [hkj] using this
 refine wp_region_any hm ?_
 have key:∀ (fuel:Nat) (listed:Array Bool) (a:Act) (w:World) (vals:Nat→Value),listed.toList.countP (fun b=>!b)≤fuel→RIV ops a0 C I0 ik F kills listed a w vals→wpAny P .any ops Q fuel listed a w:=by
  intro fuel
  induction fuel with
  | zero =>
   intro listed a w vals hc h
   have hr:Region.ready .any ops listed=[]:=by
    refine List.eq_nil_iff_forall_not_mem.2 fun i hi=>?_;obtain ⟨hun,o,ho,_⟩:=mem_ready.1 hi;have hlt:i<listed.size:=by rw [h.size]; exact (Array.getElem?_eq_some_iff.1 ho).1
    have h0:listed.toList.countP (fun b=>!b)=0:=by omega
    rw [List.countP_eq_zero] at h0;have:=h0 (listed[i]) (by simp);simp [hlt] at hun;simp [hun] at this
   exact ⟨hr,final listed a w vals h hr⟩
  | succ fuel ih =>
   intro listed a w vals hc h;refine ⟨fun hr=>final listed a w vals h hr,fun i hi=>?_⟩;obtain ⟨hun,o,ho,_⟩:=mem_ready.1 hi;have hlt:i<listed.size:=by rw [h.size]; exact (Array.getElem?_eq_some_iff.1 ho).1
   refine wpOp_mono (fun a' w' ⟨vals',h'⟩=>ih _ _ _ vals' (count_set hlt (by simp [hlt] at hun ⊢; exact hun) hc) h') (h.step (Q:=Q) hok hini hpres hstep hi)
 refine key _ _ _ _ (fun _=>undef) ?_ ⟨by simp,rfl,rfl,?_,?_,?_,hC,fun m _=>hI m,?_⟩
 ·have:=List.countP_le_length (p:=fun b:Bool=>!b) (l:=(Array.replicate ops.size false).toList)
  simpa using this
 ·intro j hj; simp [Array.getElem?_replicate] at hj; split at hj <;> simp at hj
 ·intro t _; rfl
 ·intro j hj; simp [Array.getElem?_replicate] at hj; split at hj <;> simp at hj
 ·intro j hj; simp [Array.getElem?_replicate] at hj; split at hj <;> simp at hj
theorem qbx {id:Nat} {l:List Oper} {a0:Act} {w0:World} {Q:Exit→Act→World→Prop} (C:(Nat→Value)→World→Prop) (I0:Bool→World→Prop) (ik:Bool→Nat→Bool) (Fs:List ((Nat→Value)→World→Prop)) (Sts:List (World→World→Prop)) (kills:Nat→Nat→Bool) (ps:List (Nat × Option Tmp))
  (hm:P.follows .mixedOrders=true) (hok:regionOk l.toArray=true) (hlen:Sts.length=l.length) (hps:∀ vals,putAll l.toArray vals (List.range l.toArray.size) a0=puts vals ps a0) (hC:C (fun _=>undef) w0.drew) (hI:∀ m,I0 m w0.drew) (hini:∀ m,IniL (ik m) (I0 m) 0 Sts)
  (hpres:KeepsL kills (fun i k=>(deepWaits l.toArray 5 k).contains i) Fs 0 Sts)
  (hstep:StepsL (StepAtV P l.toArray a0 C I0 ik (fct Fs) (stp Sts) kills) 0 l)
  (hfin:∀ w vals,C vals w→(∀ j,j<l.toArray.size→aliveAt l.toArray kills j=true→fct Fs j vals w)→Q .normal (puts vals ps a0) w) :
  (Code.region id l.toArray true).wp P Q a0 w0 :=
 wp_region_relV C I0 ik (fct Fs) (stp Sts) kills hm hok hC hI (fun m i hi w w' hS h=>by
   have:=qcZ (hini m) i (by simpa using hi) w w' hS;exact this h)
  (fun i k hil hik hk hs vals v w w' hS hf=>by
   have:=qb4 hpres i k (by simpa using hik) (by simpa using hk) (by simpa using hs) (by rw [hlen]; simpa using hil) vals v w w' hS;rw [Nat.zero_add] at this;exact this hf)
  (fun i o ho=>by
   have:=qbY hstep i o (by simpa using ho)
   simpa using this)
  (fun w vals hc hf=>by rw [hps]; exact hfin w vals hc hf)
theorem qar {a0:Act} {C:(Nat→Value)→World→Prop} {I0:Bool→World→Prop} {ik:Bool→Nat→Bool} {F:Nat→(Nat→Value)→World→Prop} {St:Nat→World→World→Prop} {kills:Nat→Nat→Bool} {i:Nat} {o:Oper} (ps:List (Nat × Option Tmp))
  (hps:∀ vals,putAll ops vals (waitsOf ops i) a0=puts vals ps a0) (hg:o.guard=none)
  (h:∀ w vals,C vals w→(∀ m,availIni ops (ik m) i=true→I0 m w)→(∀ j,availAt ops kills j i=true→F j vals w) →
   ∀ E:Act→World→Prop,(∀ v w',F i (upd vals i v) w'→C (upd vals i v) w'→St i w w'→E ((puts vals ps a0).put o.dst v) w')→wpList P #[] (EndOf E) [o] (puts vals ps a0) w) :
  StepAtV P ops a0 C I0 ik F St kills i o:=by
 intro w vals hc h0 hf;have h1:=h w vals hc h0 hf (fun a' w'=>∃ v,a'=(puts vals ps a0).put o.dst v∧F i (upd vals i v) w'∧C (upd vals i v) w'∧St i w w') fun v w' h1 h2 h3=>⟨v,rfl,h1,h2,h3⟩;rw [hps];show wpList P ops (EndOf fun a' w'=>∃ v,a'=(puts vals ps a0).put o.dst v∧F i (upd vals i v) w'∧C (upd vals i v) w'∧St i w w') [o] (puts vals ps a0) w;have hw:∀ (O:Array Oper) (t:Array Value),Region.wanted o (yielded O t)=true:=fun O t=>by simp [Region.wanted,hg]
 simp only [wpList,hw,if_true] at h1 ⊢;exact h1
end
def LtV (v:Value) (w:World):Prop:=v=undef∨∃ o,v=.pointer (some ⟨o,0,none⟩)∧o<w.heap.size
structure C2 (ws:World) (i j:Nat) (vals:Nat→Value) (u:World):Prop where
 bel:Below ws.heap.size ws u
 lti:LtV (vals i) u
 ltj:LtV (vals j) u
 ne:vals i=undef∨vals j=undef∨vals i≠vals j
theorem LtV.mono {v:Value} {u u':World} (h:LtV v u) (hs:u.heap.size≤u'.heap.size):LtV v u':=by
 rcases h with h | ⟨o,h1,h2⟩
 ·exact .inl h
 ·exact .inr ⟨o,h1,Nat.lt_of_lt_of_le h2 hs⟩
theorem C2.init {ws u:World} {i j:Nat} (h:Below ws.heap.size ws u):C2 ws i j (fun _=>undef) u:=⟨h,.inl rfl,.inl rfl,.inl rfl⟩
theorem C2.other {ws u u':World} {i j k:Nat} {v:Value} {vals:Nat→Value} (h:C2 ws i j vals u) (hi:i≠k) (hj:j≠k) (hb:Below ws.heap.size ws u') (hs:u.heap.size≤u'.heap.size):C2 ws i j (upd vals k v) u':=by
 have e1:upd vals k v i=vals i:=if_neg hi;have e2:upd vals k v j=vals j:=if_neg hj;exact ⟨hb,by rw [e1]; exact h.lti.mono hs,by rw [e2]; exact h.ltj.mono hs,by rw [e1,e2]; exact h.ne⟩
theorem C2.same {ws u:World} {i j k:Nat} {v:Value} {vals:Nat→Value} (h:C2 ws i j vals u) (hi:i≠k) (hj:j≠k):C2 ws i j (upd vals k v) u:=h.other hi hj h.bel (Nat.le_refl _)
theorem C2.setI {ws u u':World} {i j:Nat} {vals:Nat→Value} (h:C2 ws i j vals u) (hij:j≠i) (hb:Below ws.heap.size ws u') (hs:u.heap.size<u'.heap.size):C2 ws i j (upd vals i (.pointer (some ⟨u.heap.size,0,none⟩))) u':=by
 have e1:upd vals i (.pointer (some ⟨u.heap.size,0,none⟩)) i=.pointer (some ⟨u.heap.size,0,none⟩):=if_pos rfl;have e2:upd vals i (.pointer (some ⟨u.heap.size,0,none⟩)) j=vals j:=if_neg hij;refine ⟨hb,by rw [e1]; exact .inr ⟨_,rfl,hs⟩,by rw [e2]; exact h.ltj.mono (Nat.le_of_lt hs),?_⟩;rw [e1,e2]
 rcases h.ltj with h1 | ⟨o,h1,h2⟩
 ·exact .inr (.inl h1)
 ·refine .inr (.inr ?_);rw [h1];intro e
  injection e with e
  injection e with e
  injection e with e
  omega
theorem C2.setJ {ws u u':World} {i j:Nat} {vals:Nat→Value} (h:C2 ws i j vals u) (hij:i≠j) (hb:Below ws.heap.size ws u') (hs:u.heap.size<u'.heap.size):C2 ws i j (upd vals j (.pointer (some ⟨u.heap.size,0,none⟩))) u':=by
 have e1:upd vals j (.pointer (some ⟨u.heap.size,0,none⟩)) j=.pointer (some ⟨u.heap.size,0,none⟩):=if_pos rfl;have e2:upd vals j (.pointer (some ⟨u.heap.size,0,none⟩)) i=vals i:=if_neg hij;refine ⟨hb,by rw [e2]; exact h.lti.mono (Nat.le_of_lt hs),by rw [e1]; exact .inr ⟨_,rfl,hs⟩,?_⟩;rw [e1,e2]
 rcases h.lti with h1 | ⟨o,h1,h2⟩
 ·exact .inl h1
 ·refine .inr (.inr ?_);rw [h1];intro e
  injection e with e
  injection e with e
  injection e with e
  omega
theorem C2.apart {ws u:World} {i j:Nat} {vals:Nat→Value} (h:C2 ws i j vals u) {o p:Nat} (h1:vals i=.pointer (some ⟨o,0,none⟩)) (h2:vals j=.pointer (some ⟨p,0,none⟩)):o≠p:=by
 rintro rfl
 rcases h.ne with e | e | e
 ·rw [h1] at e; cases e
 ·rw [h2] at e; cases e
 ·exact e (h1.trans h2.symm)
set_option maxHeartbeats 8000000 in
theorem sum_any (p q:Pt4) (tw:E5) (w:World) (hkp:p.Ok) (hkq:q.Ok) (hkw:tw.Ok):Calls Tryd.prog 53 #[.agg (ptV p),.agg (ptV q),.agg (eV tw)] w (PtPost (sumP p q tw) w):=by
 have hu:=Tryd.underlying46;have hp:=Tryd.underlying48;have KP:=zY hkp;have KQ:=zY hkq;have KW:=zY hkw;obtain ⟨w0,hw0⟩:=eX ((((w.alloc (.cells (ptV p) 48)).alloc (.cells (ptV q) 48)).alloc (.cells (eV tw) 46)).alloc (.cells (ptV zP) 48))
 have hst:Cs [.box w.heap.size 48 (ptV p),.box (w.heap.size+1) 48 (ptV q),.box (w.heap.size+1+1) 46 (eV tw),.box (w.heap.size+1+1+1) 48 (ptV zP)] w w0:=by
  rw [hw0];exact ⟨⟨(((Blk.new _ _ _).alloc _).alloc _).alloc _,((Blk.newAt (by simp)).alloc _).alloc _,(Blk.newAt (by simp)).alloc _,Blk.newAt (by simp),trivial⟩,(((below_new _ _).alloc (by simp) _).alloc (by simp; try omega) _).alloc (by simp; try omega) _⟩
 have HLR:=zY (show w.heap.size≤w.heap.size+1+1+1 by omega);clear hkp hkq hkw;have HW:=zY hw0;have HST0:=zY hst;clear hw0 hst;go_enter Tryd.func53,Tryd.ntmps53;go_wp2_with fail;show Code.wp Tryd.prog _ _ _ ((((w.alloc (.cells (ptV p) _)).alloc (.cells (ptV q) _)).alloc (.cells (eV tw) _)).alloc (.cells (ptV zP) _));rw [← HW.out];generalize w.heap.size+1+1+1=r at *;generalize w.heap.size+1+1=gw at *;generalize w.heap.size+1=gq at *;generalize hgp:w.heap.size=gp at HST0 ⊢;clear HW hgp;have HC0:Below w0.heap.size w0 w0.drew:=(Below.refl _ _).drew
 refine qak (fun u=>Below w0.heap.size w0 u) (fun | false=>(fun _=>True) | true=>(fun _=>True)) (fun | false,_=>false | true,_=>false)
  [fun z _=>z 0=.pointer (some ⟨gp,5,none⟩),
   fun z _=>z 1=.agg (eV (p.y)),
   fun z _=>z 2=.pointer (some ⟨gp,0,none⟩),
   fun z _=>z 3=.agg (eV (p.x)),
   fun z _=>z 4=.agg (eV (subE (p.y) (p.x))),
   fun z _=>z 5=.pointer (some ⟨gq,5,none⟩),
   fun z _=>z 6=.agg (eV (q.y)),
   fun z _=>z 7=.pointer (some ⟨gq,0,none⟩),
   fun z _=>z 8=.agg (eV (q.x)),
   fun z _=>z 9=.agg (eV (subE (q.y) (q.x))),
   fun z _=>z 10=.agg (eV (mulE (subE (p.y) (p.x)) (subE (q.y) (q.x)))),
   fun z u=>(NewBox w0.heap.size 46 (eV zE)) (z 11) u,
   fun z u=>NewBox w0.heap.size 46 (eV (mulE (subE (p.y) (p.x)) (subE (q.y) (q.x)))) (z 11) u]
  [Eq,Eq,Eq,Eq,fun u u'=>Below u.heap.size u u',Eq,Eq,Eq,Eq,fun u u'=>Below u.heap.size u u',fun u u'=>Below u.heap.size u u',fun u u'=>Below u.heap.size u u',fun _ _=>True]
  (fun i k=>(i == 12 && k == 11)) [(0,some 15),(1,some 16),(2,some 17),(3,some 18),(4,some 19),(5,some 20),(6,some 21),(7,some 22),(8,some 23),(9,some 24),(10,some 25),(11,some 7),(12,none)] (by kernel_rfl) (by kernel_rfl) rfl (fun _=>rfl) ?_ ?_ ?_ ?_ ?_ ?_
 ·exact HC0
 ·intro m; cases m; exact trivial; exact trivial
 ·intro m; cases m
  ·refine ⟨?_,?_,?_,?_,?_,?_,?_,?_,?_,?_,?_,?_,?_,trivial⟩ <;> first | exact .inr fun _ _ h h0=>h▸h0 | exact .inr fun _ _ _ h=>h
  ·refine ⟨?_,?_,?_,?_,?_,?_,?_,?_,?_,?_,?_,?_,?_,trivial⟩ <;> first | exact .inr fun _ _ h h0=>h▸h0 | exact .inr fun _ _ _ h=>h
 ·refine ⟨⟨.inl rfl,?_,?_,?_,?_,?_,?_,?_,?_,?_,?_,?_,?_,trivial⟩,⟨?_,.inl rfl,?_,?_,?_,?_,?_,?_,?_,?_,?_,?_,?_,trivial⟩,⟨?_,?_,.inl rfl,?_,?_,?_,?_,?_,?_,?_,?_,?_,?_,trivial⟩,⟨?_,?_,?_,.inl rfl,?_,?_,?_,?_,?_,?_,?_,?_,?_,trivial⟩,⟨?_,?_,?_,?_,.inl rfl,?_,?_,?_,?_,?_,?_,.inr (.inr (.inr (fun _ _ _ _ h h0=>h0.next h))),?_,trivial⟩,⟨?_,?_,?_,?_,?_,.inl rfl,?_,?_,?_,?_,?_,?_,?_,trivial⟩,⟨?_,?_,?_,?_,?_,?_,.inl rfl,?_,?_,?_,?_,?_,?_,trivial⟩,⟨?_,?_,?_,?_,?_,?_,?_,.inl rfl,?_,?_,?_,?_,?_,trivial⟩,⟨?_,?_,?_,?_,?_,?_,?_,?_,.inl rfl,?_,?_,?_,?_,trivial⟩,⟨?_,?_,?_,?_,?_,?_,?_,?_,?_,.inl rfl,?_,.inr (.inr (.inr (fun _ _ _ _ h h0=>h0.next h))),?_,trivial⟩,⟨?_,?_,?_,?_,?_,?_,?_,?_,?_,?_,.inl rfl,.inr (.inr (.inr (fun _ _ _ _ h h0=>h0.next h))),?_,trivial⟩,⟨?_,?_,?_,?_,?_,?_,?_,?_,?_,?_,?_,.inl rfl,?_,trivial⟩,⟨?_,?_,?_,?_,?_,?_,?_,?_,?_,?_,?_,.inr (.inl rfl),.inl rfl,trivial⟩,trivial⟩ <;> first | exact .inr (.inr (.inl rfl)) | exact .inr (.inr (.inr fun _ _ _ _ _ h=>h)) | exact .inr (.inr (.inr fun _ _ _ _ h h0=>by cases h; exact h0))
 ·refine ⟨?_,?_,?_,?_,?_,?_,?_,?_,?_,?_,?_,?_,?_,trivial⟩
  ·refine qaa [] (fun _=>rfl) rfl ?_;intro w1 vals hC1 hi0 hf E hE;clear hi0;clear hf;simp only [sP] at hE ⊢;go_wp2;exact .mk (hE _ _ rfl hC1 rfl)
  ·refine qaa [(0,some 15)] (fun _=>rfl) rfl ?_;intro w1 vals hC1 hi0 hf E hE;clear hi0;have f0:vals 0=_:=hf 0 rfl
   try dsimp only at f0
   clear hf;have hs:=HST0.out.next hC1;simp only [sP,f0] at hE ⊢;clear f0;refine qah (n:=5) (r:=eV (p.y)) (hs.1.1) (by rw [qaG]; decide) rfl rfl rfl rfl hu rfl qad ?_;go_wp2_with fail;exact .mk (hE _ _ rfl hC1 rfl)
  ·refine qaa [] (fun _=>rfl) rfl ?_;intro w1 vals hC1 hi0 hf E hE;clear hi0;clear hf;simp only [sP] at hE ⊢;go_wp2;exact .mk (hE _ _ rfl hC1 rfl)
  ·refine qaa [(2,some 17)] (fun _=>rfl) rfl ?_;intro w1 vals hC1 hi0 hf E hE;clear hi0;have f2:vals 2=_:=hf 2 rfl
   try dsimp only at f2
   clear hf;have hs:=HST0.out.next hC1;simp only [sP,f2] at hE ⊢;clear f2;refine qah (n:=5) (r:=eV (p.x)) (hs.1.1) (by rw [qaG]; decide) rfl rfl rfl rfl hu rfl qad ?_;go_wp2_with fail;exact .mk (hE _ _ rfl hC1 rfl)
  ·refine qaa [(1,some 16),(3,some 18)] (fun _=>rfl) rfl ?_;intro w1 vals hC1 hi0 hf E hE;clear hi0;have f1:vals 1=_:=hf 1 rfl;have f3:vals 3=_:=hf 3 rfl
   try dsimp only at f1 f3
   clear hf;simp only [sP,f1,f3] at hE ⊢;clear f1 f3;go_wp2_with fail;refine qab (sub_c _ _ _ (KP.out.y) (KP.out.x)) ?_;rintro e w2 ⟨rfl,hb2⟩;go_wp2_with fail;exact .mk (hE _ _ rfl (hC1.trans (hb2.mono hC1.size)) hb2)
  ·refine qaa [] (fun _=>rfl) rfl ?_;intro w1 vals hC1 hi0 hf E hE;clear hi0;clear hf;simp only [sP] at hE ⊢;go_wp2;exact .mk (hE _ _ rfl hC1 rfl)
  ·refine qaa [(5,some 20)] (fun _=>rfl) rfl ?_;intro w1 vals hC1 hi0 hf E hE;clear hi0;have f5:vals 5=_:=hf 5 rfl
   try dsimp only at f5
   clear hf;have hs:=HST0.out.next hC1;simp only [sP,f5] at hE ⊢;clear f5;refine qah (n:=5) (r:=eV (q.y)) (hs.1.2.1) (by rw [qaG]; decide) rfl rfl rfl rfl hu rfl qad ?_;go_wp2_with fail;exact .mk (hE _ _ rfl hC1 rfl)
  ·refine qaa [] (fun _=>rfl) rfl ?_;intro w1 vals hC1 hi0 hf E hE;clear hi0;clear hf;simp only [sP] at hE ⊢;go_wp2;exact .mk (hE _ _ rfl hC1 rfl)
  ·refine qaa [(7,some 22)] (fun _=>rfl) rfl ?_;intro w1 vals hC1 hi0 hf E hE;clear hi0;have f7:vals 7=_:=hf 7 rfl
   try dsimp only at f7
   clear hf;have hs:=HST0.out.next hC1;simp only [sP,f7] at hE ⊢;clear f7;refine qah (n:=5) (r:=eV (q.x)) (hs.1.2.1) (by rw [qaG]; decide) rfl rfl rfl rfl hu rfl qad ?_;go_wp2_with fail;exact .mk (hE _ _ rfl hC1 rfl)
  ·refine qaa [(6,some 21),(8,some 23),(4,some 19)] (fun _=>rfl) rfl ?_;intro w1 vals hC1 hi0 hf E hE;clear hi0;have f4:vals 4=_:=hf 4 rfl;have f6:vals 6=_:=hf 6 rfl;have f8:vals 8=_:=hf 8 rfl
   try dsimp only at f4 f6 f8
   clear hf;simp only [sP,f4,f6,f8] at hE ⊢;clear f4 f6 f8;go_wp2_with fail;refine qab (sub_c _ _ _ (KQ.out.y) (KQ.out.x)) ?_;rintro e w2 ⟨rfl,hb2⟩;go_wp2_with fail;exact .mk (hE _ _ rfl (hC1.trans (hb2.mono hC1.size)) hb2)
  ·refine qaa [(4,some 19),(9,some 24),(9,some 24)] (fun _=>rfl) rfl ?_;intro w1 vals hC1 hi0 hf E hE;clear hi0;have f4:vals 4=_:=hf 4 rfl;have f9:vals 9=_:=hf 9 rfl
   try dsimp only at f4 f9
   clear hf;simp only [sP,f4,f9] at hE ⊢;clear f4 f9;go_wp2_with fail;refine qab (mul_c _ _ _ (qaP (KP.out.y) (KP.out.x)) (qaP (KQ.out.y) (KQ.out.x))) ?_;rintro e w2 ⟨rfl,hb2⟩;go_wp2_with fail;exact .mk (hE _ _ rfl (hC1.trans (hb2.mono hC1.size)) hb2)
  ·refine qaa [] (fun _=>rfl) rfl ?_;intro w1 vals hC1 hi0 hf E hE;clear hi0;clear hf;simp only [sP] at hE ⊢;go_wp2;exact .mk (hE _ _ (NewBox.of hC1.size) (hC1.alloc hC1.size _) (below_new _ _))
  ·refine qaa [(11,some 7),(10,some 25),(10,some 25),(0,some 15),(1,some 16),(2,some 17),(3,some 18),(4,some 19),(5,some 20),(6,some 21),(7,some 22),(8,some 23),(9,some 24),(10,some 25),(11,some 7)] (fun _=>rfl) rfl ?_;intro w1 vals hC1 hi0 hf E hE;clear hi0;have f0:vals 0=_:=hf 0 rfl;have f1:vals 1=_:=hf 1 rfl;have f2:vals 2=_:=hf 2 rfl;have f3:vals 3=_:=hf 3 rfl;have f4:vals 4=_:=hf 4 rfl;have f5:vals 5=_:=hf 5 rfl;have f6:vals 6=_:=hf 6 rfl;have f7:vals 7=_:=hf 7 rfl;have f8:vals 8=_:=hf 8 rfl;have f9:vals 9=_:=hf 9 rfl;have f10:vals 10=_:=hf 10 rfl;have f11:(NewBox w0.heap.size 46 (eV zE)) (vals 11) w1:=hf 11 rfl
   try dsimp only at f0 f1 f2 f3 f4 f5 f6 f7 f8 f9 f10 f11
   clear hf;obtain ⟨o,hx,ho,hblk⟩:=f11;have hx':=hx;simp only [sP,f0,f1,f2,f3,f4,f5,f6,f7,f8,f9,f10,hx] at hE ⊢;clear f0 f1 f2 f3 f4 f5 f6 f7 f8 f9 f10;clear hx;refine qae (cells:=eV (mulE (subE (p.y) (p.x)) (subE (q.y) (q.x)))) hblk rfl rfl rfl rfl qad rfl (by simp [eV,ptV,wV,limbs,Value.oneCell']) ?_;intro w2 hb2 hw2;go_wp2_with fail;exact .mk (hE undef _ ⟨o,hx',ho,hb2⟩ (hw2.below hC1 ho hC1.size) trivial)
 intro w1 vals hC1 hf;have f0:vals 0=_:=hf 0 (by decide) rfl;have f1:vals 1=_:=hf 1 (by decide) rfl;have f2:vals 2=_:=hf 2 (by decide) rfl;have f3:vals 3=_:=hf 3 (by decide) rfl;have f4:vals 4=_:=hf 4 (by decide) rfl;have f5:vals 5=_:=hf 5 (by decide) rfl;have f6:vals 6=_:=hf 6 (by decide) rfl;have f7:vals 7=_:=hf 7 (by decide) rfl;have f8:vals 8=_:=hf 8 (by decide) rfl;have f9:vals 9=_:=hf 9 (by decide) rfl;have f10:vals 10=_:=hf 10 (by decide) rfl;have f12:(fun z u=>NewBox w0.heap.size 46 (eV (mulE (subE (p.y) (p.x)) (subE (q.y) (q.x)))) (z 11) u) vals w1:=hf 12 (by decide) rfl
 try dsimp only at f0 f1 f2 f3 f4 f5 f6 f7 f8 f9 f10 f12
 clear hf;simp only [sP,f0,f1,f2,f3,f4,f5,f6,f7,f8,f9,f10];clear f0 f1 f2 f3 f4 f5 f6 f7 f8 f9 f10;generalize vals 11=x11 at *;obtain ⟨o1,rfl,hlo1,hblk1⟩:=f12;obtain ⟨a,ha⟩:=eX (mulE (subE (p.y) (p.x)) (subE (q.y) (q.x)));rw [← ha] at hblk1;have Ka:=zY (show a.Ok by rw [ha]; exact qaq (qaP (KP.out.y) (KP.out.x)) (qaP (KQ.out.y) (KQ.out.x)));have Ea:=zY ha;have HST1:=zY (show Cs (.box o1 46 (eV a) :: [.box gp 48 (ptV p),.box gq 48 (ptV q),.box gw 46 (eV tw),.box r 48 (ptV zP)]) w w1 from ⟨⟨hblk1,(HST0.out.next hC1).1⟩,(HST0.out.next hC1).2⟩);clear hC1 HC0 HST0 hblk1 hlo1 ha;obtain ⟨v1,rfl⟩:=eX w1;go_wp2_with fail;have HC0:Below v1.heap.size v1 v1.drew:=(Below.refl _ _).drew
 refine qak (fun u=>Below v1.heap.size v1 u) (fun | false=>(fun _=>True) | true=>(fun _=>True)) (fun | false,_=>false | true,_=>false)
  [fun z _=>z 0=.pointer (some ⟨gp,5,none⟩),
   fun z _=>z 1=.agg (eV (p.y)),
   fun z _=>z 2=.pointer (some ⟨gp,0,none⟩),
   fun z _=>z 3=.agg (eV (p.x)),
   fun z _=>z 4=.agg (eV (addE (p.y) (p.x))),
   fun z _=>z 5=.pointer (some ⟨gq,5,none⟩),
   fun z _=>z 6=.agg (eV (q.y)),
   fun z _=>z 7=.pointer (some ⟨gq,0,none⟩),
   fun z _=>z 8=.agg (eV (q.x)),
   fun z _=>z 9=.agg (eV (addE (q.y) (q.x))),
   fun z _=>z 10=.agg (eV (mulE (addE (p.y) (p.x)) (addE (q.y) (q.x)))),
   fun z u=>(NewBox v1.heap.size 46 (eV zE)) (z 11) u,
   fun z u=>NewBox v1.heap.size 46 (eV (mulE (addE (p.y) (p.x)) (addE (q.y) (q.x)))) (z 11) u]
  [Eq,Eq,Eq,Eq,fun u u'=>Below u.heap.size u u',Eq,Eq,Eq,Eq,fun u u'=>Below u.heap.size u u',fun u u'=>Below u.heap.size u u',fun u u'=>Below u.heap.size u u',fun _ _=>True]
  (fun i k=>(i == 12 && k == 11)) [(0,some 26),(1,some 27),(2,some 28),(3,some 29),(4,some 30),(5,some 31),(6,some 32),(7,some 33),(8,some 34),(9,some 35),(10,some 36),(11,some 8),(12,none)] (by kernel_rfl) (by kernel_rfl) rfl (fun _=>rfl) ?_ ?_ ?_ ?_ ?_ ?_
 ·exact HC0
 ·intro m; cases m; exact trivial; exact trivial
 ·intro m; cases m
  ·refine ⟨?_,?_,?_,?_,?_,?_,?_,?_,?_,?_,?_,?_,?_,trivial⟩ <;> first | exact .inr fun _ _ h h0=>h▸h0 | exact .inr fun _ _ _ h=>h
  ·refine ⟨?_,?_,?_,?_,?_,?_,?_,?_,?_,?_,?_,?_,?_,trivial⟩ <;> first | exact .inr fun _ _ h h0=>h▸h0 | exact .inr fun _ _ _ h=>h
 ·refine ⟨⟨.inl rfl,?_,?_,?_,?_,?_,?_,?_,?_,?_,?_,?_,?_,trivial⟩,⟨?_,.inl rfl,?_,?_,?_,?_,?_,?_,?_,?_,?_,?_,?_,trivial⟩,⟨?_,?_,.inl rfl,?_,?_,?_,?_,?_,?_,?_,?_,?_,?_,trivial⟩,⟨?_,?_,?_,.inl rfl,?_,?_,?_,?_,?_,?_,?_,?_,?_,trivial⟩,⟨?_,?_,?_,?_,.inl rfl,?_,?_,?_,?_,?_,?_,.inr (.inr (.inr (fun _ _ _ _ h h0=>h0.next h))),?_,trivial⟩,⟨?_,?_,?_,?_,?_,.inl rfl,?_,?_,?_,?_,?_,?_,?_,trivial⟩,⟨?_,?_,?_,?_,?_,?_,.inl rfl,?_,?_,?_,?_,?_,?_,trivial⟩,⟨?_,?_,?_,?_,?_,?_,?_,.inl rfl,?_,?_,?_,?_,?_,trivial⟩,⟨?_,?_,?_,?_,?_,?_,?_,?_,.inl rfl,?_,?_,?_,?_,trivial⟩,⟨?_,?_,?_,?_,?_,?_,?_,?_,?_,.inl rfl,?_,.inr (.inr (.inr (fun _ _ _ _ h h0=>h0.next h))),?_,trivial⟩,⟨?_,?_,?_,?_,?_,?_,?_,?_,?_,?_,.inl rfl,.inr (.inr (.inr (fun _ _ _ _ h h0=>h0.next h))),?_,trivial⟩,⟨?_,?_,?_,?_,?_,?_,?_,?_,?_,?_,?_,.inl rfl,?_,trivial⟩,⟨?_,?_,?_,?_,?_,?_,?_,?_,?_,?_,?_,.inr (.inl rfl),.inl rfl,trivial⟩,trivial⟩ <;> first | exact .inr (.inr (.inl rfl)) | exact .inr (.inr (.inr fun _ _ _ _ _ h=>h)) | exact .inr (.inr (.inr fun _ _ _ _ h h0=>by cases h; exact h0))
 ·refine ⟨?_,?_,?_,?_,?_,?_,?_,?_,?_,?_,?_,?_,?_,trivial⟩
  ·refine qaa [] (fun _=>rfl) rfl ?_;intro w1 vals hC1 hi0 hf E hE;clear hi0;clear hf;simp only [sP] at hE ⊢;go_wp2;exact .mk (hE _ _ rfl hC1 rfl)
  ·refine qaa [(0,some 26)] (fun _=>rfl) rfl ?_;intro w1 vals hC1 hi0 hf E hE;clear hi0;have f0:vals 0=_:=hf 0 rfl
   try dsimp only at f0
   clear hf;have hs:=HST1.out.next hC1;simp only [sP,f0] at hE ⊢;clear f0;refine qah (n:=5) (r:=eV (p.y)) (hs.1.2.1) (by rw [qaG]; decide) rfl rfl rfl rfl hu rfl qad ?_;go_wp2_with fail;exact .mk (hE _ _ rfl hC1 rfl)
  ·refine qaa [] (fun _=>rfl) rfl ?_;intro w1 vals hC1 hi0 hf E hE;clear hi0;clear hf;simp only [sP] at hE ⊢;go_wp2;exact .mk (hE _ _ rfl hC1 rfl)
  ·refine qaa [(2,some 28)] (fun _=>rfl) rfl ?_;intro w1 vals hC1 hi0 hf E hE;clear hi0;have f2:vals 2=_:=hf 2 rfl
   try dsimp only at f2
   clear hf;have hs:=HST1.out.next hC1;simp only [sP,f2] at hE ⊢;clear f2;refine qah (n:=5) (r:=eV (p.x)) (hs.1.2.1) (by rw [qaG]; decide) rfl rfl rfl rfl hu rfl qad ?_;go_wp2_with fail;exact .mk (hE _ _ rfl hC1 rfl)
  ·refine qaa [(1,some 27),(3,some 29)] (fun _=>rfl) rfl ?_;intro w1 vals hC1 hi0 hf E hE;clear hi0;have f1:vals 1=_:=hf 1 rfl;have f3:vals 3=_:=hf 3 rfl
   try dsimp only at f1 f3
   clear hf;simp only [sP,f1,f3] at hE ⊢;clear f1 f3;go_wp2_with fail;refine qab (add_c _ _ _ (KP.out.y) (KP.out.x)) ?_;rintro e w2 ⟨rfl,hb2⟩;go_wp2_with fail;exact .mk (hE _ _ rfl (hC1.trans (hb2.mono hC1.size)) hb2)
  ·refine qaa [] (fun _=>rfl) rfl ?_;intro w1 vals hC1 hi0 hf E hE;clear hi0;clear hf;simp only [sP] at hE ⊢;go_wp2;exact .mk (hE _ _ rfl hC1 rfl)
  ·refine qaa [(5,some 31)] (fun _=>rfl) rfl ?_;intro w1 vals hC1 hi0 hf E hE;clear hi0;have f5:vals 5=_:=hf 5 rfl
   try dsimp only at f5
   clear hf;have hs:=HST1.out.next hC1;simp only [sP,f5] at hE ⊢;clear f5;refine qah (n:=5) (r:=eV (q.y)) (hs.1.2.2.1) (by rw [qaG]; decide) rfl rfl rfl rfl hu rfl qad ?_;go_wp2_with fail;exact .mk (hE _ _ rfl hC1 rfl)
  ·refine qaa [] (fun _=>rfl) rfl ?_;intro w1 vals hC1 hi0 hf E hE;clear hi0;clear hf;simp only [sP] at hE ⊢;go_wp2;exact .mk (hE _ _ rfl hC1 rfl)
  ·refine qaa [(7,some 33)] (fun _=>rfl) rfl ?_;intro w1 vals hC1 hi0 hf E hE;clear hi0;have f7:vals 7=_:=hf 7 rfl
   try dsimp only at f7
   clear hf;have hs:=HST1.out.next hC1;simp only [sP,f7] at hE ⊢;clear f7;refine qah (n:=5) (r:=eV (q.x)) (hs.1.2.2.1) (by rw [qaG]; decide) rfl rfl rfl rfl hu rfl qad ?_;go_wp2_with fail;exact .mk (hE _ _ rfl hC1 rfl)
  ·refine qaa [(6,some 32),(8,some 34),(4,some 30)] (fun _=>rfl) rfl ?_;intro w1 vals hC1 hi0 hf E hE;clear hi0;have f4:vals 4=_:=hf 4 rfl;have f6:vals 6=_:=hf 6 rfl;have f8:vals 8=_:=hf 8 rfl
   try dsimp only at f4 f6 f8
   clear hf;simp only [sP,f4,f6,f8] at hE ⊢;clear f4 f6 f8;go_wp2_with fail;refine qab (add_c _ _ _ (KQ.out.y) (KQ.out.x)) ?_;rintro e w2 ⟨rfl,hb2⟩;go_wp2_with fail;exact .mk (hE _ _ rfl (hC1.trans (hb2.mono hC1.size)) hb2)
  ·refine qaa [(4,some 30),(9,some 35),(9,some 35)] (fun _=>rfl) rfl ?_;intro w1 vals hC1 hi0 hf E hE;clear hi0;have f4:vals 4=_:=hf 4 rfl;have f9:vals 9=_:=hf 9 rfl
   try dsimp only at f4 f9
   clear hf;simp only [sP,f4,f9] at hE ⊢;clear f4 f9;go_wp2_with fail;refine qab (mul_c _ _ _ (qaT (KP.out.y) (KP.out.x)) (qaT (KQ.out.y) (KQ.out.x))) ?_;rintro e w2 ⟨rfl,hb2⟩;go_wp2_with fail;exact .mk (hE _ _ rfl (hC1.trans (hb2.mono hC1.size)) hb2)
  ·refine qaa [] (fun _=>rfl) rfl ?_;intro w1 vals hC1 hi0 hf E hE;clear hi0;clear hf;simp only [sP] at hE ⊢;go_wp2;exact .mk (hE _ _ (NewBox.of hC1.size) (hC1.alloc hC1.size _) (below_new _ _))
  ·refine qaa [(11,some 8),(10,some 36),(10,some 36),(0,some 26),(1,some 27),(2,some 28),(3,some 29),(4,some 30),(5,some 31),(6,some 32),(7,some 33),(8,some 34),(9,some 35),(10,some 36),(11,some 8)] (fun _=>rfl) rfl ?_;intro w1 vals hC1 hi0 hf E hE;clear hi0;have f0:vals 0=_:=hf 0 rfl;have f1:vals 1=_:=hf 1 rfl;have f2:vals 2=_:=hf 2 rfl;have f3:vals 3=_:=hf 3 rfl;have f4:vals 4=_:=hf 4 rfl;have f5:vals 5=_:=hf 5 rfl;have f6:vals 6=_:=hf 6 rfl;have f7:vals 7=_:=hf 7 rfl;have f8:vals 8=_:=hf 8 rfl;have f9:vals 9=_:=hf 9 rfl;have f10:vals 10=_:=hf 10 rfl;have f11:(NewBox v1.heap.size 46 (eV zE)) (vals 11) w1:=hf 11 rfl
   try dsimp only at f0 f1 f2 f3 f4 f5 f6 f7 f8 f9 f10 f11
   clear hf;obtain ⟨o,hx,ho,hblk⟩:=f11;have hx':=hx;simp only [sP,f0,f1,f2,f3,f4,f5,f6,f7,f8,f9,f10,hx] at hE ⊢;clear f0 f1 f2 f3 f4 f5 f6 f7 f8 f9 f10;clear hx;refine qae (cells:=eV (mulE (addE (p.y) (p.x)) (addE (q.y) (q.x)))) hblk rfl rfl rfl rfl qad rfl (by simp [eV,ptV,wV,limbs,Value.oneCell']) ?_;intro w2 hb2 hw2;go_wp2_with fail;exact .mk (hE undef _ ⟨o,hx',ho,hb2⟩ (hw2.below hC1 ho hC1.size) trivial)
 intro w1 vals hC1 hf;have f0:vals 0=_:=hf 0 (by decide) rfl;have f1:vals 1=_:=hf 1 (by decide) rfl;have f2:vals 2=_:=hf 2 (by decide) rfl;have f3:vals 3=_:=hf 3 (by decide) rfl;have f4:vals 4=_:=hf 4 (by decide) rfl;have f5:vals 5=_:=hf 5 (by decide) rfl;have f6:vals 6=_:=hf 6 (by decide) rfl;have f7:vals 7=_:=hf 7 (by decide) rfl;have f8:vals 8=_:=hf 8 (by decide) rfl;have f9:vals 9=_:=hf 9 (by decide) rfl;have f10:vals 10=_:=hf 10 (by decide) rfl;have f12:(fun z u=>NewBox v1.heap.size 46 (eV (mulE (addE (p.y) (p.x)) (addE (q.y) (q.x)))) (z 11) u) vals w1:=hf 12 (by decide) rfl
 try dsimp only at f0 f1 f2 f3 f4 f5 f6 f7 f8 f9 f10 f12
 clear hf;simp only [sP,f0,f1,f2,f3,f4,f5,f6,f7,f8,f9,f10];clear f0 f1 f2 f3 f4 f5 f6 f7 f8 f9 f10;generalize vals 11=x11 at *;obtain ⟨o2,rfl,hlo2,hblk2⟩:=f12;obtain ⟨b,hb⟩:=eX (mulE (addE (p.y) (p.x)) (addE (q.y) (q.x)));rw [← hb] at hblk2;have Kb:=zY (show b.Ok by rw [hb]; exact qaq (qaT (KP.out.y) (KP.out.x)) (qaT (KQ.out.y) (KQ.out.x)));have Eb:=zY hb;have HST2:=zY (show Cs (.box o2 46 (eV b) :: [.box o1 46 (eV a),.box gp 48 (ptV p),.box gq 48 (ptV q),.box gw 46 (eV tw),.box r 48 (ptV zP)]) w w1 from ⟨⟨hblk2,(HST1.out.next hC1).1⟩,(HST1.out.next hC1).2⟩);clear hC1 HC0 HST1 hblk2 hlo2 hb;obtain ⟨v2,rfl⟩:=eX w1;go_wp2_with fail;have HC0:Below v2.heap.size v2 v2.drew:=(Below.refl _ _).drew
 refine qak (fun u=>Below v2.heap.size v2 u) (fun | false=>(fun _=>True) | true=>(fun _=>True)) (fun | false,_=>false | true,_=>false)
  [fun z _=>z 0=.pointer (some ⟨gp,15,none⟩),
   fun z _=>z 1=.agg (eV (p.t)),
   fun z _=>z 2=.agg (eV (tw)),
   fun z _=>z 3=.agg (eV (mulE (p.t) (tw))),
   fun z _=>z 4=.pointer (some ⟨gq,15,none⟩),
   fun z _=>z 5=.agg (eV (q.t)),
   fun z _=>z 6=.agg (eV (mulE (mulE (p.t) (tw)) (q.t))),
   fun z u=>(NewBox v2.heap.size 46 (eV zE)) (z 7) u,
   fun z u=>NewBox v2.heap.size 46 (eV (mulE (mulE (p.t) (tw)) (q.t))) (z 7) u]
  [Eq,Eq,Eq,fun u u'=>Below u.heap.size u u',Eq,Eq,fun u u'=>Below u.heap.size u u',fun u u'=>Below u.heap.size u u',fun _ _=>True]
  (fun i k=>(i == 8 && k == 7)) [(0,some 37),(1,some 38),(2,some 39),(3,some 40),(4,some 41),(5,some 42),(6,some 43),(7,some 9),(8,none)] (by kernel_rfl) (by kernel_rfl) rfl (fun _=>rfl) ?_ ?_ ?_ ?_ ?_ ?_
 ·exact HC0
 ·intro m; cases m; exact trivial; exact trivial
 ·intro m; cases m
  ·refine ⟨?_,?_,?_,?_,?_,?_,?_,?_,?_,trivial⟩ <;> first | exact .inr fun _ _ h h0=>h▸h0 | exact .inr fun _ _ _ h=>h
  ·refine ⟨?_,?_,?_,?_,?_,?_,?_,?_,?_,trivial⟩ <;> first | exact .inr fun _ _ h h0=>h▸h0 | exact .inr fun _ _ _ h=>h
 ·refine ⟨⟨.inl rfl,?_,?_,?_,?_,?_,?_,?_,?_,trivial⟩,⟨?_,.inl rfl,?_,?_,?_,?_,?_,?_,?_,trivial⟩,⟨?_,?_,.inl rfl,?_,?_,?_,?_,?_,?_,trivial⟩,⟨?_,?_,?_,.inl rfl,?_,?_,?_,.inr (.inr (.inr (fun _ _ _ _ h h0=>h0.next h))),?_,trivial⟩,⟨?_,?_,?_,?_,.inl rfl,?_,?_,?_,?_,trivial⟩,⟨?_,?_,?_,?_,?_,.inl rfl,?_,?_,?_,trivial⟩,⟨?_,?_,?_,?_,?_,?_,.inl rfl,.inr (.inr (.inr (fun _ _ _ _ h h0=>h0.next h))),?_,trivial⟩,⟨?_,?_,?_,?_,?_,?_,?_,.inl rfl,?_,trivial⟩,⟨?_,?_,?_,?_,?_,?_,?_,.inr (.inl rfl),.inl rfl,trivial⟩,trivial⟩ <;> first | exact .inr (.inr (.inl rfl)) | exact .inr (.inr (.inr fun _ _ _ _ _ h=>h)) | exact .inr (.inr (.inr fun _ _ _ _ h h0=>by cases h; exact h0))
 ·refine ⟨?_,?_,?_,?_,?_,?_,?_,?_,?_,trivial⟩
  ·refine qaa [] (fun _=>rfl) rfl ?_;intro w1 vals hC1 hi0 hf E hE;clear hi0;clear hf;simp only [sP] at hE ⊢;go_wp2;exact .mk (hE _ _ rfl hC1 rfl)
  ·refine qaa [(0,some 37)] (fun _=>rfl) rfl ?_;intro w1 vals hC1 hi0 hf E hE;clear hi0;have f0:vals 0=_:=hf 0 rfl
   try dsimp only at f0
   clear hf;have hs:=HST2.out.next hC1;simp only [sP,f0] at hE ⊢;clear f0;refine qah (n:=5) (r:=eV (p.t)) (hs.1.2.2.1) (by rw [qaG]; decide) rfl rfl rfl rfl hu rfl qad ?_;go_wp2_with fail;exact .mk (hE _ _ rfl hC1 rfl)
  ·refine qaa [] (fun _=>rfl) rfl ?_;intro w1 vals hC1 hi0 hf E hE;clear hi0;clear hf;have hs:=HST2.out.next hC1;simp only [sP] at hE ⊢;refine qac (hs.1.2.2.2.2.1) rfl rfl rfl hu rfl qad ?_;go_wp2_with fail;exact .mk (hE _ _ rfl hC1 rfl)
  ·refine qaa [(1,some 38),(2,some 39)] (fun _=>rfl) rfl ?_;intro w1 vals hC1 hi0 hf E hE;clear hi0;have f1:vals 1=_:=hf 1 rfl;have f2:vals 2=_:=hf 2 rfl
   try dsimp only at f1 f2
   clear hf;simp only [sP,f1,f2] at hE ⊢;clear f1 f2;go_wp2_with fail;refine qab (mul_c _ _ _ (KP.out.t) (KW.out)) ?_;rintro e w2 ⟨rfl,hb2⟩;go_wp2_with fail;exact .mk (hE _ _ rfl (hC1.trans (hb2.mono hC1.size)) hb2)
  ·refine qaa [] (fun _=>rfl) rfl ?_;intro w1 vals hC1 hi0 hf E hE;clear hi0;clear hf;simp only [sP] at hE ⊢;go_wp2;exact .mk (hE _ _ rfl hC1 rfl)
  ·refine qaa [(4,some 41)] (fun _=>rfl) rfl ?_;intro w1 vals hC1 hi0 hf E hE;clear hi0;have f4:vals 4=_:=hf 4 rfl
   try dsimp only at f4
   clear hf;have hs:=HST2.out.next hC1;simp only [sP,f4] at hE ⊢;clear f4;refine qah (n:=5) (r:=eV (q.t)) (hs.1.2.2.2.1) (by rw [qaG]; decide) rfl rfl rfl rfl hu rfl qad ?_;go_wp2_with fail;exact .mk (hE _ _ rfl hC1 rfl)
  ·refine qaa [(3,some 40),(5,some 42),(3,some 40)] (fun _=>rfl) rfl ?_;intro w1 vals hC1 hi0 hf E hE;clear hi0;have f3:vals 3=_:=hf 3 rfl;have f5:vals 5=_:=hf 5 rfl
   try dsimp only at f3 f5
   clear hf;simp only [sP,f3,f5] at hE ⊢;clear f3 f5;go_wp2_with fail;refine qab (mul_c _ _ _ (qaq (KP.out.t) (KW.out)) (KQ.out.t)) ?_;rintro e w2 ⟨rfl,hb2⟩;go_wp2_with fail;exact .mk (hE _ _ rfl (hC1.trans (hb2.mono hC1.size)) hb2)
  ·refine qaa [] (fun _=>rfl) rfl ?_;intro w1 vals hC1 hi0 hf E hE;clear hi0;clear hf;simp only [sP] at hE ⊢;go_wp2;exact .mk (hE _ _ (NewBox.of hC1.size) (hC1.alloc hC1.size _) (below_new _ _))
  ·refine qaa [(7,some 9),(6,some 43),(6,some 43),(0,some 37),(1,some 38),(2,some 39),(3,some 40),(4,some 41),(5,some 42),(6,some 43),(7,some 9)] (fun _=>rfl) rfl ?_;intro w1 vals hC1 hi0 hf E hE;clear hi0;have f0:vals 0=_:=hf 0 rfl;have f1:vals 1=_:=hf 1 rfl;have f2:vals 2=_:=hf 2 rfl;have f3:vals 3=_:=hf 3 rfl;have f4:vals 4=_:=hf 4 rfl;have f5:vals 5=_:=hf 5 rfl;have f6:vals 6=_:=hf 6 rfl;have f7:(NewBox v2.heap.size 46 (eV zE)) (vals 7) w1:=hf 7 rfl
   try dsimp only at f0 f1 f2 f3 f4 f5 f6 f7
   clear hf;obtain ⟨o,hx,ho,hblk⟩:=f7;have hx':=hx;simp only [sP,f0,f1,f2,f3,f4,f5,f6,hx] at hE ⊢;clear f0 f1 f2 f3 f4 f5 f6;clear hx;refine qae (cells:=eV (mulE (mulE (p.t) (tw)) (q.t))) hblk rfl rfl rfl rfl qad rfl (by simp [eV,ptV,wV,limbs,Value.oneCell']) ?_;intro w2 hb2 hw2;go_wp2_with fail;exact .mk (hE undef _ ⟨o,hx',ho,hb2⟩ (hw2.below hC1 ho hC1.size) trivial)
 intro w1 vals hC1 hf;have f0:vals 0=_:=hf 0 (by decide) rfl;have f1:vals 1=_:=hf 1 (by decide) rfl;have f2:vals 2=_:=hf 2 (by decide) rfl;have f3:vals 3=_:=hf 3 (by decide) rfl;have f4:vals 4=_:=hf 4 (by decide) rfl;have f5:vals 5=_:=hf 5 (by decide) rfl;have f6:vals 6=_:=hf 6 (by decide) rfl;have f8:(fun z u=>NewBox v2.heap.size 46 (eV (mulE (mulE (p.t) (tw)) (q.t))) (z 7) u) vals w1:=hf 8 (by decide) rfl
 try dsimp only at f0 f1 f2 f3 f4 f5 f6 f8
 clear hf;simp only [sP,f0,f1,f2,f3,f4,f5,f6];clear f0 f1 f2 f3 f4 f5 f6;generalize vals 7=x7 at *;obtain ⟨o3,rfl,hlo3,hblk3⟩:=f8;obtain ⟨c,hc⟩:=eX (mulE (mulE (p.t) (tw)) (q.t));rw [← hc] at hblk3;have Kc:=zY (show c.Ok by rw [hc]; exact qaq (qaq (KP.out.t) (KW.out)) (KQ.out.t));have Ec:=zY hc;have HST3:=zY (show Cs (.box o3 46 (eV c) :: [.box o2 46 (eV b),.box o1 46 (eV a),.box gp 48 (ptV p),.box gq 48 (ptV q),.box gw 46 (eV tw),.box r 48 (ptV zP)]) w w1 from ⟨⟨hblk3,(HST2.out.next hC1).1⟩,(HST2.out.next hC1).2⟩);clear hC1 HC0 HST2 hblk3 hlo3 hc;obtain ⟨v3,rfl⟩:=eX w1
 go_wp2_with (first
  | (refine qah (x:=.tmp 44) (n:=5) (r:=eV p.z) (HST3.out.1.2.2.2.1) (by rw [qaG]; decide) rfl rfl rfl rfl hu rfl qad ?_)
  | (refine qah (x:=.tmp 46) (n:=5) (r:=eV q.z) (HST3.out.1.2.2.2.2.1) (by rw [qaG]; decide) rfl rfl rfl rfl hu rfl qad ?_))
 refine qab (mul_c p.z q.z _ KP.out.z KQ.out.z) ?_;rintro e w2 ⟨rfl,hb2⟩;obtain ⟨zz,hz⟩:=eX (mulE p.z q.z);rw [← hz];have Kz:=zY (show zz.Ok by rw [hz]; exact qaq KP.out.z KQ.out.z);have Ez:=zY hz;have HX:=zY (HST3.out.next hb2);clear hz hb2 HST3;go_wp2_with (refine qae (x:=.tmp 10) (cells:=eV zz) (Blk.new _ _ _) rfl rfl rfl rfl qad rfl (by simp [eV,ptV,wV,limbs,Value.oneCell']) ?_; intro v9 hb9 hw9; have HST9:=zY (show Cs (.box w2.heap.size 46 (eV zz) :: [.box o3 46 (eV c),.box o2 46 (eV b),.box o1 46 (eV a),.box gp 48 (ptV p),.box gq 48 (ptV q),.box gw 46 (eV tw),.box r 48 (ptV zP)]) w v9 from ⟨⟨hb9,(HX.out.next (qaW hw9)).1⟩,(HX.out.next (qaW hw9)).2⟩); clear hb9 hw9 HX);generalize w2.heap.size=oz at *;have HC0:C2 v9 6 7 (fun _=>undef) v9.drew:=C2.init (Below.refl _ _).drew
 refine qbx (C2 v9 6 7) (fun | false=>(fun _=>True) | true=>(fun _=>True)) (fun | false,_=>false | true,_=>false)
  [fun z _=>z 0=.agg (eV (b)),
   fun z _=>z 1=.agg (eV (a)),
   fun z _=>z 2=.agg (eV (subE (b) (a))),
   fun z _=>z 3=.agg (eV (b)),
   fun z _=>z 4=.agg (eV (a)),
   fun z _=>z 5=.agg (eV (addE (b) (a))),
   fun z u=>(NewBox v9.heap.size 46 (eV zE)) (z 6) u,
   fun z u=>(NewBox v9.heap.size 46 (eV zE)) (z 7) u,
   fun z u=>NewBox v9.heap.size 46 (eV (subE (b) (a))) (z 6) u∧NewBox v9.heap.size 46 (eV zE) (z 7) u,
   fun z u=>NewBox v9.heap.size 46 (eV (subE (b) (a))) (z 6) u∧NewBox v9.heap.size 46 (eV (addE (b) (a))) (z 7) u]
  [Eq,Eq,fun u u'=>Below u.heap.size u u',Eq,Eq,fun u u'=>Below u.heap.size u u',fun u u'=>Below u.heap.size u u',fun u u'=>Below u.heap.size u u',fun _ _=>True,fun _ _=>True]
  (fun i k=>(i == 8 && k == 6) || (i == 8 && k == 7) || (i == 9 && k == 6) || (i == 9 && k == 7) || (i == 9 && k == 8)) [(0,some 49),(1,some 50),(2,some 51),(3,some 52),(4,some 53),(5,some 54),(6,some 11),(7,some 12),(8,none),(9,none)] (by kernel_rfl) (by kernel_rfl) rfl (fun _=>rfl) ?_ ?_ ?_ ?_ ?_ ?_
 ·exact HC0
 ·intro m; cases m; exact trivial; exact trivial
 ·intro m; cases m
  ·refine ⟨?_,?_,?_,?_,?_,?_,?_,?_,?_,?_,trivial⟩ <;> first | exact .inr fun _ _ h h0=>h▸h0 | exact .inr fun _ _ _ h=>h
  ·refine ⟨?_,?_,?_,?_,?_,?_,?_,?_,?_,?_,trivial⟩ <;> first | exact .inr fun _ _ h h0=>h▸h0 | exact .inr fun _ _ _ h=>h
 ·refine ⟨⟨.inl rfl,?_,?_,?_,?_,?_,?_,?_,?_,?_,trivial⟩,⟨?_,.inl rfl,?_,?_,?_,?_,?_,?_,?_,?_,trivial⟩,⟨?_,?_,.inl rfl,?_,?_,?_,.inr (.inr (.inr (fun _ _ _ _ h h0=>h0.next h))),.inr (.inr (.inr (fun _ _ _ _ h h0=>h0.next h))),?_,?_,trivial⟩,⟨?_,?_,?_,.inl rfl,?_,?_,?_,?_,?_,?_,trivial⟩,⟨?_,?_,?_,?_,.inl rfl,?_,?_,?_,?_,?_,trivial⟩,⟨?_,?_,?_,?_,?_,.inl rfl,.inr (.inr (.inr (fun _ _ _ _ h h0=>h0.next h))),.inr (.inr (.inr (fun _ _ _ _ h h0=>h0.next h))),?_,?_,trivial⟩,⟨?_,?_,?_,?_,?_,?_,.inl rfl,.inr (.inr (.inr (fun _ _ _ _ h h0=>h0.next h))),?_,?_,trivial⟩,⟨?_,?_,?_,?_,?_,?_,.inr (.inr (.inr (fun _ _ _ _ h h0=>h0.next h))),.inl rfl,?_,?_,trivial⟩,⟨?_,?_,?_,?_,?_,?_,.inr (.inl rfl),.inr (.inl rfl),.inl rfl,?_,trivial⟩,⟨?_,?_,?_,?_,?_,?_,.inr (.inl rfl),.inr (.inl rfl),.inr (.inl rfl),.inl rfl,trivial⟩,trivial⟩ <;> first | exact .inr (.inr (.inl rfl)) | exact .inr (.inr (.inr fun _ _ _ _ _ h=>h)) | exact .inr (.inr (.inr fun _ _ _ _ h h0=>by cases h; exact h0))
 ·refine ⟨?_,?_,?_,?_,?_,?_,?_,?_,?_,?_,trivial⟩
  ·refine qar [] (fun _=>rfl) rfl ?_;intro w1 vals hC1 hi0 hf E hE;clear hi0;clear hf;have hs:=HST9.out.next hC1.bel;simp only [sP] at hE ⊢;refine qac (hs.1.2.2.1) rfl rfl rfl hu rfl qad ?_;go_wp2_with fail;exact .mk (hE _ _ rfl (hC1.same (by decide) (by decide)) rfl)
  ·refine qar [] (fun _=>rfl) rfl ?_;intro w1 vals hC1 hi0 hf E hE;clear hi0;clear hf;have hs:=HST9.out.next hC1.bel;simp only [sP] at hE ⊢;refine qac (hs.1.2.2.2.1) rfl rfl rfl hu rfl qad ?_;go_wp2_with fail;exact .mk (hE _ _ rfl (hC1.same (by decide) (by decide)) rfl)
  ·refine qar [(0,some 49),(1,some 50)] (fun _=>rfl) rfl ?_;intro w1 vals hC1 hi0 hf E hE;clear hi0;have f0:vals 0=_:=hf 0 rfl;have f1:vals 1=_:=hf 1 rfl
   try dsimp only at f0 f1
   clear hf;simp only [sP,f0,f1] at hE ⊢;clear f0 f1;go_wp2_with fail;refine qab (sub_c _ _ _ (Kb.out) (Ka.out)) ?_;rintro e w2 ⟨rfl,hb2⟩;go_wp2_with fail;exact .mk (hE _ _ rfl (hC1.other (by decide) (by decide) (hC1.bel.trans (hb2.mono hC1.bel.size)) hb2.size) hb2)
  ·refine qar [] (fun _=>rfl) rfl ?_;intro w1 vals hC1 hi0 hf E hE;clear hi0;clear hf;have hs:=HST9.out.next hC1.bel;simp only [sP] at hE ⊢;refine qac (hs.1.2.2.1) rfl rfl rfl hu rfl qad ?_;go_wp2_with fail;exact .mk (hE _ _ rfl (hC1.same (by decide) (by decide)) rfl)
  ·refine qar [] (fun _=>rfl) rfl ?_;intro w1 vals hC1 hi0 hf E hE;clear hi0;clear hf;have hs:=HST9.out.next hC1.bel;simp only [sP] at hE ⊢;refine qac (hs.1.2.2.2.1) rfl rfl rfl hu rfl qad ?_;go_wp2_with fail;exact .mk (hE _ _ rfl (hC1.same (by decide) (by decide)) rfl)
  ·refine qar [(3,some 52),(4,some 53),(2,some 51)] (fun _=>rfl) rfl ?_;intro w1 vals hC1 hi0 hf E hE;clear hi0;have f2:vals 2=_:=hf 2 rfl;have f3:vals 3=_:=hf 3 rfl;have f4:vals 4=_:=hf 4 rfl
   try dsimp only at f2 f3 f4
   clear hf;simp only [sP,f2,f3,f4] at hE ⊢;clear f2 f3 f4;go_wp2_with fail;refine qab (add_c _ _ _ (Kb.out) (Ka.out)) ?_;rintro e w2 ⟨rfl,hb2⟩;go_wp2_with fail;exact .mk (hE _ _ rfl (hC1.other (by decide) (by decide) (hC1.bel.trans (hb2.mono hC1.bel.size)) hb2.size) hb2)
  ·refine qar [] (fun _=>rfl) rfl ?_;intro w1 vals hC1 hi0 hf E hE;clear hi0;clear hf;simp only [sP] at hE ⊢;go_wp2;exact .mk (hE _ _ (NewBox.of hC1.bel.size) (hC1.setI (by decide) (hC1.bel.alloc hC1.bel.size _) (by simp)) (below_new _ _))
  ·refine qar [] (fun _=>rfl) rfl ?_;intro w1 vals hC1 hi0 hf E hE;clear hi0;clear hf;simp only [sP] at hE ⊢;go_wp2;exact .mk (hE _ _ (NewBox.of hC1.bel.size) (hC1.setJ (by decide) (hC1.bel.alloc hC1.bel.size _) (by simp)) (below_new _ _))
  ·refine qar [(6,some 11),(2,some 51),(5,some 54),(0,some 49),(1,some 50),(2,some 51),(6,some 11),(7,some 12)] (fun _=>rfl) rfl ?_;intro w1 vals hC1 hi0 hf E hE;clear hi0;have f0:vals 0=_:=hf 0 rfl;have f1:vals 1=_:=hf 1 rfl;have f2:vals 2=_:=hf 2 rfl;have f5:vals 5=_:=hf 5 rfl;have f6:(NewBox v9.heap.size 46 (eV zE)) (vals 6) w1:=hf 6 rfl;have f7:(NewBox v9.heap.size 46 (eV zE)) (vals 7) w1:=hf 7 rfl
   try dsimp only at f0 f1 f2 f5 f6 f7
   clear hf;obtain ⟨o,hx,ho,hblk⟩:=f6;obtain ⟨o7,hx7,ho7,hblk7⟩:=f7;have hne:=hC1.apart hx hx7;have hx':=hx;have hx7':=hx7;simp only [sP,f0,f1,f2,f5,hx,hx7] at hE ⊢;clear f0 f1 f2 f5;clear hx hx7;refine qae (cells:=eV (subE (b) (a))) hblk rfl rfl rfl rfl qad rfl (by simp [eV,ptV,wV,limbs,Value.oneCell']) ?_;intro w2 hb2 hw2;go_wp2_with fail;exact .mk (hE undef _ ⟨⟨o,hx',ho,hb2⟩,⟨o7,hx7',ho7,hw2.blk hblk7 (Ne.symm hne)⟩⟩ (hC1.other (by decide) (by decide) (hw2.below hC1.bel ho hC1.bel.size) (Nat.le_of_eq hw2.size.symm)) trivial)
  ·refine qar [(7,some 12),(5,some 54),(8,none),(0,some 49),(1,some 50),(2,some 51),(3,some 52),(4,some 53),(5,some 54),(6,some 11),(7,some 12),(8,none)] (fun _=>rfl) rfl ?_;intro w1 vals hC1 hi0 hf E hE;clear hi0;have f0:vals 0=_:=hf 0 rfl;have f1:vals 1=_:=hf 1 rfl;have f2:vals 2=_:=hf 2 rfl;have f3:vals 3=_:=hf 3 rfl;have f4:vals 4=_:=hf 4 rfl;have f5:vals 5=_:=hf 5 rfl;have f8:(fun z u=>NewBox v9.heap.size 46 (eV (subE (b) (a))) (z 6) u∧NewBox v9.heap.size 46 (eV zE) (z 7) u) vals w1:=hf 8 rfl
   try dsimp only at f0 f1 f2 f3 f4 f5 f8
   clear hf;obtain ⟨⟨o,hx,ho,hblk⟩,⟨o7,hx7,ho7,hblk7⟩⟩:=f8;have hne:=hC1.apart hx hx7;have hx':=hx;have hx7':=hx7;simp only [sP,f0,f1,f2,f3,f4,f5,hx,hx7] at hE ⊢;clear f0 f1 f2 f3 f4 f5;clear hx hx7;refine qae (cells:=eV (addE (b) (a))) hblk7 rfl rfl rfl rfl qad rfl (by simp [eV,ptV,wV,limbs,Value.oneCell']) ?_;intro w2 hb2 hw2;go_wp2_with fail;exact .mk (hE undef _ ⟨⟨o,hx',ho,hw2.blk hblk hne⟩,⟨o7,hx7',ho7,hb2⟩⟩ (hC1.other (by decide) (by decide) (hw2.below hC1.bel ho7 hC1.bel.size) (Nat.le_of_eq hw2.size.symm)) trivial)
 intro w1 vals hC1 hf;have f0:vals 0=_:=hf 0 (by decide) rfl;have f1:vals 1=_:=hf 1 (by decide) rfl;have f2:vals 2=_:=hf 2 (by decide) rfl;have f3:vals 3=_:=hf 3 (by decide) rfl;have f4:vals 4=_:=hf 4 (by decide) rfl;have f5:vals 5=_:=hf 5 (by decide) rfl;have f9:(fun z u=>NewBox v9.heap.size 46 (eV (subE (b) (a))) (z 6) u∧NewBox v9.heap.size 46 (eV (addE (b) (a))) (z 7) u) vals w1:=hf 9 (by decide) rfl
 try dsimp only at f0 f1 f2 f3 f4 f5 f9
 clear hf;simp only [sP,f0,f1,f2,f3,f4,f5];clear f0 f1 f2 f3 f4 f5;generalize vals 6=x6 at *;generalize vals 7=x7 at *;obtain ⟨⟨o4a,rfl,hlo4a,hblk4a⟩,⟨o4b,rfl,hlo4b,hblk4b⟩⟩:=f9;obtain ⟨e,he⟩:=eX (subE (b) (a));rw [← he] at hblk4a;have Ke:=zY (show e.Ok by rw [he]; exact qaP (Kb.out) (Ka.out));have Ee:=zY he;obtain ⟨h,hh⟩:=eX (addE (b) (a));rw [← hh] at hblk4b;have Kh:=zY (show h.Ok by rw [hh]; exact qaT (Kb.out) (Ka.out));have Eh:=zY hh;have HST4:=zY (show Cs (.box o4a 46 (eV e) :: .box o4b 46 (eV h) :: [.box oz 46 (eV zz),.box o3 46 (eV c),.box o2 46 (eV b),.box o1 46 (eV a),.box gp 48 (ptV p),.box gq 48 (ptV q),.box gw 46 (eV tw),.box r 48 (ptV zP)]) w w1 from ⟨⟨hblk4a,hblk4b,(HST9.out.next hC1.bel).1⟩,(HST9.out.next hC1.bel).2⟩);clear hC1 HC0 HST9 hblk4a hblk4b hlo4a hlo4b he hh;obtain ⟨v4,rfl⟩:=eX w1;go_wp2_with fail;have HC0:C2 v4 10 11 (fun _=>undef) v4.drew:=C2.init (Below.refl _ _).drew
 refine qbx (C2 v4 10 11) (fun | false=>(fun _=>True) | true=>(fun _=>True)) (fun | false,_=>false | true,_=>false)
  [fun z _=>z 0=.agg (eV (zz)),
   fun z _=>z 1=.agg (eV (zz)),
   fun z _=>z 2=.agg (eV (addE (zz) (zz))),
   fun z _=>z 3=.agg (eV (c)),
   fun z _=>z 4=.agg (eV (subE (addE (zz) (zz)) (c))),
   fun z _=>z 5=.agg (eV (zz)),
   fun z _=>z 6=.agg (eV (zz)),
   fun z _=>z 7=.agg (eV (addE (zz) (zz))),
   fun z _=>z 8=.agg (eV (c)),
   fun z _=>z 9=.agg (eV (addE (addE (zz) (zz)) (c))),
   fun z u=>(NewBox v4.heap.size 46 (eV zE)) (z 10) u,
   fun z u=>(NewBox v4.heap.size 46 (eV zE)) (z 11) u,
   fun z u=>NewBox v4.heap.size 46 (eV (subE (addE (zz) (zz)) (c))) (z 10) u∧NewBox v4.heap.size 46 (eV zE) (z 11) u,
   fun z u=>NewBox v4.heap.size 46 (eV (subE (addE (zz) (zz)) (c))) (z 10) u∧NewBox v4.heap.size 46 (eV (addE (addE (zz) (zz)) (c))) (z 11) u]
  [Eq,Eq,fun u u'=>Below u.heap.size u u',Eq,fun u u'=>Below u.heap.size u u',Eq,Eq,fun u u'=>Below u.heap.size u u',Eq,fun u u'=>Below u.heap.size u u',fun u u'=>Below u.heap.size u u',fun u u'=>Below u.heap.size u u',fun _ _=>True,fun _ _=>True]
  (fun i k=>(i == 12 && k == 10) || (i == 12 && k == 11) || (i == 13 && k == 10) || (i == 13 && k == 11) || (i == 13 && k == 12)) [(0,some 55),(1,some 56),(2,some 57),(3,some 58),(4,some 59),(5,some 60),(6,some 61),(7,some 62),(8,some 63),(9,some 64),(10,some 13),(11,some 14),(12,none),(13,none)] (by kernel_rfl) (by kernel_rfl) rfl (fun _=>rfl) ?_ ?_ ?_ ?_ ?_ ?_
 ·exact HC0
 ·intro m; cases m; exact trivial; exact trivial
 ·intro m; cases m
  ·refine ⟨?_,?_,?_,?_,?_,?_,?_,?_,?_,?_,?_,?_,?_,?_,trivial⟩ <;> first | exact .inr fun _ _ h h0=>h▸h0 | exact .inr fun _ _ _ h=>h
  ·refine ⟨?_,?_,?_,?_,?_,?_,?_,?_,?_,?_,?_,?_,?_,?_,trivial⟩ <;> first | exact .inr fun _ _ h h0=>h▸h0 | exact .inr fun _ _ _ h=>h
 ·refine ⟨⟨.inl rfl,?_,?_,?_,?_,?_,?_,?_,?_,?_,?_,?_,?_,?_,trivial⟩,⟨?_,.inl rfl,?_,?_,?_,?_,?_,?_,?_,?_,?_,?_,?_,?_,trivial⟩,⟨?_,?_,.inl rfl,?_,?_,?_,?_,?_,?_,?_,.inr (.inr (.inr (fun _ _ _ _ h h0=>h0.next h))),.inr (.inr (.inr (fun _ _ _ _ h h0=>h0.next h))),?_,?_,trivial⟩,⟨?_,?_,?_,.inl rfl,?_,?_,?_,?_,?_,?_,?_,?_,?_,?_,trivial⟩,⟨?_,?_,?_,?_,.inl rfl,?_,?_,?_,?_,?_,.inr (.inr (.inr (fun _ _ _ _ h h0=>h0.next h))),.inr (.inr (.inr (fun _ _ _ _ h h0=>h0.next h))),?_,?_,trivial⟩,⟨?_,?_,?_,?_,?_,.inl rfl,?_,?_,?_,?_,?_,?_,?_,?_,trivial⟩,⟨?_,?_,?_,?_,?_,?_,.inl rfl,?_,?_,?_,?_,?_,?_,?_,trivial⟩,⟨?_,?_,?_,?_,?_,?_,?_,.inl rfl,?_,?_,.inr (.inr (.inr (fun _ _ _ _ h h0=>h0.next h))),.inr (.inr (.inr (fun _ _ _ _ h h0=>h0.next h))),?_,?_,trivial⟩,⟨?_,?_,?_,?_,?_,?_,?_,?_,.inl rfl,?_,?_,?_,?_,?_,trivial⟩,⟨?_,?_,?_,?_,?_,?_,?_,?_,?_,.inl rfl,.inr (.inr (.inr (fun _ _ _ _ h h0=>h0.next h))),.inr (.inr (.inr (fun _ _ _ _ h h0=>h0.next h))),?_,?_,trivial⟩,⟨?_,?_,?_,?_,?_,?_,?_,?_,?_,?_,.inl rfl,.inr (.inr (.inr (fun _ _ _ _ h h0=>h0.next h))),?_,?_,trivial⟩,⟨?_,?_,?_,?_,?_,?_,?_,?_,?_,?_,.inr (.inr (.inr (fun _ _ _ _ h h0=>h0.next h))),.inl rfl,?_,?_,trivial⟩,⟨?_,?_,?_,?_,?_,?_,?_,?_,?_,?_,.inr (.inl rfl),.inr (.inl rfl),.inl rfl,?_,trivial⟩,⟨?_,?_,?_,?_,?_,?_,?_,?_,?_,?_,.inr (.inl rfl),.inr (.inl rfl),.inr (.inl rfl),.inl rfl,trivial⟩,trivial⟩ <;> first | exact .inr (.inr (.inl rfl)) | exact .inr (.inr (.inr fun _ _ _ _ _ h=>h)) | exact .inr (.inr (.inr fun _ _ _ _ h h0=>by cases h; exact h0))
 ·refine ⟨?_,?_,?_,?_,?_,?_,?_,?_,?_,?_,?_,?_,?_,?_,trivial⟩
  ·refine qar [] (fun _=>rfl) rfl ?_;intro w1 vals hC1 hi0 hf E hE;clear hi0;clear hf;have hs:=HST4.out.next hC1.bel;simp only [sP] at hE ⊢;refine qac (hs.1.2.2.1) rfl rfl rfl hu rfl qad ?_;go_wp2_with fail;exact .mk (hE _ _ rfl (hC1.same (by decide) (by decide)) rfl)
  ·refine qar [] (fun _=>rfl) rfl ?_;intro w1 vals hC1 hi0 hf E hE;clear hi0;clear hf;have hs:=HST4.out.next hC1.bel;simp only [sP] at hE ⊢;refine qac (hs.1.2.2.1) rfl rfl rfl hu rfl qad ?_;go_wp2_with fail;exact .mk (hE _ _ rfl (hC1.same (by decide) (by decide)) rfl)
  ·refine qar [(0,some 55),(1,some 56)] (fun _=>rfl) rfl ?_;intro w1 vals hC1 hi0 hf E hE;clear hi0;have f0:vals 0=_:=hf 0 rfl;have f1:vals 1=_:=hf 1 rfl
   try dsimp only at f0 f1
   clear hf;simp only [sP,f0,f1] at hE ⊢;clear f0 f1;go_wp2_with fail;refine qab (add_c _ _ _ (Kz.out) (Kz.out)) ?_;rintro e w2 ⟨rfl,hb2⟩;go_wp2_with fail;exact .mk (hE _ _ rfl (hC1.other (by decide) (by decide) (hC1.bel.trans (hb2.mono hC1.bel.size)) hb2.size) hb2)
  ·refine qar [] (fun _=>rfl) rfl ?_;intro w1 vals hC1 hi0 hf E hE;clear hi0;clear hf;have hs:=HST4.out.next hC1.bel;simp only [sP] at hE ⊢;refine qac (hs.1.2.2.2.1) rfl rfl rfl hu rfl qad ?_;go_wp2_with fail;exact .mk (hE _ _ rfl (hC1.same (by decide) (by decide)) rfl)
  ·refine qar [(2,some 57),(3,some 58),(2,some 57)] (fun _=>rfl) rfl ?_;intro w1 vals hC1 hi0 hf E hE;clear hi0;have f2:vals 2=_:=hf 2 rfl;have f3:vals 3=_:=hf 3 rfl
   try dsimp only at f2 f3
   clear hf;simp only [sP,f2,f3] at hE ⊢;clear f2 f3;go_wp2_with fail;refine qab (sub_c _ _ _ (qaT (Kz.out) (Kz.out)) (Kc.out)) ?_;rintro e w2 ⟨rfl,hb2⟩;go_wp2_with fail;exact .mk (hE _ _ rfl (hC1.other (by decide) (by decide) (hC1.bel.trans (hb2.mono hC1.bel.size)) hb2.size) hb2)
  ·refine qar [] (fun _=>rfl) rfl ?_;intro w1 vals hC1 hi0 hf E hE;clear hi0;clear hf;have hs:=HST4.out.next hC1.bel;simp only [sP] at hE ⊢;refine qac (hs.1.2.2.1) rfl rfl rfl hu rfl qad ?_;go_wp2_with fail;exact .mk (hE _ _ rfl (hC1.same (by decide) (by decide)) rfl)
  ·refine qar [] (fun _=>rfl) rfl ?_;intro w1 vals hC1 hi0 hf E hE;clear hi0;clear hf;have hs:=HST4.out.next hC1.bel;simp only [sP] at hE ⊢;refine qac (hs.1.2.2.1) rfl rfl rfl hu rfl qad ?_;go_wp2_with fail;exact .mk (hE _ _ rfl (hC1.same (by decide) (by decide)) rfl)
  ·refine qar [(5,some 60),(6,some 61),(4,some 59)] (fun _=>rfl) rfl ?_;intro w1 vals hC1 hi0 hf E hE;clear hi0;have f4:vals 4=_:=hf 4 rfl;have f5:vals 5=_:=hf 5 rfl;have f6:vals 6=_:=hf 6 rfl
   try dsimp only at f4 f5 f6
   clear hf;simp only [sP,f4,f5,f6] at hE ⊢;clear f4 f5 f6;go_wp2_with fail;refine qab (add_c _ _ _ (Kz.out) (Kz.out)) ?_;rintro e w2 ⟨rfl,hb2⟩;go_wp2_with fail;exact .mk (hE _ _ rfl (hC1.other (by decide) (by decide) (hC1.bel.trans (hb2.mono hC1.bel.size)) hb2.size) hb2)
  ·refine qar [] (fun _=>rfl) rfl ?_;intro w1 vals hC1 hi0 hf E hE;clear hi0;clear hf;have hs:=HST4.out.next hC1.bel;simp only [sP] at hE ⊢;refine qac (hs.1.2.2.2.1) rfl rfl rfl hu rfl qad ?_;go_wp2_with fail;exact .mk (hE _ _ rfl (hC1.same (by decide) (by decide)) rfl)
  ·refine qar [(7,some 62),(8,some 63),(7,some 62)] (fun _=>rfl) rfl ?_;intro w1 vals hC1 hi0 hf E hE;clear hi0;have f7:vals 7=_:=hf 7 rfl;have f8:vals 8=_:=hf 8 rfl
   try dsimp only at f7 f8
   clear hf;simp only [sP,f7,f8] at hE ⊢;clear f7 f8;go_wp2_with fail;refine qab (add_c _ _ _ (qaT (Kz.out) (Kz.out)) (Kc.out)) ?_;rintro e w2 ⟨rfl,hb2⟩;go_wp2_with fail;exact .mk (hE _ _ rfl (hC1.other (by decide) (by decide) (hC1.bel.trans (hb2.mono hC1.bel.size)) hb2.size) hb2)
  ·refine qar [] (fun _=>rfl) rfl ?_;intro w1 vals hC1 hi0 hf E hE;clear hi0;clear hf;simp only [sP] at hE ⊢;go_wp2;exact .mk (hE _ _ (NewBox.of hC1.bel.size) (hC1.setI (by decide) (hC1.bel.alloc hC1.bel.size _) (by simp)) (below_new _ _))
  ·refine qar [] (fun _=>rfl) rfl ?_;intro w1 vals hC1 hi0 hf E hE;clear hi0;clear hf;simp only [sP] at hE ⊢;go_wp2;exact .mk (hE _ _ (NewBox.of hC1.bel.size) (hC1.setJ (by decide) (hC1.bel.alloc hC1.bel.size _) (by simp)) (below_new _ _))
  ·refine qar [(10,some 13),(4,some 59),(9,some 64),(0,some 55),(1,some 56),(2,some 57),(3,some 58),(4,some 59),(10,some 13),(11,some 14)] (fun _=>rfl) rfl ?_;intro w1 vals hC1 hi0 hf E hE;clear hi0;have f0:vals 0=_:=hf 0 rfl;have f1:vals 1=_:=hf 1 rfl;have f2:vals 2=_:=hf 2 rfl;have f3:vals 3=_:=hf 3 rfl;have f4:vals 4=_:=hf 4 rfl;have f9:vals 9=_:=hf 9 rfl;have f10:(NewBox v4.heap.size 46 (eV zE)) (vals 10) w1:=hf 10 rfl;have f11:(NewBox v4.heap.size 46 (eV zE)) (vals 11) w1:=hf 11 rfl
   try dsimp only at f0 f1 f2 f3 f4 f9 f10 f11
   clear hf;obtain ⟨o,hx,ho,hblk⟩:=f10;obtain ⟨o7,hx7,ho7,hblk7⟩:=f11;have hne:=hC1.apart hx hx7;have hx':=hx;have hx7':=hx7;simp only [sP,f0,f1,f2,f3,f4,f9,hx,hx7] at hE ⊢;clear f0 f1 f2 f3 f4 f9;clear hx hx7;refine qae (cells:=eV (subE (addE (zz) (zz)) (c))) hblk rfl rfl rfl rfl qad rfl (by simp [eV,ptV,wV,limbs,Value.oneCell']) ?_;intro w2 hb2 hw2;go_wp2_with fail;exact .mk (hE undef _ ⟨⟨o,hx',ho,hb2⟩,⟨o7,hx7',ho7,hw2.blk hblk7 (Ne.symm hne)⟩⟩ (hC1.other (by decide) (by decide) (hw2.below hC1.bel ho hC1.bel.size) (Nat.le_of_eq hw2.size.symm)) trivial)
  ·refine qar [(11,some 14),(9,some 64),(12,none),(0,some 55),(1,some 56),(2,some 57),(3,some 58),(4,some 59),(5,some 60),(6,some 61),(7,some 62),(8,some 63),(9,some 64),(10,some 13),(11,some 14),(12,none)] (fun _=>rfl) rfl ?_;intro w1 vals hC1 hi0 hf E hE;clear hi0;have f0:vals 0=_:=hf 0 rfl;have f1:vals 1=_:=hf 1 rfl;have f2:vals 2=_:=hf 2 rfl;have f3:vals 3=_:=hf 3 rfl;have f4:vals 4=_:=hf 4 rfl;have f5:vals 5=_:=hf 5 rfl;have f6:vals 6=_:=hf 6 rfl;have f7:vals 7=_:=hf 7 rfl;have f8:vals 8=_:=hf 8 rfl;have f9:vals 9=_:=hf 9 rfl;have f12:(fun z u=>NewBox v4.heap.size 46 (eV (subE (addE (zz) (zz)) (c))) (z 10) u∧NewBox v4.heap.size 46 (eV zE) (z 11) u) vals w1:=hf 12 rfl
   try dsimp only at f0 f1 f2 f3 f4 f5 f6 f7 f8 f9 f12
   clear hf;obtain ⟨⟨o,hx,ho,hblk⟩,⟨o7,hx7,ho7,hblk7⟩⟩:=f12;have hne:=hC1.apart hx hx7;have hx':=hx;have hx7':=hx7;simp only [sP,f0,f1,f2,f3,f4,f5,f6,f7,f8,f9,hx,hx7] at hE ⊢;clear f0 f1 f2 f3 f4 f5 f6 f7 f8 f9;clear hx hx7;refine qae (cells:=eV (addE (addE (zz) (zz)) (c))) hblk7 rfl rfl rfl rfl qad rfl (by simp [eV,ptV,wV,limbs,Value.oneCell']) ?_;intro w2 hb2 hw2;go_wp2_with fail;exact .mk (hE undef _ ⟨⟨o,hx',ho,hw2.blk hblk hne⟩,⟨o7,hx7',ho7,hb2⟩⟩ (hC1.other (by decide) (by decide) (hw2.below hC1.bel ho7 hC1.bel.size) (Nat.le_of_eq hw2.size.symm)) trivial)
 intro w1 vals hC1 hf;have f0:vals 0=_:=hf 0 (by decide) rfl;have f1:vals 1=_:=hf 1 (by decide) rfl;have f2:vals 2=_:=hf 2 (by decide) rfl;have f3:vals 3=_:=hf 3 (by decide) rfl;have f4:vals 4=_:=hf 4 (by decide) rfl;have f5:vals 5=_:=hf 5 (by decide) rfl;have f6:vals 6=_:=hf 6 (by decide) rfl;have f7:vals 7=_:=hf 7 (by decide) rfl;have f8:vals 8=_:=hf 8 (by decide) rfl;have f9:vals 9=_:=hf 9 (by decide) rfl;have f13:(fun z u=>NewBox v4.heap.size 46 (eV (subE (addE (zz) (zz)) (c))) (z 10) u∧NewBox v4.heap.size 46 (eV (addE (addE (zz) (zz)) (c))) (z 11) u) vals w1:=hf 13 (by decide) rfl
 try dsimp only at f0 f1 f2 f3 f4 f5 f6 f7 f8 f9 f13
 clear hf;simp only [sP,f0,f1,f2,f3,f4,f5,f6,f7,f8,f9];clear f0 f1 f2 f3 f4 f5 f6 f7 f8 f9;generalize vals 10=x10 at *;generalize vals 11=x11 at *;obtain ⟨⟨o5a,rfl,hlo5a,hblk5a⟩,⟨o5b,rfl,hlo5b,hblk5b⟩⟩:=f13;obtain ⟨f,hf⟩:=eX (subE (addE (zz) (zz)) (c));rw [← hf] at hblk5a;have Kf:=zY (show f.Ok by rw [hf]; exact qaP (qaT (Kz.out) (Kz.out)) (Kc.out));have Ef:=zY hf;obtain ⟨g,hg⟩:=eX (addE (addE (zz) (zz)) (c));rw [← hg] at hblk5b;have Kg:=zY (show g.Ok by rw [hg]; exact qaT (qaT (Kz.out) (Kz.out)) (Kc.out));have Eg:=zY hg;have HST5:=zY (show Cs (.box o5a 46 (eV f) :: .box o5b 46 (eV g) :: [.box o4a 46 (eV e),.box o4b 46 (eV h),.box oz 46 (eV zz),.box o3 46 (eV c),.box o2 46 (eV b),.box o1 46 (eV a),.box gp 48 (ptV p),.box gq 48 (ptV q),.box gw 46 (eV tw),.box r 48 (ptV zP)]) w w1 from ⟨⟨hblk5a,hblk5b,(HST4.out.next hC1.bel).1⟩,(HST4.out.next hC1.bel).2⟩);clear hC1 HC0 HST4 hblk5a hblk5b hlo5a hlo5b hf hg;obtain ⟨v5,rfl⟩:=eX w1;go_wp2_with fail;have HC0:=HST5.out.drew;clear HST5;refine qaj (fun u=>Cs [.box o5a 46 (eV f),.box o5b 46 (eV g),.box o4a 46 (eV e),.box o4b 46 (eV h),.box oz 46 (eV zz),.box o3 46 (eV c),.box o2 46 (eV b),.box o1 46 (eV a),.box gp 48 (ptV p),.box gq 48 (ptV q),.box gw 46 (eV tw),.box r 48 (ptV zP)] w u) (fun u=>Blk u r 48 (ptV (⟨mulE (e) (f),mulE (g) (h),mulE (f) (g),mulE (e) (h)⟩))∧Below w.heap.size w u) [(0,some 65),(1,some 66),(2,some 67),(3,some 68),(4,some 69),(5,some 70),(6,some 71),(7,some 72),(8,some 73),(9,some 74),(10,some 75),(11,some 76),(12,some 77),(13,none)] (by kernel_rfl) (by kernel_rfl) (by decide) (by kernel_rfl) (fun _=>rfl) HC0 ?_;apply yN_
 ·apply dP [];exact fun _=>rfl;rfl;rintro vals - w1 hC1 E hE;have hs:=hC1;simp only [sP] at hE ⊢;refine qac (hs.1.2.2.1) rfl rfl rfl hu rfl qad ?_;go_wp2_with fail;exact .mk (hE _ hC1)
 apply yN_
 ·apply dP [];exact fun _=>rfl;rfl;rintro vals ⟨-,-⟩ w1 hC1 E hE;have hs:=hC1;simp only [sP] at hE ⊢;refine qac (hs.1.1) rfl rfl rfl hu rfl qad ?_;go_wp2_with fail;exact .mk (hE _ hC1)
 apply yN_
 ·apply dP [(0,some 65),(1,some 66)];exact fun _=>rfl;rfl;intro vals vq w1 hC1 E hE;simp only [sP,vq] at hE ⊢;clear vq;go_wp2_with fail;refine qab (mul_c _ _ _ (Ke.out) (Kf.out)) ?_;rintro e w2 ⟨rfl,hb2⟩;go_wp2_with fail;exact .mk (hE _ (hC1.next hb2))
 apply yN_
 ·apply dP [];exact fun _=>rfl;rfl;intro vals vq w1 hC1 E hE;clear vq;have hs:=hC1;simp only [sP] at hE ⊢;refine qac (hs.1.2.1) rfl rfl rfl hu rfl qad ?_;go_wp2_with fail;exact .mk (hE _ hC1)
 apply yN_
 ·apply dP [];exact fun _=>rfl;rfl;intro vals vq w1 hC1 E hE;clear vq;have hs:=hC1;simp only [sP] at hE ⊢;refine qac (hs.1.2.2.2.1) rfl rfl rfl hu rfl qad ?_;go_wp2_with fail;exact .mk (hE _ hC1)
 apply yN_
 ·apply dP [(3,some 68),(4,some 69),(2,some 67)];exact fun _=>rfl;rfl;intro vals vq w1 hC1 E hE;simp only [sP,vq] at hE ⊢;clear vq;go_wp2_with fail;refine qab (mul_c _ _ _ (Kg.out) (Kh.out)) ?_;rintro e w2 ⟨rfl,hb2⟩;go_wp2_with fail;exact .mk (hE _ (hC1.next hb2))
 apply yN_
 ·apply dP [];exact fun _=>rfl;rfl;intro vals vq w1 hC1 E hE;clear vq;have hs:=hC1;simp only [sP] at hE ⊢;refine qac (hs.1.1) rfl rfl rfl hu rfl qad ?_;go_wp2_with fail;exact .mk (hE _ hC1)
 apply yN_
 ·apply dP [];exact fun _=>rfl;rfl;intro vals vq w1 hC1 E hE;clear vq;have hs:=hC1;simp only [sP] at hE ⊢;refine qac (hs.1.2.1) rfl rfl rfl hu rfl qad ?_;go_wp2_with fail;exact .mk (hE _ hC1)
 apply yN_
 ·apply dP [(6,some 71),(7,some 72),(5,some 70)];exact fun _=>rfl;rfl;intro vals vq w1 hC1 E hE;simp only [sP,vq] at hE ⊢;clear vq;go_wp2_with fail;refine qab (mul_c _ _ _ (Kf.out) (Kg.out)) ?_;rintro e w2 ⟨rfl,hb2⟩;go_wp2_with fail;exact .mk (hE _ (hC1.next hb2))
 apply yN_
 ·apply dP [];exact fun _=>rfl;rfl;intro vals vq w1 hC1 E hE;clear vq;have hs:=hC1;simp only [sP] at hE ⊢;refine qac (hs.1.2.2.1) rfl rfl rfl hu rfl qad ?_;go_wp2_with fail;exact .mk (hE _ hC1)
 apply yN_
 ·apply dP [];exact fun _=>rfl;rfl;intro vals vq w1 hC1 E hE;clear vq;have hs:=hC1;simp only [sP] at hE ⊢;refine qac (hs.1.2.2.2.1) rfl rfl rfl hu rfl qad ?_;go_wp2_with fail;exact .mk (hE _ hC1)
 apply yN_
 ·apply dP [(9,some 74),(10,some 75),(8,some 73)];exact fun _=>rfl;rfl;intro vals vq w1 hC1 E hE;simp only [sP,vq] at hE ⊢;clear vq;go_wp2_with fail;refine qab (mul_c _ _ _ (Ke.out) (Kh.out)) ?_;rintro e w2 ⟨rfl,hb2⟩;go_wp2_with fail;exact .mk (hE _ (hC1.next hb2))
 apply yN_
 ·apply dP [(2,some 67),(5,some 70),(8,some 73),(11,some 76)];exact fun _=>rfl;rfl;intro vals vq w1 hC1 E hE;simp only [sP,vq] at hE ⊢;clear vq;refine qbi (mulE (e) (f)) (mulE (g) (h)) (mulE (f) (g)) (mulE (e) (h)) rfl rfl rfl rfl rfl rfl ?_;go_wp2_with fail;exact .mk (hE _ hC1)
 apply yL_ (v:=undef)
 ·apply dP [(12,some 77),(11,some 76),(0,some 65),(1,some 66),(2,some 67),(3,some 68),(4,some 69),(5,some 70),(6,some 71),(7,some 72),(8,some 73),(9,some 74),(10,some 75),(11,some 76),(12,some 77)];exact fun _=>rfl;rfl;intro vals vq w1 hC1 E hE;have hlr:=HLR.out;simp only [sP,vq] at hE ⊢;clear vq;refine qae (cells:=ptV (⟨mulE (e) (f),mulE (g) (h),mulE (f) (g),mulE (e) (h)⟩)) (hC1.1.2.2.2.2.2.2.2.2.2.2.2.1) rfl rfl rfl rfl qai rfl (by simp [eV,ptV,wV,limbs,Value.oneCell']) ?_;intro w6 hb6 hw6;go_wp2_with fail;exact .mk (hE _ ⟨hb6,hw6.below hC1.2 hlr hC1.2.size⟩)
 intro vals vq w1 hC1;simp only [sP,vq];clear vq;clear HC0;go_wp2_with fail;refine bodyPost_ret (qap (P:=Tryd.prog) rfl rfl hC1.1 hp rfl qai) rfl ⟨?_,hC1.2⟩;rw [Ef.out,Eg.out,Ee.out,Eh.out,Ez.out,Ea.out,Eb.out,Ec.out];rfl
theorem Wrote.refl (g:Nat) (w:World):Wrote g w w:=⟨World.grownBy.refl w _,rfl⟩
theorem Wrote.trans {g:Nat} {a b c:World} (h:Wrote g a b) (k:Wrote g b c):Wrote g a c:=⟨h.grown.trans k.grown,k.size.trans h.size⟩
theorem Wrote.drew {g:Nat} {a b:World} (h:Wrote g a b):Wrote g a b.drew:=⟨qcp h.grown,h.size⟩
def revS (l:List Nat):Nat→List Nat
 | 0=>l
 | k+1=>((revS l k).set k ((revS l k).getD (31 - k) 0)).set (31 - k) ((revS l k).getD k 0)
theorem qb2 (l:List Nat):∀ k,(revS l k).length=l.length
 | 0=>rfl
 | k+1=>by rw [revS,List.length_set,List.length_set,qb2 l k]
theorem revS_dg {l:List Nat} (h:Dg l):∀ k,Dg (revS l k)
 | 0=>h
 | k+1=>dg_set (dg_set (revS_dg h k) _ _ (qaV (revS_dg h k) _)) _ _ (qaV (revS_dg h k) _)
theorem qbI (l:List Nat):(bnV l).toArray.size=l.length:=by simp [bnV]
theorem qbz:(Tryd.prog.info? 5).map (·.size)=some 1:=by kernel_rfl
theorem bnV_get {l:List Nat} {k:Nat} (h:k<l.length):(bnV l).toArray[k]?=some (.int .u8 ((l.getD k 0:Nat):Int)):=by
 simp [bnV,List.getElem?_eq_getElem h,List.getD_eq_getElem?_getD]
theorem reverse_any (l:List Nat) (hl:l.length=32) (g:Nat) (t:TypeId) (c:Nat) (w:World) (hb:Blk w g t (bnV l).toArray) :
  Calls Tryd.prog 69 #[.slice (some ⟨g,0,none⟩) 32 c] w (fun e w'=>(∃ v,e=.returned v)∧Blk w' g t (bnV (revS l 16)).toArray∧Wrote g w w'):=by
 have hs0:Blk w g t (bnV (revS l 0)).toArray∧Wrote g w w:=⟨hb,Wrote.refl g w⟩;have HS0:=zY hs0;have HL:=zY hl;clear hs0 hb hl;go_enter Tryd.func69,Tryd.ntmps69;go_wp2_with fail
 go_loopw [2,3] (fun i j wr=>∃ k:Nat,k≤16∧i=.int .i64 k∧j=.int .i64 (31 - (k:Int))∧Blk wr g t (bnV (revS l k)).toArray∧Wrote g w wr) (fun i _ _=>16 - (intOf i).toNat)
 case atStart=>exact ⟨0,by omega,rfl,rfl,HS0.out.1,HS0.out.2⟩
 case round =>
  clear HS0;obtain ⟨k,hk,rfl,rfl,hblk,hwr⟩:=hrel
  by_cases hlt:k<16
  ·obtain ⟨m,hm⟩:=eX (31 - k);have hmi:(31:Int) - (k:Int)=(m:Int):=by omega
   have hkm:(k:Int)<(m:Int):=by omega
   have hm32:(m:Int)<32:=by omega
   rw [hmi];obtain ⟨R,hR⟩:=eX (revS l k);obtain ⟨a,ha⟩:=eX (R.getD k 0);obtain ⟨b,hbb⟩:=eX (R.getD m 0);have hRl:R.length=32:=by rw [hR,qb2]; exact HL.out
   have hnext:revS l (k+1)=(R.set k b).set m a:=by rw [revS,← hR,← hm,← ha,← hbb]
   rw [← hR] at hblk;have HKA:=zY (show (bnV R).toArray[k]?=some (.int .u8 (a:Int)) by rw [ha]; exact bnV_get (by omega));have HKB:=zY (show (bnV R).toArray[m]?=some (.int .u8 (b:Int)) by rw [hbb]; exact bnV_get (by omega));have HNEXT:=zY hnext;have HRL:=zY hRl;have HK:=zY hlt;have HM:=zY hm;have HWR:=zY hwr;have HI0:Blk wr.drew g t (bnV R).toArray:=hblk;have HC0:Wrote g wr wr.drew:=(Wrote.refl g wr).drew;clear hnext hRl ha hbb hR hwr hblk hm hlt hmi;go_wp2_with fail
   refine qak (fun u=>Wrote g wr u) (fun | false=>(fun u=>Blk u g t (bnV R).toArray) | true=>(fun _=>True)) (fun | false,i=>i == 13 || i == 15 | true,_=>false)
    [fun z _=>z 0=.slice (some ⟨g,0,none⟩) 32 c,
     fun z _=>z 1=.int .i64 (k:Int),
     fun z _=>z 2=.slice (some ⟨g,0,none⟩) 32 c,
     fun z _=>z 3=.int .i64 (m:Int),
     fun z _=>z 4=.slice (some ⟨g,0,none⟩) 32 c,
     fun z _=>z 5=.int .i64 (m:Int),
     fun z _=>z 6=.pointer (some ⟨g,m,none⟩),
     fun z _=>z 7=.int .u8 (b:Int),
     fun z _=>z 8=.slice (some ⟨g,0,none⟩) 32 c,
     fun z _=>z 9=.int .i64 (k:Int),
     fun z _=>z 10=.pointer (some ⟨g,k,none⟩),
     fun z _=>z 11=.int .u8 (a:Int),
     fun z _=>z 12=.pointer (some ⟨g,k,none⟩),
     fun z u=>Blk u g t (bnV (R.set k b)).toArray,
     fun z _=>z 14=.pointer (some ⟨g,m,none⟩),
     fun z u=>Blk u g t (bnV ((R.set k b).set m a)).toArray]
    [Eq,Eq,Eq,Eq,Eq,Eq,Eq,Eq,Eq,Eq,Eq,Eq,Eq,fun _ _=>True,Eq,fun _ _=>True]
    (fun i k=>(i == 15 && k == 13)) [(0,some 14),(1,some 15),(2,some 16),(3,some 17),(4,some 18),(5,some 19),(6,some 20),(7,some 21),(8,some 22),(9,some 23),(10,some 24),(11,some 25),(12,some 26),(13,none),(14,some 27),(15,none)] (by kernel_rfl) (by kernel_rfl) rfl (fun _=>rfl) ?_ ?_ ?_ ?_ ?_ ?_
   ·exact HC0
   ·intro m; cases m; exact HI0; exact trivial
   ·intro m; cases m
    ·refine ⟨?_,?_,?_,?_,?_,?_,?_,?_,?_,?_,?_,?_,?_,.inl rfl,?_,.inl rfl,trivial⟩ <;> exact .inr fun _ _ h h0=>h▸h0
    ·refine ⟨?_,?_,?_,?_,?_,?_,?_,?_,?_,?_,?_,?_,?_,?_,?_,?_,trivial⟩ <;> first | exact .inr fun _ _ h h0=>h▸h0 | exact .inr fun _ _ _ h=>h
   ·refine ⟨⟨.inl rfl,?_,?_,?_,?_,?_,?_,?_,?_,?_,?_,?_,?_,?_,?_,?_,trivial⟩,⟨?_,.inl rfl,?_,?_,?_,?_,?_,?_,?_,?_,?_,?_,?_,?_,?_,?_,trivial⟩,⟨?_,?_,.inl rfl,?_,?_,?_,?_,?_,?_,?_,?_,?_,?_,?_,?_,?_,trivial⟩,⟨?_,?_,?_,.inl rfl,?_,?_,?_,?_,?_,?_,?_,?_,?_,?_,?_,?_,trivial⟩,⟨?_,?_,?_,?_,.inl rfl,?_,?_,?_,?_,?_,?_,?_,?_,?_,?_,?_,trivial⟩,⟨?_,?_,?_,?_,?_,.inl rfl,?_,?_,?_,?_,?_,?_,?_,?_,?_,?_,trivial⟩,⟨?_,?_,?_,?_,?_,?_,.inl rfl,?_,?_,?_,?_,?_,?_,?_,?_,?_,trivial⟩,⟨?_,?_,?_,?_,?_,?_,?_,.inl rfl,?_,?_,?_,?_,?_,?_,?_,?_,trivial⟩,⟨?_,?_,?_,?_,?_,?_,?_,?_,.inl rfl,?_,?_,?_,?_,?_,?_,?_,trivial⟩,⟨?_,?_,?_,?_,?_,?_,?_,?_,?_,.inl rfl,?_,?_,?_,?_,?_,?_,trivial⟩,⟨?_,?_,?_,?_,?_,?_,?_,?_,?_,?_,.inl rfl,?_,?_,?_,?_,?_,trivial⟩,⟨?_,?_,?_,?_,?_,?_,?_,?_,?_,?_,?_,.inl rfl,?_,?_,?_,?_,trivial⟩,⟨?_,?_,?_,?_,?_,?_,?_,?_,?_,?_,?_,?_,.inl rfl,?_,?_,?_,trivial⟩,⟨?_,?_,?_,?_,?_,?_,?_,?_,?_,?_,?_,?_,?_,.inl rfl,?_,?_,trivial⟩,⟨?_,?_,?_,?_,?_,?_,?_,?_,?_,?_,?_,?_,?_,?_,.inl rfl,?_,trivial⟩,⟨?_,?_,?_,?_,?_,?_,?_,?_,?_,?_,?_,?_,?_,.inr (.inl rfl),?_,.inl rfl,trivial⟩,trivial⟩ <;> first | exact .inr (.inr (.inl rfl)) | exact .inr (.inr (.inr fun _ _ _ _ _ h=>h)) | exact .inr (.inr (.inr fun _ _ _ _ h h0=>by cases h; exact h0))
   ·refine ⟨?_,?_,?_,?_,?_,?_,?_,?_,?_,?_,?_,?_,?_,?_,?_,?_,trivial⟩
    ·refine qaa [] (fun _=>rfl) rfl ?_;intro w1 vals hC1 hi0 hf E hE;have hI1:(fun u=>Blk u g t (bnV R).toArray) w1:=hi0 false rfl
     try dsimp only at hI1
     clear hi0;clear hf;simp only [sP] at hE ⊢;go_wp2;exact .mk (hE _ _ rfl hC1 rfl)
    ·refine qaa [] (fun _=>rfl) rfl ?_;intro w1 vals hC1 hi0 hf E hE;have hI1:(fun u=>Blk u g t (bnV R).toArray) w1:=hi0 false rfl
     try dsimp only at hI1
     clear hi0;clear hf;simp only [sP] at hE ⊢;go_wp2;exact .mk (hE _ _ rfl hC1 rfl)
    ·refine qaa [] (fun _=>rfl) rfl ?_;intro w1 vals hC1 hi0 hf E hE;clear hi0;clear hf;simp only [sP] at hE ⊢;go_wp2;exact .mk (hE _ _ rfl hC1 rfl)
    ·refine qaa [] (fun _=>rfl) rfl ?_;intro w1 vals hC1 hi0 hf E hE;clear hi0;clear hf;simp only [sP] at hE ⊢;go_wp2;exact .mk (hE _ _ rfl hC1 rfl)
    ·refine qaa [] (fun _=>rfl) rfl ?_;intro w1 vals hC1 hi0 hf E hE;have hI1:(fun u=>Blk u g t (bnV R).toArray) w1:=hi0 false rfl
     try dsimp only at hI1
     clear hi0;clear hf;simp only [sP] at hE ⊢;go_wp2;exact .mk (hE _ _ rfl hC1 rfl)
    ·refine qaa [] (fun _=>rfl) rfl ?_;intro w1 vals hC1 hi0 hf E hE;have hI1:(fun u=>Blk u g t (bnV R).toArray) w1:=hi0 false rfl
     try dsimp only at hI1
     clear hi0;clear hf;simp only [sP] at hE ⊢;go_wp2;exact .mk (hE _ _ rfl hC1 rfl)
    ·refine qaa [(4,some 18),(5,some 19)] (fun _=>rfl) rfl ?_;intro w1 vals hC1 hi0 hf E hE;have hI1:(fun u=>Blk u g t (bnV R).toArray) w1:=hi0 false rfl
     try dsimp only at hI1
     clear hi0;have f4:vals 4=_:=hf 4 rfl;have f5:vals 5=_:=hf 5 rfl
     try dsimp only at f4 f5
     clear hf;simp only [sP,f4,f5] at hE ⊢;clear f4 f5;go_wp2;exact .mk (hE _ _ rfl hC1 rfl)
    ·refine qaa [(6,some 20)] (fun _=>rfl) rfl ?_;intro w1 vals hC1 hi0 hf E hE;have hI1:(fun u=>Blk u g t (bnV R).toArray) w1:=hi0 false rfl
     try dsimp only at hI1
     clear hi0;have f6:vals 6=_:=hf 6 rfl
     try dsimp only at f6
     clear hf;have d0:=hI1.cell m;rw [HKB.out] at d0;simp only [sP,f6] at hE ⊢;clear f6;go_wp2;exact .mk (hE _ _ rfl hC1 rfl)
    ·refine qaa [] (fun _=>rfl) rfl ?_;intro w1 vals hC1 hi0 hf E hE;have hI1:(fun u=>Blk u g t (bnV R).toArray) w1:=hi0 false rfl
     try dsimp only at hI1
     clear hi0;clear hf;simp only [sP] at hE ⊢;go_wp2;exact .mk (hE _ _ rfl hC1 rfl)
    ·refine qaa [] (fun _=>rfl) rfl ?_;intro w1 vals hC1 hi0 hf E hE;have hI1:(fun u=>Blk u g t (bnV R).toArray) w1:=hi0 false rfl
     try dsimp only at hI1
     clear hi0;clear hf;simp only [sP] at hE ⊢;go_wp2;exact .mk (hE _ _ rfl hC1 rfl)
    ·refine qaa [(8,some 22),(9,some 23)] (fun _=>rfl) rfl ?_;intro w1 vals hC1 hi0 hf E hE;have hI1:(fun u=>Blk u g t (bnV R).toArray) w1:=hi0 false rfl
     try dsimp only at hI1
     clear hi0;have f8:vals 8=_:=hf 8 rfl;have f9:vals 9=_:=hf 9 rfl
     try dsimp only at f8 f9
     clear hf;simp only [sP,f8,f9] at hE ⊢;clear f8 f9;go_wp2;exact .mk (hE _ _ rfl hC1 rfl)
    ·refine qaa [(10,some 24)] (fun _=>rfl) rfl ?_;intro w1 vals hC1 hi0 hf E hE;have hI1:(fun u=>Blk u g t (bnV R).toArray) w1:=hi0 false rfl
     try dsimp only at hI1
     clear hi0;have f10:vals 10=_:=hf 10 rfl
     try dsimp only at f10
     clear hf;have d0:=hI1.cell k;rw [HKA.out] at d0;simp only [sP,f10] at hE ⊢;clear f10;go_wp2;exact .mk (hE _ _ rfl hC1 rfl)
    ·refine qaa [(0,some 14),(1,some 15),(0,some 14),(1,some 15),(4,some 18),(5,some 19),(6,some 20),(7,some 21),(11,some 25)] (fun _=>rfl) rfl ?_;intro w1 vals hC1 hi0 hf E hE;have hI1:(fun u=>Blk u g t (bnV R).toArray) w1:=hi0 false rfl
     try dsimp only at hI1
     clear hi0;have f0:vals 0=_:=hf 0 rfl;have f1:vals 1=_:=hf 1 rfl;have f4:vals 4=_:=hf 4 rfl;have f5:vals 5=_:=hf 5 rfl;have f6:vals 6=_:=hf 6 rfl;have f7:vals 7=_:=hf 7 rfl;have f11:vals 11=_:=hf 11 rfl
     try dsimp only at f0 f1 f4 f5 f6 f7 f11
     clear hf;simp only [sP,f0,f1,f4,f5,f6,f7,f11] at hE ⊢;clear f0 f1 f4 f5 f6 f7 f11;go_wp2;exact .mk (hE _ _ rfl hC1 rfl)
    ·refine qaa [(12,some 26),(7,some 21),(0,some 14),(1,some 15),(4,some 18),(5,some 19),(6,some 20),(7,some 21),(11,some 25)] (fun _=>rfl) rfl ?_;intro w1 vals hC1 hi0 hf E hE;have hI1:(fun u=>Blk u g t (bnV R).toArray) w1:=hi0 false rfl
     try dsimp only at hI1
     clear hi0;have f0:vals 0=_:=hf 0 rfl;have f1:vals 1=_:=hf 1 rfl;have f4:vals 4=_:=hf 4 rfl;have f5:vals 5=_:=hf 5 rfl;have f6:vals 6=_:=hf 6 rfl;have f7:vals 7=_:=hf 7 rfl;have f11:vals 11=_:=hf 11 rfl;have f12:vals 12=_:=hf 12 rfl
     try dsimp only at f0 f1 f4 f5 f6 f7 f11 f12
     clear hf;simp only [sP,f0,f1,f4,f5,f6,f7,f11,f12] at hE ⊢;clear f0 f1 f4 f5 f6 f7 f11 f12;refine qao (i:=k) (v:=.int .u8 (b:Int)) hI1 rfl rfl rfl rfl qbz (by rw [qbI,HRL.out]; have:=HK.out; omega) rfl ?_;intro w2 hb2 hw2;rw [qbf] at hb2;go_wp2_with fail;exact .mk (hE undef _ hb2 (hC1.trans hw2) trivial)
    ·refine qaa [(2,some 16),(3,some 17),(0,some 14),(1,some 15),(2,some 16),(3,some 17),(4,some 18),(5,some 19),(6,some 20),(7,some 21),(8,some 22),(9,some 23),(10,some 24),(11,some 25),(12,some 26),(13,none)] (fun _=>rfl) rfl ?_;intro w1 vals hC1 hi0 hf E hE;clear hi0;have f0:vals 0=_:=hf 0 rfl;have f1:vals 1=_:=hf 1 rfl;have f2:vals 2=_:=hf 2 rfl;have f3:vals 3=_:=hf 3 rfl;have f4:vals 4=_:=hf 4 rfl;have f5:vals 5=_:=hf 5 rfl;have f6:vals 6=_:=hf 6 rfl;have f7:vals 7=_:=hf 7 rfl;have f8:vals 8=_:=hf 8 rfl;have f9:vals 9=_:=hf 9 rfl;have f10:vals 10=_:=hf 10 rfl;have f11:vals 11=_:=hf 11 rfl;have f12:vals 12=_:=hf 12 rfl;have f13:(fun z u=>Blk u g t (bnV (R.set k b)).toArray) vals w1:=hf 13 rfl
     try dsimp only at f0 f1 f2 f3 f4 f5 f6 f7 f8 f9 f10 f11 f12 f13
     clear hf;simp only [sP,f0,f1,f2,f3,f4,f5,f6,f7,f8,f9,f10,f11,f12] at hE ⊢;clear f0 f1 f2 f3 f4 f5 f6 f7 f8 f9 f10 f11 f12;go_wp2;exact .mk (hE _ _ rfl hC1 rfl)
    ·refine qaa [(14,some 27),(11,some 25),(13,none),(0,some 14),(1,some 15),(2,some 16),(3,some 17),(4,some 18),(5,some 19),(6,some 20),(7,some 21),(8,some 22),(9,some 23),(10,some 24),(11,some 25),(12,some 26),(13,none)] (fun _=>rfl) rfl ?_;intro w1 vals hC1 hi0 hf E hE;clear hi0;have f0:vals 0=_:=hf 0 rfl;have f1:vals 1=_:=hf 1 rfl;have f2:vals 2=_:=hf 2 rfl;have f3:vals 3=_:=hf 3 rfl;have f4:vals 4=_:=hf 4 rfl;have f5:vals 5=_:=hf 5 rfl;have f6:vals 6=_:=hf 6 rfl;have f7:vals 7=_:=hf 7 rfl;have f8:vals 8=_:=hf 8 rfl;have f9:vals 9=_:=hf 9 rfl;have f10:vals 10=_:=hf 10 rfl;have f11:vals 11=_:=hf 11 rfl;have f12:vals 12=_:=hf 12 rfl;have f13:(fun z u=>Blk u g t (bnV (R.set k b)).toArray) vals w1:=hf 13 rfl;have f14:vals 14=_:=hf 14 rfl
     try dsimp only at f0 f1 f2 f3 f4 f5 f6 f7 f8 f9 f10 f11 f12 f13 f14
     clear hf;simp only [sP,f0,f1,f2,f3,f4,f5,f6,f7,f8,f9,f10,f11,f12,f14] at hE ⊢;clear f0 f1 f2 f3 f4 f5 f6 f7 f8 f9 f10 f11 f12 f14;refine qao (i:=m) (v:=.int .u8 (a:Int)) f13 rfl rfl rfl rfl qbz (by rw [qbI,List.length_set,HRL.out]; have:=HM.out; omega) rfl ?_;intro w2 hb2 hw2;rw [qbf] at hb2;go_wp2_with fail;exact .mk (hE undef _ hb2 (hC1.trans hw2) trivial)
   intro w1 vals hC1 hf;have f0:vals 0=_:=hf 0 (by decide) rfl;have f1:vals 1=_:=hf 1 (by decide) rfl;have f2:vals 2=_:=hf 2 (by decide) rfl;have f3:vals 3=_:=hf 3 (by decide) rfl;have f4:vals 4=_:=hf 4 (by decide) rfl;have f5:vals 5=_:=hf 5 (by decide) rfl;have f6:vals 6=_:=hf 6 (by decide) rfl;have f7:vals 7=_:=hf 7 (by decide) rfl;have f8:vals 8=_:=hf 8 (by decide) rfl;have f9:vals 9=_:=hf 9 (by decide) rfl;have f10:vals 10=_:=hf 10 (by decide) rfl;have f11:vals 11=_:=hf 11 (by decide) rfl;have f12:vals 12=_:=hf 12 (by decide) rfl;have f14:vals 14=_:=hf 14 (by decide) rfl;have f15:(fun z u=>Blk u g t (bnV ((R.set k b).set m a)).toArray) vals w1:=hf 15 (by decide) rfl
   try dsimp only at f0 f1 f2 f3 f4 f5 f6 f7 f8 f9 f10 f11 f12 f14 f15
   clear hf;simp only [sP,f0,f1,f2,f3,f4,f5,f6,f7,f8,f9,f10,f11,f12,f14];clear f0 f1 f2 f3 f4 f5 f6 f7 f8 f9 f10 f11 f12 f14;rw [← HNEXT.out] at f15;have HF:=zY f15;have HC1:=zY hC1;clear hC1 f15 HC0 HI0;have hm1:(m:Int) - 1=31 - ((k+1:Nat):Int):=by have:=HM.out; have:=HK.out; omega
   have HM1:=zY hm1;clear hm1;go_wp2_with fail;exact ⟨⟨k+1,HK.out,by go_num,by rw [HM1.out],HF.out,HWR.out.trans HC1.out⟩,by have:=HK.out; simp [intOf]; omega⟩
  ·obtain rfl:k=16:=by omega
   have HF:=zY hblk;have HWR:=zY hwr;clear hblk hwr hlt hk;go_wp2_with fail;refine bodyPost_end (results_none rfl _ _ _) rfl ?_;exact ⟨⟨_,rfl⟩,HF.out,HWR.out⟩
def toB (l:List Nat):List UInt8:=l.map UInt8.ofNat
theorem toB_v {l:List Nat} (h:Dg l):bytesV (toB l)=bnV l:=by rw [← qcH,toB,qbR l h]
def knownE (l:List Nat):E5:=readE (toB (revS l 16))
theorem readE_ok (l:List UInt8):(readE l).Ok:=by
 unfold readE
 split
 ·exact ofN_ok _
 ·exact zE_ok
theorem qbr (l:List Nat):(knownE l).Ok:=readE_ok _
theorem qcb (l:List Nat) (hd:Dg l) (hl:l.length=32) (w:World):Calls Tryd.prog 51 #[.agg (bnV l).toArray] w (ElemPost (knownE l) w):=by
 have hu:=Tryd.underlying46;obtain ⟨w0,hw0⟩:=eX ((w.alloc (.cells (bnV l).toArray 81)).alloc (.cells (eV zE) 46));obtain ⟨R,hR⟩:=eX (revS l 16);have hRl:R.length=32:=by rw [hR,qb2]; exact hl
 have hbg:Blk w0 w.heap.size 81 (bnV l).toArray:=by rw [hw0]; exact (Blk.new _ _ _).alloc _
 have hbr:Blk w0 (w.heap.size+1) 46 (eV zE):=by rw [hw0]; exact Blk.newAt (by simp)
 have hbel:Below w.heap.size w w0:=by rw [hw0]; exact (below_new _ _).alloc (by simp) _
 have hrev:=reverse_any l hl w.heap.size 81 32 w0 hbg;rw [← hR] at hrev
 have hread:∀ u g,Blk u g 81 (bnV R).toArray→Calls Tryd.prog 38 #[.slice (some ⟨g,0,none⟩) 32 32] u (ReadPost (toB R) u):=fun u g hb=>by
  have hv:bytesV (toB R)=bnV R:=toB_v (by rw [hR]; exact revS_dg hd 16);have hlen:(toB R).length=32:=by rw [toB,List.length_map,hRl]
  have h:=read_any (toB R) (some ⟨g,0,none⟩) 32 u (by rw [hv]; exact Rd.of_blk hb hb.lt) (by rw [hlen]; exact Nat.le_refl _) (by rw [hlen]; decide);rw [hlen] at h; exact h
 have HW:=zY hw0;have HREV:=zY hrev;have HREAD:=zY hread;have HBR:=zY hbr;have HBEL:=zY hbel;have HR:=zY hR;have hne:w.heap.size+1≠w.heap.size:=by omega
 have HNE:=zY hne;have HLR:=zY (show w.heap.size≤w.heap.size+1 by omega);clear hw0 hRl hbg hbr hbel hrev hread hR hd hl hne;generalize hcs:(bnV l).toArray=cs at *;go_enter Tryd.func51,Tryd.ntmps51;go_wp2_with fail;show Calls _ _ _ ((w.alloc (.cells cs _)).alloc (.cells (eV zE) _)) _;rw [← HW.out];generalize w.heap.size+1=r at *;generalize hgg:w.heap.size=g at *;have HG:=zY hgg;clear hgg HW;refine qab HREV.out ?_;rintro e w1 ⟨⟨v,rfl⟩,hb1,hw1⟩;have HB1:=zY hb1;have HBR1:=zY (hw1.blk HBR.out HNE.out);have HBEL1:=zY (hw1.below HBEL.out (Nat.le_refl _) (by have h:=HBEL.out; rw [← HG.out] at h ⊢; exact h.size));clear hb1 hw1 HBR HBEL HREV;go_wp2_with fail;refine qab (HREAD.out w1 g HB1.out) ?_;rintro e w2 ⟨rfl,hb2⟩;have HGS:Hid (g≤w1.heap.size):=zY (by have h:=HBEL1.out; rw [← HG.out] at h ⊢; exact h.size);have HBEL2:=zY (HBEL1.out.trans (hb2.mono HGS.out));have HBR2:=zY (HBR1.out.below hb2 HBR1.out.lt);clear hb2 HBEL1 HBR1
 go_wp2_with (first
  | (refine qae (x:=.tmp 4) (cells:=eV (readE (toB R))) (Blk.new _ _ _) rfl rfl rfl rfl qad rfl (by simp [eV,wV,limbs,Value.oneCell']) ?_; intro w3 hb3 hw3; have HB3:=zY hb3; have HBR3:=zY (HBR2.out.below (qaW hw3) HBR2.out.lt); have HBEL3:=zY (HBEL2.out.trans ((qaW hw3).mono (by have h:=HBEL2.out; rw [← HG.out] at h ⊢; exact h.size))); clear hb3 hw3)
  | (refine qac (x:=.tmp 4) HB3.out rfl rfl rfl hu rfl qad ?_)
  | (refine qae (x:=.tmp 2) (cells:=eV (readE (toB R))) HBR3.out rfl rfl rfl rfl qad rfl (by simp [eV,wV,limbs,Value.oneCell']) ?_; intro w4 hb4 hw4; have HB4:=zY hb4; have HW4:=zY hw4; clear hb4 hw4))
 refine bodyPost_ret (qap (P:=Tryd.prog) rfl rfl HB4.out hu rfl qad) rfl ⟨by rw [knownE,← HR.out],?_⟩;rw [HG.out];exact HW4.out.below HBEL3.out HLR.out (by have h:=HBEL3.out; rw [← HG.out] at h ⊢; exact h.size)
def dL:List Nat:=[82,3,108,238,43,111,254,115,140,199,64,121,119,121,232,152,0,112,10,77,65,65,216,171,117,235,77,202,19,89,120,163]
def turnL:List Nat:=[43,131,36,128,79,193,223,11,43,77,0,153,61,251,215,167,47,67,24,6,173,47,228,120,196,238,27,39,74,14,160,176]
def bxL:List Nat:=[33,105,54,211,205,110,83,254,192,164,226,49,253,214,220,92,105,44,199,96,149,37,167,178,201,86,45,96,143,37,213,26]
def byL:List Nat:=List.replicate 31 102++[88]
def dE:E5:=knownE dL
def turnE:E5:=knownE turnL
theorem dE_ok:dE.Ok:=qbr _
theorem turnE_ok:turnE.Ok:=qbr _
theorem d_known (u:World):Calls Tryd.prog 51 #[.agg (bnV dL).toArray] u (ElemPost dE u):=qcb dL (by unfold Dg; decide) rfl u
theorem turn_known (u:World):Calls Tryd.prog 51 #[.agg (bnV turnL).toArray] u (ElemPost turnE u):=qcb turnL (by unfold Dg; decide) rfl u
theorem bx_known (u:World):Calls Tryd.prog 51 #[.agg (bnV bxL).toArray] u (ElemPost (knownE bxL) u):=qcb bxL (by unfold Dg; decide) rfl u
theorem by_known (u:World):Calls Tryd.prog 51 #[.agg (bnV byL).toArray] u (ElemPost (knownE byL) u):=qcb byL (by unfold Dg; decide) rfl u
theorem d_any (w:World):Calls Tryd.prog 43 #[] w (ElemPost dE w):=by
 have hu:=Tryd.underlying46;have HK:=zY d_known;have hbr:Blk (w.alloc (.cells (eV zE) 46)) w.heap.size 46 (eV zE):=Blk.new _ _ _;have hbel:Below w.heap.size w (w.alloc (.cells (eV zE) 46)):=below_new _ _;have HBR:=zY hbr;have HBEL:=zY hbel;clear hbr hbel;generalize dE=X at *;go_enter Tryd.func43,Tryd.ntmps43;go_wp2_with fail;refine qab (HK.out _) ?_;rintro e w2 ⟨rfl,hb2⟩;have HBR2:=zY (HBR.out.below hb2 HBR.out.lt);have HBEL2:=zY (HBEL.out.trans (hb2.mono (by simp)));clear hb2 HBR HBEL;go_wp2_with (refine qae (x:=.tmp 0) (cells:=eV X) HBR2.out rfl rfl rfl rfl qad rfl (by simp [eV,wV,limbs,Value.oneCell']) ?_; intro w4 hb4 hw4; have HB4:=zY hb4; have HW4:=zY hw4; clear hb4 hw4);refine bodyPost_ret (qap (P:=Tryd.prog) rfl rfl HB4.out hu rfl qad) rfl ⟨rfl,HW4.out.below HBEL2.out (Nat.le_refl _) HBEL2.out.size⟩
theorem turn_any (w:World):Calls Tryd.prog 64 #[] w (ElemPost turnE w):=by
 have hu:=Tryd.underlying46;have HK:=zY turn_known;have hbr:Blk (w.alloc (.cells (eV zE) 46)) w.heap.size 46 (eV zE):=Blk.new _ _ _;have hbel:Below w.heap.size w (w.alloc (.cells (eV zE) 46)):=below_new _ _;have HBR:=zY hbr;have HBEL:=zY hbel;clear hbr hbel;generalize turnE=X at *;go_enter Tryd.func64,Tryd.ntmps64;go_wp2_with fail;refine qab (HK.out _) ?_;rintro e w2 ⟨rfl,hb2⟩;have HBR2:=zY (HBR.out.below hb2 HBR.out.lt);have HBEL2:=zY (HBEL.out.trans (hb2.mono (by simp)));clear hb2 HBR HBEL;go_wp2_with (refine qae (x:=.tmp 0) (cells:=eV X) HBR2.out rfl rfl rfl rfl qad rfl (by simp [eV,wV,limbs,Value.oneCell']) ?_; intro w4 hb4 hw4; have HB4:=zY hb4; have HW4:=zY hw4; clear hb4 hw4);refine bodyPost_ret (qap (P:=Tryd.prog) rfl rfl HB4.out hu rfl qad) rfl ⟨rfl,HW4.out.below HBEL2.out (Nat.le_refl _) HBEL2.out.size⟩
def zeroP:Pt4:=ofP (intE 0) (intE 1)
theorem int0_ok:(intE 0).Ok:=intE_ok (by decide) (by decide)
theorem zeroP_ok:zeroP.Ok:=ofP_ok int0_ok qcV
theorem zero_any (w:World):Calls Tryd.prog 52 #[] w (PtPost zeroP w):=by
 have hp:=Tryd.underlying48;have H0:=zY int0_c;have H1:=zY int1_c;have HO:=zY (fun u=>pof_any (intE 0) (intE 1) int0_ok qcV u);have hbr:Blk (w.alloc (.cells (ptV zP) 48)) w.heap.size 48 (ptV zP):=Blk.new _ _ _;have hbel:Below w.heap.size w (w.alloc (.cells (ptV zP) 48)):=below_new _ _;have HBR:=zY hbr;have HBEL:=zY hbel;clear hbr hbel;have HZ:Hid (zeroP=ofP (intE 0) (intE 1)):=zY rfl;generalize ofP (intE 0) (intE 1)=X at *;generalize intE 0=I0 at *;generalize intE 1=I1 at *;go_enter Tryd.func52,Tryd.ntmps52;go_wp2_with fail;refine qab (H0.out _) ?_;rintro e w1 ⟨rfl,hb1⟩;have HBR1:=zY (HBR.out.below hb1 HBR.out.lt);have HBEL1:=zY (HBEL.out.trans (hb1.mono (by simp)));clear hb1 HBR HBEL;go_wp2_with fail;refine qab (H1.out _) ?_;rintro e w2 ⟨rfl,hb2⟩;have HBR2:=zY (HBR1.out.below hb2 HBR1.out.lt);have HBEL2:=zY (HBEL1.out.trans (hb2.mono HBEL1.out.size));clear hb2 HBR1 HBEL1;go_wp2_with fail;refine qab (HO.out _) ?_;rintro e w3 ⟨rfl,hb3⟩;have HBR3:=zY (HBR2.out.below hb3 HBR2.out.lt);have HBEL3:=zY (HBEL2.out.trans (hb3.mono HBEL2.out.size));clear hb3 HBR2 HBEL2;go_wp2_with (refine qae (x:=.tmp 0) (cells:=ptV X) HBR3.out rfl rfl rfl rfl qai rfl (by simp [ptV,wV,limbs,Value.oneCell']) ?_; intro w4 hb4 hw4; have HB4:=zY hb4; have HW4:=zY hw4; clear hb4 hw4);refine bodyPost_ret (qap (P:=Tryd.prog) rfl rfl HB4.out hp rfl qai) rfl ⟨by rw [HZ.out],HW4.out.below HBEL3.out (Nat.le_refl _) HBEL3.out.size⟩
theorem d2_ok:(addE dE dE).Ok:=qaT dE_ok dE_ok
def addP (p q:Pt4):Pt4:=sumP p q (addE dE dE)
theorem addP_ok {p q:Pt4} (hp:p.Ok) (hq:q.Ok):(addP p q).Ok:=qcj hp hq d2_ok
theorem padd_any (p q:Pt4) (w:World) (hkp:p.Ok) (hkq:q.Ok):Calls Tryd.prog 25 #[.agg (ptV p),.agg (ptV q)] w (PtPost (addP p q) w):=by
 have hu:=Tryd.underlying46;have hp:=Tryd.underlying48;have KP:=zY hkp;have KQ:=zY hkq;obtain ⟨X,hX⟩:=eX dE;have hadd:addP p q=sumP p q (addE X X):=by rw [hX]; rfl
 have CD:=zY (show ∀ u,Calls Tryd.prog 43 #[] u (ElemPost X u) from fun u=>by rw [hX]; exact d_any u);have KX:=zY (show X.Ok by rw [hX]; exact dE_ok);rw [hadd];clear hX hadd;obtain ⟨w0,hw0⟩:=eX ((((w.alloc (.cells (ptV p) 48)).alloc (.cells (ptV q) 48)).alloc (.cells (ptV zP) 48)))
 have hst:Cs [.box (w.heap.size) 48 (ptV p),.box (w.heap.size+1) 48 (ptV q),.box (w.heap.size+1+1) 48 (ptV zP)] w w0:=by
  rw [hw0];exact ⟨⟨(((Blk.new _ _ _).alloc _).alloc _),((Blk.newAt (by simp)).alloc _),(Blk.newAt (by simp)),trivial⟩,(((below_new _ _).alloc (by simp; try omega) _).alloc (by simp; try omega) _)⟩
 have HLR:=zY (show w.heap.size≤w.heap.size+1+1 by omega);have HW:=zY hw0;have HST0:=zY hst;clear hw0 hst hkp hkq;go_enter Tryd.func25,Tryd.ntmps25;go_wp2_with fail;show Code.wp Tryd.prog _ _ _ (((w.alloc (.cells (ptV p) _)).alloc (.cells (ptV q) _)).alloc (.cells (ptV zP) _));rw [← HW.out];generalize w.heap.size+1+1=r at *;generalize w.heap.size+1=gq at *;generalize hgp:w.heap.size=gp at HST0 ⊢;clear HW hgp;have HC0:=HST0.out.drew;clear HST0;refine qaj (fun u=>Cs [.box gp 48 (ptV p),.box gq 48 (ptV q),.box r 48 (ptV zP)] w u) (fun u=>Blk u r 48 (ptV (sumP (p) (q) (addE (X) (X))))∧Below w.heap.size w u) [(0,some 5),(1,some 6),(2,some 7),(3,some 8),(4,some 9),(5,some 10),(6,none)] (by kernel_rfl) (by kernel_rfl) (by decide) (by kernel_rfl) (fun _=>rfl) HC0 ?_;apply yN_
 ·apply dP [];exact fun _=>rfl;rfl;rintro vals - w1 hC1 E hE;have hs:=hC1;simp only [sP] at hE ⊢;refine qac (hs.1.1) rfl rfl rfl hp rfl qai ?_;go_wp2_with fail;exact .mk (hE _ hC1)
 apply yN_
 ·apply dP [];exact fun _=>rfl;rfl;rintro vals ⟨-,-⟩ w1 hC1 E hE;have hs:=hC1;simp only [sP] at hE ⊢;refine qac (hs.1.2.1) rfl rfl rfl hp rfl qai ?_;go_wp2_with fail;exact .mk (hE _ hC1)
 apply yN_
 ·apply dP [];exact fun _=>rfl;rfl;intro vals vq w1 hC1 E hE;clear vq;simp only [sP] at hE ⊢;go_wp2_with fail;refine qab (CD.out _) ?_;rintro e w2 ⟨rfl,hb2⟩;go_wp2_with fail;exact .mk (hE _ (hC1.next hb2))
 apply yN_
 ·apply dP [(2,some 7)];exact fun _=>rfl;rfl;intro vals vq w1 hC1 E hE;simp only [sP,vq] at hE ⊢;clear vq;go_wp2_with fail;refine qab (CD.out _) ?_;rintro e w2 ⟨rfl,hb2⟩;go_wp2_with fail;exact .mk (hE _ (hC1.next hb2))
 apply yN_
 ·apply dP [(2,some 7),(3,some 8),(3,some 8)];exact fun _=>rfl;rfl;intro vals vq w1 hC1 E hE;simp only [sP,vq] at hE ⊢;clear vq;go_wp2_with fail;refine qab (add_c _ _ _ (KX.out) (KX.out)) ?_;rintro e w2 ⟨rfl,hb2⟩;go_wp2_with fail;exact .mk (hE _ (hC1.next hb2))
 apply yN_
 ·apply dP [(0,some 5),(1,some 6),(4,some 9),(4,some 9)];exact fun _=>rfl;rfl;intro vals vq w1 hC1 E hE;simp only [sP,vq] at hE ⊢;clear vq;go_wp2_with fail;refine qab (sum_any _ _ _ _ (KP.out) (KQ.out) (qaT (KX.out) (KX.out))) ?_;rintro e w2 ⟨rfl,hb2⟩;go_wp2_with fail;exact .mk (hE _ (hC1.next hb2))
 apply yL_ (v:=undef)
 ·apply dP [(5,some 10),(5,some 10),(0,some 5),(1,some 6),(2,some 7),(3,some 8),(4,some 9),(5,some 10)];exact fun _=>rfl;rfl;intro vals vq w1 hC1 E hE;have hlr:=HLR.out;simp only [sP,vq] at hE ⊢;clear vq;refine qae (cells:=ptV (sumP (p) (q) (addE (X) (X)))) (hC1.1.2.2.1) rfl rfl rfl rfl qai rfl (by simp [eV,ptV,wV,limbs,Value.oneCell']) ?_;intro w6 hb6 hw6;go_wp2_with fail;exact .mk (hE _ ⟨hb6,hw6.below hC1.2 hlr hC1.2.size⟩)
 intro vals vq w1 hC1;simp only [sP,vq];clear vq;clear HC0;go_wp2_with fail;refine bodyPost_ret (qap (P:=Tryd.prog) rfl rfl hC1.1 hp rfl qai) rfl ⟨rfl,hC1.2⟩
theorem pneg_any (p:Pt4) (w:World) (hkp:p.Ok):Calls Tryd.prog 26 #[.agg (ptV p)] w (PtPost (negP p) w):=by
 have hu:=Tryd.underlying46;have hp:=Tryd.underlying48;have KP:=zY hkp;obtain ⟨w0,hw0⟩:=eX (((w.alloc (.cells (ptV p) 48)).alloc (.cells (ptV zP) 48)))
 have hst:Cs [.box (w.heap.size) 48 (ptV p),.box (w.heap.size+1) 48 (ptV zP)] w w0:=by
  rw [hw0];exact ⟨⟨((Blk.new _ _ _).alloc _),(Blk.newAt (by simp)),trivial⟩,((below_new _ _).alloc (by simp; try omega) _)⟩
 have HLR:=zY (show w.heap.size≤w.heap.size+1 by omega);have HW:=zY hw0;have HST0:=zY hst;clear hw0 hst hkp;go_enter Tryd.func26,Tryd.ntmps26;go_wp2_with fail;show Code.wp Tryd.prog _ _ _ ((w.alloc (.cells (ptV p) _)).alloc (.cells (ptV zP) _));rw [← HW.out];generalize w.heap.size+1=r at *;generalize hgp:w.heap.size=gp at HST0 ⊢;clear HW hgp;have HC0:=HST0.out.drew;clear HST0;refine qaj (fun u=>Cs [.box gp 48 (ptV p),.box r 48 (ptV zP)] w u) (fun u=>Blk u r 48 (ptV (⟨subE (zE) (p.x),p.y,p.z,subE (zE) (p.t)⟩))∧Below w.heap.size w u) [(0,some 3),(1,some 4),(2,some 5),(3,some 6),(4,some 7),(5,some 8),(6,some 9),(7,some 10),(8,some 11),(9,some 12),(10,some 13),(11,some 14),(12,some 15),(13,none)] (by kernel_rfl) (by kernel_rfl) (by decide) (by kernel_rfl) (fun _=>rfl) HC0 ?_;apply yN_
 ·apply dP [];exact fun _=>rfl;rfl;rintro vals - w1 hC1 E hE;simp only [sP] at hE ⊢;go_wp2;exact .mk (hE _ hC1)
 apply yN_
 ·apply dP [];exact fun _=>rfl;rfl;rintro vals ⟨-,-⟩ w1 hC1 E hE;simp only [sP] at hE ⊢;go_wp2;exact .mk (hE _ hC1)
 apply yN_
 ·apply dP [(1,some 4)];exact fun _=>rfl;rfl;intro vals vq w1 hC1 E hE;have hs:=hC1;simp only [sP,vq] at hE ⊢;clear vq;refine qah (n:=5) (r:=eV (p.x)) (hs.1.1) (by rw [qaG]; decide) rfl rfl rfl rfl hu rfl qad ?_;go_wp2_with fail;exact .mk (hE _ hC1)
 apply yN_
 ·apply dP [(0,some 3),(2,some 5)];exact fun _=>rfl;rfl;intro vals vq w1 hC1 E hE;simp only [sP,vq] at hE ⊢;clear vq;go_wp2_with fail;refine qab (sub_z _ (KP.out.x) _) ?_;rintro e w2 ⟨rfl,hb2⟩;go_wp2_with fail;exact .mk (hE _ (hC1.next hb2))
 apply yN_
 ·apply dP [];exact fun _=>rfl;rfl;intro vals vq w1 hC1 E hE;clear vq;simp only [sP] at hE ⊢;go_wp2;exact .mk (hE _ hC1)
 apply yN_
 ·apply dP [(4,some 7)];exact fun _=>rfl;rfl;intro vals vq w1 hC1 E hE;have hs:=hC1;simp only [sP,vq] at hE ⊢;clear vq;refine qah (n:=5) (r:=eV (p.y)) (hs.1.1) (by rw [qaG]; decide) rfl rfl rfl rfl hu rfl qad ?_;go_wp2_with fail;exact .mk (hE _ hC1)
 apply yN_
 ·apply dP [];exact fun _=>rfl;rfl;intro vals vq w1 hC1 E hE;clear vq;simp only [sP] at hE ⊢;go_wp2;exact .mk (hE _ hC1)
 apply yN_
 ·apply dP [(6,some 9)];exact fun _=>rfl;rfl;intro vals vq w1 hC1 E hE;have hs:=hC1;simp only [sP,vq] at hE ⊢;clear vq;refine qah (n:=5) (r:=eV (p.z)) (hs.1.1) (by rw [qaG]; decide) rfl rfl rfl rfl hu rfl qad ?_;go_wp2_with fail;exact .mk (hE _ hC1)
 apply yN_
 ·apply dP [];exact fun _=>rfl;rfl;intro vals vq w1 hC1 E hE;clear vq;simp only [sP] at hE ⊢;go_wp2;exact .mk (hE _ hC1)
 apply yN_
 ·apply dP [];exact fun _=>rfl;rfl;intro vals vq w1 hC1 E hE;clear vq;simp only [sP] at hE ⊢;go_wp2;exact .mk (hE _ hC1)
 apply yN_
 ·apply dP [(9,some 12)];exact fun _=>rfl;rfl;intro vals vq w1 hC1 E hE;have hs:=hC1;simp only [sP,vq] at hE ⊢;clear vq;refine qah (n:=5) (r:=eV (p.t)) (hs.1.1) (by rw [qaG]; decide) rfl rfl rfl rfl hu rfl qad ?_;go_wp2_with fail;exact .mk (hE _ hC1)
 apply yN_
 ·apply dP [(8,some 11),(10,some 13),(3,some 6)];exact fun _=>rfl;rfl;intro vals vq w1 hC1 E hE;simp only [sP,vq] at hE ⊢;clear vq;go_wp2_with fail;refine qab (sub_z _ (KP.out.t) _) ?_;rintro e w2 ⟨rfl,hb2⟩;go_wp2_with fail;exact .mk (hE _ (hC1.next hb2))
 apply yN_
 ·apply dP [(3,some 6),(5,some 8),(7,some 10),(11,some 14)];exact fun _=>rfl;rfl;intro vals vq w1 hC1 E hE;simp only [sP,vq] at hE ⊢;clear vq;refine qbi (subE (zE) (p.x)) (p.y) (p.z) (subE (zE) (p.t)) rfl rfl rfl rfl rfl rfl ?_;go_wp2_with fail;exact .mk (hE _ hC1)
 apply yL_ (v:=undef)
 ·apply dP [(12,some 15),(11,some 14),(0,some 3),(1,some 4),(2,some 5),(3,some 6),(4,some 7),(5,some 8),(6,some 9),(7,some 10),(8,some 11),(9,some 12),(10,some 13),(11,some 14),(12,some 15)];exact fun _=>rfl;rfl;intro vals vq w1 hC1 E hE;have hlr:=HLR.out;simp only [sP,vq] at hE ⊢;clear vq;refine qae (cells:=ptV (⟨subE (zE) (p.x),p.y,p.z,subE (zE) (p.t)⟩)) (hC1.1.2.1) rfl rfl rfl rfl qai rfl (by simp [eV,ptV,wV,limbs,Value.oneCell']) ?_;intro w6 hb6 hw6;go_wp2_with fail;exact .mk (hE _ ⟨hb6,hw6.below hC1.2 hlr hC1.2.size⟩)
 intro vals vq w1 hC1;simp only [sP,vq];clear vq;clear HC0;go_wp2_with fail;refine bodyPost_ret (qap (P:=Tryd.prog) rfl rfl hC1.1 hp rfl qai) rfl ⟨rfl,hC1.2⟩
def pmS (T:E5) (p out:Pt4) (bit:Nat):Pt4:=if bit=1 then sumP (sumP out out T) p T else sumP out out T
def pmB (T:E5) (p out:Pt4) (b:Nat):Nat→Pt4
 | 0=>out
 | j+1=>pmS T p (pmB T p out b j) (b/2^(7 - j)%2)
def pmL (T:E5) (p:Pt4) (l:List Nat):Nat→Pt4
 | 0=>zeroP
 | j+1=>pmB T p (pmL T p l j) (l.getD (l.length - 1 - j) 0) 8
section
variable {T:E5} {p out:Pt4} (hT:T.Ok) (hp:p.Ok)
include hT hp
theorem pmS_ok (ho:out.Ok) (bit:Nat):(pmS T p out bit).Ok:=by
 unfold pmS
 split
 ·exact qcj (qcj ho ho hT) hp hT
 ·exact qcj ho ho hT
theorem pmB_ok (ho:out.Ok) (b:Nat):∀ j,(pmB T p out b j).Ok
 | 0=>ho
 | j+1=>pmS_ok hT hp (pmB_ok ho b j) _
theorem pmL_ok (l:List Nat):∀ j,(pmL T p l j).Ok
 | 0=>zeroP_ok
 | j+1=>pmB_ok hT hp (pmL_ok l j) _ 8
end
def mulP (p:Pt4) (l:List UInt8):Pt4:=pmL (addE dE dE) p (digs (l.take 32)) (min l.length 32)
theorem mulP_ok {p:Pt4} (hp:p.Ok) (l:List UInt8):(mulP p l).Ok:=pmL_ok d2_ok hp _ _
structure PM (w0:World) (g r o ow:Nat) (p cur:Pt4) (T:E5) (u:World):Prop where
 bel:Below w0.heap.size w0 u
 x:Blk u g 48 (ptV p)
 z:Blk u r 48 (ptV zP)
 y:Blk u o 48 (ptV cur)
 t:Blk u ow 46 (eV T)
 lo:w0.heap.size≤o
 lr:w0.heap.size≤r
 go:g≠o
 ro:r≠o
 wo:ow≠o
theorem PM.next {w0 u u':World} {g r o ow:Nat} {p cur:Pt4} {T:E5} (k:PM w0 g r o ow p cur T u) (hb:Below u.heap.size u u'):PM w0 g r o ow p cur T u' :=
 ⟨k.bel.trans (hb.mono k.bel.size),k.x.below hb k.x.lt,k.z.below hb k.z.lt,k.y.below hb k.y.lt,k.t.below hb k.t.lt,k.lo,k.lr,k.go,k.ro,k.wo⟩
theorem PM.put {w0 u u':World} {g r o ow:Nat} {p cur cur':Pt4} {T:E5} (k:PM w0 g r o ow p cur T u) (hw:Wrote o u u') (hb:Blk u' o 48 (ptV cur')):PM w0 g r o ow p cur' T u' :=
 ⟨hw.below k.bel k.lo k.bel.size,hw.blk k.x k.go,hw.blk k.z k.ro,hb,hw.blk k.t k.wo,k.lo,k.lr,k.go,k.ro,k.wo⟩
theorem pmul_any (p:Pt4) (hkp:p.Ok) (l:List UInt8) (A:Option Addr) (c:Nat) (w:World) (hr:Rd w w.heap.size A (bytesV l)) (hc:l.length≤c) :
  Calls Tryd.prog 24 #[.agg (ptV p),.slice A l.length c] w (PtPost (mulP p l) w):=by
 have hu:=Tryd.underlying46;have hp:=Tryd.underlying48;obtain ⟨X,hX⟩:=eX dE;obtain ⟨T,hT⟩:=eX (addE X X);have okX:X.Ok:=by rw [hX]; exact dE_ok
 have okT:T.Ok:=by rw [hT]; exact qaT okX okX
 have CD:=zY (show ∀ u,Calls Tryd.prog 43 #[] u (ElemPost X u) from fun u=>by rw [hX]; exact d_any u);have CA:=zY (show ∀ u,Calls Tryd.prog 44 #[.agg (eV X),.agg (eV X)] u (ElemPost T u) from fun u=>by rw [hT]; exact add_c X X u okX okX);have CS:=zY (show ∀ (a b:Pt4),a.Ok→b.Ok→∀ u,Calls Tryd.prog 53 #[.agg (ptV a),.agg (ptV b),.agg (eV T)] u (PtPost (sumP a b T) u) from fun a b ha hb u=>sum_any a b T u ha hb okT);have hmul:mulP p l=pmL T p (digs (l.take 32)) (min l.length 32):=by rw [hT,hX]; rfl
 obtain ⟨Z,hZ⟩:=eX zeroP;have CZ:=zY (show ∀ u,Calls Tryd.prog 52 #[] u (PtPost Z u) from fun u=>by rw [hZ]; exact zero_any u);obtain ⟨n,hn⟩:=eX (l.length);rw [hmul,← hn];rw [← hn] at hc;obtain ⟨m,hm⟩:=eX (min n 32);have hmin1:(if (32:Int)<(n:Int) then (32:Int) else (n:Int))=(m:Int):=by rw [hm]; split <;> omega
 have hmin2:(if 32<n then (32:Int) else (n:Int))=(m:Int):=by rw [hm]; split <;> omega
 have hm32:(m:Int)≤32:=by omega
 have hmn:(m:Int)≤(n:Int):=by omega
 rw [← hm];generalize hL:digs (l.take 32)=L at *;have hLl:L.length=m:=by rw [← hL,digs,List.length_map,List.length_take,hm,hn,Nat.min_comm]
 have hLat:∀ k,k<m→∀ u,Below w.heap.size w u→∃ ad,A=some ad∧u.cell? (ad.add k)=some (.int .u8 ((L.getD k 0:Nat):Int)):=fun k hk u hb=>by
  have hkl:k<l.length:=by omega
  obtain ⟨ad,h1,_,h3⟩:=(hr.below hb).at_ (k:=k) (by rw [qam]; exact hkl);refine ⟨ad,h1,?_⟩;rw [h3,← hL];have hk32:k<32:=by omega
  simp [bytesV,byteV,digs,List.getD_eq_getElem?_getD,List.getElem?_take,hk32,hkl]
 have hLd:Dg L:=by rw [← hL]; exact qbn _
 have KP:=zY hkp;have OKT:=zY okT;have HLAT:=zY hLat;have HLL:=zY hLl;have HLD:=zY hLd;have HZ:=zY hZ;obtain ⟨w0,hw0⟩:=eX ((w.alloc (.cells (ptV p) 48)).alloc (.cells (ptV zP) 48));have HX0:=zY (show Blk w0 w.heap.size 48 (ptV p) by rw [hw0]; exact (Blk.new _ _ _).alloc _);have HR0:=zY (show Blk w0 (w.heap.size+1) 48 (ptV zP) by rw [hw0]; exact Blk.newAt (by simp));have HB0:=zY (show Below w.heap.size w w0 by rw [hw0]; exact (below_new _ _).alloc (by simp) _);have HLR:=zY (show w.heap.size≤w.heap.size+1 by omega);have HW:=zY hw0;clear hw0 hkp hX hT okX okT hmul hZ hn hm hL hLl hLat hLd hr hc;go_enter Tryd.func24,Tryd.ntmps24;go_wp2_with fail;show Calls _ _ _ ((w.alloc (.cells (ptV p) _)).alloc (.cells (ptV zP) _)) _;rw [← HW.out];generalize w.heap.size+1=r at *;generalize hgg:w.heap.size=g at HX0 ⊢;clear hgg HW;refine qab (CZ.out _) ?_;rintro e w1 ⟨rfl,hb1⟩;have HX1:=zY (HX0.out.below hb1 HX0.out.lt);have HR1:=zY (HR0.out.below hb1 HR0.out.lt);have HB1:=zY (HB0.out.trans (hb1.mono HB0.out.size));clear hb1 HX0 HR0 HB0;go_wp2_with fail;refine qab (CD.out _) ?_;rintro e w2 ⟨rfl,hb2⟩;have HX2:=zY (HX1.out.below hb2 HX1.out.lt);have HR2:=zY (HR1.out.below hb2 HR1.out.lt);have HB2:=zY (HB1.out.trans (hb2.mono HB1.out.size));clear hb2 HX1 HR1 HB1;go_wp2_with fail;refine qab (CD.out _) ?_;rintro e w3 ⟨rfl,hb3⟩;have HX3:=zY (HX2.out.below hb3 HX2.out.lt);have HR3:=zY (HR2.out.below hb3 HR2.out.lt);have HB3:=zY (HB2.out.trans (hb3.mono HB2.out.size));clear hb3 HX2 HR2 HB2;go_wp2_with fail;refine qab (CA.out _) ?_;rintro e w4 ⟨rfl,hb4⟩;have hx4:=HX3.out.below hb4 HX3.out.lt;have hr4:=HR3.out.below hb4 HR3.out.lt;have hb4':=HB3.out.trans (hb4.mono HB3.out.size);clear hb4 HX3 HR3 HB3;obtain ⟨w5,hw5⟩:=eX ((w4.alloc (.cells (ptV zP) 48)).alloc (.cells (eV zE) 46));have hsz5:(w4.alloc (.cells (ptV zP) 48)).heap.size=w4.heap.size+1:=by simp
 have HB5:=zY (show Below w.heap.size w w5 by rw [hw5]; exact (hb4'.alloc hb4'.size _).alloc (by rw [hsz5]; have:=hb4'.size; omega) _);have HX5:=zY (show Blk w5 g 48 (ptV p) by rw [hw5]; exact (hx4.alloc _).alloc _);have HR5:=zY (show Blk w5 r 48 (ptV zP) by rw [hw5]; exact (hr4.alloc _).alloc _);have HY5:=zY (show Blk w5 w4.heap.size 48 (ptV zP) by rw [hw5]; exact (Blk.new _ _ _).alloc _);have HT5:=zY (show Blk w5 (w4.heap.size+1) 46 (eV zE) by rw [hw5]; exact Blk.newAt (by simp));have HGO:=zY (Nat.ne_of_lt hx4.lt);have HRO:=zY (Nat.ne_of_lt hr4.lt);have HLO:=zY hb4'.size;have HW5:=zY hw5;have HWO:=zY (show w4.heap.size+1≠w4.heap.size by omega);have HLW:=zY (show w.heap.size≤w4.heap.size+1 by have:=hb4'.size; omega);have HGW:=zY (show g≠w4.heap.size+1 by have:=hx4.lt; omega);have HRW:=zY (show r≠w4.heap.size+1 by have:=hr4.lt; omega);clear hw5 hx4 hr4 hb4' hsz5
 go_wp2_with (first
  | (refine qae (x:=.tmp 5) (g:=w4.heap.size) (cells:=ptV Z) (old:=ptV zP) (t:=48) ((Blk.new _ _ _).alloc _) rfl rfl rfl rfl qai rfl (by simp [ptV,wV,limbs,Value.oneCell']) ?_; intro w6 hb6 hw6)
  | (refine qae (x:=.tmp 6) (g:=w4.heap.size+1) (cells:=eV T) (old:=eV zE) (t:=46) (hw6.blk (Blk.newAt (by simp)) HWO.out) rfl rfl rfl rfl qad rfl (by simp [eV,wV,limbs,Value.oneCell']) ?_; intro w7 hb7 hw7))
 have hw6':Wrote w4.heap.size w5 w6:=by rw [HW5.out]; exact hw6
 have hst:PM w g r w4.heap.size (w4.heap.size+1) p (pmL T p L 0) T w7:=by
  have h6:=hw6'.below HB5.out HLO.out HB5.out.size;refine ⟨hw7.below h6 HLW.out h6.size,hw7.blk (hw6'.blk HX5.out HGO.out) HGW.out,hw7.blk (hw6'.blk HR5.out HRO.out) HRW.out,?_,hb7,HLO.out,HLR.out,HGO.out,HRO.out,HWO.out⟩;rw [HZ.out] at hb6;exact hw7.blk hb6 (Ne.symm HWO.out)
 have HST:=zY hst;clear hw6' hst hb6 hw6 hb7 hw7 HB5 HX5 HR5 HY5 HT5 HGO HRO HLO HW5 HWO HLW HGW HRW hmin1 hmin2 HZ CZ CD CA HLR;generalize w4.heap.size+1=ow at *;generalize w4.heap.size=o at *;clear w5
 go_loopw [7] (fun i wr=>∃ j:Nat,j≤m∧i=.int .i64 ((m:Int) - 1 - (j:Int))∧PM w g r o ow p (pmL T p L j) T wr) (fun i _=>(intOf i+1).toNat)
 case atStart=>exact ⟨0,Nat.zero_le _,by go_num,HST.out⟩
 case round =>
  clear HST;obtain ⟨j,hj,rfl,hst⟩:=hrel
  by_cases hlt:j<m
  ·obtain ⟨q,hq⟩:∃ q,q+1+j=m:=⟨m - 1 - j,by omega⟩;have hqi:(m:Int) - 1 - (j:Int)=(q:Int):=by omega
   rw [hqi];obtain ⟨cur,hcur⟩:=eX (pmL T p L j);rw [← hcur] at hst;obtain ⟨b,hb⟩:=eX (L.getD q 0);have hst':PM w g r o ow p (pmB T p cur b 0) T wr:=hst;have hcok:cur.Ok:=by rw [hcur]; exact pmL_ok OKT.out KP.out L j
   have hqm:(q:Int)<(m:Int):=by omega
   have HST:=zY hst';have HCUR:=zY hcur;have HCOK:=zY hcok;have HB:=zY hb;have HQ:=zY hq;have HJ:=zY hlt;clear hst hst' hcur hcok hb hqi hq hlt hj;go_wp2_with fail;obtain ⟨wo,rfl⟩:=eX wr
   go_loopw [8] (fun c wr=>∃ k:Nat,k≤8∧c=.int .i64 (7 - (k:Int))∧PM w g r o ow p (pmB T p cur b k) T wr) (fun c _=>(intOf c+1).toNat)
   case atStart=>exact ⟨0,by omega,rfl,HST.out⟩
   case round =>
    clear HST;obtain ⟨k,hk,rfl,hst⟩:=hrel
    by_cases hltk:k<8
    ·obtain ⟨s,hs⟩:∃ s,s+k=7:=⟨7 - k,by omega⟩;have hsi:(7:Int) - (k:Int)=(s:Int):=by omega
     have hs8:(s:Int)<8:=by omega
     have hbit:pmB T p cur b (k+1)=pmS T p (pmB T p cur b k) (b/2^s%2):=by rw [pmB,show 7 - k=s by omega]
     obtain ⟨y,hy⟩:=eX (pmB T p cur b k);have hyok:y.Ok:=by rw [hy]; exact pmB_ok OKT.out KP.out HCOK.out b k
     rw [← hy] at hst hbit;rw [hsi];obtain ⟨ad,rfl,_⟩:=HLAT.out q (by omega) wr hst.bel;have hb256:b<256:=by rw [HB.out]; exact qaV HLD.out q
     obtain ⟨bq,hbq⟩:=eX (b/2^s);have hbqi:(b:Int)/2^s=(bq:Int):=by rw [hbq,qbA]
     have hbql:bq<256:=by rw [hbq]; exact Nat.lt_of_le_of_lt (Nat.div_le_self _ _) hb256
     rw [← hbq] at hbit;have hand:=and8_one bq hbql;obtain ⟨cb,hcb⟩:=eX (bq%2);rw [← hcb] at hbit hand;have hcb2:cb<2:=by omega
     have hcell:∀ u,Below w.heap.size w u→u.cell? (ad.add q)=some (.int .u8 (b:Int)):=fun u hu=>by
      obtain ⟨ad2,h1,h2⟩:=HLAT.out q (by omega) u hu
      injection h1 with h1
      rw [h1,HB.out]; exact h2
     have HCELL:=zY hcell;have HBIT:=zY hbit;have HAND:=zY hand;have HYOK:=zY hyok;have HBQI:=zY hbqi;have HS:=zY hs;have HK:=zY hltk;have HST:=zY hst;have hqn:(q:Int)<(n:Int):=by omega
     clear hcell hbit hand hyok hbqi hs hst hb256 hbq hbql hcb hy hk hsi
     rcases Nat.lt_or_ge cb 1 with hc1 | hc1
     ·have hcc:cb=0:=by omega
      rw [hcc] at HAND HBIT;have hand2:bits .and .u8 ((b:Int)/2^s) 1=0:=by rw [HBQI.out]; exact HAND.out
      clear hcc hcb2 hc1 hltk
      go_wp2_with (first
       | (refine qac (x:=.tmp 5) HST.out.y rfl rfl rfl hp rfl qai ?_)
       | (refine qac (x:=.tmp 6) HST.out.t rfl rfl rfl hu rfl qad ?_))
      refine qab (CS.out y y HYOK.out HYOK.out _) ?_;rintro e w3 ⟨rfl,hb3⟩;have hst3:=HST.out.next hb3;clear HST;go_wp2_with (refine qae (x:=.tmp 5) (cells:=ptV (sumP y y T)) hst3.y rfl rfl rfl rfl qai rfl (by simp [ptV,wV,limbs,Value.oneCell']) ?_; intro w6 hb6 hw6; have hst6:=hst3.put hw6 hb6; have hcell6:=HCELL.out w6 hst6.bel; have HST6:=zY hst6; clear hst3 hst6 hb6 hw6);have hq1:(s:Int) - 1=7 - ((k+1:Nat):Int):=by have:=HS.out; omega
      refine ⟨⟨k+1,by have:=HK.out; omega,by rw [hq1],?_⟩,by simp [intOf]⟩;rw [HBIT.out];exact HST6.out
     ·have hcc:cb=1:=by omega
      rw [hcc] at HAND HBIT;have hand2:bits .and .u8 ((b:Int)/2^s) 1=1:=by rw [HBQI.out]; exact HAND.out
      clear hcc hcb2 hc1 hltk
      go_wp2_with (first
       | (refine qac (x:=.tmp 5) HST.out.y rfl rfl rfl hp rfl qai ?_)
       | (refine qac (x:=.tmp 6) HST.out.t rfl rfl rfl hu rfl qad ?_))
      refine qab (CS.out y y HYOK.out HYOK.out _) ?_;rintro e w3 ⟨rfl,hb3⟩;have hst3:=HST.out.next hb3;clear HST
      go_wp2_with (first
       | (refine qae (x:=.tmp 5) (cells:=ptV (sumP y y T)) hst3.y rfl rfl rfl rfl qai rfl (by simp [ptV,wV,limbs,Value.oneCell']) ?_; intro w6 hb6 hw6; have hst6:=hst3.put hw6 hb6; have hcell6:=HCELL.out w6 hst6.bel; have HST6:=zY hst6; clear hst3 hst6 hb6 hw6)
       | (refine qac (x:=.tmp 5) HST6.out.y rfl rfl rfl hp rfl qai ?_)
       | (refine qac (x:=.tmp 2) HST6.out.x rfl rfl rfl hp rfl qai ?_)
       | (refine qac (x:=.tmp 6) HST6.out.t rfl rfl rfl hu rfl qad ?_))
      refine qab (CS.out (sumP y y T) p (qcj HYOK.out HYOK.out OKT.out) KP.out _) ?_;rintro e w7 ⟨rfl,hb7⟩;have hst7:=HST6.out.next hb7;go_wp2_with (refine qae (x:=.tmp 5) (cells:=ptV (sumP (sumP y y T) p T)) hst7.y rfl rfl rfl rfl qai rfl (by simp [ptV,wV,limbs,Value.oneCell']) ?_; intro w8 hb8 hw8; have hst8:=hst7.put hw8 hb8; have HST8:=zY hst8; clear hst7 hst8 hb8 hw8);have hq1:(s:Int) - 1=7 - ((k+1:Nat):Int):=by have:=HS.out; omega
      refine ⟨⟨k+1,by have:=HK.out; omega,by rw [hq1],?_⟩,by simp [intOf]⟩;rw [HBIT.out];exact HST8.out
    ·obtain rfl:k=8:=by omega
     have hend:pmB T p cur b 8=pmL T p L (j+1):=by
      rw [pmL,← HCUR.out,HB.out,HLL.out,show m - 1 - j=q by have:=HQ.out; omega]
     rw [hend] at hst;have hq1:(q:Int) - 1=(m:Int) - 1 - ((j+1:Nat):Int):=by have:=HQ.out; omega
     have HQ1:=zY hq1;have HST:=zY hst;clear hst hend hq1 hk hltk;go_wp2_with fail;exact ⟨⟨j+1,HJ.out,by rw [HQ1.out],HST.out⟩,by simp [intOf]⟩
  ·obtain rfl:j=m:=by omega
   have hpi:(j:Int) - 1 - (j:Int)=-1:=by omega
   rw [hpi];have HST:=zY hst;clear hst hpi hlt
   go_wp2_with (first
    | (refine qac (x:=.tmp 5) HST.out.y rfl rfl rfl hp rfl qai ?_)
    | (refine qae (x:=.tmp 4) (cells:=ptV (pmL T p L j)) HST.out.z rfl rfl rfl rfl qai rfl (by simp [ptV,wV,limbs,Value.oneCell']) ?_; intro w6 hb6 hw6))
   refine bodyPost_ret (qap (P:=Tryd.prog) rfl rfl hb6 hp rfl qai) rfl ⟨rfl,?_⟩;exact hw6.below HST.out.bel HST.out.lr HST.out.bel.size
def oddP (p:Pt4):Bool:=decide ((mulE p.x (invE p.z)).val%PN%2=1)
def bytP (p:Pt4):List Nat :=
 let l:=byN (leastE (mulE p.y (invE p.z))).val
 if oddP p then l.set 31 (l.getD 31 0 ||| 128) else l
def PbyPost (p:Pt4) (w:World) (e:Ending) (w':World):Prop :=
 ∃ o,e=.returned (.slice (some ⟨o,0,none⟩) 32 32)∧w.heap.size≤o∧Blk w' o 5 (bnV (bytP p)).toArray∧Below w.heap.size w w'
theorem byN_31 (N:Nat):(byN N).getD 31 0<256:=qaV (byN_lt N) 31
theorem pbytes_any (p:Pt4) (hkp:p.Ok) (w:World):Calls Tryd.prog 28 #[.agg (ptV p)] w (PbyPost p w):=by
 have hu:=Tryd.underlying46;have hp:=Tryd.underlying48;obtain ⟨I,hI⟩:=eX (invE p.z);have okI:I.Ok:=by rw [hI]; exact invE_ok hkp.z
 obtain ⟨V,hV⟩:=eX ((leastE (mulE p.y I)).val);obtain ⟨ob,hob⟩:=eX (oddP p);have hres:bytP p=if ob then (byN V).set 31 ((byN V).getD 31 0 ||| 128) else byN V:=by rw [hob,hV,hI]; rfl
 have cI:∀ u,Calls Tryd.prog 54 #[.agg (eV p.z)] u (ElemPost I u):=fun u=>by rw [hI]; exact inv_any p.z hkp.z u
 have cB:∀ u,Calls Tryd.prog 55 #[.agg (eV (mulE p.y I))] u (BytesPost V u):=fun u=>by rw [hV]; exact qc9 _ u (qaq hkp.y okI).big
 have cO:∀ u,Calls Tryd.prog 45 #[.agg (eV (mulE p.x I))] u (BoolPost ob u):=fun u=>by
  have h:=odd_c (mulE p.x I) (qaq hkp.x okI) u;rw [show decide ((mulE p.x I).val%PN%2=1)=ob by rw [hob,hI]; rfl] at h;exact h
 have CI:=zY cI;have CB:=zY cB;have CO:=zY cO;have HRES:=zY hres;have CY:=zY (fun u=>mul_c p.y I u hkp.y okI);have CX:=zY (fun u=>mul_c p.x I u hkp.x okI);have HX0:=zY (Blk.new w 48 (ptV p));have HB0:=zY (below_new w (.cells (ptV p) 48));clear hI okI hV hob hres cI cB cO hkp;go_enter Tryd.func28,Tryd.ntmps28;go_wp2_with (refine qah (x:=.tmp 5) (n:=5) (r:=eV p.z) HX0.out (by rw [qaG]; decide) rfl rfl rfl rfl hu rfl qad ?_);refine qab (CI.out _) ?_;rintro e w1 ⟨rfl,hb1⟩;have HX1:=zY (HX0.out.below hb1 HX0.out.lt);have HB1:=zY (HB0.out.trans (hb1.mono HB0.out.size));clear hb1 HX0 HB0
 go_wp2_with (first
  | (refine qae (x:=.tmp 3) (cells:=eV I) (Blk.new _ _ _) rfl rfl rfl rfl qad rfl (by simp [eV,wV,limbs,Value.oneCell']) ?_; intro w2 hb2 hw2; have hk2:=qaW hw2; have HI2:=zY hb2; have HX2:=zY (HX1.out.below hk2 HX1.out.lt); have HB2:=zY (HB1.out.trans (hk2.mono HB1.out.size)); clear hb2 hw2 hk2 HX1 HB1)
  | (refine qah (x:=.tmp 8) (n:=5) (r:=eV p.y) HX2.out (by rw [qaG]; decide) rfl rfl rfl rfl hu rfl qad ?_)
  | (refine qac (x:=.tmp 3) HI2.out rfl rfl rfl hu rfl qad ?_))
 refine qab (CY.out _) ?_;rintro e w3 ⟨rfl,hb3⟩;have HX3:=zY (HX2.out.below hb3 HX2.out.lt);have HI3:=zY (HI2.out.below hb3 HI2.out.lt);have HB3:=zY (HB2.out.trans (hb3.mono HB2.out.size));clear hb3 HX2 HB2 HI2;generalize w1.heap.size=gi at *;go_wp2_with fail;refine qab (CB.out _) ?_;rintro e w4 ⟨o,rfl,hlo,hblk,hb4⟩;have HX4:=zY (HX3.out.below hb4 HX3.out.lt);have HI4:=zY (HI3.out.below hb4 HI3.out.lt);have HLO:=zY (Nat.le_trans HB3.out.size hlo);have HB4:=zY (HB3.out.trans (hb4.mono HB3.out.size));have HO4:=zY hblk;clear hb4 hlo hblk HX3 HI3 HB3
 go_wp2_with (first
  | (refine qah (x:=.tmp 13) (n:=5) (r:=eV p.x) HX4.out (by rw [qaG]; decide) rfl rfl rfl rfl hu rfl qad ?_)
  | (refine qac (x:=.tmp 3) HI4.out rfl rfl rfl hu rfl qad ?_))
 refine qab (CX.out _) ?_;rintro e w5 ⟨rfl,hb5⟩;have HLO5:=zY HLO.out;have HO5:=zY (HO4.out.below hb5 HO4.out.lt);have HB5:=zY (HB4.out.trans (hb5.mono HB4.out.size));clear hb5 HX4 HI4 HB4 HO4;go_wp2_with fail;refine qab (CO.out _) ?_;rintro e w6 ⟨rfl,hb6⟩;have HO6:=zY (HO5.out.below hb6 HO5.out.lt);have HB6:=zY (HB5.out.trans (hb6.mono HB5.out.size));clear hb6 HB5 HO5;obtain ⟨x,hx⟩:=eX ((byN V).getD 31 0);have hxl:x<256:=by rw [hx]; exact byN_31 V
 have hor:=or8 (a:=x) (b:=128) hxl (by decide);have hc:=bnV_get (l:=byN V) (k:=31) (by rw [qaO]; decide);rw [← hx] at hc;have d0:=HO6.out.cell 31;rw [hc] at d0;have q0:=HO6.out.free 31;rw [← hx] at HRES;obtain ⟨y,hy⟩:=eX (x ||| 128);rw [← hy] at hor HRES;have hor':bits .or .u8 (x:Int) 128=(y:Int):=hor;have hx256:(x:Int)<256:=by omega
 clear hx hxl hc hy hor
 cases ob
 ·go_wp2_with fail;go_ret;refine ⟨o,rfl,HLO5.out,?_,HB6.out⟩;rw [HRES.out];exact HO6.out
 ·go_wp2_with fail;go_ret;have h:=qag (i:=31) HO6.out (.int .u8 (y:Int));rw [qbf] at h;refine ⟨o,rfl,HLO5.out,?_,(qaf _ _ _ _).below HB6.out HLO5.out HB6.out.size⟩;rw [HRES.out];exact h
def baseP:Pt4:=ofP (knownE bxL) (knownE byL)
theorem baseP_ok:baseP.Ok:=ofP_ok (qbr _) (qbr _)
def fillB (k:Nat):List Nat:=List.replicate k 102++List.replicate (32 - k) 0
theorem fillB_set:∀ k,k<32→(fillB k).set k 102=fillB (k+1):=by decide
theorem fillB_len:∀ k,k<33→(fillB k).length=32:=by decide
theorem fillB_end:(fillB 32).set 31 88=byL:=by decide
theorem arr_size:(Tryd.prog.info? 81).map (·.size)=some 32:=by kernel_rfl
theorem arr_size0:(Tryd.prog.info? 81).map (·.size)=some (bnV (fillB 0)).toArray.size:=by rw [qbI]; exact arr_size
theorem fillB_cells:(bnV (fillB 0)).toArray.all (·.oneCell')=true:=by simp [bnV,fillB,Value.oneCell']
structure BM (w0:World) (r gx ga:Nat) (x:E5) (l:List Nat) (u:World):Prop where
 bel:Below w0.heap.size w0 u
 z:Blk u r 48 (ptV zP)
 x:Blk u gx 46 (eV x)
 a:Blk u ga 81 (bnV l).toArray
 la:w0.heap.size≤ga
 lr:w0.heap.size≤r
 ra:r≠ga
 xa:gx≠ga
theorem BM.put {w0 u u':World} {r gx ga:Nat} {x:E5} {l l':List Nat} (k:BM w0 r gx ga x l u) (hw:Wrote ga u u') (hb:Blk u' ga 81 (bnV l').toArray):BM w0 r gx ga x l' u' :=
 ⟨hw.below k.bel k.la k.bel.size,hw.blk k.z k.ra,hw.blk k.x k.xa,hb,k.la,k.lr,k.ra,k.xa⟩
theorem BM.next {w0 u u':World} {r gx ga:Nat} {x:E5} {l:List Nat} (k:BM w0 r gx ga x l u) (hb:Below u.heap.size u u'):BM w0 r gx ga x l u' :=
 ⟨k.bel.trans (hb.mono k.bel.size),k.z.below hb k.z.lt,k.x.below hb k.x.lt,k.a.below hb k.a.lt,k.la,k.lr,k.ra,k.xa⟩
theorem BM.drew {w0 u:World} {r gx ga:Nat} {x:E5} {l:List Nat} (k:BM w0 r gx ga x l u):BM w0 r gx ga x l u.drew:=⟨k.bel.drew,k.z,k.x,k.a,k.la,k.lr,k.ra,k.xa⟩
theorem base_any (w:World):Calls Tryd.prog 23 #[] w (PtPost baseP w):=by
 have hu:=Tryd.underlying46;have hp:=Tryd.underlying48;have hua:=Tryd.underlying81;obtain ⟨X,hX⟩:=eX (knownE bxL);obtain ⟨Y,hY⟩:=eX (knownE byL);have okX:X.Ok:=by rw [hX]; exact qbr _
 have okY:Y.Ok:=by rw [hY]; exact qbr _
 have hbase:baseP=ofP X Y:=by rw [hX,hY]; rfl
 have CX:=zY (show ∀ u,Calls Tryd.prog 51 #[.agg (bnV bxL).toArray] u (ElemPost X u) from fun u=>by rw [hX]; exact bx_known u);have cy:∀ u,Calls Tryd.prog 51 #[.agg (bnV byL).toArray] u (ElemPost Y u):=fun u=>by rw [hY]; exact by_known u
 have hsz:(Tryd.prog.info? 81).map (·.size)=some (bnV byL).toArray.size:=by rw [qbI]; exact arr_size
 have HSZ:=zY hsz;have CY:=zY cy;have CO:=zY (fun u=>pof_any X Y okX okY u);have HBASE:=zY hbase;have HX0:=zY (Blk.new w 48 (ptV zP));have HB0:=zY (below_new w (.cells (ptV zP) 48));clear hX hY okX okY hbase cy hsz;go_enter Tryd.func23,Tryd.ntmps23;go_wp2_with fail;refine qab (CX.out _) ?_;rintro e w1 ⟨rfl,hb1⟩;have HX1:=zY (HX0.out.below hb1 HX0.out.lt);have HB1:=zY (HB0.out.trans (hb1.mono HB0.out.size));clear hb1 HX0 HB0
 go_wp2_with (first
  | (refine qae (x:=.tmp 1) (cells:=eV X) (Blk.new _ _ _) rfl rfl rfl rfl qad rfl (by simp [eV,wV,limbs,Value.oneCell']) ?_; intro w2 hb2 hw2; have hk2:=qaW hw2; have HE2:=zY hb2; have HX2:=zY (HX1.out.below hk2 HX1.out.lt); have HB2:=zY (HB1.out.trans (hk2.mono HB1.out.size)); clear hb2 hw2 hk2 HB1)
  | (refine qae (x:=.tmp 2) (cells:=(bnV (fillB 0)).toArray) (Blk.new _ _ _) rfl rfl rfl rfl arr_size0 rfl fillB_cells ?_; intro w3 hb3 hw3; have hk3:=qaW hw3; have HST:=zY (show BM w w.heap.size w1.heap.size w2.heap.size X (fillB 0) w3 from ⟨HB2.out.trans (hk3.mono HB2.out.size),HX2.out.below hk3 HX2.out.lt,HE2.out.below hk3 HE2.out.lt,hb3,HB2.out.size,Nat.le_refl _,Nat.ne_of_lt HX2.out.lt,Nat.ne_of_lt HE2.out.lt⟩); clear hb3 hw3 hk3 HB2 HX2 HE2))
 generalize w2.heap.size=ga at *;generalize w1.heap.size=gx at *;generalize w.heap.size=r at HST ⊢
 go_loopw [7] (fun i wr=>∃ k:Nat,k≤32∧i=.int .i64 k∧BM w r gx ga X (fillB k) wr) (fun i _=>32 - (intOf i).toNat)
 case atStart=>exact ⟨0,by omega,rfl,HST.out⟩
 case round =>
  clear HST;obtain ⟨k,hk,rfl,hst⟩:=hrel
  by_cases hlt:k<32
  ·have hlt':(k:Int)<32:=by omega
   have HST:=zY hst;clear hst;go_wp2_with (refine qao (x:=.tmp 11) (i:=k) (v:=.int .u8 102) HST.out.a rfl rfl rfl rfl qbz (by rw [qbI,fillB_len k (by omega)]; exact hlt) rfl ?_; intro w5 hb5 hw5; have hst5:=HST.out.put (l':=fillB (k+1)) hw5 (by rw [show (Value.int IntKind.u8 102)=.int .u8 ((102:Nat):Int) from rfl,qbf,fillB_set k hlt] at hb5; exact hb5); have HST5:=zY hst5; clear hst5 hb5 hw5);exact ⟨⟨k+1,by omega,by go_num,HST5.out⟩,by simp [intOf]; omega⟩
  ·obtain rfl:k=32:=by omega
   have HST:=zY hst;clear hst hlt hk;go_wp2_with (refine qao (x:=.tmp 13) (i:=31) (v:=.int .u8 88) HST.out.a rfl rfl rfl rfl qbz (by rw [qbI,fillB_len 32 (by omega)]; decide) rfl ?_; intro w5 hb5 hw5; have hst5:=HST.out.put (l':=byL) hw5 (by rw [show (Value.int IntKind.u8 88)=.int .u8 ((88:Nat):Int) from rfl,qbf,fillB_end] at hb5; exact hb5); have HST5:=zY hst5; clear hst5 hb5 hw5);have HC0:=HST5.out.drew;clear HST HST5;refine qaj (fun u=>BM w r gx ga X byL u) (fun u=>Blk u r 48 (ptV (ofP X Y))∧Below w.heap.size w u) [(0,some 14),(1,some 15),(2,some 16),(3,some 17),(4,none)] (by kernel_rfl) (by kernel_rfl) (by decide) (by kernel_rfl) (fun _=>rfl) HC0 ?_;apply yN_
   ·apply dP [];exact fun _=>rfl;rfl;rintro vals - w1 hC1 E hE;simp only [sP] at hE ⊢;refine qac hC1.x rfl rfl rfl hu rfl qad ?_;go_wp2_with fail;exact .mk (hE _ hC1)
   apply yN_
   ·apply dP [];exact fun _=>rfl;rfl;rintro vals ⟨-,-⟩ w1 hC1 E hE;simp only [sP] at hE ⊢;refine qac hC1.a rfl rfl rfl hua rfl HSZ.out ?_;go_wp2_with fail;exact .mk (hE _ hC1)
   apply yN_
   ·apply dP [(1,some 15)];exact fun _=>rfl;rfl;intro vals vq w1 hC1 E hE;simp only [sP,vq] at hE ⊢;clear vq;go_wp2_with fail;refine qab (CY.out _) ?_;rintro e w2 ⟨rfl,hb2⟩;go_wp2_with fail;exact .mk (hE _ (hC1.next hb2))
   apply yN_
   ·apply dP [(0,some 14),(2,some 16),(2,some 16)];exact fun _=>rfl;rfl;intro vals vq w1 hC1 E hE;simp only [sP,vq] at hE ⊢;clear vq;go_wp2_with fail;refine qab (CO.out _) ?_;rintro e w2 ⟨rfl,hb2⟩;go_wp2_with fail;exact .mk (hE _ (hC1.next hb2))
   apply yL_ (v:=undef)
   ·apply dP [(3,some 17),(3,some 17),(0,some 14),(1,some 15),(2,some 16),(3,some 17)];exact fun _=>rfl;rfl;intro vals vq w1 hC1 E hE;simp only [sP,vq] at hE ⊢;clear vq;refine qae (cells:=ptV (ofP X Y)) hC1.z rfl rfl rfl rfl qai rfl (by simp [ptV,wV,limbs,Value.oneCell']) ?_;intro w6 hb6 hw6;go_wp2_with fail;exact .mk (hE _ ⟨hb6,hw6.below hC1.bel hC1.lr hC1.bel.size⟩)
   intro vals vq w1 hC1;simp only [sP,vq];clear vq;clear HC0;go_wp2_with fail;refine bodyPost_ret (qap (P:=Tryd.prog) rfl rfl hC1.1 hp rfl qai) rfl ⟨by rw [HBASE.out],hC1.2⟩
def Pr (p:Nat):Prop:=2≤p∧∀ d,d ∣ p→d=1∨d=p
theorem pr_ex:∀ n,2≤n→∃ r,Pr r∧r ∣ n:=fun n=>Nat.strongRecOn n fun n ih hn=>by
 by_cases h:∀ d,d ∣ n→d=1∨d=n
 ·exact ⟨n,⟨hn,h⟩,Nat.dvd_refl n⟩
 ·obtain ⟨d,hd⟩:=Classical.not_forall.1 h;obtain ⟨h1,h2⟩:=Classical.not_imp.1 hd;have h3:0<d:=Nat.pos_of_dvd_of_pos h1 (by omega);have h4:=Nat.le_of_dvd (by omega) h1;obtain ⟨r,hr,hrd⟩:=ih d (by omega) (by omega);exact ⟨r,hr,Nat.dvd_trans hrd h1⟩
theorem pr_cop {p a:Nat} (hp:Pr p) (h:¬ p ∣ a):Nat.gcd p a=1:=by
 rcases hp.2 _ (Nat.gcd_dvd_left p a) with h1 | h1
 ·exact h1
 ·exact absurd (h1▸Nat.gcd_dvd_right p a) h
theorem pr_dvd {p a b:Nat} (hp:Pr p) (h:p ∣ a*b):p ∣ a∨p ∣ b:=by
 by_cases ha:p ∣ a
 ·exact .inl ha
 ·exact .inr (Nat.Coprime.dvd_of_dvd_mul_left (pr_cop hp ha) h)
def ch:Nat→Nat→Nat
 | _,0=>1
 | 0,_+1=>0
 | n+1,k+1=>ch n k+ch n (k+1)
theorem ch_gt:∀ n k,n<k→ch n k=0
 | _,0,h=>absurd h (Nat.not_lt_zero _)
 | 0,_+1,_=>rfl
 | n+1,k+1,h=>by rw [ch,ch_gt n k (by omega),ch_gt n (k+1) (by omega)]
theorem ch_self:∀ n,ch n n=1
 | 0=>rfl
 | n+1=>by rw [ch,ch_self n,ch_gt n (n+1) (by omega)]
theorem ch_mul:∀ n k,(k+1)*ch (n+1) (k+1)=(n+1)*ch n k
 | 0,0=>rfl
 | 0,k+1=>by simp [ch]
 | n+1,0=>by
  have h:=ch_mul n 0;rw [ch,ch] at *;simp only [ch] at h ⊢;omega
 | n+1,k+1=>by
  have h1:=ch_mul n k;have h2:=ch_mul n (k+1);have e:ch (n+1+1) (k+1+1)=ch (n+1) (k+1)+ch (n+1) (k+1+1):=rfl;have e2:ch (n+1) (k+1)=ch n k+ch n (k+1):=rfl;rw [e,Nat.mul_add,h2];have e3:(k+1+1)*ch (n+1) (k+1)=(n+1)*ch n k+ch (n+1) (k+1):=by rw [Nat.add_mul,h1,Nat.one_mul]
  have e4:(n+1+1)*ch (n+1) (k+1)=(n+1)*ch n k+(n+1)*ch n (k+1)+ch (n+1) (k+1):=by
   rw [Nat.add_mul,Nat.one_mul]
   conv=>lhs; lhs; rw [e2]
   rw [Nat.mul_add]
  rw [e3,e4];omega
def bs (n a:Nat):Nat→Nat
 | 0=>0
 | k+1=>bs n a k+ch n k*a^k
theorem bs_step (n a:Nat):∀ k,bs (n+1) a (k+1)=bs n a (k+1)+a*bs n a k
 | 0=>by cases n <;> simp [bs,ch]
 | k+1=>by
  have ih:=bs_step n a k;have e1:bs (n+1) a (k+1+1)=bs (n+1) a (k+1)+(ch n k+ch n (k+1))*a^(k+1):=rfl;have e2:bs n a (k+1+1)=bs n a (k+1)+ch n (k+1)*a^(k+1):=rfl;have e3:bs n a (k+1)=bs n a k+ch n k*a^k:=rfl;have e4:a*(ch n k*a^k)=ch n k*a^(k+1):=by rw [Nat.pow_succ,Nat.mul_left_comm,Nat.mul_comm a]
  have e5:a*bs n a (k+1)=a*bs n a k+ch n k*a^(k+1):=by rw [e3,Nat.mul_add,e4]
  rw [e1,ih,e2,Nat.add_mul,e5];omega
theorem bs_pow (a:Nat):∀ n,(a+1)^n=bs n a (n+1)
 | 0=>by simp [bs,ch]
 | n+1=>by
  have ih:=bs_pow a n;have e:bs n a (n+1+1)=bs n a (n+1):=by rw [bs,ch_gt n (n+1) (by omega)]; simp
  rw [Nat.pow_succ,ih,bs_step,e,Nat.mul_add,Nat.mul_one,Nat.mul_comm];omega
theorem ch_dvd {p:Nat} (hp:Pr p) (k:Nat) (h1:0<k) (h2:k<p):p ∣ ch p k:=by
 obtain ⟨q,rfl⟩:∃ q,p=q+1:=⟨p - 1,by have:=hp.1; omega⟩;obtain ⟨j,rfl⟩:∃ j,k=j+1:=⟨k - 1,by omega⟩;have h:=ch_mul q j
 rcases pr_dvd hp (show q+1 ∣ (j+1)*ch (q+1) (j+1) from ⟨_,h⟩) with h3 | h3
 ·exact absurd (Nat.le_of_dvd (by omega) h3) (by omega)
 ·exact h3
theorem bs_mod {p:Nat} (hp:Pr p) (a:Nat):∀ k,k<p→bs p a (k+1)%p=1
 | 0,_=>by
  have h2:=hp.1;rw [bs,bs];simp only [ch,Nat.pow_zero];exact Nat.mod_eq_of_lt (by omega)
 | k+1,h=>by
  have ih:=bs_mod hp a k (by omega);obtain ⟨c,hc⟩:=ch_dvd hp (k+1) (by omega) h;have e:bs p a (k+1+1)=bs p a (k+1)+ch p (k+1)*a^(k+1):=rfl;rw [e,hc,Nat.mul_assoc,Nat.add_mul_mod_self_left];exact ih
theorem pow_succ_mod {p:Nat} (hp:Pr p) (a:Nat):(a+1)^p%p=(a^p+1)%p:=by
 have h2:=hp.1;obtain ⟨q,hq⟩:∃ q,p=q+1:=⟨p - 1,by omega⟩;have h:=bs_mod hp a q (by omega);rw [← hq] at h;have e:bs p a (p+1)=bs p a p+ch p p*a^p:=rfl;rw [bs_pow,e,ch_self,Nat.one_mul,Nat.add_mod,h,Nat.add_comm,← Nat.add_mod_mod,Nat.mod_eq_of_lt (show 1<p by omega),Nat.mod_add_mod]
theorem fermat0 {p:Nat} (hp:Pr p):∀ a,a^p%p=a%p
 | 0=>by rw [Nat.zero_pow (by have:=hp.1; omega)]
 | a+1=>by rw [pow_succ_mod hp,Nat.add_mod,fermat0 hp a,← Nat.add_mod]
theorem fermat {p:Nat} (hp:Pr p) (a:Nat) (h:¬ p ∣ a):a^(p - 1)%p=1:=by
 have h2:=hp.1;have h0:=fermat0 hp a;obtain ⟨q,rfl⟩:∃ q,p=q+1:=⟨p - 1,by omega⟩;rw [Nat.add_sub_cancel];have ha:0<a:=Nat.pos_of_ne_zero fun e=>h (e▸Nat.dvd_zero _);have hpos:0<a^q:=Nat.pow_pos ha
 have hd:q+1 ∣ a*(a^q - 1):=by
  have h1:=Nat.sub_mod_eq_zero_of_mod_eq h0;rw [Nat.pow_succ,Nat.mul_comm] at h1;rw [Nat.mul_sub,Nat.mul_one];exact Nat.dvd_of_mod_eq_zero h1
 rcases pr_dvd hp hd with h3 | h3
 ·exact absurd h3 h
 ·obtain ⟨c,hc⟩:=h3;rw [show a^q=1+(q+1)*c by omega,Nat.add_mul_mod_self_left];exact Nat.mod_eq_of_lt (by omega)
theorem pw_gcd {r c:Nat} (hr:2≤r):∀ m n,c^m%r=1→c^n%r=1→c^Nat.gcd m n%r=1:=fun m n=>by
 refine Nat.gcd.induction (P:=fun m n=>c^m%r=1→c^n%r=1→c^Nat.gcd m n%r=1) m n ?_ ?_
 ·intro n _ h;rw [Nat.gcd_zero_left]; exact h
 ·intro m n _ ih h1 h2;rw [Nat.gcd_rec];refine ih ?_ h1;have e:c^n=(c^m)^(n/m)*c^(n%m):=by rw [← Nat.pow_mul,← Nat.pow_add,Nat.div_add_mod]
  rw [e,Nat.mul_mod,Nat.pow_mod,h1,Nat.one_pow,Nat.mod_eq_of_lt (show 1<r by omega),Nat.one_mul,Nat.mod_mod] at h2;exact h2
theorem pock_dvd {q A N r:Nat} (hq:Pr q) (hN:N=q*A+1) (h1:2^(q*A)%N=1) (hg:Nat.gcd (2^A%N+(N - 1)) N=1) (hr:Pr r) (hd:r ∣ N):q ∣ r - 1:=by
 have hr2:=hr.1;have hq2:=hq.1;obtain ⟨c,hc⟩:=eX (2^A)
 have e1:c^q%r=1:=by
  rw [hc,← Nat.pow_mul,Nat.mul_comm,← Nat.mod_mod_of_dvd _ hd,h1,Nat.mod_eq_of_lt (by omega)]
 have hne:c%r≠1:=fun h=>by
  have h3:r ∣ 2^A%N+(N - 1):=by
   apply Nat.dvd_of_mod_eq_zero;have h5:2^A%N%r=1:=by rw [Nat.mod_mod_of_dvd _ hd,← hc]; exact h
   have h4:(1+(N - 1))%r=0:=by rw [show 1+(N - 1)=N by omega]; exact Nat.mod_eq_zero_of_dvd hd
   rw [← Nat.mod_add_mod,h5];exact h4
  have h5:=Nat.dvd_gcd h3 hd;rw [hg] at h5;have:=Nat.le_of_dvd (by omega) h5;omega
 have hnd:¬ r ∣ c:=fun h=>by
  have h3:c^q%r=0:=by rw [Nat.pow_mod,Nat.mod_eq_zero_of_dvd h,Nat.zero_pow (by omega)]; exact Nat.zero_mod r
  omega
 have e2:=fermat hr c hnd;apply Classical.byContradiction;intro hn;have h3:=pw_gcd hr2 q (r - 1) e1 e2;rw [pr_cop hq hn,Nat.pow_one] at h3;exact hne h3
theorem pock {q A N:Nat} (hq:Pr q) (hN:N=q*A+1) (hN2:2≤N) (h1:2^(q*A)%N=1) (hg:Nat.gcd (2^A%N+(N - 1)) N=1) (hB:A/q=0∨A/q+1<A%q):Pr N:=by
 have hq2:=hq.1;obtain ⟨r,hr,hd⟩:=pr_ex N hN2;obtain ⟨s,hs⟩:=pock_dvd hq hN h1 hg hr hd;have hr2:=hr.1;have hrs:r=q*s+1:=by omega
 obtain ⟨m,hm⟩:=hd
 have e:q*A+1=q*(s*m)+m:=by
  rw [← hN,hm,hrs,Nat.add_mul,Nat.one_mul,Nat.mul_assoc]
 have hle:s*m≤A:=by
  apply Nat.le_of_not_lt;intro h;have h2:q*(A+1)≤q*(s*m):=Nat.mul_le_mul_left q h;rw [Nat.mul_add] at h2;omega
 obtain ⟨t,ht⟩:∃ t,A=s*m+t:=⟨A - s*m,by omega⟩;have hmt:m=q*t+1:=by rw [ht,Nat.mul_add] at e; omega
 by_cases ht0:t=0
 ·rw [ht0,Nat.mul_zero,Nat.zero_add] at hmt;rw [hm,hmt,Nat.mul_one]; exact hr
 ·exfalso
  have hs0:s≠0:=fun h=>by rw [h,Nat.mul_zero] at hrs; omega
  have eA:A=(s+t)+q*(s*t):=by
   rw [ht,hmt,Nat.mul_add,Nat.mul_one,Nat.mul_left_comm]; omega
  have hst:s+t≤s*t+1:=by
   obtain ⟨s',rfl⟩:∃ s',s=s'+1:=⟨s - 1,by omega⟩;obtain ⟨t',rfl⟩:∃ t',t=t'+1:=⟨t - 1,by omega⟩;rw [Nat.add_mul,Nat.mul_add];omega
  have hpos:0<s*t:=Nat.mul_pos (Nat.pos_of_ne_zero hs0) (Nat.pos_of_ne_zero ht0);have hdiv:A/q=(s+t)/q+s*t:=by rw [eA,Nat.add_mul_div_left _ _ (by omega)]
  have hmod:A%q=(s+t)%q:=by rw [eA,Nat.add_mul_mod_self_left]
  have hlt:A%q<q:=Nat.mod_lt _ (by omega);generalize (s+t)/q=z1 at hdiv;generalize A/q=z2 at hdiv hB;generalize A%q=z3 at hmod hB hlt;generalize s*t=z4 at hst hpos hdiv
  rcases hB with h | h
  ·omega
  ·have h3:s+t<q:=by omega
   rw [Nat.mod_eq_of_lt h3] at hmod;omega
theorem pr_trial (n k:Nat) (h2:2≤n) (hk:n<k*k) (h:∀ d,d<k→2≤d→n%d≠0):Pr n:=by
 refine ⟨h2,fun d hd=>?_⟩;apply Classical.byContradiction;intro hn;obtain ⟨e,he⟩:=hd;have hd0:d≠0:=fun h=>by rw [h,Nat.zero_mul] at he; omega
 have hd1:d≠1:=fun h=>hn (.inl h);have he0:e≠0:=fun h=>by rw [h,Nat.mul_zero] at he; omega
 have he1:e≠1:=fun h=>hn (.inr (by rw [he,h,Nat.mul_one]))
 by_cases hdk:d<k
 ·exact h d hdk (by omega) (by rw [he]; exact Nat.mul_mod_right d e)
 ·by_cases hek:e<k
  ·exact h e hek (by omega) (by rw [he]; exact Nat.mul_mod_left d e)
  ·have:=Nat.mul_le_mul (Nat.le_of_not_lt hdk) (Nat.le_of_not_lt hek);omega
theorem two_pow {N E:Nat} (k:Nat) (hk:E<256^k):2^E%N=pm N 2 ((List.range k).map fun j=>E/256^j%256):=by
 rw [pm_eq,leV_mod,Nat.mod_eq_of_lt hk]
theorem pockD {q A N:Nat} (k l:Nat) (hq:Pr q) (hN:N=q*A+1) (hN2:2≤N) (hk:N<256^k) (hl:A<256^l) (h1:pm N 2 ((List.range k).map fun j=>(N - 1)/256^j%256)=1) (hg:Nat.gcd (pm N 2 ((List.range l).map fun j=>A/256^j%256)+(N - 1)) N=1) (hB:A/q=0∨A/q+1<A%q):Pr N:=by
 refine pock hq hN hN2 ?_ ?_ hB
 ·rw [show q*A=N - 1 by omega,two_pow k (by omega)]; exact h1
 ·rw [two_pow l hl]; exact hg
theorem prime1:Pr 991:=pr_trial 991 32 (by decide) (by decide) (by decide)
theorem prime2:Pr 8574133:=pockD (A:=8652) 3 3 prime1 (by decide) (by decide) (by decide) (by decide) (by decide) (by decide) (by decide)
theorem prime3:Pr 1919519569386763:=pockD (A:=223873314) 7 4 prime2 (by decide) (by decide) (by decide) (by decide) (by decide) (by decide) (by decide)
theorem prime4:Pr 75445702479781427272750846543864801:=pockD (A:=39304471641247389600) 15 9 prime3 (by decide) (by decide) (by decide) (by decide) (by decide) (by decide) (by decide)
theorem prime5:Pr 74058212732561358302231226437062788676166966415465897661863160754340907:=pockD (A:=981609426360740691344999861639072106) 30 15 prime4 (by decide) (by decide) (by decide) (by decide) (by decide) (by decide) (by decide)
theorem prime6:Pr PN:=pockD (A:=781764) 32 3 prime5 (by decide) (by decide) (by decide) (by decide) (by decide) (by decide) (by decide)
theorem fermatP (a:Nat) (h:a%PN≠0):a^(PN - 1)%PN=1:=fermat prime6 a fun hd=>h (Nat.mod_eq_zero_of_dvd hd)
structure PtN where
 x:Nat
 y:Nat
 z:Nat
 t:Nat
deriving DecidableEq
def sN (a b:Nat):Nat:=(a+b)%PN
def uN (a b:Nat):Nat:=(a+(PN - b%PN))%PN
def mN (a b:Nat):Nat:=a*b%PN
theorem uN_sm (a b:Nat):Sm (uN a b+b) a:=by
 unfold Sm uN;simp only [PN];omega
def Rp (x:E5) (n:Nat):Prop:=Sm x.val n
theorem Rp.add {x y:E5} {a b:Nat} (h:Rp x a) (k:Rp y b):Rp (addE x y) (sN a b):=(sm_add x y).trans (Sm.trans (Sm.add h k) (show Sm (a+b) (sN a b) from (Nat.mod_mod _ _).symm))
theorem Rp.mul {x y:E5} {a b:Nat} (h:Rp x a) (k:Rp y b):Rp (mulE x y) (mN a b):=(sm_mul x y).trans (Sm.trans (Sm.mul h k) (show Sm (a*b) (mN a b) from (Nat.mod_mod _ _).symm))
theorem Rp.sub {x y:E5} {a b:Nat} (hy:y.Ok) (h:Rp x a) (k:Rp y b):Rp (subE x y) (uN a b):=by
 refine Sm.back (c:=b) ?_;exact (((Sm.refl _).add k.symm).trans (sm_sub hy)).trans (h.trans (uN_sm a b).symm)
def sumN (p q:PtN) (w:Nat):PtN :=
 let a:=mN (uN p.y p.x) (uN q.y q.x)
 let b:=mN (sN p.y p.x) (sN q.y q.x)
 let c:=mN (mN p.t w) q.t
 let z:=mN p.z q.z
 let e:=uN b a
 let h:=sN b a
 let f:=uN (sN z z) c
 let g:=sN (sN z z) c
 ⟨mN e f,mN g h,mN f g,mN e h⟩
structure Rep (p:Pt4) (n:PtN):Prop where
 x:Rp p.x n.x
 y:Rp p.y n.y
 z:Rp p.z n.z
 t:Rp p.t n.t
theorem Rep.sum {p q:Pt4} {tw:E5} {m n:PtN} {w:Nat} (hp:p.Ok) (hq:q.Ok) (hw:tw.Ok) (h:Rep p m) (k:Rep q n) (l:Rp tw w):Rep (sumP p q tw) (sumN m n w):=by
 have okA:=qaq (qaP hp.y hp.x) (qaP hq.y hq.x);have okC:=qaq (qaq hp.t hw) hq.t;have a:=(h.y.sub hp.x h.x).mul (k.y.sub hq.x k.x);have b:=(h.y.add h.x).mul (k.y.add k.x);have c:=(h.t.mul l).mul k.t;have z:=h.z.mul k.z;have e:=b.sub okA a;have hh:=b.add a;have f:=(z.add z).sub okC c;have g:=(z.add z).add c;exact ⟨e.mul f,g.mul hh,f.mul g,e.mul hh⟩
def dN:Nat:=37095705934669439343138083508754565189542113879843219016388785533085940283555
def bxN:Nat:=15112221349535400772501151409588531511454012693041857206046113283949847762202
def byNN:Nat:=46316835694926478169428394003475163141307993866256225615783033603165251855960
theorem qca {l:List Nat} {n:Nat} (h1:mayR (toB (revS l 16))=true) (h2:leV (digs (toB (revS l 16)))=n) (h3:n<2^255):(knownE l).val=n:=by
 rw [knownE,readE,if_pos h1,ofN_val,h2,Nat.mod_eq_of_lt h3]
theorem dE_val:dE.val=dN:=qca (by decide) (by decide) (by decide)
theorem bx_val:(knownE bxL).val=bxN:=qca (by decide) (by decide) (by decide)
theorem by_val:(knownE byL).val=byNN:=qca (by decide) (by decide) (by decide)
def pmSN (T:Nat) (p out:PtN) (bit:Nat):PtN:=if bit=1 then sumN (sumN out out T) p T else sumN out out T
def pmBN (T:Nat) (p out:PtN) (b:Nat):Nat→PtN
 | 0=>out
 | j+1=>pmSN T p (pmBN T p out b j) (b/2^(7 - j)%2)
def zeroN:PtN:=⟨0,1,1,0⟩
def pmLN (T:Nat) (p:PtN) (l:List Nat):Nat→PtN
 | 0=>zeroN
 | j+1=>pmBN T p (pmLN T p l j) (l.getD (l.length - 1 - j) 0) 8
def d2N:Nat:=sN dN dN
def mulN (p:PtN) (l:List UInt8):PtN:=pmLN d2N p (digs (l.take 32)) (min l.length 32)
theorem pn_big:PN<256^32:=by decide
theorem qan {A:Option Addr} {xs:List Value} {u u':World} (h:Rd u u.heap.size A xs) (hb:Below u.heap.size u u'):Rd u' u'.heap.size A xs:=(h.below hb).mono hb.size
structure Segs (w:World) (bs:List (List UInt8)) (vs:List Value):Prop where
 len:vs.length=bs.length
 at_:∀ (i:Nat) (b:List UInt8),bs[i]?=some b→∃ A c,vs[i]?=some (Value.slice A b.length c)∧Rd w w.heap.size A (bytesV b)
def catL (bs:List (List UInt8)) (k:Nat):List UInt8:=(bs.take k).flatten
theorem catL_next {bs:List (List UInt8)} {k:Nat} (h:k<bs.length):catL bs (k+1)=catL bs k++bs[k]:=by
 rw [catL,catL,List.take_add_one,List.getElem?_eq_getElem h,List.flatten_append];simp
theorem catL_le (bs:List (List UInt8)):∀ k,(catL bs k).length≤bs.flatten.length:=fun k=>by
 have h:=congrArg (fun l=>(List.flatten l).length) (List.take_append_drop k bs);simp only [List.flatten_append,List.length_append] at h;unfold catL;omega
theorem catL_all (bs:List (List UInt8)):catL bs bs.length=bs.flatten:=by rw [catL,List.take_length]
theorem bytesV_one1 (b:List UInt8):∀ u ∈ bytesV b,u.oneCell'=true:=fun u h=>by
 rw [bytesV] at h;obtain ⟨x,_,rfl⟩:=List.mem_map.1 h;rfl
theorem concat_any (bs:List (List UInt8)) (vs:List Value) (o:Nat) (w:World) (hs:Segs w bs vs) (hb:Blk w o 22 vs.toArray) (hl:bs.flatten.length≤40000) (hn:bs.length≤4) :
  Calls Tryd.prog 50 #[.slice (some ⟨o,0,none⟩) bs.length bs.length] w (OwnPost 5 bs.flatten.length (bytesV bs.flatten) w):=by
 obtain ⟨n,hn0⟩:=eX (bs.length);rw [← hn0] at hn ⊢;have hn63:(n:Int)≤4:=by omega
 obtain ⟨z,hz⟩:=eX (bs.flatten.length);have hz63:(z:Int)≤40000:=by omega
 have hcat:∀ k,(catL bs k).length≤z:=fun k=>by rw [hz]; exact catL_le bs k
 have hcell:∀ k,k<n→∃ b A c,bs[k]?=some b∧Rd w w.heap.size A (bytesV b)∧(w.cell? ⟨o,k,none⟩=some (Value.slice A b.length c)):=fun k hk=>by
  have hk':k<bs.length:=by rw [← hn0]; exact hk
  obtain ⟨A,c,h1,h2⟩:=hs.at_ k _ (List.getElem?_eq_getElem hk');exact ⟨_,A,c,List.getElem?_eq_getElem hk',h2,by rw [hb.cell,List.getElem?_toArray,h1]⟩
 have HC:=zY hcell;have HK:=zY hcat;have HN:=zY hn0;have HZ:=zY hz;have HO:=zY hb.lt;rw [← hz];clear hcell hcat hn0 hs hb hl hz hn;go_enter Tryd.func50,Tryd.ntmps50;go_wp2_with fail
 go_loopw [3,11] (fun s i wr=>∃ k:Nat,k≤n∧s=.int .i64 (((catL bs k).length:Nat):Int)∧i=.int .i64 (k:Int)∧w=wr) (fun _ i _=>n - (intOf i).toNat)
 case atStart=>exact ⟨0,by omega,rfl,rfl,rfl⟩
 case round =>
  obtain ⟨k,hk,rfl,rfl,rfl⟩:=hrel
  by_cases hlt:k<n
  ·have hlt':(k:Int)<(n:Int):=by omega
   obtain ⟨b,A,c,hbk,hrd,hce⟩:=HC.out k hlt
   have hnx:catL bs (k+1)=catL bs k++b:=by
    have hk':k<bs.length:=by rw [← HN.out]; exact hlt
    rw [List.getElem?_eq_getElem hk'] at hbk;rw [catL_next hk',Option.some.inj hbk]
   have h1:=HK.out k;have h2:=HK.out (k+1);have h3:(catL bs (k+1)).length=(catL bs k).length+b.length:=by rw [hnx,List.length_append]
   obtain ⟨s,hs⟩:=eX ((catL bs k).length);obtain ⟨s2,hs2⟩:=eX ((catL bs (k+1)).length);obtain ⟨m,hm⟩:=eX (b.length);rw [← hs] at h1 h3 ⊢;rw [← hs2] at h2 h3;rw [← hm] at h3 hce;have hs1':(s:Int)≤40000:=by omega
   have hs2':(s:Int)+m=s2:=by omega
   have hs3':(s2:Int)≤40000:=by omega
   have hm':(m:Int)≤40000:=by omega
   have HS2:=zY hs2;clear h1 h2 h3 hs hs2 hm hbk hrd hnx;go_wp2_with fail;refine ⟨⟨k+1,by omega,?_,by go_num,trivial⟩,by simp [intOf]; omega⟩;rw [← HS2.out]
  ·obtain rfl:k=n:=by omega
   have hzz:(catL bs k).length=z:=by rw [HN.out,catL_all,HZ.out]
   rw [hzz];have HG:=zY (grow_any z (by omega) w);clear hlt hk;go_wp2_with fail;refine qab HG.out ?_;rintro e w1 ⟨A1,c1,rfl,ho1,hb1⟩;have HO1:=zY ho1;have HB1:=zY hb1;clear ho1 hb1;go_wp2_with fail
   go_loopw [6,27] (fun v i wr=>∃ (j:Nat) (A2:Option Addr) (c2:Nat),j≤k∧i=.int .i64 (j:Int)∧v=.slice A2 (catL bs j).length c2∧OwnX wr w.heap.size 5 1 (.slice A2 (catL bs j).length c2) (catL bs j).length (bytesV (catL bs j))∧Below w.heap.size w wr) (fun _ i _=>k - (intOf i).toNat)
   case atStart=>exact ⟨0,A1,c1,by omega,rfl,rfl,OwnX.of HO1.out,HB1.out⟩
   case round =>
    clear HO1 HB1;obtain ⟨j,A2,c2,hj,rfl,rfl,hown,hbel⟩:=hrel
    by_cases hlt:j<k
    ·have hlt':(j:Int)<(k:Int):=by omega
     obtain ⟨b,A,c,hbk,hrd,hce⟩:=HC.out j hlt
     have hnx:catL bs (j+1)=catL bs j++b:=by
      have hk':j<bs.length:=by rw [← HN.out]; exact hlt
      rw [List.getElem?_eq_getElem hk'] at hbk;rw [catL_next hk',Option.some.inj hbk]
     have h1:=HK.out j;have h2:=HK.out (j+1);have h3:(catL bs (j+1)).length=(catL bs j).length+b.length:=by rw [hnx,List.length_append]
     have hbv:bytesV (catL bs (j+1))=bytesV (catL bs j)++bytesV b:=by rw [hnx,qaz]
     have hbl:(bytesV b).length=b.length*1:=by rw [qam,Nat.mul_one]
     have h1v:=bytesV_one1 b;have hce2:wr.cell? ⟨o,j,none⟩=some (Value.slice A b.length c):=(hbel.cell HO.out).trans hce;have hcap:=(qcU hown).1;obtain ⟨s,hs⟩:=eX ((catL bs j).length);obtain ⟨m,hm⟩:=eX (b.length);rw [← hs] at h1 h3 hown ⊢;rw [← hm] at h3 hce2 hbl;have hs1':s≤40000:=by omega
     have hm':m≤40000:=by omega
     have HOWN:=zY hown;have HBEL:=zY hbel;have HBV:=zY hbv;have HBL:=zY hbl;have H1V:=zY h1v;have HRD:=zY (hrd.below hbel);have H3:=zY h3;clear h1 h2 h3 hs hm hbk hrd hnx hown hbel hbv hbl h1v hce hcap;go_wp2_with (refine qaX sl_bytes rfl rfl HOWN.out rfl rfl HBL.out HRD.out H1V.out (by unfold maxLen; omega) (by omega) HBEL.out.size ?_; intro A3 c3 w3 hown3 hg3 hn3; have HOWN3:=zY hown3; have HB3:Hid (Below w.heap.size w w3):=zY (qbT HBEL.out HOWN.out HBEL.out.size hg3); clear hown3 hg3 hn3);refine ⟨⟨j+1,A3,c3,by omega,by go_num,by rw [H3.out],?_,HB3.out⟩,by simp [intOf]; omega⟩;rw [H3.out,HBV.out];exact HOWN3.out
    ·obtain rfl:j=k:=by omega
     have hzz:(catL bs j).length=z:=by rw [HN.out,catL_all,HZ.out]
     rw [hzz] at hown ⊢;have hall:catL bs j=bs.flatten:=by rw [HN.out,catL_all]
     rw [hall] at hown;have HOWN:=zY hown;have HBEL:=zY hbel;clear hown hbel;go_wp2_with fail;go_ret;exact ⟨A2,c2,rfl,HOWN.out,HBEL.out⟩
end Go.Proofs.YtjmfkinedhmglaaDoor
namespace Go.Proofs.YtjmfkinedhmglaaDoor.Sh
set_option linter.unusedSimpArgs false
set_option linter.unusedVariables false
set_option maxRecDepth 100000
set_option maxHeartbeats 4000000
open Go.RowKit
def zeroN (F:ShaF) (n:Nat):Nat:=(2*F.bits - 8+2*F.bits - (n+1)%(2*F.bits))%(2*F.bits)
def moreN (F:ShaF) (n:Nat):Nat:=if 8<F.bits/4∧2*F.bits - F.bits/4≤n%(2*F.bits)∧n%(2*F.bits)<2*F.bits - 8 then 2*F.bits else 0
def be8 (n:Nat):Nat→List UInt8
 | 0=>[]
 | k+1=>be8 n k++[UInt8.ofNat (n/2^(56 - 8*k))]
def prepS (F:ShaF) (data:List UInt8):List UInt8:=data++[128]++List.replicate (zeroN F data.length) 0++List.replicate (moreN F data.length) 0
def padS (F:ShaF) (data:List UInt8):List UInt8:=data++[128]++List.replicate (zeroN F data.length) 0++List.replicate (moreN F data.length) 0++be8 (data.length*8) 8
def firstN:List Nat:=[7640891576956012808,13503953896175478587,4354685564936845355,11912009170470909681,5840696475078001361,11170449401992604703,2270897969802886507,6620516959819538809]
def startS (F:ShaF):S8 :=
 let f:=fun i=>firstN.getD i 0/2^(64 - F.bits)%2^F.bits
 ⟨f 0,f 1,f 2,f 3,f 4,f 5,f 6,f 7⟩
def runS (F:ShaF) (all:List UInt8):Nat→S8
 | 0=>startS F
 | k+1=>mixS F (runS F all k) ((all.drop (k*(2*F.bits))).take (2*F.bits))
def setC (K:IntKind) (s:S8) (i:Nat):Array Value:=(wordsV K ((s8L s).take i++(s8L ⟨0,0,0,0,0,0,0,0⟩).drop i)).toArray
theorem setC_end (K:IntKind) (s:S8):setC K s 8=s8V K s:=rfl
theorem setC_at (K:IntKind) (s:S8) (i:Nat) (h:i<8):(setC K s i)[i]?=some (.int K 0):=by
 match i,h with
 | 0,_=>rfl
 | 1,_=>rfl
 | 2,_=>rfl
 | 3,_=>rfl
 | 4,_=>rfl
 | 5,_=>rfl
 | 6,_=>rfl
 | 7,_=>rfl
theorem setC_set (K:IntKind) (s:S8) (i:Nat) (h:i<8):(setC K s i).setIfInBounds i (.int K (((s8L s).getD i 0:Nat):Int))=setC K s (i+1):=by
 match i,h with
 | 0,_=>rfl
 | 1,_=>rfl
 | 2,_=>rfl
 | 3,_=>rfl
 | 4,_=>rfl
 | 5,_=>rfl
 | 6,_=>rfl
 | 7,_=>rfl
theorem startS_at (F:ShaF) (i:Nat) (h:i<8):(s8L (startS F)).getD i 0=firstN.getD i 0/2^(64 - F.bits)%2^F.bits:=by
 match i,h with
 | 0,_=>rfl
 | 1,_=>rfl
 | 2,_=>rfl
 | 3,_=>rfl
 | 4,_=>rfl
 | 5,_=>rfl
 | 6,_=>rfl
 | 7,_=>rfl
theorem firstN_all:(firstN.all fun x=>decide (x<18446744073709551616))=true:=by decide +kernel
theorem firstN_lt (i:Nat):firstN.getD i 0<18446744073709551616 :=
 qc2 (fun x hx=>by simpa using (List.all_eq_true.1 firstN_all) x hx) (by decide) i
theorem startS_lt (F:ShaF):(startS F).Lt (2^F.bits):=by
 constructor <;> exact Nat.mod_lt _ (Nat.two_pow_pos _)
theorem mixS_lt (F:ShaF) (s:S8) (blk:List UInt8):(mixS F s blk).Lt (2^F.bits):=addS_lt _ _ _
theorem runS_lt (F:ShaF) (all:List UInt8):∀ k,(runS F all k).Lt (2^F.bits)
 | 0=>startS_lt F
 | _+1=>mixS_lt F _ _
theorem s8L_lt {s:S8} {m:Nat} (h:s.Lt m) (hm:0<m) (i:Nat):(s8L s).getD i 0<m :=
 qc2 (fun x hx=>by
  simp [s8L] at hx
  rcases hx with rfl | rfl | rfl | rfl | rfl | rfl | rfl | rfl
  all_goals first | exact h.a | exact h.b | exact h.c | exact h.d | exact h.e | exact h.f | exact h.g | exact h.h) hm i
def wordB (b:Nat) (x:Nat):Nat→List UInt8
 | 0=>[]
 | k+1=>wordB b x k++[UInt8.ofNat (x/2^(b - 8 - 8*k))]
def digS (F:ShaF) (data:List UInt8):List UInt8:=(s8L (runS F (padS F data) ((padS F data).length/(2*F.bits)))).flatMap fun x=>wordB F.bits x (F.bits/8)
end Go.Proofs.YtjmfkinedhmglaaDoor.Sh
namespace Go.Proofs.YtjmfkinedhmglaaDoor
set_option linter.unusedSimpArgs false
set_option linter.unusedVariables false
set_option maxRecDepth 100000
set_option maxHeartbeats 4000000
open Go.RowKit
def bsN (l:List Nat):List UInt8:=l.map UInt8.ofNat
theorem qce {l:List Nat} (h:Dg l):digs (bsN l)=l:=qbR l h
theorem qbJ {l:List Nat} (h:Dg l):bnV l=bytesV (bsN l):=by
 conv=>lhs; rw [← qce h]
 simp [bnV,bytesV,byteV,digs]
theorem qbt (b:List UInt8):bnV (digs b)=bytesV b:=by simp [bnV,bytesV,byteV,digs]
theorem qbG (b:List UInt8):Dg (digs b):=qbn b
def OwnZ (w:World) (base:Nat) (e:TypeId) (size:Nat) (v:Value) (n:Nat) (xs:List Value):Prop:=w.ownsRow base e size v n xs
theorem OwnZ.x {w:World} {base:Nat} {e:TypeId} {size:Nat} {v:Value} {n:Nat} {xs:List Value} (h:OwnZ w base e size v n xs):OwnX w base e size v n xs:=.of h
theorem OwnZ.nil (w:World) (base e size:Nat):OwnZ w base e size (.slice none 0 0) 0 []:=⟨by simp,.inl ⟨rfl,rfl⟩⟩
theorem OwnZ.blk {w:World} {base:Nat} {e:TypeId} {n c:Nat} {A:Option Addr} {xs:List Value} (h:OwnZ w base e 1 (.slice A n c) n xs) (hn:0<n):∃ g ys,A=some ⟨g,0,none⟩∧base≤g∧n≤c∧Blk w g e (xs++ys).toArray:=by
 rcases h.2 with ⟨_,h0⟩ | ⟨g,cap,cur,h1,h2,h3,h4,h5,h6,h7⟩
 ·omega
 ·injection h1 with e1 e2 e3
  subst e3;refine ⟨g,cur.toList.drop (n*1),e1,h2,h4,?_⟩;rw [← h7,List.take_append_drop];exact h3
theorem Rd.front {w:World} {B:Nat} {A:Option Addr} {xs ys:List Value} (h:Rd w B A (xs++ys)):Rd w B A xs:=fun i u hi=>by
 have hlt:i<xs.length:=(List.getElem?_eq_some_iff.1 hi).1;exact h i u (by rw [List.getElem?_append_left hlt]; exact hi)
theorem qcQ {xs ys:List Value} {i:Nat} {v:Value} (h:i<xs.length):(xs++ys).toArray.setIfInBounds i v=(xs.set i v++ys).toArray:=by
 rw [List.setIfInBounds_toArray,List.set_append_left _ _ h]
def OwnPostZ (e0:TypeId) (n:Nat) (xs:List Value) (w:World) (e:Ending) (w':World):Prop :=
 ∃ A c,e=.returned (.slice A n c)∧OwnZ w' w.heap.size e0 1 (.slice A n c) n xs∧Below w.heap.size w w'
theorem qbo {P:Program} {w:World} {ops:Array Oper} {rest:List Oper} {o:Oper} {a:Act} {Q:Exit→Act→World→Prop} {sl x:Operand} {t e:TypeId} {bytes:Nat} (T:SlT P t e 1 bytes)
  (hgd:o.guard=none) (ho:o.op=.call { callee:=.builtin .append,args:=#[sl,x],argTypes:=#[t,t] })
  {base n B:Nat} {v:Value} {xs:List Value} {ad:Addr} {m cx:Nat} {news:List Value} (hown:OwnZ w base e 1 v n xs) (hs:a.eval sl=v) (hx:a.eval x=.slice (some ad) m cx)
  (hl:news.length=m*1) (hm:0<m) (hr:Rd w B (some ad) news) (h1:∀ u ∈ news,u.oneCell'=true)
  (h63:n+m≤maxLen) (hbytes:(n+m)*bytes≤140737488355328) (hbase:base≤w.heap.size)
  (h:∀ A c w',OwnZ w' base e 1 (.slice A (n+m) c) (n+m) (xs++news)→w.grownBy w' v.ownBlock→wpList P ops Q rest (a.put o.dst (.slice A (n+m) c)) w') :
  wpList P ops Q (o :: rest) a w:=by
 obtain ⟨i,z,hi,hz,hsz,hby,hzs⟩:=T.info
 obtain ⟨v',w',hr',h2,h3,_,h5⟩:=run_append_own_at (P:=P) w base t o.type e i z 1 bytes T.und hi hz hsz hby hzs T.pos v n xs hown ad m cx news hl (fun j u hu=>by
  obtain ⟨ad',e1,_,e3⟩:=hr j u hu
  injection e1 with e1
  subst e1;exact e3) h1 h63 hbytes hbase
 rcases h2.2 with ⟨_,h0⟩ | ⟨g,cap,cur,rfl,_⟩
 ·omega
 ·refine qax (R:=fun v1 w1=>v1=.slice (some ⟨g,0,none⟩) (n+m) cap∧w1=w') hgd ho hs hx ⟨_,_,hr',rfl,rfl⟩ ?_;rintro v1 w1 ⟨rfl,rfl⟩;exact h _ _ _ h2 h3
theorem ownZ_nil (w:World) (e:TypeId):OwnZ (w.alloc (.cells #[] e)) w.heap.size e 1 (.slice (some ⟨w.heap.size,0,none⟩) 0 0) 0 [] :=
 ⟨rfl,.inr ⟨w.heap.size,0,#[],rfl,Nat.le_refl _,heap_alloc_new w _,Nat.le_refl _,Nat.zero_le _,rfl,rfl⟩⟩
theorem bytesV_one (b:List UInt8):∀ u ∈ bytesV b,u.oneCell'=true:=fun u h=>by
 rw [bytesV] at h;obtain ⟨x,_,rfl⟩:=List.mem_map.1 h;rfl
def clampL (L:List Nat):List Nat:=(L.set 0 (L.getD 0 0 - L.getD 0 0%8)).set 31 (L.getD 31 0%64+64)
def secD (data:List UInt8):List Nat:=digs (Sh.digS Sh.F64 data)
def secL (data:List UInt8):List Nat:=clampL (secD data)
theorem clampL_len (L:List Nat):(clampL L).length=L.length:=by rw [clampL,List.length_set,List.length_set]
theorem clampL_dg {L:List Nat} (h:Dg L):Dg (clampL L):=by
 have h0:=qaV h 0;have h1:=qaV h 31;exact dg_set (dg_set h 0 _ (by omega)) 31 _ (by omega)
structure SecW (w0:World) (g:Nat) (ys:List Value) (L:List Nat) (u:World):Prop where
 bel:Below w0.heap.size w0 u
 x:Blk u g 5 (bnV L++ys).toArray
 lo:w0.heap.size≤g
theorem SecW.put {w0 u u':World} {g:Nat} {ys:List Value} {L L':List Nat} (k:SecW w0 g ys L u) (hw:Wrote g u u') (hb:Blk u' g 5 (bnV L'++ys).toArray):SecW w0 g ys L' u' :=
 ⟨hw.below k.bel k.lo k.bel.size,hb,k.lo⟩
theorem SecW.drew {w0 u:World} {g:Nat} {ys:List Value} {L:List Nat} (k:SecW w0 g ys L u):SecW w0 g ys L u.drew:=⟨k.bel.drew,k.x,k.lo⟩
theorem sec_cell {L:List Nat} {ys:List Value} {i:Nat} (h:i<L.length):(bnV L++ys).toArray[i]?=some (.int .u8 ((L.getD i 0:Nat):Int)):=by
 rw [List.getElem?_toArray,List.getElem?_append_left (by rw [bnV,List.length_map]; exact h)];simp [bnV,List.getD_eq_getElem?_getD,List.getElem?_eq_getElem h]
theorem sec_set {L:List Nat} {ys:List Value} {i n:Nat} (h:i<L.length):(bnV L++ys).toArray.setIfInBounds i (.int .u8 (n:Int))=(bnV (L.set i n)++ys).toArray:=by
 rw [qcQ (by rw [bnV,List.length_map]; exact h)];simp [bnV,List.map_set]
theorem sec_rd {u:World} {g:Nat} {K:List Nat} {ys:List Value} (hb:Blk u g 5 (bnV K++ys).toArray) :
  Rd u u.heap.size (some ⟨g,0,none⟩) (bnV (K.take 32))∧Rd u u.heap.size (some ⟨g,32,none⟩) (bnV (K.drop 32)):=by
 have h:=(Rd.of_blk hb hb.lt).front
 constructor
 ·rw [← List.take_append_drop 32 K] at h;rw [show bnV (K.take 32++K.drop 32)=bnV (K.take 32)++bnV (K.drop 32) by simp [bnV]] at h;exact h.front
 ·have h2:=rd_drop h 32;rw [Addr.add_lit,Nat.zero_add] at h2;rw [show bnV (K.drop 32)=(bnV K).drop 32 by simp [bnV,List.map_drop]];exact h2
def SecPost (K:List Nat) (w:World) (e:Ending) (w':World):Prop :=
 ∃ A c B d,e=.returned (.tuple #[.slice A 32 c,.slice B 32 d])∧32≤c∧32≤d∧Rd w' w'.heap.size A (bnV (K.take 32))∧Rd w' w'.heap.size B (bnV (K.drop 32))∧Below w.heap.size w w'
end Go.Proofs.YtjmfkinedhmglaaDoor
namespace Go.Proofs.YtjmfkinedhmglaaDoor.Sh
set_option linter.unusedSimpArgs false
set_option linter.unusedVariables false
set_option maxRecDepth 100000
set_option maxHeartbeats 4000000
open Go.RowKit
def f64C:Array Value:=#[.int .i64 64,.int .i64 80,.int .i64 28,.int .i64 34,.int .i64 39,.int .i64 14,.int .i64 18,.int .i64 41,.int .i64 1,.int .i64 8,.int .i64 7,.int .i64 19,.int .i64 61,.int .i64 6]
theorem below_new (w:World) (o:Obj):Below w.heap.size w (w.alloc o):=(Below.refl _ _).alloc (Nat.le_refl _) _
theorem qa1 (x n:Nat) (w:World) (hx:x<18446744073709551616) (hn:n<64) :
  Calls Tryd.prog 80 #[.agg f64C,.int .u64 x,.int .i64 n] w fun e w'=>e=.returned (.int .u64 (turnedN 64 x n:Nat))∧Below w.heap.size w w':=by
 have c0:=(Blk.new w 100 f64C).cell 0;simp only [f64C,List.getElem?_toArray,List.getElem?_cons_zero] at c0;have hnn:(0:Int)≤(64:Int) - (n:Int):=by omega
 have hn1:(n:Int)<64:=by omega
 have hx1:(x:Int)<18446744073709551616:=by omega
 have HX:=zY hx;clear hx;rw [f64C];go_enter Tryd.func80,Tryd.ntmps80;go_wp2
 go_quiet (fail)
 go_wp2;go_ret;refine ⟨ret_int' ?_,below_drewN' (below_new _ _) _⟩;exact rot_walk64 x n HX.out
theorem qaS:(Tryd.prog.info? 100).map (·.size)=some 14:=by kernel_rfl
theorem qcg (x p q c:Nat) (shift:Bool) (w:World) (hx:x<18446744073709551616) (hp:p<64) (hq:q<64) (hc:c<64) :
  Calls Tryd.prog 79 #[.agg f64C,.int .u64 x,.agg #[.int .i64 p,.int .i64 q,.int .i64 c],.bool shift] w fun e w'=>e=.returned (.int .u64 (allN 64 x p q c shift:Nat))∧Below w.heap.size w w':=by
 obtain ⟨W0,hW0⟩:=eX (((w.alloc (.cells f64C 100)).alloc (.cells #[.int .i64 p,.int .i64 q,.int .i64 c] 96)));have hb:Below w.heap.size w W0:=by rw [hW0]; exact (below_new _ _).alloc (by simp) _
 have hb4:Blk W0 w.heap.size 100 f64C:=by rw [hW0]; exact (Blk.new _ _ _).alloc _
 have hb6:Blk W0 (w.heap.size+1) 96 #[.int .i64 p,.int .i64 q,.int .i64 c]:=by
  have:=Blk.new (w.alloc (.cells f64C 100)) 96 #[.int .i64 p,.int .i64 q,.int .i64 c];rw [hW0]; simpa using this
 have hl4:=hb4.lt;have hl6:=hb6.lt;have HB:=zY hb;have H4:=zY hb4;have H6:=zY hb6;have HW:=zY hW0;have hu:=Tryd.underlying100;have hx1:(x:Int)<18446744073709551616:=by omega
 have HX:=zY hx;have hc1:(c:Int)<64:=by omega
 obtain ⟨L,hL⟩:∃ L:Nat,L=lastN 64 x c shift:=⟨_,rfl⟩;have HL:=zY hL;have c2:=hb6.cell 2;simp at c2;have hb40:=hb4;have c20:=c2;rw [hW0] at hb40 c20;have hHC:∀ (f:List Value),f=f:=fun _=>rfl;clear hb hb4 hb6 hW0 hx hL hHC
 cases shift with
 | false =>
  go_enter Tryd.func79,Tryd.ntmps79;go_wp2_with (refine qac (x:=.tmp 4) hb40 rfl rfl rfl hu rfl qaS ?_);rw [← HW.out];clear hb40 c20;refine qab (qa1 x c W0 HX.out hc) ?_;rintro e w1 ⟨rfl,hb1⟩;rw [show turnedN 64 x c=L from HL.out.symm];have g4:=H4.out.below hb1 hl4;have g6:=H6.out.below hb1 hl6;have hBw:=HB.out.trans (hb1.mono HB.out.size);have h14:=g4.lt;have h16:=g6.lt;have G4:=zY g4;have G6:=zY g6;have HBw:=zY hBw;clear g4 g6 hBw hb1 c2;go_wp2_with fail;have HC0:Below w1.heap.size w1 w1.drew:=(Below.refl _ _).drew;refine qaj (fun u=>Below w1.heap.size w1 u) (fun u=>Below w1.heap.size w1 u) [(0,some 20),(1,some 21),(2,some 22),(3,some 23),(4,some 24),(5,some 25),(6,some 26),(7,some 27),(8,some 28),(9,some 29),(10,some 30),(11,some 31),(12,some 32),(13,some 8)] (by kernel_rfl) (by kernel_rfl) (by decide) (by kernel_rfl) (fun _=>rfl) HC0 ?_;apply yN_
  ·apply dP [];exact fun _=>rfl;rfl;rintro vals - w1 hC1 E hE;simp only [sP] at hE ⊢;refine qac (G4.out.below hC1 h14) rfl rfl rfl hu rfl qaS ?_;go_wp2_with fail;exact .mk (hE _ hC1)
  apply yN_
  ·apply dP [];exact fun _=>rfl;rfl;rintro vals ⟨-,-⟩ w1 hC1 E hE;simp only [sP] at hE ⊢;go_wp2;exact .mk (hE _ hC1)
  apply yN_
  ·apply dP [];exact fun _=>rfl;rfl;intro vals vq w1 hC1 E hE;clear vq;simp only [sP] at hE ⊢;go_wp2;exact .mk (hE _ hC1)
  apply yN_
  ·apply dP [(2,some 22)];exact fun _=>rfl;rfl;intro vals vq w1 hC1 E hE;have d0:=(G6.out.below hC1 h16).cell 0;simp at d0;simp only [sP,vq] at hE ⊢;clear vq;go_wp2;exact .mk (hE _ hC1)
  apply yN_
  ·apply dP [(0,some 20),(1,some 21),(3,some 23)];exact fun _=>rfl;rfl;intro vals vq w1 hC1 E hE;simp only [sP,vq] at hE ⊢;clear vq;go_wp2_with fail;refine qab (qa1 x p _ HX.out hp) ?_;rintro e w2 ⟨rfl,hb2⟩;go_wp2_with fail;exact .mk (hE _ (hC1.trans (hb2.mono hC1.size)))
  apply yN_
  ·apply dP [];exact fun _=>rfl;rfl;intro vals vq w1 hC1 E hE;clear vq;simp only [sP] at hE ⊢;refine qac (G4.out.below hC1 h14) rfl rfl rfl hu rfl qaS ?_;go_wp2_with fail;exact .mk (hE _ hC1)
  apply yN_
  ·apply dP [];exact fun _=>rfl;rfl;intro vals vq w1 hC1 E hE;clear vq;simp only [sP] at hE ⊢;go_wp2;exact .mk (hE _ hC1)
  apply yN_
  ·apply dP [];exact fun _=>rfl;rfl;intro vals vq w1 hC1 E hE;clear vq;simp only [sP] at hE ⊢;go_wp2;exact .mk (hE _ hC1)
  apply yN_
  ·apply dP [(7,some 27)];exact fun _=>rfl;rfl;intro vals vq w1 hC1 E hE;have d0:=(G6.out.below hC1 h16).cell 1;simp at d0;simp only [sP,vq] at hE ⊢;clear vq;go_wp2;exact .mk (hE _ hC1)
  apply yN_
  ·apply dP [(5,some 25),(6,some 26),(8,some 28),(4,some 24)];exact fun _=>rfl;rfl;intro vals vq w1 hC1 E hE;simp only [sP,vq] at hE ⊢;clear vq;go_wp2_with fail;refine qab (qa1 x q _ HX.out hq) ?_;rintro e w2 ⟨rfl,hb2⟩;go_wp2_with fail;exact .mk (hE _ (hC1.trans (hb2.mono hC1.size)))
  apply yN_
  ·apply dP [(4,some 24),(9,some 29)];exact fun _=>rfl;rfl;intro vals vq w1 hC1 E hE;simp only [sP,vq] at hE ⊢;clear vq;go_wp2;exact .mk (hE _ hC1)
  apply yN_
  ·apply dP [];exact fun _=>rfl;rfl;intro vals vq w1 hC1 E hE;clear vq;simp only [sP] at hE ⊢;go_wp2;exact .mk (hE _ hC1)
  apply yN_
  ·apply dP [(10,some 30),(11,some 31)];exact fun _=>rfl;rfl;intro vals vq w1 hC1 E hE;simp only [sP,vq] at hE ⊢;clear vq;go_wp2;exact .mk (hE _ hC1)
  apply yL_
  ·apply dP [(12,some 32),(9,some 29),(0,some 20),(1,some 21),(2,some 22),(3,some 23),(4,some 24),(5,some 25),(6,some 26),(7,some 27),(8,some 28),(9,some 29),(10,some 30),(11,some 31),(12,some 32)];exact fun _=>rfl;rfl;intro vals vq w1 hC1 E hE;simp only [sP,vq] at hE ⊢;clear vq;go_wp2;exact .mk (hE _ hC1)
  intro vals vq w1 hC1;simp only [sP,vq];clear vq;go_wp2_with fail;go_ret;refine ⟨ret_int' ?_,HBw.out.trans (hC1.mono HBw.out.size)⟩;rw [xor64 _ _ (qaM HX.out) (qaM HX.out),xor64 _ _ (qcz (qaM HX.out) (qaM HX.out)) (by rw [HL.out]; exact lastN_lt HX.out),HL.out];rfl
 | true =>
  go_enter Tryd.func79,Tryd.ntmps79;go_wp2_with (refine qac (x:=.tmp 4) hb40 rfl rfl rfl hu rfl qaS ?_);rw [← HW.out];clear hb40 c20;refine qab (qa1 x c W0 HX.out hc) ?_;rintro e w1 ⟨rfl,hb1⟩;have g4:=H4.out.below hb1 hl4;have g6:=H6.out.below hb1 hl6;have hBw:=HB.out.trans (hb1.mono HB.out.size);have h14:=g4.lt;have h16:=g6.lt;have cc:=g6.cell 2;simp at cc;have G4:=zY g4;have G6:=zY g6;have HBw:=zY hBw;clear g4 g6 hBw hb1 c2;go_wp2_with fail;rw [show (x:Int)/2^c=(L:Int) by rw [HL.out,qbA]; rfl];clear cc;have HC0:Below w1.heap.size w1 w1.drew:=(Below.refl _ _).drew;refine qaj (fun u=>Below w1.heap.size w1 u) (fun u=>Below w1.heap.size w1 u) [(0,some 20),(1,some 21),(2,some 22),(3,some 23),(4,some 24),(5,some 25),(6,some 26),(7,some 27),(8,some 28),(9,some 29),(10,some 30),(11,some 31),(12,some 32),(13,some 8)] (by kernel_rfl) (by kernel_rfl) (by decide) (by kernel_rfl) (fun _=>rfl) HC0 ?_;apply yN_
  ·apply dP [];exact fun _=>rfl;rfl;rintro vals - w1 hC1 E hE;simp only [sP] at hE ⊢;refine qac (G4.out.below hC1 h14) rfl rfl rfl hu rfl qaS ?_;go_wp2_with fail;exact .mk (hE _ hC1)
  apply yN_
  ·apply dP [];exact fun _=>rfl;rfl;rintro vals ⟨-,-⟩ w1 hC1 E hE;simp only [sP] at hE ⊢;go_wp2;exact .mk (hE _ hC1)
  apply yN_
  ·apply dP [];exact fun _=>rfl;rfl;intro vals vq w1 hC1 E hE;clear vq;simp only [sP] at hE ⊢;go_wp2;exact .mk (hE _ hC1)
  apply yN_
  ·apply dP [(2,some 22)];exact fun _=>rfl;rfl;intro vals vq w1 hC1 E hE;have d0:=(G6.out.below hC1 h16).cell 0;simp at d0;simp only [sP,vq] at hE ⊢;clear vq;go_wp2;exact .mk (hE _ hC1)
  apply yN_
  ·apply dP [(0,some 20),(1,some 21),(3,some 23)];exact fun _=>rfl;rfl;intro vals vq w1 hC1 E hE;simp only [sP,vq] at hE ⊢;clear vq;go_wp2_with fail;refine qab (qa1 x p _ HX.out hp) ?_;rintro e w2 ⟨rfl,hb2⟩;go_wp2_with fail;exact .mk (hE _ (hC1.trans (hb2.mono hC1.size)))
  apply yN_
  ·apply dP [];exact fun _=>rfl;rfl;intro vals vq w1 hC1 E hE;clear vq;simp only [sP] at hE ⊢;refine qac (G4.out.below hC1 h14) rfl rfl rfl hu rfl qaS ?_;go_wp2_with fail;exact .mk (hE _ hC1)
  apply yN_
  ·apply dP [];exact fun _=>rfl;rfl;intro vals vq w1 hC1 E hE;clear vq;simp only [sP] at hE ⊢;go_wp2;exact .mk (hE _ hC1)
  apply yN_
  ·apply dP [];exact fun _=>rfl;rfl;intro vals vq w1 hC1 E hE;clear vq;simp only [sP] at hE ⊢;go_wp2;exact .mk (hE _ hC1)
  apply yN_
  ·apply dP [(7,some 27)];exact fun _=>rfl;rfl;intro vals vq w1 hC1 E hE;have d0:=(G6.out.below hC1 h16).cell 1;simp at d0;simp only [sP,vq] at hE ⊢;clear vq;go_wp2;exact .mk (hE _ hC1)
  apply yN_
  ·apply dP [(5,some 25),(6,some 26),(8,some 28),(4,some 24)];exact fun _=>rfl;rfl;intro vals vq w1 hC1 E hE;simp only [sP,vq] at hE ⊢;clear vq;go_wp2_with fail;refine qab (qa1 x q _ HX.out hq) ?_;rintro e w2 ⟨rfl,hb2⟩;go_wp2_with fail;exact .mk (hE _ (hC1.trans (hb2.mono hC1.size)))
  apply yN_
  ·apply dP [(4,some 24),(9,some 29)];exact fun _=>rfl;rfl;intro vals vq w1 hC1 E hE;simp only [sP,vq] at hE ⊢;clear vq;go_wp2;exact .mk (hE _ hC1)
  apply yN_
  ·apply dP [];exact fun _=>rfl;rfl;intro vals vq w1 hC1 E hE;clear vq;simp only [sP] at hE ⊢;go_wp2;exact .mk (hE _ hC1)
  apply yN_
  ·apply dP [(10,some 30),(11,some 31)];exact fun _=>rfl;rfl;intro vals vq w1 hC1 E hE;simp only [sP,vq] at hE ⊢;clear vq;go_wp2;exact .mk (hE _ hC1)
  apply yL_
  ·apply dP [(12,some 32),(9,some 29),(0,some 20),(1,some 21),(2,some 22),(3,some 23),(4,some 24),(5,some 25),(6,some 26),(7,some 27),(8,some 28),(9,some 29),(10,some 30),(11,some 31),(12,some 32)];exact fun _=>rfl;rfl;intro vals vq w1 hC1 E hE;simp only [sP,vq] at hE ⊢;clear vq;go_wp2;exact .mk (hE _ hC1)
  intro vals vq w1 hC1;simp only [sP,vq];clear vq;go_wp2_with fail;go_ret;refine ⟨ret_int' ?_,HBw.out.trans (hC1.mono HBw.out.size)⟩;rw [xor64 _ _ (qaM HX.out) (qaM HX.out),xor64 _ _ (qcz (qaM HX.out) (qaM HX.out)) (by rw [HL.out]; exact lastN_lt HX.out),HL.out];rfl
theorem qbH (x:Nat) (w:World) (hx:x<18446744073709551616):Calls Tryd.prog 75 #[.int .u64 x] w fun e w'=>e=.returned (.int .u64 x)∧w=w':=by
 have hx1:(x:Int)<18446744073709551616:=by omega
 clear hx;go_enter Tryd.func75,Tryd.ntmps75;go_wp2;go_ret;exact ⟨rfl,rfl⟩
theorem elem64:(Tryd.prog.info? 43).map (fun i=>(i.zero,i.size,i.bytes))=some (some (.int .u64 0),1,8):=by kernel_rfl
theorem one64:(Tryd.prog.info? 43).map (·.size)=some 1:=by kernel_rfl
theorem qbM:(Tryd.prog.info? 96).map (·.size)=some 3:=by kernel_rfl
def RowPost64 (blk:List UInt8) (w:World) (e:Ending) (w':World):Prop :=
 ∃ g,e=.returned (.slice (some ⟨g,0,none⟩) 80 80)∧w.heap.size≤g∧Blk w' g 43 (rowC .u64 (rowW F64 blk 80) 0)∧Below w.heap.size w w'
structure RowSt64 (w:World) (gf gw:Nat) (cs:Array Value) (u:World):Prop where
 below:Below gf w u
 form:Blk u gf 100 f64C
 row:Blk u gw 43 cs
 lw:gf<gw
theorem RowSt64.put {w u u':World} {gf gw:Nat} {cs cs':Array Value} (h:RowSt64 w gf gw cs u) (hw:Wrote gw u u') (hb:Blk u' gw 43 cs'):RowSt64 w gf gw cs' u' :=
 ⟨hw.below h.below (by have:=h.lw; omega) (by have:=h.form.lt; omega),hw.blk h.form (by have:=h.lw; omega),hb,h.lw⟩
theorem RowSt64.next {w u u':World} {gf gw:Nat} {cs:Array Value} (h:RowSt64 w gf gw cs u) (hb:Below u.heap.size u u'):RowSt64 w gf gw cs u' :=
 ⟨h.below.trans (hb.mono (by have:=h.form.lt; omega)),h.form.below hb h.form.lt,h.row.below hb h.row.lt,h.lw⟩
theorem RowSt64.drew {w u:World} {gf gw:Nat} {cs:Array Value} (h:RowSt64 w gf gw cs u):RowSt64 w gf gw cs u.drew:=⟨h.below.drew,h.form,h.row,h.lw⟩
theorem rowSt64_start (w:World) (cs:Array Value):RowSt64 w w.heap.size (w.heap.size+1) cs ((w.alloc (.cells f64C 100)).alloc (.cells cs 43)) :=
 ⟨(below_new _ _).alloc (by simp) _,(Blk.new _ _ _).alloc _,by have:=Blk.new (w.alloc (.cells f64C 100)) 43 cs; simpa using this,by omega⟩
theorem row64_any (blk:List UInt8) (A:Option Addr) (c B:Nat) (w:World) (hr:Rd w B A (bytesV blk)) (hB:B≤w.heap.size) (hl:blk.length=128) (hc:blk.length≤c) (hcm:c≤9223372036854775807) :
  Calls Tryd.prog 78 #[.agg f64C,.slice A blk.length c] w (RowPost64 blk w):=by
 obtain ⟨W0,hW0⟩:=eX (w.alloc (.cells f64C 100));have hb0:Below w.heap.size w W0:=by rw [hW0]; exact below_new _ _
 have hbf:Blk W0 w.heap.size 100 f64C:=by rw [hW0]; exact Blk.new _ _ _
 have hs0:W0.heap.size=w.heap.size+1:=by rw [hW0]; simp
 have c0:=hbf.cell 0;have c1:=hbf.cell 1;simp only [f64C,List.getElem?_toArray,List.getElem?_cons_zero,List.getElem?_cons_succ] at c0 c1;rw [hW0,f64C] at c0 c1;have HB:=zY hb0;have HF:=zY hbf;have HS:=zY hs0;have HR:=zY (hr.mono hB);have HL:=zY hl;have HW:=zY hW0;obtain ⟨ie,hie,hez,hes,heb⟩:=info_parts elem64;have hc2:128≤c:=by omega
 clear hb0 hbf hs0 hr hW0 HB HF HS hl hc;rw [HL.out];rw [f64C];have hmk:∀ u:World,(Instr.makeSlice 108 (.int .i64 80) (.int .i64 80)).run Tryd.prog u=.ok (.slice (some ⟨u.heap.size,0,none⟩) 80 80) (u.alloc (.cells (rowC .u64 [] 80) 43)):=fun _=>by kernel_rfl
 go_enter Tryd.func78,Tryd.ntmps78;go_wp2_with fail;have hst0:=rowSt64_start w (rowC .u64 (rowW F64 blk 0) (80 - 0));generalize hgw:w.heap.size+1=gw at *;generalize hgf:w.heap.size=gf at *;have HGF:=zY hgf;clear hgf hgw c0 c1 hmk
 go_loopw [20] (fun i wr=>∃ t:Nat,t≤80∧i=.int .i64 t∧RowSt64 w gf gw (rowC .u64 (rowW F64 blk t) (80 - t)) wr) (fun i _=>80 - (intOf i).toNat)
 case atStart=>exact ⟨0,by omega,rfl,hst0⟩
 case round =>
  obtain ⟨t,ht,rfl,hst⟩:=hrel;clear hst0;have hlen:=qb1 F64 blk t
  by_cases hlt:t<80
  ·have hlt':(t:Int)<80:=by omega
   by_cases h16:t<16
   ·have h16':(t:Int)<16:=by omega
    rw [show 80 - t=(80 - t - 1)+1 by omega,rowC_start] at hst;obtain ⟨l,hl'⟩:∃ l,l=rowW F64 blk t:=⟨_,rfl⟩;obtain ⟨m,hm⟩:=eX (80 - t - 1);rw [← hl'] at hst hlen;rw [← hm] at hst;have HL':=zY hl';have HM:=zY hm;have HLEN:=zY hlen;have HST:=zY hst;clear hl' hm hlen hst;obtain ⟨ad,rfl,hadB,_⟩:=(HR.out.below HST.out.below).at_ (k:=t*8) (by rw [qam,HL.out]; omega);go_wp2_with fail;rw [show (t+1)*8 - t*8=8 by omega];obtain ⟨pc,hpc⟩:=eX ((blk.drop (t*8)).take 8);have hpl:pc.length=8:=by rw [hpc]; simp; rw [HL.out]; omega
    have hrp:Rd w gf (some (ad.add (t*8))) (bytesV pc):=by rw [hpc,bytesV,List.map_take,List.map_drop]; exact rd_take (rd_drop HR.out (t*8)) 8
    have HPC:=zY hpc;have HRP:=zY hrp;have HPL:=zY hpl;clear hpc hrp hpl;obtain ⟨wo,rfl⟩:∃ wo:World,wo=wr:=⟨_,rfl⟩
    go_loopw [35] (fun i wi=>∃ j:Nat,j≤8∧i=.int .i64 j∧RowSt64 w gf gw (rowP .u64 l (beN (pc.take j)) m) wi) (fun i _=>8 - (intOf i).toNat)
    case atStart=>exact ⟨0,by omega,rfl,by simpa [beN] using HST.out⟩
    case round =>
     obtain ⟨j,hj,rfl,hsi⟩:=hrel
     by_cases hjl:j<8
     ·have hjl':(j:Int)<8:=by omega
      have hpj:j<pc.length:=by rw [HPL.out]; exact hjl
      obtain ⟨ad',hae,_,hcell⟩:=(HRP.out.below hsi.below).at_ (k:=j) (by rw [qam]; exact hpj)
      injection hae with hae
      subst hae;obtain ⟨z,hz⟩:=eX (pc[j]);have hcl:wr.cell? ((ad.add (t*8)).add j)=some (.int .u8 (z.toNat:Int)):=by rw [hcell,hz]; simp [bytesV,byteV]
      have hzl:=z.toNat_lt;have hzl2:(z.toNat:Int)<256:=by omega
      obtain ⟨x,hx⟩:=eX (beN (pc.take j))
      have hxl:x<256^j:=by
       rw [hx];have h1:=beN_lt (pc.take j);have h2:(pc.take j).length≤j:=List.length_take_le _ _;exact Nat.lt_of_lt_of_le h1 (Nat.pow_le_pow_right (by omega) h2)
      have hst:beN (pc.take (j+1))=x*256+z.toNat:=by
       rw [List.take_succ_eq_append_getElem hpj,beN_snoc,hx,hz]
      rw [← hx] at hsi;have crow:=hsi.row.cell t;rw [show (rowP .u64 l x m)[t]?=some (.int .u64 (x:Int)) by have:=rowP_at .u64 l x m; rwa [HLEN.out] at this] at crow;have frow:=hsi.row.free t;have HSI:=zY hsi;have HST2:=zY hst;have HXL:=zY hxl;clear hcell hz hx hst hsi hpj hxl;go_wp2_with fail;refine ⟨⟨j+1,hjl,by go_num,?_⟩,by simp [intOf]; omega⟩;have hx8:x<256^(8 - 1):=Nat.lt_of_lt_of_le HXL.out (Nat.pow_le_pow_right (by omega) (by omega));rw [or_byte64 x z.toNat hx8 hzl,HST2.out];refine HSI.out.put (qaf _ _ _ _) ?_;have:=qag (i:=t) HSI.out.row (.int .u64 ((x*256+z.toNat:Nat):Int));have h9:=rowP_set .u64 l x (x*256+z.toNat) m;rw [HLEN.out] at h9
      rwa [h9] at this
     ·have hjl':¬ (j:Int)<8:=by omega
      have hfin:RowSt64 w gf gw (rowC .u64 (rowW F64 blk (t+1)) (80 - (t+1))) wr:=by
       obtain rfl:j=8:=by omega
       rw [rowP_end,List.take_of_length_le (by rw [HPL.out]; omega)] at hsi;rw [rowW,if_pos h16,← HL'.out,show 80 - (t+1)=m by rw [HM.out]; omega];rw [show pieceN (F64.bits/8) blk t=beN pc by rw [HPC.out]; rfl];exact hsi
      have HFIN:=zY hfin;clear hfin hsi;go_wp2_with fail;exact ⟨⟨t+1,hlt,by go_num,HFIN.out⟩,by simp [intOf]; omega⟩
   ·have h16':¬ (t:Int)<16:=by omega
    rw [show 80 - t=(80 - t - 1)+1 by omega,rowC_start] at hst;obtain ⟨l,hl'⟩:∃ l,l=rowW F64 blk t:=⟨_,rfl⟩;obtain ⟨m,hm⟩:=eX (80 - t - 1);have hlw:∀ i,l.getD i 0<2^64:=by rw [hl']; exact qc2 (rowW_lt F64 (by decide) blk t) (by decide)
    rw [← hl'] at hst hlen;rw [← hm] at hst;have HL':=zY hl';have HM:=zY hm;have HLEN:=zY hlen;have HLW:=zY hlw;obtain ⟨a15,h15⟩:=eX (l.getD (t - 15) 0);obtain ⟨a2,h2⟩:=eX (l.getD (t - 2) 0);obtain ⟨a16,h16e⟩:=eX (l.getD (t - 16) 0);obtain ⟨a7,h7⟩:=eX (l.getD (t - 7) 0);have w15:a15<2^64:=by rw [h15]; exact hlw _
    have w2:a2<2^64:=by rw [h2]; exact hlw _
    have w16:a16<2^64:=by rw [h16e]; exact hlw _
    have w7:a7<2^64:=by rw [h7]; exact hlw _
    have e15:(rowP .u64 l 0 m)[t - 15]?=some (.int .u64 (a15:Int)):=by rw [qcC _ _ _ _ _ (by omega),h15]
    have e2:(rowP .u64 l 0 m)[t - 2]?=some (.int .u64 (a2:Int)):=by rw [qcC _ _ _ _ _ (by omega),h2]
    have e16:(rowP .u64 l 0 m)[t - 16]?=some (.int .u64 (a16:Int)):=by rw [qcC _ _ _ _ _ (by omega),h16e]
    have e7:(rowP .u64 l 0 m)[t - 7]?=some (.int .u64 (a7:Int)):=by rw [qcC _ _ _ _ _ (by omega),h7]
    have E15:=zY e15;have E2:=zY e2;have E16:=zY e16;have E7:=zY e7;have W15:=zY (show a15<18446744073709551616 by omega);have W2:=zY (show a2<18446744073709551616 by omega);have W16:=zY w16;have W7:=zY w7;have H15:=zY h15;have H2:=zY h2;have H16:=zY h16e;have H7:=zY h7;have i15:(a15:Int)<18446744073709551616:=by omega
    have i2:(a2:Int)<18446744073709551616:=by omega
    clear hl' hm hlen hlw h15 h2 h16e h7 w15 w2 w16 w7 e15 e2 e16 e7;have hu:=Tryd.underlying100;have hu3:=Tryd.underlying96;have HC0:=hst.drew;clear hst;go_wp2_with fail;refine qaj (fun u=>RowSt64 w gf gw (rowP .u64 l 0 m) u) (fun u=>RowSt64 w gf gw (rowP .u64 l 0 m) u) [(0,some 51),(1,some 52),(2,some 53),(3,some 54),(4,some 55),(5,some 56),(6,some 57),(7,some 58),(8,some 59),(9,some 60),(10,some 61),(11,some 62),(12,some 63),(13,some 64),(14,some 65),(15,some 66),(16,some 67),(17,some 68),(18,some 69),(19,some 70),(20,some 10),(21,some 11)] (by kernel_rfl) (by kernel_rfl) (by decide) (by kernel_rfl) (fun _=>rfl) HC0 ?_;apply yN_
    ·apply dP [];exact fun _=>rfl;rfl;rintro vals - w1 hC1 E hE;simp only [sP] at hE ⊢;refine qac hC1.form rfl rfl rfl hu rfl qaS ?_;go_wp2_with fail;exact .mk (hE _ hC1)
    apply yN_
    ·apply dP [];exact fun _=>rfl;rfl;rintro vals ⟨-,-⟩ w1 hC1 E hE;simp only [sP] at hE ⊢;go_wp2;exact .mk (hE _ hC1)
    apply yN_
    ·apply dP [];exact fun _=>rfl;rfl;intro vals vq w1 hC1 E hE;clear vq;simp only [sP] at hE ⊢;go_wp2;exact .mk (hE _ hC1)
    apply yN_
    ·apply dP [(2,some 53)];exact fun _=>rfl;rfl;intro vals vq w1 hC1 E hE;simp only [sP,vq] at hE ⊢;clear vq;go_wp2;exact .mk (hE _ hC1)
    apply yN_
    ·apply dP [(1,some 52),(3,some 54)];exact fun _=>rfl;rfl;intro vals vq w1 hC1 E hE;simp only [sP,vq] at hE ⊢;clear vq;go_wp2;exact .mk (hE _ hC1)
    apply yN_
    ·apply dP [(4,some 55)];exact fun _=>rfl;rfl;intro vals vq w1 hC1 E hE;have d0:=hC1.row.cell (t - 15);rw [E15.out] at d0;simp only [sP,vq] at hE ⊢;clear vq;go_wp2;exact .mk (hE _ hC1)
    apply yN_
    ·apply dP [];exact fun _=>rfl;rfl;intro vals vq w1 hC1 E hE;clear vq;simp only [sP] at hE ⊢;go_wp2;exact .mk (hE _ hC1)
    apply yN_
    ·apply dP [(6,some 57)];exact fun _=>rfl;rfl;intro vals vq w1 hC1 E hE;simp only [sP,vq] at hE ⊢;clear vq;go_wp2;exact .mk (hE _ hC1)
    apply yN_
    ·apply dP [(7,some 58)];exact fun _=>rfl;rfl;intro vals vq w1 hC1 E hE;simp only [sP,vq] at hE ⊢;clear vq;refine qah (n:=3) (r:=#[.int .i64 1,.int .i64 8,.int .i64 7]) hC1.form (by decide) rfl rfl rfl rfl hu3 rfl qbM ?_;go_wp2_with fail;exact .mk (hE _ hC1)
    apply yN_
    ·apply dP [(0,some 51),(5,some 56),(8,some 59)];exact fun _=>rfl;rfl;intro vals vq w1 hC1 E hE;simp only [sP,vq] at hE ⊢;clear vq;go_wp2_with fail;refine qab (qcg a15 1 8 7 true _ W15.out (by decide) (by decide) (by decide)) ?_;rintro e w2 ⟨rfl,hb2⟩;go_wp2_with fail;exact .mk (hE _ (hC1.next hb2))
    apply yN_
    ·apply dP [];exact fun _=>rfl;rfl;intro vals vq w1 hC1 E hE;clear vq;simp only [sP] at hE ⊢;refine qac hC1.form rfl rfl rfl hu rfl qaS ?_;go_wp2_with fail;exact .mk (hE _ hC1)
    apply yN_
    ·apply dP [];exact fun _=>rfl;rfl;intro vals vq w1 hC1 E hE;clear vq;simp only [sP] at hE ⊢;go_wp2;exact .mk (hE _ hC1)
    apply yN_
    ·apply dP [];exact fun _=>rfl;rfl;intro vals vq w1 hC1 E hE;clear vq;simp only [sP] at hE ⊢;go_wp2;exact .mk (hE _ hC1)
    apply yN_
    ·apply dP [(12,some 63)];exact fun _=>rfl;rfl;intro vals vq w1 hC1 E hE;simp only [sP,vq] at hE ⊢;clear vq;go_wp2;exact .mk (hE _ hC1)
    apply yN_
    ·apply dP [(11,some 62),(13,some 64)];exact fun _=>rfl;rfl;intro vals vq w1 hC1 E hE;simp only [sP,vq] at hE ⊢;clear vq;go_wp2;exact .mk (hE _ hC1)
    apply yN_
    ·apply dP [(14,some 65)];exact fun _=>rfl;rfl;intro vals vq w1 hC1 E hE;have d0:=hC1.row.cell (t - 2);rw [E2.out] at d0;simp only [sP,vq] at hE ⊢;clear vq;go_wp2;exact .mk (hE _ hC1)
    apply yN_
    ·apply dP [];exact fun _=>rfl;rfl;intro vals vq w1 hC1 E hE;clear vq;simp only [sP] at hE ⊢;go_wp2;exact .mk (hE _ hC1)
    apply yN_
    ·apply dP [(16,some 67)];exact fun _=>rfl;rfl;intro vals vq w1 hC1 E hE;simp only [sP,vq] at hE ⊢;clear vq;go_wp2;exact .mk (hE _ hC1)
    apply yN_
    ·apply dP [(17,some 68)];exact fun _=>rfl;rfl;intro vals vq w1 hC1 E hE;simp only [sP,vq] at hE ⊢;clear vq;refine qah (n:=3) (r:=#[.int .i64 19,.int .i64 61,.int .i64 6]) hC1.form (by decide) rfl rfl rfl rfl hu3 rfl qbM ?_;go_wp2_with fail;exact .mk (hE _ hC1)
    apply yN_
    ·apply dP [(10,some 61),(15,some 66),(18,some 69),(9,some 60)];exact fun _=>rfl;rfl;intro vals vq w1 hC1 E hE;simp only [sP,vq] at hE ⊢;clear vq;go_wp2_with fail;refine qab (qcg a2 19 61 6 true _ W2.out (by decide) (by decide) (by decide)) ?_;rintro e w2 ⟨rfl,hb2⟩;go_wp2_with fail;exact .mk (hE _ (hC1.next hb2))
    apply yN_
    ·apply dP [(9,some 60),(19,some 70),(0,some 51),(1,some 52),(2,some 53),(3,some 54),(4,some 55),(5,some 56),(6,some 57),(7,some 58),(8,some 59),(9,some 60)];exact fun _=>rfl;rfl;intro vals vq w1 hC1 E hE;simp only [sP,vq] at hE ⊢;clear vq;go_wp2;exact .mk (hE _ hC1)
    apply yL_
    ·apply dP [(19,some 70),(20,some 10),(0,some 51),(1,some 52),(2,some 53),(3,some 54),(4,some 55),(5,some 56),(6,some 57),(7,some 58),(8,some 59),(9,some 60),(10,some 61),(11,some 62),(12,some 63),(13,some 64),(14,some 65),(15,some 66),(16,some 67),(17,some 68),(18,some 69),(19,some 70),(20,some 10)];exact fun _=>rfl;rfl;intro vals vq w1 hC1 E hE;simp only [sP,vq] at hE ⊢;clear vq;go_wp2;exact .mk (hE _ hC1)
    intro vals vq w1 hC1;simp only [sP,vq];clear vq;obtain ⟨X,hX⟩:∃ X:Nat,X=allN 64 a15 1 8 7 true:=⟨_,rfl⟩;obtain ⟨Y,hY⟩:∃ X:Nat,X=allN 64 a2 19 61 6 true:=⟨_,rfl⟩;rw [← hX,← hY];obtain ⟨NV,hNV⟩:∃ v:Nat,v=(a16+a7+(X+Y))%2^64:=⟨_,rfl⟩;have HX:=zY hX;have HY:=zY hY;have HNV:=zY hNV;have lX:(X:Int)<18446744073709551616:=by have:=allN_lt (b:=64) (p:=1) (q:=8) (c:=7) (shift:=true) W15.out; rw [← HX.out] at this; omega
    have lY:(Y:Int)<18446744073709551616:=by have:=allN_lt (b:=64) (p:=19) (q:=61) (c:=6) (shift:=true) W2.out; rw [← HY.out] at this; omega
    have l16:(a16:Int)<18446744073709551616:=by have:=W16.out; omega
    have l7:(a7:Int)<18446744073709551616:=by have:=W7.out; omega
    clear HC0 hX hY hNV;go_wp2_with fail;have HC0:=hC1.drew;refine qaj (fun u=>RowSt64 w gf gw (rowP .u64 l 0 m) u) (fun u=>RowSt64 w gf gw (rowP .u64 l NV m) u) [(0,some 71),(1,some 72),(2,some 73),(3,some 74),(4,some 75),(5,some 76),(6,some 77),(7,some 78),(8,some 79),(9,some 80),(10,some 81),(11,some 82),(12,some 83),(13,some 84),(14,some 85),(15,some 86),(16,some 87),(17,some 88),(18,some 89),(19,none)] (by kernel_rfl) (by kernel_rfl) (by decide) (by kernel_rfl) (fun _=>rfl) HC0 ?_;apply yN_
    ·apply dP [];exact fun _=>rfl;rfl;rintro vals - w1 hC1 E hE;simp only [sP] at hE ⊢;go_wp2;exact .mk (hE _ hC1)
    apply yN_
    ·apply dP [];exact fun _=>rfl;rfl;rintro vals ⟨-,-⟩ w1 hC1 E hE;simp only [sP] at hE ⊢;go_wp2;exact .mk (hE _ hC1)
    apply yN_
    ·apply dP [];exact fun _=>rfl;rfl;intro vals vq w1 hC1 E hE;clear vq;simp only [sP] at hE ⊢;go_wp2;exact .mk (hE _ hC1)
    apply yN_
    ·apply dP [];exact fun _=>rfl;rfl;intro vals vq w1 hC1 E hE;clear vq;simp only [sP] at hE ⊢;go_wp2;exact .mk (hE _ hC1)
    apply yN_
    ·apply dP [(3,some 74)];exact fun _=>rfl;rfl;intro vals vq w1 hC1 E hE;simp only [sP,vq] at hE ⊢;clear vq;go_wp2;exact .mk (hE _ hC1)
    apply yN_
    ·apply dP [(2,some 73),(4,some 75)];exact fun _=>rfl;rfl;intro vals vq w1 hC1 E hE;simp only [sP,vq] at hE ⊢;clear vq;go_wp2;exact .mk (hE _ hC1)
    apply yN_
    ·apply dP [(5,some 76)];exact fun _=>rfl;rfl;intro vals vq w1 hC1 E hE;have d0:=hC1.row.cell (t - 16);rw [E16.out] at d0;simp only [sP,vq] at hE ⊢;clear vq;go_wp2;exact .mk (hE _ hC1)
    apply yN_
    ·apply dP [];exact fun _=>rfl;rfl;intro vals vq w1 hC1 E hE;clear vq;simp only [sP] at hE ⊢;go_wp2;exact .mk (hE _ hC1)
    apply yN_
    ·apply dP [];exact fun _=>rfl;rfl;intro vals vq w1 hC1 E hE;clear vq;simp only [sP] at hE ⊢;go_wp2;exact .mk (hE _ hC1)
    apply yN_
    ·apply dP [(8,some 79)];exact fun _=>rfl;rfl;intro vals vq w1 hC1 E hE;simp only [sP,vq] at hE ⊢;clear vq;go_wp2;exact .mk (hE _ hC1)
    apply yN_
    ·apply dP [(7,some 78),(9,some 80)];exact fun _=>rfl;rfl;intro vals vq w1 hC1 E hE;simp only [sP,vq] at hE ⊢;clear vq;go_wp2;exact .mk (hE _ hC1)
    apply yN_
    ·apply dP [(10,some 81)];exact fun _=>rfl;rfl;intro vals vq w1 hC1 E hE;have d0:=hC1.row.cell (t - 7);rw [E7.out] at d0;simp only [sP,vq] at hE ⊢;clear vq;go_wp2;exact .mk (hE _ hC1)
    apply yN_
    ·apply dP [(6,some 77),(11,some 82)];exact fun _=>rfl;rfl;intro vals vq w1 hC1 E hE;simp only [sP,vq] at hE ⊢;clear vq;go_wp2;exact .mk (hE _ hC1)
    apply yN_
    ·apply dP [];exact fun _=>rfl;rfl;intro vals vq w1 hC1 E hE;clear vq;simp only [sP] at hE ⊢;go_wp2;exact .mk (hE _ hC1)
    apply yN_
    ·apply dP [];exact fun _=>rfl;rfl;intro vals vq w1 hC1 E hE;clear vq;simp only [sP] at hE ⊢;go_wp2;exact .mk (hE _ hC1)
    apply yN_
    ·apply dP [(13,some 84),(14,some 85)];exact fun _=>rfl;rfl;intro vals vq w1 hC1 E hE;simp only [sP,vq] at hE ⊢;clear vq;go_wp2;exact .mk (hE _ hC1)
    apply yN_
    ·apply dP [(15,some 86)];exact fun _=>rfl;rfl;intro vals vq w1 hC1 E hE;simp only [sP,vq] at hE ⊢;clear vq;go_wp2_with fail;rw [sum64w X Y];refine qab (qbH _ _ (Nat.mod_lt _ (by decide))) ?_;rintro e w2 ⟨rfl,rfl⟩;go_wp2_with fail;exact .mk (hE _ hC1)
    apply yN_
    ·apply dP [(12,some 83),(16,some 87)];exact fun _=>rfl;rfl;intro vals vq w1 hC1 E hE;simp only [sP,vq] at hE ⊢;clear vq;go_wp2;rw [sum64f a16 a7 X Y,← HNV.out];exact .mk (hE _ hC1)
    apply yN_
    ·apply dP [(0,some 71),(1,some 72),(0,some 71),(1,some 72),(2,some 73),(3,some 74),(4,some 75),(5,some 76),(6,some 77),(7,some 78),(8,some 79),(9,some 80),(10,some 81),(11,some 82),(12,some 83),(13,some 84),(14,some 85),(15,some 86),(16,some 87),(17,some 88)];exact fun _=>rfl;rfl;intro vals vq w1 hC1 E hE;simp only [sP,vq] at hE ⊢;clear vq;go_wp2;exact .mk (hE _ hC1)
    apply yL_ (v:=undef)
    ·apply dP [(18,some 89),(17,some 88),(16,some 87),(0,some 71),(1,some 72),(2,some 73),(3,some 74),(4,some 75),(5,some 76),(6,some 77),(7,some 78),(8,some 79),(9,some 80),(10,some 81),(11,some 82),(12,some 83),(13,some 84),(14,some 85),(15,some 86),(16,some 87),(17,some 88)];exact fun _=>rfl;rfl;intro vals vq w1 hC1 E hE;simp only [sP,vq] at hE ⊢;clear vq;refine qao (i:=t) (v:=.int .u64 (NV:Int)) hC1.row rfl rfl rfl rfl one64 (by rw [rowP_size,HLEN.out]; omega) rfl ?_;intro w2 hb2 hw2;go_wp2_with fail;exact .mk (hE _ (hC1.put hw2 (by have h9:=rowP_set .u64 l 0 NV m; rw [HLEN.out] at h9; rw [h9] at hb2; exact hb2)))
    intro vals vq w1 hC1;simp only [sP,vq];clear vq
    have hfin:RowSt64 w gf gw (rowC .u64 (rowW F64 blk (t+1)) (80 - (t+1))) w1:=by
     rw [rowP_end] at hC1;rw [rowW,if_neg h16,← HL'.out,show 80 - (t+1)=m by rw [HM.out]; omega]
     have:nextW F64 l t=NV:=by
      rw [HNV.out,nextW,← H16.out,← H7.out,← H15.out,← H2.out,HX.out,HY.out]; rfl
     rw [this];exact hC1
    have HFIN:=zY hfin;clear hfin hC1 HC0;go_wp2_with fail;exact ⟨⟨t+1,hlt,by go_num,HFIN.out⟩,by simp [intOf]; omega⟩
  ·have hge:¬ (t:Int)<80:=by omega
   go_wp2_with fail;go_ret;obtain rfl:t=80:=by omega
   exact ⟨gw,rfl,by rw [HGF.out]; have:=hst.lw; omega,hst.row,by rw [HGF.out]; exact hst.below⟩
theorem qaQ:(Tryd.prog.info? 109).map (·.size)=some 8:=by kernel_rfl
structure MixSt64 (w0:World) (gf gr:Nat) (s:S8) (r:Array Value) (v:Array Value) (u:World):Prop where
 bel:Below gf w0 u
 form:Blk u gf 100 f64C
 s:Blk u (gf+1) 109 (s8V .u64 s)
 res:Blk u (gf+1+1) 109 (s8V .u64 ⟨0,0,0,0,0,0,0,0⟩)
 v:Blk u (gf+1+1+1) 109 v
 row:Blk u gr 43 r
 lr:gf+1+1+1<gr
theorem MixSt64.next {w0:World} {gf gr:Nat} {s:S8} {r v:Array Value} {u u':World} (h:MixSt64 w0 gf gr s r v u) (hb:Below u.heap.size u u'):MixSt64 w0 gf gr s r v u' :=
 ⟨h.bel.trans (hb.mono (by have:=h.form.lt; omega)),h.form.below hb h.form.lt,h.s.below hb h.s.lt,h.res.below hb h.res.lt,h.v.below hb h.v.lt,h.row.below hb h.row.lt,h.lr⟩
theorem MixSt64.drew {w0:World} {gf gr:Nat} {s:S8} {r v:Array Value} {u:World} (h:MixSt64 w0 gf gr s r v u):MixSt64 w0 gf gr s r v u.drew :=
 ⟨h.bel.drew,h.form,h.s,h.res,h.v,h.row,h.lr⟩
theorem MixSt64.put {w0:World} {gf gr:Nat} {s:S8} {r v v':Array Value} {u u':World} (h:MixSt64 w0 gf gr s r v u) (hw:Wrote (gf+1+1+1) u u') (hb:Blk u' (gf+1+1+1) 109 v'):MixSt64 w0 gf gr s r v' u' :=
 ⟨hw.below h.bel (by omega) (by have:=h.form.lt; omega),hw.blk h.form (by omega),hw.blk h.s (by omega),hw.blk h.res (by omega),hb,hw.blk h.row (by have:=h.lr; omega),h.lr⟩
def MixPost64 (s:S8) (blk:List UInt8) (w:World) (e:Ending) (w':World):Prop :=
 e=.returned (.agg (s8V .u64 (mixS F64 s blk)))∧Below w.heap.size w w'
theorem mix64_any (s:S8) (blk:List UInt8) (A:Option Addr) (c B:Nat) (w:World) (hr:Rd w B A (bytesV blk)) (hB:B≤w.heap.size) (hl:blk.length=128) (hc:blk.length≤c) (hcm:c≤9223372036854775807) (hs:s.Lt (2^64)) (hG:TabG w) :
  Calls Tryd.prog 76 #[.agg f64C,.agg (s8V .u64 s),.slice A blk.length c] w (MixPost64 s blk w):=by
 obtain ⟨W0,hW0⟩:∃ W0,W0=((w.alloc (.cells f64C 100)).alloc (.cells (s8V .u64 s) 109)).alloc (.cells (s8V .u64 ⟨0,0,0,0,0,0,0,0⟩) 109):=⟨_,rfl⟩;have hb0:Below w.heap.size w W0:=by rw [hW0]; exact ((below_new _ _).alloc (by simp) _).alloc (by simp; omega) _
 have hs0:W0.heap.size=w.heap.size+1+1+1:=by rw [hW0]; simp
 have hf0:Blk W0 w.heap.size 100 f64C:=by rw [hW0]; exact ((Blk.new _ _ _).alloc _).alloc _
 have hbs0:Blk W0 (w.heap.size+1) 109 (s8V .u64 s):=by
  have:=(Blk.new (w.alloc (.cells f64C 100)) 109 (s8V .u64 s)).alloc (.cells (s8V .u64 ⟨0,0,0,0,0,0,0,0⟩) 109);rw [hW0]; simpa using this
 have hbr0:Blk W0 (w.heap.size+1+1) 109 (s8V .u64 ⟨0,0,0,0,0,0,0,0⟩):=by
  have:=Blk.new ((w.alloc (.cells f64C 100)).alloc (.cells (s8V .u64 s) 109)) 109 (s8V .u64 ⟨0,0,0,0,0,0,0,0⟩);rw [hW0]; simpa using this
 have hbv0:Blk (W0.alloc (.cells (s8V .u64 ⟨0,0,0,0,0,0,0,0⟩) 109)) (w.heap.size+1+1+1) 109 (s8V .u64 ⟨0,0,0,0,0,0,0,0⟩):=by
  have:=Blk.new W0 109 (s8V .u64 ⟨0,0,0,0,0,0,0,0⟩)
  rwa [hs0] at this
 have hbs1:=hbs0;rw [hW0] at hbs1;have HB0:=zY hb0;have HS0:=zY hs0;have HF0:=zY hf0;have HBS0:=zY hbs0;have HBR0:=zY hbr0;have HR:=zY (hr.mono hB);have HL:=zY hl;have HG:=zY hG;have HSL:=zY hs;have hu8:=Tryd.underlying109;have hu:=Tryd.underlying100;have hu3:=Tryd.underlying96;have hc2:128≤c:=by omega
 rw [hW0] at hbv0;have HW:=zY hW0;rw [HL.out];clear hb0 hs0 hf0 hbs0 hbr0 hr hl hG hs hc hW0;go_enter Tryd.func76,Tryd.ntmps76
 go_wp2_with (first
  | (refine qac (x:=.tmp 4) (o:=⟨some 16,_,_,_,_,_⟩) (hbs1) rfl rfl rfl hu8 rfl qaQ ?_)
  | (refine qae (x:=.tmp 7) hbv0 rfl rfl rfl rfl qaQ rfl (by simp [s8V,Value.oneCell']) ?_; intro w1 hb1 hw1)
  | (refine qac (x:=.tmp 3) (hw1.blk (((Blk.new w 100 f64C).alloc _).alloc _ |>.alloc _) (by omega)) rfl rfl rfl hu rfl qaS ?_))
 have hf1:=hw1.blk (((Blk.new w 100 f64C).alloc (.cells (s8V .u64 s) 109)).alloc (.cells (s8V .u64 ⟨0,0,0,0,0,0,0,0⟩) 109) |>.alloc (.cells (s8V .u64 ⟨0,0,0,0,0,0,0,0⟩) 109)) (by omega);have hs1:Blk w1 (w.heap.size+1) 109 (s8V .u64 s):=hw1.blk (by have:=HBS0.out.alloc (.cells (s8V .u64 ⟨0,0,0,0,0,0,0,0⟩) 109); rwa [HW.out] at this) (by omega);have hr1:Blk w1 (w.heap.size+1+1) 109 (s8V .u64 ⟨0,0,0,0,0,0,0,0⟩):=hw1.blk (by have:=HBR0.out.alloc (.cells (s8V .u64 ⟨0,0,0,0,0,0,0,0⟩) 109); rwa [HW.out] at this) (by omega);have hbel1:Below w.heap.size w w1:=hw1.below (by have:=HB0.out.alloc HB0.out.size (.cells (s8V .u64 ⟨0,0,0,0,0,0,0,0⟩) 109); rwa [HW.out] at this) (by omega) (by simp; omega);have hz1:w1.heap.size=w.heap.size+1+1+1+1:=by rw [hw1.size]; simp
 have HF1:=zY hf1;have HS1:=zY hs1;have HR1:=zY hr1;have HV1:=zY hb1;have HBEL1:=zY hbel1;have HZ1:=zY hz1;have hrow:=row64_any blk A c w1.heap.size w1 ((HR.out.below hbel1).mono hbel1.size) (Nat.le_refl _) HL.out (by rw [HL.out]; exact hc2) hcm;rw [HL.out] at hrow;clear hf1 hs1 hr1 hb1 hbel1 hz1 hw1 hbv0 hbs1 HB0 HS0 HF0 HBS0 HBR0 HW W0;refine qab hrow ?_;rintro e w2 ⟨gr,rfl,hgl,hbr,hbw⟩;clear hrow;obtain ⟨RW,hRW⟩:=eX (rowW F64 blk 80);rw [← hRW] at hbr
 have hst0:MixSt64 w w.heap.size gr s (rowC .u64 RW 0) (s8V .u64 s) w2 :=
  ⟨HBEL1.out.trans (hbw.mono HBEL1.out.size),HF1.out.below hbw HF1.out.lt,HS1.out.below hbw HS1.out.lt,HR1.out.below hbw HR1.out.lt,HV1.out.below hbw HV1.out.lt,hbr,by rw [HZ1.out] at hgl; omega⟩
 have HGP:=zY HG.out.size;have HRW:=zY hRW;clear hbr hbw hgl hRW HF1 HS1 HR1 HV1 HBEL1 HZ1 HR;generalize hgf:w.heap.size=gf at *;have HGF:=zY hgf;clear hgf;go_wp2_with fail
 go_loopw [21] (fun i wr=>∃ k:Nat,k≤80∧i=.int .i64 k∧MixSt64 w gf gr s (rowC .u64 RW 0) (s8V .u64 (mixTo F64 RW s k)) wr) (fun i _=>80 - (intOf i).toNat)
 case atStart=>exact ⟨0,by omega,rfl,hst0⟩
 case round =>
  obtain ⟨k,hk,rfl,hst⟩:=hrel;clear hst0
  by_cases hlt:k<80
  ·have hlt':(k:Int)<80:=by omega
   obtain ⟨vv,hvv⟩:=eX (mixTo F64 RW s k);have hvl:vv.Lt (2^64):=by rw [hvv]; exact mixTo_lt HSL.out k
   rw [← hvv] at hst;have HVV:=zY hvv;obtain ⟨va,vb,vc,vd,ve,vf,vg,vh⟩:=vv;obtain ⟨la,lb,lc,ld,le_,lf,lg,lh⟩:=hvl;dsimp only at la lb lc ld le_ lf lg lh;obtain ⟨wk,hwk⟩:=eX (RW.getD k 0);obtain ⟨kk,hkk⟩:=eX (stepsN.getD k 0);have hRL:RW.length=80:=by rw [HRW.out]; exact qb1 _ _ _
   have hwl:wk<2^64:=by rw [hwk,HRW.out]; exact qc2 (rowW_lt F64 (by decide) blk 80) (by decide) k
   have hkl:kk<18446744073709551616:=by rw [hkk]; exact stepsN_lt k
   have hcr:(rowC .u64 RW 0)[k]?=some (.int .u64 (wk:Int)):=by rw [rowC_get _ _ _ _ (by rw [hRL]; exact hlt),hwk]
   have HGC:Hid (∀ u,Below gf w u→u.cell? ⟨0,k,none⟩=some (.int .u64 (kk:Int))):=zY fun u hu=>by
    rw [hkk]; exact (HG.out.below hu HGP.out).cell k (by omega)
   have crow:=hst.row.cell k;rw [hcr] at crow;have iwk:(wk:Int)<18446744073709551616:=by omega
   have ikk:(kk:Int)<18446744073709551616:=by omega
   have HWK:=zY hwk;have HKK:=zY hkk;have HL8:=zY (show S8.Lt ⟨va,vb,vc,vd,ve,vf,vg,vh⟩ (2^64) from ⟨la,lb,lc,ld,le_,lf,lg,lh⟩);have HWL:=zY hwl;have HKL:=zY hkl;clear hvv la lb lc ld le_ lf lg lh hwk hkk hRL hwl hkl hcr;have HST:=zY hst;clear hst;go_wp2_with fail;obtain ⟨kn,hkn⟩:=eX (kN F64 k);have hkn2:kn=kk:=by rw [hkn,kN,← HKK.out]; show kk/1%18446744073709551616=kk; have:=HKL.out; omega
   have hknl:kn<2^64:=by rw [hkn]; exact Nat.mod_lt _ (by decide)
   subst hkn2;have hkn2:kn<2^64:=hknl;have HKN:=zY hkn2;have HKNE:=zY hkn;have HKNL:=zY hknl;clear hkn2 hkn hknl;have HC0:=HST.out.drew;refine qaj (fun u=>MixSt64 w gf gr s (rowC .u64 RW 0) (s8V .u64 ⟨va,vb,vc,vd,ve,vf,vg,vh⟩) u) (fun u=>MixSt64 w gf gr s (rowC .u64 RW 0) (s8V .u64 ⟨va,vb,vc,vd,ve,vf,vg,vh⟩) u) [(0,some 26),(1,some 27),(2,some 28),(3,some 29),(4,some 30),(5,some 31),(6,some 32),(7,some 33),(8,some 10)] (by kernel_rfl) (by kernel_rfl) (by decide) (by kernel_rfl) (fun _=>rfl) HC0 ?_;apply yN_
   ·apply dP [];exact fun _=>rfl;rfl;rintro vals - w1 hC1 E hE;simp only [sP] at hE ⊢;go_wp2;exact .mk (hE _ hC1)
   apply yN_
   ·apply dP [(0,some 26)];exact fun _=>rfl;rfl;intro vals vq w1 hC1 E hE;simp only [sP,vq] at hE ⊢;clear vq;go_wp2;exact .mk (hE _ hC1)
   apply yN_
   ·apply dP [(1,some 27)];exact fun _=>rfl;rfl;intro vals vq w1 hC1 E hE;have d0:=HGC.out _ hC1.bel;simp only [sP,vq] at hE ⊢;clear vq;go_wp2;exact .mk (hE _ hC1)
   apply yN_
   ·apply dP [];exact fun _=>rfl;rfl;intro vals vq w1 hC1 E hE;clear vq;simp only [sP] at hE ⊢;go_wp2;exact .mk (hE _ hC1)
   apply yN_
   ·apply dP [(3,some 29)];exact fun _=>rfl;rfl;intro vals vq w1 hC1 E hE;have d0:=hC1.form.cell 0;simp [f64C] at d0;simp only [sP,vq] at hE ⊢;clear vq;go_wp2;exact .mk (hE _ hC1)
   apply yN_
   ·apply dP [(4,some 30)];exact fun _=>rfl;rfl;intro vals vq w1 hC1 E hE;simp only [sP,vq] at hE ⊢;clear vq;go_wp2;exact .mk (hE _ hC1)
   apply yN_
   ·apply dP [(2,some 28),(5,some 31)];exact fun _=>rfl;rfl;intro vals vq w1 hC1 E hE;simp only [sP,vq] at hE ⊢;clear vq;go_wp2;exact .mk (hE _ hC1)
   apply yN_
   ·apply dP [(6,some 32)];exact fun _=>rfl;rfl;intro vals vq w1 hC1 E hE;simp only [sP,vq] at hE ⊢;clear vq;go_wp2_with fail
    skip
    refine qab (qbH _ _ (by have:=HKL.out; omega)) ?_;rintro e w2 ⟨rfl,rfl⟩
    skip
    go_wp2_with fail;exact .mk (hE _ hC1)
   apply yL_
   ·apply dP [(7,some 33),(7,some 33),(0,some 26),(1,some 27),(2,some 28),(3,some 29),(4,some 30),(5,some 31),(6,some 32),(7,some 33)];exact fun _=>rfl;rfl;intro vals vq w1 hC1 E hE;simp only [sP,vq] at hE ⊢;clear vq;go_wp2;exact .mk (hE _ hC1)
   intro vals vq w1 hC1;simp only [sP,vq];clear vq;clear HC0 crow;go_wp2_with fail;have HC0:=hC1.drew;clear hC1;refine qaj (fun u=>MixSt64 w gf gr s (rowC .u64 RW 0) (s8V .u64 ⟨va,vb,vc,vd,ve,vf,vg,vh⟩) u) (fun u=>MixSt64 w gf gr s (rowC .u64 RW 0) (s8V .u64 ⟨va,vb,vc,vd,ve,vf,vg,vh⟩) u) [(0,some 34),(1,some 35),(2,some 36),(3,some 37),(4,some 11),(5,some 12)] (by kernel_rfl) (by kernel_rfl) (by decide) (by kernel_rfl) (fun _=>rfl) HC0 ?_;apply yN_
   ·apply dP [];exact fun _=>rfl;rfl;rintro vals - w1 hC1 E hE;simp only [sP] at hE ⊢;go_wp2;exact .mk (hE _ hC1)
   apply yN_
   ·apply dP [(0,some 34)];exact fun _=>rfl;rfl;intro vals vq w1 hC1 E hE;have d0:=hC1.v.cell 0;simp [s8V] at d0;simp only [sP,vq] at hE ⊢;clear vq;go_wp2;exact .mk (hE _ hC1)
   apply yN_
   ·apply dP [];exact fun _=>rfl;rfl;intro vals vq w1 hC1 E hE;clear vq;simp only [sP] at hE ⊢;go_wp2;exact .mk (hE _ hC1)
   apply yN_
   ·apply dP [(2,some 36)];exact fun _=>rfl;rfl;intro vals vq w1 hC1 E hE;have d0:=hC1.v.cell 4;simp [s8V] at d0;simp only [sP,vq] at hE ⊢;clear vq;go_wp2;exact .mk (hE _ hC1)
   apply yN_
   ·apply dP [(1,some 35),(0,some 34),(1,some 35)];exact fun _=>rfl;rfl;intro vals vq w1 hC1 E hE;simp only [sP,vq] at hE ⊢;clear vq;go_wp2;exact .mk (hE _ hC1)
   apply yL_
   ·apply dP [(3,some 37),(4,some 11),(0,some 34),(1,some 35),(2,some 36),(3,some 37),(4,some 11)];exact fun _=>rfl;rfl;intro vals vq w1 hC1 E hE;simp only [sP,vq] at hE ⊢;clear vq;go_wp2;exact .mk (hE _ hC1)
   intro vals vq w1 hC1;simp only [sP,vq];clear vq;clear HC0;have ive:(ve:Int)<18446744073709551616:=by have:=HL8.out.e; dsimp only at this; omega
   have iva:(va:Int)<18446744073709551616:=by have:=HL8.out.a; dsimp only at this; omega
   go_wp2_with fail;have HC0:=hC1.drew;clear hC1;obtain ⟨ca,hXA⟩:=eX (allN 64 ve 14 18 41 false);have lXA:ca<18446744073709551616:=by rw [hXA]; exact allN_lt (by have:=HL8.out.e; dsimp only at this; omega)
   obtain ⟨af,haf⟩:=eX (ve &&& vf);obtain ⟨ne,hne⟩:=eX (18446744073709551615 - ve);obtain ⟨ng,hng⟩:=eX (ne &&& vg);obtain ⟨ch,hch⟩:=eX (af ^^^ ng);obtain ⟨p1,hp1⟩:=eX ((vh+ca)%2^64);obtain ⟨p2,hp2⟩:=eX ((p1+ch)%2^64);obtain ⟨p3,hp3⟩:=eX ((p2+kn)%2^64);obtain ⟨xx,hxx⟩:=eX ((p3+wk)%2^64);have HP1:=zY hp1;have HP2:=zY hp2;have HP3:=zY hp3;have HXA:=zY hXA;have LXA:=zY lXA;have HAF:=zY haf;have HNE:=zY hne;have HNG:=zY hng;have HCH:=zY hch;have AFL:Hid (af<2^64):=zY (by rw [haf]; exact and_lt HL8.out.e);have NEL:Hid (ne<2^64):=zY (by rw [hne]; omega);have NGL:Hid (ng<2^64):=zY (by rw [hng]; exact and_lt NEL.out);have HXX:=zY hxx;clear hXA lXA haf hne hng hch hxx hp1 hp2 hp3;refine qaj (fun u=>MixSt64 w gf gr s (rowC .u64 RW 0) (s8V .u64 ⟨va,vb,vc,vd,ve,vf,vg,vh⟩) u) (fun u=>MixSt64 w gf gr s (rowC .u64 RW 0) (s8V .u64 ⟨va,vb,vc,vd,ve,vf,vg,vh⟩) u) [(0,some 38),(1,some 39),(2,some 40),(3,some 41),(4,some 42),(5,some 43),(6,some 44),(7,some 45),(8,some 46),(9,some 47),(10,some 48),(11,some 49),(12,some 50),(13,some 51),(14,some 52),(15,some 53),(16,some 54),(17,some 55),(18,some 56),(19,some 57),(20,some 58),(21,some 59),(22,some 60),(23,some 61),(24,some 62),(25,some 13)] (by kernel_rfl) (by kernel_rfl) (by decide) (by kernel_rfl) (fun _=>rfl) HC0 ?_;apply yN_
   ·apply dP [];exact fun _=>rfl;rfl;rintro vals - w1 hC1 E hE;simp only [sP] at hE ⊢;go_wp2;exact .mk (hE _ hC1)
   apply yN_
   ·apply dP [(0,some 38)];exact fun _=>rfl;rfl;intro vals vq w1 hC1 E hE;have d0:=hC1.v.cell 7;simp [s8V] at d0;simp only [sP,vq] at hE ⊢;clear vq;go_wp2;exact .mk (hE _ hC1)
   apply yN_
   ·apply dP [];exact fun _=>rfl;rfl;intro vals vq w1 hC1 E hE;clear vq;simp only [sP] at hE ⊢;refine qac hC1.form rfl rfl rfl hu rfl qaS ?_;go_wp2_with fail;exact .mk (hE _ hC1)
   apply yN_
   ·apply dP [];exact fun _=>rfl;rfl;intro vals vq w1 hC1 E hE;clear vq;simp only [sP] at hE ⊢;go_wp2;exact .mk (hE _ hC1)
   apply yN_
   ·apply dP [];exact fun _=>rfl;rfl;intro vals vq w1 hC1 E hE;clear vq;simp only [sP] at hE ⊢;go_wp2;exact .mk (hE _ hC1)
   apply yN_
   ·apply dP [(4,some 42)];exact fun _=>rfl;rfl;intro vals vq w1 hC1 E hE;simp only [sP,vq] at hE ⊢;clear vq;go_wp2;exact .mk (hE _ hC1)
   apply yN_
   ·apply dP [(5,some 43)];exact fun _=>rfl;rfl;intro vals vq w1 hC1 E hE;simp only [sP,vq] at hE ⊢;clear vq;refine qah (n:=3) (r:=#[.int .i64 14,.int .i64 18,.int .i64 41]) hC1.form (by decide) rfl rfl rfl rfl hu3 rfl qbM ?_;go_wp2_with fail;exact .mk (hE _ hC1)
   apply yN_
   ·apply dP [(2,some 40),(3,some 41),(6,some 44)];exact fun _=>rfl;rfl;intro vals vq w1 hC1 E hE;simp only [sP,vq] at hE ⊢;clear vq;go_wp2_with fail;refine qab (qcg ve 14 18 41 false _ (by have:=HL8.out.e; dsimp only at this; omega) (by decide) (by decide) (by decide)) ?_;rintro e w2 ⟨rfl,hb2⟩;rw [← HXA.out];go_wp2_with fail;exact .mk (hE _ (hC1.next hb2))
   apply yN_
   ·apply dP [(7,some 45),(7,some 45)];exact fun _=>rfl;rfl;intro vals vq w1 hC1 E hE;simp only [sP,vq] at hE ⊢;clear vq;go_wp2_with fail;refine qab (qbH ca _ LXA.out) ?_;rintro e w2 ⟨rfl,rfl⟩
    skip
    go_wp2_with fail;exact .mk (hE _ hC1)
   apply yN_
   ·apply dP [(1,some 39),(8,some 46)];exact fun _=>rfl;rfl;intro vals vq w1 hC1 E hE;simp only [sP,vq] at hE ⊢;clear vq;go_wp2;rw [qbK vh ca,← HP1.out];exact .mk (hE _ hC1)
   apply yN_
   ·apply dP [];exact fun _=>rfl;rfl;intro vals vq w1 hC1 E hE;clear vq;simp only [sP] at hE ⊢;go_wp2;exact .mk (hE _ hC1)
   apply yN_
   ·apply dP [];exact fun _=>rfl;rfl;intro vals vq w1 hC1 E hE;clear vq;simp only [sP] at hE ⊢;go_wp2;exact .mk (hE _ hC1)
   apply yN_
   ·apply dP [(11,some 49)];exact fun _=>rfl;rfl;intro vals vq w1 hC1 E hE;have d0:=hC1.v.cell 5;simp [s8V] at d0;simp only [sP,vq] at hE ⊢;clear vq;go_wp2;exact .mk (hE _ hC1)
   apply yN_
   ·apply dP [(10,some 48),(12,some 50)];exact fun _=>rfl;rfl;intro vals vq w1 hC1 E hE;simp only [sP,vq] at hE ⊢;clear vq;go_wp2;rw [and64 ve vf HL8.out.e HL8.out.f,← HAF.out];exact .mk (hE _ hC1)
   apply yN_
   ·apply dP [];exact fun _=>rfl;rfl;intro vals vq w1 hC1 E hE;clear vq;simp only [sP] at hE ⊢;go_wp2;exact .mk (hE _ hC1)
   apply yN_
   ·apply dP [(14,some 52)];exact fun _=>rfl;rfl;intro vals vq w1 hC1 E hE;simp only [sP,vq] at hE ⊢;clear vq;refine wpList_unary (run_not64 ve HL8.out.e) rfl rfl rfl ?_;rw [← HNE.out];go_wp2_with fail;exact .mk (hE _ hC1)
   apply yN_
   ·apply dP [];exact fun _=>rfl;rfl;intro vals vq w1 hC1 E hE;clear vq;simp only [sP] at hE ⊢;go_wp2;exact .mk (hE _ hC1)
   apply yN_
   ·apply dP [(16,some 54)];exact fun _=>rfl;rfl;intro vals vq w1 hC1 E hE;have d0:=hC1.v.cell 6;simp [s8V] at d0;simp only [sP,vq] at hE ⊢;clear vq;go_wp2;exact .mk (hE _ hC1)
   apply yN_
   ·apply dP [(15,some 53),(17,some 55)];exact fun _=>rfl;rfl;intro vals vq w1 hC1 E hE;simp only [sP,vq] at hE ⊢;clear vq;go_wp2;rw [and64 ne vg NEL.out HL8.out.g,← HNG.out];exact .mk (hE _ hC1)
   apply yN_
   ·apply dP [(13,some 51),(18,some 56)];exact fun _=>rfl;rfl;intro vals vq w1 hC1 E hE;simp only [sP,vq] at hE ⊢;clear vq;go_wp2;rw [xor64 af ng AFL.out NGL.out,← HCH.out];exact .mk (hE _ hC1)
   apply yN_
   ·apply dP [(9,some 47),(19,some 57)];exact fun _=>rfl;rfl;intro vals vq w1 hC1 E hE;simp only [sP,vq] at hE ⊢;clear vq;go_wp2;rw [qbK p1 ch,← HP2.out];exact .mk (hE _ hC1)
   apply yN_
   ·apply dP [];exact fun _=>rfl;rfl;intro vals vq w1 hC1 E hE;clear vq;simp only [sP] at hE ⊢;go_wp2;exact .mk (hE _ hC1)
   apply yN_
   ·apply dP [(20,some 58),(21,some 59)];exact fun _=>rfl;rfl;intro vals vq w1 hC1 E hE;simp only [sP,vq] at hE ⊢;clear vq;go_wp2;rw [qbK p2 kn,← HP3.out];exact .mk (hE _ hC1)
   apply yN_
   ·apply dP [];exact fun _=>rfl;rfl;intro vals vq w1 hC1 E hE;clear vq;simp only [sP] at hE ⊢;go_wp2;exact .mk (hE _ hC1)
   apply yN_
   ·apply dP [(22,some 60),(23,some 61)];exact fun _=>rfl;rfl;intro vals vq w1 hC1 E hE;simp only [sP,vq] at hE ⊢;clear vq;go_wp2;rw [qbK p3 wk,← HXX.out];exact .mk (hE _ hC1)
   apply yL_
   ·apply dP [(24,some 62),(8,some 46),(0,some 38),(1,some 39),(2,some 40),(3,some 41),(4,some 42),(5,some 43),(6,some 44),(7,some 45),(8,some 46),(9,some 47),(10,some 48),(11,some 49),(12,some 50),(13,some 51),(14,some 52),(15,some 53),(16,some 54),(17,some 55),(18,some 56),(19,some 57),(20,some 58),(21,some 59),(22,some 60),(23,some 61),(24,some 62)];exact fun _=>rfl;rfl;intro vals vq w1 hC1 E hE;simp only [sP,vq] at hE ⊢;clear vq;go_wp2;exact .mk (hE _ hC1)
   intro vals vq w1 hC1;simp only [sP,vq];clear vq;clear HC0;go_wp2_with fail;have HC0:=hC1.drew;clear hC1;obtain ⟨cy,hYA⟩:=eX (allN 64 va 28 34 39 false);have lYA:cy<18446744073709551616:=by rw [hYA]; exact allN_lt (by have:=HL8.out.a; dsimp only at this; omega)
   obtain ⟨ab,hab⟩:=eX (va &&& vb);obtain ⟨ac,hac⟩:=eX (va &&& vc);obtain ⟨bc,hbc⟩:=eX (vb &&& vc);obtain ⟨x1,hx1⟩:=eX (ab ^^^ ac);obtain ⟨mj,hmj⟩:=eX (x1 ^^^ bc);obtain ⟨yy,hyy⟩:=eX ((cy+mj)%2^64);have HYA:=zY hYA;have LYA:=zY lYA;have HAB:=zY hab;have HAC:=zY hac;have HBC:=zY hbc;have HX1:=zY hx1;have HMJ:=zY hmj;have HYY:=zY hyy;have ABL:Hid (ab<2^64):=zY (by rw [hab]; exact and_lt HL8.out.a);have ACL:Hid (ac<2^64):=zY (by rw [hac]; exact and_lt HL8.out.a);have BCL:Hid (bc<2^64):=zY (by rw [hbc]; exact and_lt HL8.out.b);have X1L:Hid (x1<2^64):=zY (by rw [hx1]; exact Nat.xor_lt_two_pow ABL.out ACL.out);clear hYA lYA hab hac hbc hx1 hmj hyy;refine qaj (fun u=>MixSt64 w gf gr s (rowC .u64 RW 0) (s8V .u64 ⟨va,vb,vc,vd,ve,vf,vg,vh⟩) u) (fun u=>MixSt64 w gf gr s (rowC .u64 RW 0) (s8V .u64 ⟨va,vb,vc,vd,ve,vf,vg,vh⟩) u) [(0,some 63),(1,some 64),(2,some 65),(3,some 66),(4,some 67),(5,some 68),(6,some 69),(7,some 70),(8,some 71),(9,some 72),(10,some 73),(11,some 74),(12,some 75),(13,some 76),(14,some 77),(15,some 78),(16,some 79),(17,some 80),(18,some 81),(19,some 82),(20,some 83),(21,some 84),(22,some 85),(23,some 14)] (by kernel_rfl) (by kernel_rfl) (by decide) (by kernel_rfl) (fun _=>rfl) HC0 ?_;apply yN_
   ·apply dP [];exact fun _=>rfl;rfl;rintro vals - w1 hC1 E hE;simp only [sP] at hE ⊢;refine qac hC1.form rfl rfl rfl hu rfl qaS ?_;go_wp2_with fail;exact .mk (hE _ hC1)
   apply yN_
   ·apply dP [];exact fun _=>rfl;rfl;rintro vals ⟨-,-⟩ w1 hC1 E hE;simp only [sP] at hE ⊢;go_wp2;exact .mk (hE _ hC1)
   apply yN_
   ·apply dP [];exact fun _=>rfl;rfl;intro vals vq w1 hC1 E hE;clear vq;simp only [sP] at hE ⊢;go_wp2;exact .mk (hE _ hC1)
   apply yN_
   ·apply dP [(2,some 65)];exact fun _=>rfl;rfl;intro vals vq w1 hC1 E hE;simp only [sP,vq] at hE ⊢;clear vq;go_wp2;exact .mk (hE _ hC1)
   apply yN_
   ·apply dP [(3,some 66)];exact fun _=>rfl;rfl;intro vals vq w1 hC1 E hE;simp only [sP,vq] at hE ⊢;clear vq;refine qah (n:=3) (r:=#[.int .i64 28,.int .i64 34,.int .i64 39]) hC1.form (by decide) rfl rfl rfl rfl hu3 rfl qbM ?_;go_wp2_with fail;exact .mk (hE _ hC1)
   apply yN_
   ·apply dP [(0,some 63),(1,some 64),(4,some 67)];exact fun _=>rfl;rfl;intro vals vq w1 hC1 E hE;simp only [sP,vq] at hE ⊢;clear vq;go_wp2_with fail;refine qab (qcg va 28 34 39 false _ (by have:=HL8.out.a; dsimp only at this; omega) (by decide) (by decide) (by decide)) ?_;rintro e w2 ⟨rfl,hb2⟩;rw [← HYA.out];go_wp2_with fail;exact .mk (hE _ (hC1.next hb2))
   apply yN_
   ·apply dP [(5,some 68),(5,some 68)];exact fun _=>rfl;rfl;intro vals vq w1 hC1 E hE;simp only [sP,vq] at hE ⊢;clear vq;go_wp2_with fail;refine qab (qbH cy _ LYA.out) ?_;rintro e w2 ⟨rfl,rfl⟩
    skip
    go_wp2_with fail;exact .mk (hE _ hC1)
   apply yN_
   ·apply dP [];exact fun _=>rfl;rfl;intro vals vq w1 hC1 E hE;clear vq;simp only [sP] at hE ⊢;go_wp2;exact .mk (hE _ hC1)
   apply yN_
   ·apply dP [];exact fun _=>rfl;rfl;intro vals vq w1 hC1 E hE;clear vq;simp only [sP] at hE ⊢;go_wp2;exact .mk (hE _ hC1)
   apply yN_
   ·apply dP [(8,some 71)];exact fun _=>rfl;rfl;intro vals vq w1 hC1 E hE;have d0:=hC1.v.cell 1;simp [s8V] at d0;simp only [sP,vq] at hE ⊢;clear vq;go_wp2;exact .mk (hE _ hC1)
   apply yN_
   ·apply dP [(7,some 70),(9,some 72)];exact fun _=>rfl;rfl;intro vals vq w1 hC1 E hE;simp only [sP,vq] at hE ⊢;clear vq;go_wp2;rw [and64 va vb HL8.out.a HL8.out.b,← HAB.out];exact .mk (hE _ hC1)
   apply yN_
   ·apply dP [];exact fun _=>rfl;rfl;intro vals vq w1 hC1 E hE;clear vq;simp only [sP] at hE ⊢;go_wp2;exact .mk (hE _ hC1)
   apply yN_
   ·apply dP [];exact fun _=>rfl;rfl;intro vals vq w1 hC1 E hE;clear vq;simp only [sP] at hE ⊢;go_wp2;exact .mk (hE _ hC1)
   apply yN_
   ·apply dP [(12,some 75)];exact fun _=>rfl;rfl;intro vals vq w1 hC1 E hE;have d0:=hC1.v.cell 2;simp [s8V] at d0;simp only [sP,vq] at hE ⊢;clear vq;go_wp2;exact .mk (hE _ hC1)
   apply yN_
   ·apply dP [(11,some 74),(13,some 76)];exact fun _=>rfl;rfl;intro vals vq w1 hC1 E hE;simp only [sP,vq] at hE ⊢;clear vq;go_wp2;rw [and64 va vc HL8.out.a HL8.out.c,← HAC.out];exact .mk (hE _ hC1)
   apply yN_
   ·apply dP [(10,some 73),(14,some 77)];exact fun _=>rfl;rfl;intro vals vq w1 hC1 E hE;simp only [sP,vq] at hE ⊢;clear vq;go_wp2;rw [xor64 ab ac ABL.out ACL.out,← HX1.out];exact .mk (hE _ hC1)
   apply yN_
   ·apply dP [];exact fun _=>rfl;rfl;intro vals vq w1 hC1 E hE;clear vq;simp only [sP] at hE ⊢;go_wp2;exact .mk (hE _ hC1)
   apply yN_
   ·apply dP [(16,some 79)];exact fun _=>rfl;rfl;intro vals vq w1 hC1 E hE;have d0:=hC1.v.cell 1;simp [s8V] at d0;simp only [sP,vq] at hE ⊢;clear vq;go_wp2;exact .mk (hE _ hC1)
   apply yN_
   ·apply dP [];exact fun _=>rfl;rfl;intro vals vq w1 hC1 E hE;clear vq;simp only [sP] at hE ⊢;go_wp2;exact .mk (hE _ hC1)
   apply yN_
   ·apply dP [(18,some 81)];exact fun _=>rfl;rfl;intro vals vq w1 hC1 E hE;have d0:=hC1.v.cell 2;simp [s8V] at d0;simp only [sP,vq] at hE ⊢;clear vq;go_wp2;exact .mk (hE _ hC1)
   apply yN_
   ·apply dP [(17,some 80),(19,some 82)];exact fun _=>rfl;rfl;intro vals vq w1 hC1 E hE;simp only [sP,vq] at hE ⊢;clear vq;go_wp2;rw [and64 vb vc HL8.out.b HL8.out.c,← HBC.out];exact .mk (hE _ hC1)
   apply yN_
   ·apply dP [(15,some 78),(20,some 83)];exact fun _=>rfl;rfl;intro vals vq w1 hC1 E hE;simp only [sP,vq] at hE ⊢;clear vq;go_wp2;rw [xor64 x1 bc X1L.out BCL.out,← HMJ.out];exact .mk (hE _ hC1)
   apply yN_
   ·apply dP [(6,some 69),(21,some 84)];exact fun _=>rfl;rfl;intro vals vq w1 hC1 E hE;simp only [sP,vq] at hE ⊢;clear vq;go_wp2;rw [qbK cy mj,← HYY.out];exact .mk (hE _ hC1)
   apply yL_
   ·apply dP [(22,some 85),(6,some 69),(0,some 63),(1,some 64),(2,some 65),(3,some 66),(4,some 67),(5,some 68),(6,some 69),(7,some 70),(8,some 71),(9,some 72),(10,some 73),(11,some 74),(12,some 75),(13,some 76),(14,some 77),(15,some 78),(16,some 79),(17,some 80),(18,some 81),(19,some 82),(20,some 83),(21,some 84),(22,some 85)];exact fun _=>rfl;rfl;intro vals vq w1 hC1 E hE;simp only [sP,vq] at hE ⊢;clear vq;go_wp2;exact .mk (hE _ hC1)
   intro vals vq w1 hC1;simp only [sP,vq];clear vq;clear HC0;go_wp2_with fail;have HC0:=hC1.drew;clear hC1;refine qaj (fun u=>MixSt64 w gf gr s (rowC .u64 RW 0) (s8V .u64 ⟨va,vb,vc,vd,ve,vf,vg,vh⟩) u) (fun u=>MixSt64 w gf gr s (rowC .u64 RW 0) (s8V .u64 ⟨va,va,vb,vc,vd,ve,vf,vg⟩) u) [(0,some 86),(1,some 87),(2,some 88)] (by kernel_rfl) (by kernel_rfl) (by decide) (by kernel_rfl) (fun _=>rfl) HC0 ?_;apply yN_
   ·apply dP [];exact fun _=>rfl;rfl;rintro vals - w1 hC1 E hE;simp only [sP] at hE ⊢;go_wp2;exact .mk (hE _ hC1)
   apply yN_
   ·apply dP [];exact fun _=>rfl;rfl;rintro vals ⟨-,-⟩ w1 hC1 E hE;simp only [sP] at hE ⊢;go_wp2;exact .mk (hE _ hC1)
   apply yL_
   ·apply dP [(0,some 86),(1,some 87)];exact fun _=>rfl;rfl;intro vals vq w1 hC1 E hE;simp only [sP,vq] at hE ⊢;clear vq;refine qcJ ((s8V .u64 ⟨va,vb,vc,vd,ve,vf,vg,vh⟩).toList.take 7) (new:=s8V .u64 ⟨va,va,vb,vc,vd,ve,vf,vg⟩) hC1.v rfl rfl Tryd.underlying108 one64 rfl rfl rfl (blk_src hC1.v 7) (by simp [s8V]) (by simp [s8V,Value.oneCell']) rfl ?_;intro w2 hb2 hw2;go_wp2_with fail;exact .mk (hE _ (hC1.put hw2 hb2))
   intro vals vq w1 hC1;simp only [sP,vq];clear vq;clear HC0;have d4:=hC1.v.cell 4;simp [s8V] at d4;have d0:=hC1.v.cell 0;simp [s8V] at d0;have g4:=hC1.v.free 4;have g0:=hC1.v.free 0;have HC1:=zY hC1;clear hC1 iwk ikk ive iva;have hu8':=zY hu8;have hu':=zY hu;have hu3':=zY hu3;clear hu8 hu hu3;obtain ⟨dx,hdx⟩:=eX ((vd+xx)%2^64);obtain ⟨xy,hxy⟩:=eX ((xx+yy)%2^64);have HDX:=zY hdx;have HXY:=zY hxy;clear hdx hxy
   have hfin:∀ u,u=(w1.setCell ⟨gf+1+1+1,4,none⟩ (.int .u64 (dx:Int))).setCell ⟨gf+1+1+1,0,none⟩ (.int .u64 (xy:Int))→MixSt64 w gf gr s (rowC .u64 RW 0) (s8V .u64 (mixTo F64 RW s (k+1))) u:=by
    intro u hu;rw [hu,mixTo,← HVV.out];have h1:=HC1.out.put (v':=s8V .u64 ⟨va,va,vb,vc,dx,ve,vf,vg⟩) (qaf w1 (gf+1+1+1) 4 (.int .u64 (dx:Int))) (qag (i:=4) HC1.out.v (.int .u64 (dx:Int)));have h2:=h1.put (v':=s8V .u64 ⟨xy,va,vb,vc,dx,ve,vf,vg⟩) (qaf _ (gf+1+1+1) 0 (.int .u64 (xy:Int))) (qag (i:=0) h1.v (.int .u64 (xy:Int)))
    have e1:mixX F64 ⟨va,vb,vc,vd,ve,vf,vg,vh⟩ (kN F64 k) (RW.getD k 0)=xx:=by
     rw [HXX.out,HP3.out,HP2.out,HP1.out,HCH.out,HNG.out,HNE.out,HAF.out,HXA.out,HWK.out,HKNE.out];exact mixX_64 _ _ _ _ _
    have e2:mixY F64 ⟨va,vb,vc,vd,ve,vf,vg,vh⟩=yy:=by
     rw [HYY.out,HMJ.out,HX1.out,HAB.out,HAC.out,HBC.out,HYA.out];exact mixY_64 _ _
    have e3:stepS F64 ⟨va,vb,vc,vd,ve,vf,vg,vh⟩ (kN F64 k) (RW.getD k 0)=⟨xy,va,vb,vc,dx,ve,vf,vg⟩:=by
     rw [stepS,e1,e2,HDX.out,HXY.out];rfl
    rw [e3];exact h2
   have HFIN:=zY hfin;clear hfin;go_wp2_with fail;rw [qbK vd xx,qbK xx yy,← HDX.out,← HXY.out];exact ⟨⟨k+1,hlt,by go_num,HFIN.out _ rfl⟩,by simp [intOf]; omega⟩
  ·have hge:¬ (k:Int)<80:=by omega
   obtain rfl:k=80:=by omega
   have HST:=zY hst;clear hst;go_wp2_with fail;obtain ⟨vv,hvv⟩:=eX (mixTo F64 RW s 80);have HVV:=zY hvv;have hst9:MixSt64 w gf gr s (rowC .u64 RW 0) (addC .u64 F64 s vv 0) wr:=by rw [addC_zero,HVV.out]; exact HST.out
   clear hvv HST;obtain ⟨wo,rfl⟩:∃ wo:World,wo=wr:=⟨_,rfl⟩
   go_loopw [99] (fun i wr=>∃ j:Nat,j≤8∧i=.int .i64 j∧MixSt64 w gf gr s (rowC .u64 RW 0) (addC .u64 F64 s vv j) wr) (fun i _=>8 - (intOf i).toNat)
   case atStart=>exact ⟨0,by omega,rfl,hst9⟩
   case round =>
    obtain ⟨j,hj,rfl,hsj⟩:=hrel;clear hst9
    by_cases hj8:j<8
    ·have hj8':(j:Int)<8:=by omega
     obtain ⟨vj,hvj⟩:=eX ((s8L vv).getD j 0);obtain ⟨sj,hsj'⟩:∃ x,x=(s8L s).getD j 0:=⟨_,rfl⟩;obtain ⟨aj,haj⟩:=eX ((vj+sj)%2^64);have E1:Hid ((addC .u64 F64 s vv j)[j]?=some (.int .u64 (vj:Int))):=zY (by rw [addC_at .u64 F64 s vv j hj8,hvj]);have E2:Hid ((s8V .u64 s)[j]?=some (.int .u64 (sj:Int))):=zY (by rw [s8V_at .u64 s j hj8,hsj']);have E3:Hid ((addC .u64 F64 s vv j).setIfInBounds j (.int .u64 (aj:Int))=addC .u64 F64 s vv (j+1)):=zY (by rw [haj,hvj,hsj']; exact addC_set .u64 F64 s vv j hj8);have HAJ:=zY haj;clear hvj hsj' haj;go_wp2_with fail;have HC0:=hsj.drew;clear hsj;refine qaj (fun u=>MixSt64 w gf gr s (rowC .u64 RW 0) (addC .u64 F64 s vv j) u) (fun u=>MixSt64 w gf gr s (rowC .u64 RW 0) (addC .u64 F64 s vv (j+1)) u) [(0,some 102),(1,some 103),(2,some 104),(3,some 105),(4,some 106),(5,some 107),(6,some 108),(7,some 109),(8,none)] (by kernel_rfl) (by kernel_rfl) (by decide) (by kernel_rfl) (fun _=>rfl) HC0 ?_;apply yN_
     ·apply dP [];exact fun _=>rfl;rfl;rintro vals - w1 hC1 E hE;simp only [sP] at hE ⊢;go_wp2;exact .mk (hE _ hC1)
     apply yN_
     ·apply dP [(0,some 102)];exact fun _=>rfl;rfl;intro vals vq w1 hC1 E hE;simp only [sP,vq] at hE ⊢;clear vq;go_wp2;exact .mk (hE _ hC1)
     apply yN_
     ·apply dP [(1,some 103)];exact fun _=>rfl;rfl;intro vals vq w1 hC1 E hE;have d0:=hC1.v.cell j;rw [E1.out] at d0;simp only [sP,vq] at hE ⊢;clear vq;go_wp2;exact .mk (hE _ hC1)
     apply yN_
     ·apply dP [];exact fun _=>rfl;rfl;intro vals vq w1 hC1 E hE;clear vq;simp only [sP] at hE ⊢;go_wp2;exact .mk (hE _ hC1)
     apply yN_
     ·apply dP [(3,some 105)];exact fun _=>rfl;rfl;intro vals vq w1 hC1 E hE;simp only [sP,vq] at hE ⊢;clear vq;go_wp2;exact .mk (hE _ hC1)
     apply yN_
     ·apply dP [(4,some 106)];exact fun _=>rfl;rfl;intro vals vq w1 hC1 E hE;have d0:=hC1.s.cell j;rw [E2.out] at d0;simp only [sP,vq] at hE ⊢;clear vq;go_wp2;exact .mk (hE _ hC1)
     apply yN_
     ·apply dP [(2,some 104),(5,some 107)];exact fun _=>rfl;rfl;intro vals vq w1 hC1 E hE;simp only [sP,vq] at hE ⊢;clear vq;go_wp2;rw [qbK vj sj,← HAJ.out];exact .mk (hE _ hC1)
     apply yN_
     ·apply dP [(0,some 102),(0,some 102),(1,some 103),(2,some 104),(3,some 105),(4,some 106),(5,some 107),(6,some 108)];exact fun _=>rfl;rfl;intro vals vq w1 hC1 E hE;simp only [sP,vq] at hE ⊢;clear vq;go_wp2;exact .mk (hE _ hC1)
     apply yL_ (v:=undef)
     ·apply dP [(7,some 109),(6,some 108),(0,some 102),(1,some 103),(2,some 104),(3,some 105),(4,some 106),(5,some 107),(6,some 108)];exact fun _=>rfl;rfl;intro vals vq w1 hC1 E hE;simp only [sP,vq] at hE ⊢;clear vq;refine qao (i:=j) (v:=.int .u64 (aj:Int)) hC1.v rfl rfl rfl rfl one64 (by rw [addC_size]; exact hj8) rfl ?_;intro w2 hb2 hw2;go_wp2_with fail;exact .mk (hE _ (hC1.put hw2 (by rw [E3.out] at hb2; exact hb2)))
     intro vals vq w1 hC1;simp only [sP,vq];clear vq;clear HC0;have HC1:=zY hC1;clear hC1;go_wp2_with fail;exact ⟨⟨j+1,hj8,by go_num,HC1.out⟩,by simp [intOf]; omega⟩
    ·have hge:¬ (j:Int)<8:=by omega
     obtain rfl:j=8:=by omega
     rw [addC_end] at hsj
     go_wp2_with (first
      | (refine qac (x:=.tmp 7) hsj.v rfl rfl rfl hu8 rfl qaQ ?_)
      | (refine qae (x:=.tmp 6) hsj.res rfl rfl rfl rfl qaQ rfl (by simp [s8V,Value.oneCell']) ?_; intro w5 hb5 hw5))
     refine bodyPost_ret (qap (P:=Tryd.prog) rfl rfl hb5 hu8 rfl qaQ) rfl ?_;refine ⟨?_,?_⟩
     ·rw [mixS,HVV.out,HRW.out]; rfl
     ·rw [HGF.out];exact hw5.below hsj.bel (by omega) (by have:=hsj.form.lt; omega)
theorem sl_bytes:SlT Tryd.prog 22 5 1 1:=SlT.mk1 (z:=.int .u8 0) Tryd.underlying22 (by kernel_rfl) rfl (by decide)
def lenOf:Value→Nat | .slice _ n _=>n | _=>0
def firstV:Array Value:=#[.int .u64 7640891576956012808,.int .u64 13503953896175478587,.int .u64 4354685564936845355,.int .u64 11912009170470909681,.int .u64 5840696475078001361,.int .u64 11170449401992604703,.int .u64 2270897969802886507,.int .u64 6620516959819538809]
theorem firstV_at (k:Nat) (h:k<8):firstV[k]?=some (.int .u64 ((firstN.getD k 0:Nat):Int)):=by
 match k,h with
 | 0,_=>rfl
 | 1,_=>rfl
 | 2,_=>rfl
 | 3,_=>rfl
 | 4,_=>rfl
 | 5,_=>rfl
 | 6,_=>rfl
 | 7,_=>rfl
def outW (b e:Nat) (s:S8) (k:Nat):List UInt8:=((s8L s).take k).flatMap fun x=>wordB b x e
theorem qaA (b x:Nat):∀ k,(wordB b x k).length=k
 | 0=>rfl
 | k+1=>by simp [wordB,qaA b x k]
theorem outW_length (b e:Nat) (s:S8) (k:Nat) (h:k≤8):(outW b e s k).length=k*e:=by
 match k,h with
 | 0,_=>simp [outW,s8L]
 | 1,_=>simp [outW,s8L,qaA]
 | 2,_=>simp [outW,s8L,qaA]; omega
 | 3,_=>simp [outW,s8L,qaA]; omega
 | 4,_=>simp [outW,s8L,qaA]; omega
 | 5,_=>simp [outW,s8L,qaA]; omega
 | 6,_=>simp [outW,s8L,qaA]; omega
 | 7,_=>simp [outW,s8L,qaA]; omega
 | 8,_=>simp [outW,s8L,qaA]; omega
theorem outW_succ (b e:Nat) (s:S8) (k:Nat) (h:k<8):outW b e s (k+1)=outW b e s k++wordB b ((s8L s).getD k 0) e:=by
 match k,h with
 | 0,_=>simp [outW,s8L]
 | 1,_=>simp [outW,s8L]
 | 2,_=>simp [outW,s8L]
 | 3,_=>simp [outW,s8L]
 | 4,_=>simp [outW,s8L]
 | 5,_=>simp [outW,s8L]
 | 6,_=>simp [outW,s8L]
 | 7,_=>simp [outW,s8L]
theorem wordB_val (x sh b k:Nat) (h:sh=b - 8 - 8*k):(Value.int .u8 ((x:Int)/2^sh%256))=.int .u8 ((UInt8.ofNat (x/2^(b - 8 - 8*k))).toNat:Int):=by
 subst h;rw [qbA]
 congr 1
theorem first_any (w:World):Calls Tryd.prog 74 #[] w fun e w'=>e=.returned (.agg firstV)∧Below w.heap.size w w':=by
 have hb:=Blk.new w 109 (s8V .u64 ⟨0,0,0,0,0,0,0,0⟩);have hu8:=Tryd.underlying109;go_enter Tryd.func74,Tryd.ntmps74;go_wp2_with (refine qae (x:=.tmp 0) (cells:=firstV) hb rfl rfl rfl rfl (by kernel_rfl) rfl (by simp [firstV,Value.oneCell']) ?_; intro w1 hb1 hw1);refine bodyPost_ret (qap (P:=Tryd.prog) rfl rfl hb1 hu8 rfl (by kernel_rfl)) rfl ⟨rfl,?_⟩;exact hw1.below (below_new _ _) (Nat.le_refl _) (by simp)
def oneZ (data:List UInt8) (k:Nat):List UInt8:=data++[128]++List.replicate k 0
theorem qaZ (data:List UInt8) (k:Nat):(oneZ data k).length=data.length+1+k:=by simp [oneZ]; omega
theorem oneZ_zero (data:List UInt8):oneZ data 0=data++[128]:=by simp [oneZ]
theorem oneZ_succ (data:List UInt8) (k:Nat):oneZ data (k+1)=oneZ data k++[0]:=by simp [oneZ,List.replicate_succ']
theorem qbv (l:List UInt8) (b:UInt8):bytesV (l++[b])=bytesV l++[.int .u8 (b.toNat:Int)]:=by simp [bytesV,byteV]
theorem qbu (n:Nat):∀ k,(be8 n k).length=k
 | 0=>rfl
 | k+1=>by simp [be8,qbu n k]
theorem be8_val (n sh k:Nat) (h:sh=56 - 8*k):(Value.int .u8 ((n:Int)*8/2^sh%256))=.int .u8 ((UInt8.ofNat (n*8/2^(56 - 8*k))).toNat:Int):=by
 subst h;rw [show (n:Int)*8=((n*8:Nat):Int) by omega,qbA]
 congr 1
theorem own_empty (w:World) {B:Nat} {e:TypeId} (hB:B≤w.heap.size):OwnX (w.alloc (.cells #[] e)) B e 1 (.slice (some ⟨w.heap.size,0,none⟩) 0 0) 0 (bytesV []) :=
 ⟨rfl,.inr ⟨w.heap.size,0,#[],(0,0),rfl,hB,heap_alloc_new w _,Nat.le_refl _,by unfold maxLen; omega,rfl,rfl,.inl rfl⟩⟩
end Go.Proofs.YtjmfkinedhmglaaDoor.Sh
