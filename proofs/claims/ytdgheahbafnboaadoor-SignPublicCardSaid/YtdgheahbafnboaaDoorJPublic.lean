/-
  PROVED: 'brevetlaw06.SignPublic': for every bytes a seed's public key is the document's, and what is no seed is refused. The listed variable (the words of the steps) is tied to the program's text by the card.
-/
import Derived.Test.YtdgheahbafnboaaDoorCards
import Derived.Test.YtdgheahbafnboaaDoorTie
import Derived.SevenTiedAt
import Derived.ProofKit
import Derived.OpenShut
import Derived.Test.YtdgheahbafnboaaDoorJ7
import Derived.Test.YtdgheahbafnboaaDoorJ4
import Derived.Test.YtdgheahbafnboaaDoorJ1
/-
  Walk: the law SignPublic.
-/
namespace Go.Proofs.YtdgheahbafnboaaDoor
set_option linter.unusedSimpArgs false
set_option linter.unusedVariables false
open Go.RowKit
set_option maxRecDepth 100000 in
set_option maxHeartbeats 4000000 in
theorem signPublic_any (l:List UInt8) (A:Option Addr) (c:Nat) (w:World) (hr:Rd w w.heap.size A (bytesV l)) (hc:l.length≤c) (hcm:c≤9223372036854775807) (hG:Sh.TabG w) :
  Calls Tryd.prog 3 #[.slice A l.length c] w (BoolPost true w):=by
 obtain ⟨n1,hn1⟩:∃ n,n=l.length:=⟨_,rfl⟩;obtain ⟨b,hb⟩:∃ m,m=l.take 40:=⟨_,rfl⟩;obtain ⟨n,hn⟩:∃ n,n=b.length:=⟨_,rfl⟩;have hn40:n≤40:=by rw [hn,hb,List.length_take]; omega
 have rb:Rd w w.heap.size A (bytesV b):=by rw [hb]; exact rd_takeB hr
 have hnc:n≤c:=by rw [hn,hb,List.length_take]; omega
 have CF:=zY (show ∀ u,Calls Tryd.prog 8 #[.slice A n1 c,.int .i64 40] u (fun e w'=>e=.returned (.slice A n c)∧w'=u) from fun u=>by
  rw [hn,hb,hn1]; exact few_any l 40 (by decide) A c u (nil_len' hr) hc)
 have CL:=zY (show ∀ u,Sh.TabG u→Calls Tryd.prog 11 #[] u (BoolPost true u) from fun u g=>lives_any u g);rw [← hn1];clear hn1 hr hc hb
 by_cases h32:n=32
 ·subst h32;have lb:b.length=32:=hn.symm;obtain ⟨U,hU⟩:∃ U,U=ptB (keyN b):=⟨_,rfl⟩;have lU:U.length=32:=by rw [hU,ptB_len]
  have hUb:bnV (pubL (keyN b))=bytesV U:=by rw [hU,ptB,bnV_bsN (pubL_dg _)]
  have CP:=zY (show ∀ u,Rd u u.heap.size A (bytesV b)→Sh.TabG u→Calls Tryd.prog 9 #[.slice A 32 c] u (fun e w'=>∃ o,e=.returned (.tuple #[.slice (some ⟨o,0,none⟩) 32 32,.int .i64 0])∧u.heap.size≤o∧Blk w' o 5 (bytesV U).toArray∧Below u.heap.size u w') from fun u h g=>by
   rw [← hUb]; exact spublic_any b lb A c u h hnc g)
  have CR:=zY (show ∀ u,Rd u u.heap.size A (bytesV b)→Calls Tryd.prog 12 #[.slice A 32 c] u (fun e w'=>∃ A c,e=.returned (.slice A 32 c)∧Rd w' w'.heap.size A (bytesV U)∧Below u.heap.size u w') from fun u h =>
   Calls.mono (rpublic_any b lb (digS_len b) A c u h hnc) fun e w' q=>by
    obtain ⟨A',c',q1,_,q2,q3⟩:=q;exact ⟨A',c',q1,by rw [← hUb]; exact q2,q3⟩)
  obtain ⟨SU,hSU⟩:∃ s:ByteArray,s=⟨U.toArray⟩:=⟨_,rfl⟩
  have CU:=zY (show ∀ (u:World) (A:Option Addr) (c:Nat),Rd u u.heap.size A (bytesV U)→(convert 22 9 (.slice A 32 c)).run Tryd.prog u=.ok (.string SU) u from fun u A c h=>by
   have e:=run_str_of (P:=Tryd.prog) Tryd.underlying22 Tryd.underlying5 Tryd.underlying9 h c;rw [lU,← hSU] at e;exact e)
  have HST:=zY (show Cs [.rd A (bytesV b)] w w from ⟨⟨rb,trivial⟩,Below.refl _ _⟩);have HG:=zY hG;clear hG rb hn lb hU lU hUb hSU hn40 hcm;go_enter Tryd.func3,Tryd.ntmps3;go_wp2_with fail;refine calls_then (CF.out _) ?_;rintro e w0 ⟨rfl,rfl⟩;clear CF;go_wp2_with fail;refine calls_then (CP.out _ HST.out.1.1 HG.out) ?_;rintro e w2 ⟨o2,rfl,ho2,hk2,hb⟩;replace HST:=zY (show Cs [.rd (some ⟨o2,0,none⟩) (bytesV U),.rd A (bytesV b)] w0 w2 from ⟨⟨Rd.of_blk hk2 hk2.lt,(HST.out.next hb).1⟩,(HST.out.next hb).2⟩);replace HG:=zY (HG.out.below hb HG.out.size);clear ho2 hk2 hb CP;go_wp2_with fail;have HC0:=And.intro HST.out.drew (HG.out.below (Below.refl w2.heap.size w2).drew HG.out.size);clear HST
  refine wp_region_list (fun u=>Cs [.rd (some ⟨o2,0,none⟩) (bytesV U),.rd A (bytesV b)] w0 u∧Sh.TabG u) (fun | false=>(fun _=>True) | true=>(fun _=>True)) (fun | false,_=>false | true,_=>false)
   [fun z _=>z 0=.slice (some ⟨o2,0,none⟩) 32 32,
    fun z _=>z 1=.string SU,
    fun z _=>z 2=.slice A 32 c,
    fun z u=>(fun v u=>∃ A c,v=.slice A 32 c∧Rd u u.heap.size A (bytesV U)) (z 3) u,
    fun z _=>z 4=.string SU,
    fun z _=>z 5=.bool true,
    fun z _=>z 6=.bool true,
    fun z _=>z 7=.int .i64 0,
    fun z _=>z 8=.bool true,
    fun z _=>z 9=.bool true,
    fun z _=>z 10=.bool true,
    fun z _=>z 11=.bool true,
    fun z _=>z 12=.bool true,
    fun z _=>z 13=.bool true]
   [Eq,Eq,Eq,fun u u'=>Below u.heap.size u u',Eq,Eq,Eq,Eq,Eq,Eq,Eq,fun u u'=>Below u.heap.size u u',Eq,Eq]
   (fun _ _=>false) [(0,some 41),(1,some 42),(2,some 43),(3,some 44),(4,some 45),(5,some 46),(6,some 47),(7,some 48),(8,some 49),(9,some 50),(10,some 51),(11,some 52),(12,some 53),(13,some 2)] (by kernel_rfl) (by kernel_rfl) rfl (fun _=>rfl) ?_ ?_ ?_ ?_ ?_ ?_
  ·exact HC0
  ·intro m; cases m; exact trivial; exact trivial
  ·intro m; cases m
   ·refine ⟨?_,?_,?_,.inr (fun _ _ _ h=>h),?_,?_,?_,?_,?_,?_,?_,.inr (fun _ _ _ h=>h),?_,?_,trivial⟩ <;> exact .inr fun _ _ h h0=>h▸h0
   ·refine ⟨?_,?_,?_,.inr (fun _ _ _ h=>h),?_,?_,?_,?_,?_,?_,?_,.inr (fun _ _ _ h=>h),?_,?_,trivial⟩ <;> exact .inr fun _ _ h h0=>h▸h0
  ·refine ⟨⟨.inl rfl,?_,?_,.inr (.inr (.inr (fun _ _ _ _ h h0=>by cases h; exact h0))),?_,?_,?_,?_,?_,?_,?_,?_,?_,?_,trivial⟩,⟨?_,.inl rfl,?_,.inr (.inr (.inr (fun _ _ _ _ h h0=>by cases h; exact h0))),?_,?_,?_,?_,?_,?_,?_,?_,?_,?_,trivial⟩,⟨?_,?_,.inl rfl,?_,?_,?_,?_,?_,?_,?_,?_,?_,?_,?_,trivial⟩,⟨?_,?_,?_,.inl rfl,?_,?_,?_,?_,?_,?_,?_,?_,?_,?_,trivial⟩,⟨?_,?_,?_,.inr (.inr (.inr (fun _ _ _ _ h h0=>by cases h; exact h0))),.inl rfl,?_,?_,?_,?_,?_,?_,?_,?_,?_,trivial⟩,⟨?_,?_,?_,.inr (.inr (.inr (fun _ _ _ _ h h0=>by cases h; exact h0))),?_,.inl rfl,?_,?_,?_,?_,?_,?_,?_,?_,trivial⟩,⟨?_,?_,?_,.inr (.inr (.inr (fun _ _ _ _ h h0=>by cases h; exact h0))),?_,?_,.inl rfl,?_,?_,?_,?_,?_,?_,?_,trivial⟩,⟨?_,?_,?_,.inr (.inr (.inr (fun _ _ _ _ h h0=>by cases h; exact h0))),?_,?_,?_,.inl rfl,?_,?_,?_,?_,?_,?_,trivial⟩,⟨?_,?_,?_,.inr (.inr (.inr (fun _ _ _ _ h h0=>by cases h; exact h0))),?_,?_,?_,?_,.inl rfl,?_,?_,?_,?_,?_,trivial⟩,⟨?_,?_,?_,.inr (.inr (.inr (fun _ _ _ _ h h0=>by cases h; exact h0))),?_,?_,?_,?_,?_,.inl rfl,?_,?_,?_,?_,trivial⟩,⟨?_,?_,?_,.inr (.inr (.inr (fun _ _ _ _ h h0=>by cases h; exact h0))),?_,?_,?_,?_,?_,?_,.inl rfl,?_,?_,?_,trivial⟩,⟨?_,?_,?_,.inr (.inr (.inr (fun _ _ _ _ h h0=>h0.elim fun A h1=>h1.elim fun c k=>⟨A,c,k.1,rd_next k.2 h⟩))),?_,?_,?_,?_,?_,?_,?_,.inl rfl,?_,?_,trivial⟩,⟨?_,?_,?_,.inr (.inr (.inr (fun _ _ _ _ h h0=>by cases h; exact h0))),?_,?_,?_,?_,?_,?_,?_,?_,.inl rfl,?_,trivial⟩,⟨?_,?_,?_,.inr (.inr (.inr (fun _ _ _ _ h h0=>by cases h; exact h0))),?_,?_,?_,?_,?_,?_,?_,?_,?_,.inl rfl,trivial⟩,trivial⟩ <;> first | exact .inr (.inr (.inl rfl)) | exact .inr (.inr (.inr fun _ _ _ _ _ h=>h))
  ·refine ⟨?_,?_,?_,?_,?_,?_,?_,?_,?_,?_,?_,?_,?_,?_,trivial⟩
   ·refine step_plain [] (fun _=>rfl) rfl ?_;intro w1 vals hC1 hi0 hf E hE;clear hi0;clear hf;simp only [sP] at hE ⊢;go_wp2;exact .mk (hE _ _ rfl hC1 rfl)
   ·refine step_plain [(0,some 41)] (fun _=>rfl) rfl ?_;intro w1 vals hC1 hi0 hf E hE;clear hi0;have f0:vals 0=.slice (some ⟨o2,0,none⟩) 32 32:=hf 0 rfl
    try dsimp only at f0
    clear hf;have cv:=CU.out _ _ 32 hC1.1.1.1;simp only [sP,f0] at hE ⊢;clear f0;go_wp2_with fail;exact .mk (hE _ _ rfl hC1 rfl)
   ·refine step_plain [] (fun _=>rfl) rfl ?_;intro w1 vals hC1 hi0 hf E hE;clear hi0;clear hf;simp only [sP] at hE ⊢;go_wp2;exact .mk (hE _ _ rfl hC1 rfl)
   ·refine step_plain [(2,some 43)] (fun _=>rfl) rfl ?_;intro w1 vals hC1 hi0 hf E hE;clear hi0;have f2:vals 2=.slice A 32 c:=hf 2 rfl
    try dsimp only at f2
    clear hf;simp only [sP,f2] at hE ⊢;clear f2;go_wp2_with fail;refine calls_then (CR.out _ hC1.1.1.2.1) ?_;rintro e w2 ⟨A2,c2,rfl,hr,hb2⟩;go_wp2_with fail;exact .mk (hE _ _ ⟨A2,c2,rfl,hr⟩ ⟨hC1.1.next hb2,hC1.2.below hb2 hC1.2.size⟩ hb2)
   ·refine step_plain [(3,some 44)] (fun _=>rfl) rfl ?_;intro w1 vals hC1 hi0 hf E hE;clear hi0;have f3:(fun v u=>∃ A c,v=.slice A 32 c∧Rd u u.heap.size A (bytesV U)) (vals 3) w1:=hf 3 rfl
    try dsimp only at f3
    clear hf;obtain ⟨A2,c2,hx,hr⟩:=f3;have cv:=CU.out _ A2 c2 hr;simp only [sP,hx] at hE ⊢;clear hx;go_wp2_with fail;exact .mk (hE _ _ rfl hC1 rfl)
   ·refine step_plain [(1,some 42),(4,some 45)] (fun _=>rfl) rfl ?_;intro w1 vals hC1 hi0 hf E hE;clear hi0;have f1:vals 1=.string SU:=hf 1 rfl;have f4:vals 4=.string SU:=hf 4 rfl
    try dsimp only at f1 f4
    clear hf;simp only [sP,f1,f4] at hE ⊢;clear f1 f4;go_wp2;exact .mk (hE _ _ rfl hC1 rfl)
   ·refine step_plain [(5,some 46),(3,some 44)] (fun _=>rfl) rfl ?_;intro w1 vals hC1 hi0 hf E hE;clear hi0;have f3:(fun v u=>∃ A c,v=.slice A 32 c∧Rd u u.heap.size A (bytesV U)) (vals 3) w1:=hf 3 rfl;have f5:vals 5=.bool true:=hf 5 rfl
    try dsimp only at f3 f5
    clear hf;simp only [sP,f5] at hE ⊢;clear f5;go_wp2;exact .mk (hE _ _ rfl hC1 rfl)
   ·refine step_guard [(6,some 47)] (fun _=>rfl) 6 47 true rfl rfl ?_ ?_
    ·intro w1 vals hC1 hi0 hf hy E hE;dsimp only at hE ⊢;clear hi0;have f6:vals 6=.bool true:=hf 6 rfl
     try dsimp only at f6
     clear hf;clear hy;simp only [sP,f6] at hE ⊢;clear f6;go_wp2;exact .mk (hE _ _ rfl hC1 rfl)
    ·intro w1 vals hC1 hi0 hf hy;clear hi0;have f6:vals 6=.bool true:=hf 6 rfl
     try dsimp only at f6
     clear hf;exact absurd (by simp only [sP,f6]; rfl) hy
   ·refine step_guard [(7,some 48),(6,some 47)] (fun _=>rfl) 6 47 true rfl rfl ?_ ?_
    ·intro w1 vals hC1 hi0 hf hy E hE;dsimp only at hE ⊢;clear hi0;have f6:vals 6=.bool true:=hf 6 rfl;have f7:vals 7=.int .i64 0:=hf 7 rfl
     try dsimp only at f6 f7
     clear hf;clear hy;simp only [sP,f6,f7] at hE ⊢;clear f6 f7;go_wp2;exact .mk (hE _ _ rfl hC1 rfl)
    ·intro w1 vals hC1 hi0 hf hy;clear hi0;have f6:vals 6=.bool true:=hf 6 rfl;have f7:vals 7=.int .i64 0:=hf 7 rfl
     try dsimp only at f6 f7
     clear hf;exact absurd (by simp only [sP,f6]; rfl) hy
   ·refine step_plain [(6,some 47),(8,some 49)] (fun _=>rfl) rfl ?_;intro w1 vals hC1 hi0 hf E hE;clear hi0;have f6:vals 6=.bool true:=hf 6 rfl;have f8:vals 8=.bool true:=hf 8 rfl
    try dsimp only at f6 f8
    clear hf;simp only [sP,f6,f8] at hE ⊢;clear f6 f8;go_wp2;exact .mk (hE _ _ rfl hC1 rfl)
   ·refine step_plain [(9,some 50),(6,some 47)] (fun _=>rfl) rfl ?_;intro w1 vals hC1 hi0 hf E hE;clear hi0;have f6:vals 6=.bool true:=hf 6 rfl;have f9:vals 9=.bool true:=hf 9 rfl
    try dsimp only at f6 f9
    clear hf;simp only [sP,f6,f9] at hE ⊢;clear f6 f9;go_wp2;exact .mk (hE _ _ rfl hC1 rfl)
   ·refine step_guard [(10,some 51),(10,some 51)] (fun _=>rfl) 10 51 true rfl rfl ?_ ?_
    ·intro w1 vals hC1 hi0 hf hy E hE;dsimp only at hE ⊢;clear hi0;have f10:vals 10=.bool true:=hf 10 rfl
     try dsimp only at f10
     clear hf;clear hy;simp only [sP,f10] at hE ⊢;clear f10;go_wp2_with fail;refine calls_then (CL.out _ hC1.2) ?_;rintro e w2 ⟨rfl,hb2⟩;go_wp2_with fail;exact .mk (hE _ _ rfl ⟨hC1.1.next hb2,hC1.2.below hb2 hC1.2.size⟩ hb2)
    ·intro w1 vals hC1 hi0 hf hy;clear hi0;have f10:vals 10=.bool true:=hf 10 rfl
     try dsimp only at f10
     clear hf;exact absurd (by simp only [sP,f10]; rfl) hy
   ·refine step_plain [(10,some 51),(11,some 52)] (fun _=>rfl) rfl ?_;intro w1 vals hC1 hi0 hf E hE;clear hi0;have f10:vals 10=.bool true:=hf 10 rfl;have f11:vals 11=.bool true:=hf 11 rfl
    try dsimp only at f10 f11
    clear hf;simp only [sP,f10,f11] at hE ⊢;clear f10 f11;go_wp2;exact .mk (hE _ _ rfl hC1 rfl)
   ·refine step_plain [(12,some 53),(11,some 52),(0,some 41),(1,some 42),(2,some 43),(3,some 44),(4,some 45),(5,some 46),(6,some 47),(7,some 48),(8,some 49),(9,some 50),(10,some 51),(11,some 52),(12,some 53)] (fun _=>rfl) rfl ?_;intro w1 vals hC1 hi0 hf E hE;clear hi0;have f0:vals 0=.slice (some ⟨o2,0,none⟩) 32 32:=hf 0 rfl;have f1:vals 1=.string SU:=hf 1 rfl;have f2:vals 2=.slice A 32 c:=hf 2 rfl;have f3:(fun v u=>∃ A c,v=.slice A 32 c∧Rd u u.heap.size A (bytesV U)) (vals 3) w1:=hf 3 rfl;have f4:vals 4=.string SU:=hf 4 rfl;have f5:vals 5=.bool true:=hf 5 rfl;have f6:vals 6=.bool true:=hf 6 rfl;have f7:vals 7=.int .i64 0:=hf 7 rfl;have f8:vals 8=.bool true:=hf 8 rfl;have f9:vals 9=.bool true:=hf 9 rfl;have f10:vals 10=.bool true:=hf 10 rfl;have f11:vals 11=.bool true:=hf 11 rfl;have f12:vals 12=.bool true:=hf 12 rfl
    try dsimp only at f0 f1 f2 f3 f4 f5 f6 f7 f8 f9 f10 f11 f12
    clear hf;simp only [sP,f0,f1,f2,f4,f5,f6,f7,f8,f9,f10,f11,f12] at hE ⊢;clear f0 f1 f2 f4 f5 f6 f7 f8 f9 f10 f11 f12;go_wp2;exact .mk (hE _ _ rfl hC1 rfl)
  intro w1 vals hC1 hf;have f0:vals 0=.slice (some ⟨o2,0,none⟩) 32 32:=hf 0 (by decide) rfl;have f1:vals 1=.string SU:=hf 1 (by decide) rfl;have f2:vals 2=.slice A 32 c:=hf 2 (by decide) rfl;have f3:(fun v u=>∃ A c,v=.slice A 32 c∧Rd u u.heap.size A (bytesV U)) (vals 3) w1:=hf 3 (by decide) rfl;have f4:vals 4=.string SU:=hf 4 (by decide) rfl;have f5:vals 5=.bool true:=hf 5 (by decide) rfl;have f6:vals 6=.bool true:=hf 6 (by decide) rfl;have f7:vals 7=.int .i64 0:=hf 7 (by decide) rfl;have f8:vals 8=.bool true:=hf 8 (by decide) rfl;have f9:vals 9=.bool true:=hf 9 (by decide) rfl;have f10:vals 10=.bool true:=hf 10 (by decide) rfl;have f11:vals 11=.bool true:=hf 11 (by decide) rfl;have f12:vals 12=.bool true:=hf 12 (by decide) rfl;have f13:vals 13=.bool true:=hf 13 (by decide) rfl
  try dsimp only at f0 f1 f2 f3 f4 f5 f6 f7 f8 f9 f10 f11 f12 f13
  clear hf;simp only [sP,f0,f1,f2,f4,f5,f6,f7,f8,f9,f10,f11,f12,f13];clear f0 f1 f2 f4 f5 f6 f7 f8 f9 f10 f11 f12 f13;generalize vals 3=x3 at *;have HF:=zY hC1.1.2;clear hC1 HC0;go_wp2_with fail;go_ret;exact ⟨rfl,HF.out⟩
 ·have h32':¬ (n:Int)=32:=by omega
  have hn40':(n:Int)≤40:=by omega
  have CP:=zY (fun u=>spublic_bad n h32 (by omega) A c u);have CS:=zY (fun u=>ssign_bad n h32 (by omega) A none c 0 0 u);have HG:=zY hG;clear hG rb hn h32 hn40 hcm hnc;go_enter Tryd.func3,Tryd.ntmps3;go_wp2_with fail;refine calls_then (CF.out _) ?_;rintro e w0 ⟨rfl,rfl⟩;clear CF;go_wp2_with fail;refine calls_then (CP.out _) ?_;rintro e w1 ⟨rfl,rfl⟩;go_wp2_with fail;refine calls_then (CS.out _) ?_;rintro e w2 ⟨rfl,rfl⟩;go_wp2_with fail;refine calls_then (CL.out _ HG.out) ?_;rintro e w3 ⟨rfl,hb⟩;have HF:=zY hb;clear hb;go_wp2_with fail;go_ret;exact ⟨rfl,HF.out⟩
end Go.Proofs.YtdgheahbafnboaaDoor
namespace Go.Proofs.YtdgheahbafnboaaDoor.signPublic
set_option linter.unusedSimpArgs false
set_option linter.unusedVariables false
open Go.ChangeShapes Go.WideShapes Go.ChangeAt Go.RowKit Go.Joins Sh
set_option maxRecDepth 100000 in
theorem lifted (os:Os) (started:os.Started) (H:Type) (enc:TypeId × Value→H) :
  ReturnsInHanded {} Tryd.checked os 3 .any (fun w args=>(Rows.signPublicSpec.pre enc Tryd.prog Tryd.f3 [] false w args∧laidMetH Tryd.prog laidL w)∧sizedMet enc Tryd.prog Tryd.f3 (OpenSpec.ofChange Rows.signPublicSpec) false w args)
   (Rows.signPublicSpec.post enc Tryd.prog Tryd.f3 false true false false):=by
 refine returnsInHanded_of_change_and (C:=Tryd.checked) (X:=fun w _=>laidMetH Tryd.prog laidL w) (fun _ _ _ hh h=>h.of_heap hh) own started (by kernel_rfl) Tryd.func3
  (ChangeSpec.witness_shaped (enc:=enc) (C:=Tryd.checked) (os:=os) (X:=fun w _=>laidMetH Tryd.prog laidL w) false (World.doorLaid Tryd.prog 400 os) #[.slice none 0 0] 8 rfl (World.shaped_of_RefB (by kernel_rfl) (by kernel_rfl)) (by kernel_rfl) (by kernel_rfl) (by kernel_rfl) (door_met os _)) ?_
 intro W base args ds gs before hval0 hW _ _ hL _;have hval:∀ (j:Nat) t v,Tryd.f3.params[j]?=some t→args[j]?=some v→Value.okWide Tryd.prog W .any base t v:=hval0;have hW':=hW;obtain ⟨p,q,hA0,hV,rfl,hfz,hnd⟩:=hW;have hA:DataW.TrodAll enc Tryd.prog W 0 (fun _=>true) true Tryd.f3.params.toList args.toList ds p:=hA0;rw [Tryd.params3] at hA hval;have hG:=tab_of_laid hL;obtain ⟨v0,d0,rfl,rfl,h0⟩:=trodAll_one hA;obtain ⟨rfl,rfl⟩:=trodVars_none hV;have h0k:=h0;obtain ⟨l,A,c,rfl,rm,qm,okm⟩:=open_bytes_cap (hval 0 22 v0 rfl rfl) h0;clear hA0 hval0;simp only [List.append_nil] at hW';refine (signPublic_any l A c W rm qm okm hG).mono fun e W' ⟨he,hb⟩=>?_;subst he;have hlt:∀ x ∈ p,x.block<W.heap.size:=fun x hx=>hW'.lt x (by simpa using hx)
 exact ⟨_,rfl,post_of_below (pa:=p) (pv:=[]) hW' (fun _ _ _=>trodAll_mk1 (shut_bool Tryd.underlying4 _))
  (fun sp hsp=>trodAll_mk1 (stays laidOut (by kernel_rfl) (of_decide_eq_true (by kernel_rfl)) h0k hb hlt hsp))
  (fun _ _=>rfl) (by simp) hb (ok_one (by kernel_rfl) rfl (okWide_bool_mk Tryd.underlying4 _))⟩
theorem row_holds:Rows.SignPublicSaid :=
 OpenClaim.holds_of_wide 3 Tryd.f3 rfl rfl rfl rfl rfl rfl rfl ⟨rfl,rfl,rfl,rfl,rfl⟩ rfl rfl rfl rfl rfl (by kernel_rfl) Tryd.func3 (by kernel_rfl)
  (of_decide_eq_true (by kernel_rfl)) (by unfold Func.isWrapper; first | (rw [if_pos (by decide +kernel)]; kernel_rfl) | (rw [if_neg (by decide +kernel)]; exact ⟨rfl,rfl⟩))
  (fun os started H enc _=>lifted os started H enc)
theorem holds:Rows.SignPublicCardSaid :=
 Claim7.holds_tied_plain_at .later [] [.data] true (true, "0784ad3089ade6ce65c23d6f7e779087f08751140f5f821148598f103a639288") false
  row_holds (fun _ h=>by cases h) (by kernel_rfl) (fun _ h=>by cases h) signPublic_row_tie rfl ⟨rfl,rfl⟩ (by kernel_rfl) rfl
  (fun f fn hf hfn=>by
   obtain rfl:f=3:=Option.some.inj ((show Tryd.prog.funcNamed "brevet/brevetlaw06.SignPublic" = some 3 by kernel_rfl).symm.trans hf) |>.symm;obtain rfl:fn=Tryd.f3:=(Option.some.inj (Tryd.func3.symm.trans hfn)).symm
   exact ⟨by kernel_rfl,fun j t ht=>by
    rw [Tryd.params3] at ht;have hm:t ∈ [22]:=by simpa using Array.mem_of_getElem? ht
    have hall:([22].all fun u=>!Tryd.prog.wantsStandIn u)=true:=by kernel_rfl
    exact (show Tryd.prog.wantsStandIn t=false by simpa using List.all_eq_true.1 hall t hm)⟩)
  (by kernel_rfl)
#print axioms holds
end Go.Proofs.YtdgheahbafnboaaDoor.signPublic
