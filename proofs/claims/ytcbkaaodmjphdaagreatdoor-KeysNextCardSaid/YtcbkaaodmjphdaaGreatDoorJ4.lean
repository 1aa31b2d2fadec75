/-
  Joined texts: SumP Rev Cd Pa Pmul Pby Bas Prime Ptn Rn Cat Owz Secp Row64 Mix64 Sum64 Top5 Sdg NegW Ed Ex Er Byp Ebf Rbz Rll Sc Sd Scr Sgp Spu.
-/
import Derived.Deep.DeepCutAuto
import Derived.Laws.BitsAllLaws
import Derived.Test.YtcbkaaodmjphdaaGreatDoorJ3
import Derived.Test.YtcbkaaodmjphdaaGreatDoorJ2
import Derived.Test.YtcbkaaodmjphdaaGreatDoorJ1
namespace Go.Proofs.YtcbkaaodmjphdaaGreatDoor
set_option linter.unusedSimpArgs false
set_option linter.unusedVariables false
set_option maxRecDepth 100000
set_option maxHeartbeats 4000000
open Go.RowKit
set_option maxHeartbeats 8000000 in
theorem sum_any (p q:Pt4) (tw:E5) (w:World) (hkp:p.Ok) (hkq:q.Ok) (hkw:tw.Ok):Calls Tryz.prog 46 #[.agg (ptV p),.agg (ptV q),.agg (eV tw)] w (PtPost (sumP p q tw) w):=by
 have hu:=Tryz.underlying79;have hp:=Tryz.underlying81;have KP:=zY hkp;have KQ:=zY hkq;have KW:=zY hkw;obtain ⟨w0,hw0⟩:=eX ((((w.alloc (.cells (ptV p) 81)).alloc (.cells (ptV q) 81)).alloc (.cells (eV tw) 79)).alloc (.cells (ptV zP) 81))
 have hst:Cs [.box w.heap.size 81 (ptV p),.box (w.heap.size+1) 81 (ptV q),.box (w.heap.size+1+1) 79 (eV tw),.box (w.heap.size+1+1+1) 81 (ptV zP)] w w0:=by
  rw [hw0];exact ⟨⟨(((Blk.new _ _ _).alloc _).alloc _).alloc _,((Blk.newAt (by simp)).alloc _).alloc _,(Blk.newAt (by simp)).alloc _,Blk.newAt (by simp),trivial⟩,(((below_new _ _).alloc (by simp) _).alloc (by simp; try omega) _).alloc (by simp; try omega) _⟩
 have HLR:=zY (show w.heap.size≤w.heap.size+1+1+1 by omega);clear hkp hkq hkw;have HW:=zY hw0;have HST0:=zY hst;clear hw0 hst;go_enter Tryz.func46,Tryz.ntmps46;go_wp2_with fail;show Code.wp Tryz.prog _ _ _ ((((w.alloc (.cells (ptV p) _)).alloc (.cells (ptV q) _)).alloc (.cells (eV tw) _)).alloc (.cells (ptV zP) _));rw [← HW.out];generalize w.heap.size+1+1+1=r at *;generalize w.heap.size+1+1=gw at *;generalize w.heap.size+1=gq at *;generalize hgp:w.heap.size=gp at HST0 ⊢;clear HW hgp;have HC0:Below w0.heap.size w0 w0.drew:=(Below.refl _ _).drew
 refine qaD (fun u=>Below w0.heap.size w0 u) (fun | false=>(fun _=>True) | true=>(fun _=>True)) (fun | false,_=>false | true,_=>false)
  [fun z _=>z 0=.pointer (some ⟨gp,5,none⟩),
   fun z _=>z 1=.agg (eV (p.y)),
   fun z _=>z 2=.pointer (some ⟨gp,0,none⟩),
   fun z _=>z 3=.agg (eV (p.x)),
   fun z _=>z 4=.agg (eV (subE (p.y) (p.x))),
   fun z _=>z 5=.pointer (some ⟨gq,5,none⟩),
   fun z _=>z 6=.agg (eV (q.y)),
   fun z _=>z 7=.pointer (some ⟨gq,0,none⟩),
   fun z _=>z 8=.agg (eV (q.x)),
   fun z _=>z 9=.agg (eV (subE (q.y) (q.x))),
   fun z _=>z 10=.agg (eV (mulE (subE (p.y) (p.x)) (subE (q.y) (q.x)))),
   fun z u=>(NewBox w0.heap.size 79 (eV zE)) (z 11) u,
   fun z u=>NewBox w0.heap.size 79 (eV (mulE (subE (p.y) (p.x)) (subE (q.y) (q.x)))) (z 11) u]
  [Eq,Eq,Eq,Eq,fun u u'=>Below u.heap.size u u',Eq,Eq,Eq,Eq,fun u u'=>Below u.heap.size u u',fun u u'=>Below u.heap.size u u',fun u u'=>Below u.heap.size u u',fun _ _=>True]
  (fun i k=>(i == 12 && k == 11)) [(0,some 15),(1,some 16),(2,some 17),(3,some 18),(4,some 19),(5,some 20),(6,some 21),(7,some 22),(8,some 23),(9,some 24),(10,some 25),(11,some 7),(12,none)] (by kernel_rfl) (by kernel_rfl) rfl (fun _=>rfl) ?_ ?_ ?_ ?_ ?_ ?_
 ·exact HC0
 ·intro m; cases m; exact trivial; exact trivial
 ·intro m; cases m
  ·refine ⟨?_,?_,?_,?_,?_,?_,?_,?_,?_,?_,?_,?_,?_,trivial⟩ <;> first | exact .inr fun _ _ h h0=>h▸h0 | exact .inr fun _ _ _ h=>h
  ·refine ⟨?_,?_,?_,?_,?_,?_,?_,?_,?_,?_,?_,?_,?_,trivial⟩ <;> first | exact .inr fun _ _ h h0=>h▸h0 | exact .inr fun _ _ _ h=>h
 ·refine ⟨⟨.inl rfl,?_,?_,?_,?_,?_,?_,?_,?_,?_,?_,?_,?_,trivial⟩,⟨?_,.inl rfl,?_,?_,?_,?_,?_,?_,?_,?_,?_,?_,?_,trivial⟩,⟨?_,?_,.inl rfl,?_,?_,?_,?_,?_,?_,?_,?_,?_,?_,trivial⟩,⟨?_,?_,?_,.inl rfl,?_,?_,?_,?_,?_,?_,?_,?_,?_,trivial⟩,⟨?_,?_,?_,?_,.inl rfl,?_,?_,?_,?_,?_,?_,.inr (.inr (.inr (fun _ _ _ _ h h0=>h0.next h))),?_,trivial⟩,⟨?_,?_,?_,?_,?_,.inl rfl,?_,?_,?_,?_,?_,?_,?_,trivial⟩,⟨?_,?_,?_,?_,?_,?_,.inl rfl,?_,?_,?_,?_,?_,?_,trivial⟩,⟨?_,?_,?_,?_,?_,?_,?_,.inl rfl,?_,?_,?_,?_,?_,trivial⟩,⟨?_,?_,?_,?_,?_,?_,?_,?_,.inl rfl,?_,?_,?_,?_,trivial⟩,⟨?_,?_,?_,?_,?_,?_,?_,?_,?_,.inl rfl,?_,.inr (.inr (.inr (fun _ _ _ _ h h0=>h0.next h))),?_,trivial⟩,⟨?_,?_,?_,?_,?_,?_,?_,?_,?_,?_,.inl rfl,.inr (.inr (.inr (fun _ _ _ _ h h0=>h0.next h))),?_,trivial⟩,⟨?_,?_,?_,?_,?_,?_,?_,?_,?_,?_,?_,.inl rfl,?_,trivial⟩,⟨?_,?_,?_,?_,?_,?_,?_,?_,?_,?_,?_,.inr (.inl rfl),.inl rfl,trivial⟩,trivial⟩ <;> first | exact .inr (.inr (.inl rfl)) | exact .inr (.inr (.inr fun _ _ _ _ _ h=>h)) | exact .inr (.inr (.inr fun _ _ _ _ h h0=>by cases h; exact h0))
 ·refine ⟨?_,?_,?_,?_,?_,?_,?_,?_,?_,?_,?_,?_,?_,trivial⟩
  ·refine qaf [] (fun _=>rfl) rfl ?_;intro w1 vals hC1 hi0 hf E hE;clear hi0;clear hf;simp only [sP] at hE ⊢;go_wp2;exact .mk (hE _ _ rfl hC1 rfl)
  ·refine qaf [(0,some 15)] (fun _=>rfl) rfl ?_;intro w1 vals hC1 hi0 hf E hE;clear hi0;have f0:vals 0=_:=hf 0 rfl
   try dsimp only at f0
   clear hf;have hs:=HST0.out.next hC1;simp only [sP,f0] at hE ⊢;clear f0;refine qan (n:=5) (r:=eV (p.y)) (hs.1.1) (by rw [qbj]; decide) rfl rfl rfl rfl hu rfl qah ?_;go_wp2_with fail;exact .mk (hE _ _ rfl hC1 rfl)
  ·refine qaf [] (fun _=>rfl) rfl ?_;intro w1 vals hC1 hi0 hf E hE;clear hi0;clear hf;simp only [sP] at hE ⊢;go_wp2;exact .mk (hE _ _ rfl hC1 rfl)
  ·refine qaf [(2,some 17)] (fun _=>rfl) rfl ?_;intro w1 vals hC1 hi0 hf E hE;clear hi0;have f2:vals 2=_:=hf 2 rfl
   try dsimp only at f2
   clear hf;have hs:=HST0.out.next hC1;simp only [sP,f2] at hE ⊢;clear f2;refine qan (n:=5) (r:=eV (p.x)) (hs.1.1) (by rw [qbj]; decide) rfl rfl rfl rfl hu rfl qah ?_;go_wp2_with fail;exact .mk (hE _ _ rfl hC1 rfl)
  ·refine qaf [(1,some 16),(3,some 18)] (fun _=>rfl) rfl ?_;intro w1 vals hC1 hi0 hf E hE;clear hi0;have f1:vals 1=_:=hf 1 rfl;have f3:vals 3=_:=hf 3 rfl
   try dsimp only at f1 f3
   clear hf;simp only [sP,f1,f3] at hE ⊢;clear f1 f3;go_wp2_with fail;refine qab (sub_c _ _ _ (KP.out.y) (KP.out.x)) ?_;rintro e w2 ⟨rfl,hb2⟩;go_wp2_with fail;exact .mk (hE _ _ rfl (hC1.trans (hb2.mono hC1.size)) hb2)
  ·refine qaf [] (fun _=>rfl) rfl ?_;intro w1 vals hC1 hi0 hf E hE;clear hi0;clear hf;simp only [sP] at hE ⊢;go_wp2;exact .mk (hE _ _ rfl hC1 rfl)
  ·refine qaf [(5,some 20)] (fun _=>rfl) rfl ?_;intro w1 vals hC1 hi0 hf E hE;clear hi0;have f5:vals 5=_:=hf 5 rfl
   try dsimp only at f5
   clear hf;have hs:=HST0.out.next hC1;simp only [sP,f5] at hE ⊢;clear f5;refine qan (n:=5) (r:=eV (q.y)) (hs.1.2.1) (by rw [qbj]; decide) rfl rfl rfl rfl hu rfl qah ?_;go_wp2_with fail;exact .mk (hE _ _ rfl hC1 rfl)
  ·refine qaf [] (fun _=>rfl) rfl ?_;intro w1 vals hC1 hi0 hf E hE;clear hi0;clear hf;simp only [sP] at hE ⊢;go_wp2;exact .mk (hE _ _ rfl hC1 rfl)
  ·refine qaf [(7,some 22)] (fun _=>rfl) rfl ?_;intro w1 vals hC1 hi0 hf E hE;clear hi0;have f7:vals 7=_:=hf 7 rfl
   try dsimp only at f7
   clear hf;have hs:=HST0.out.next hC1;simp only [sP,f7] at hE ⊢;clear f7;refine qan (n:=5) (r:=eV (q.x)) (hs.1.2.1) (by rw [qbj]; decide) rfl rfl rfl rfl hu rfl qah ?_;go_wp2_with fail;exact .mk (hE _ _ rfl hC1 rfl)
  ·refine qaf [(6,some 21),(8,some 23),(4,some 19)] (fun _=>rfl) rfl ?_;intro w1 vals hC1 hi0 hf E hE;clear hi0;have f4:vals 4=_:=hf 4 rfl;have f6:vals 6=_:=hf 6 rfl;have f8:vals 8=_:=hf 8 rfl
   try dsimp only at f4 f6 f8
   clear hf;simp only [sP,f4,f6,f8] at hE ⊢;clear f4 f6 f8;go_wp2_with fail;refine qab (sub_c _ _ _ (KQ.out.y) (KQ.out.x)) ?_;rintro e w2 ⟨rfl,hb2⟩;go_wp2_with fail;exact .mk (hE _ _ rfl (hC1.trans (hb2.mono hC1.size)) hb2)
  ·refine qaf [(4,some 19),(9,some 24),(9,some 24)] (fun _=>rfl) rfl ?_;intro w1 vals hC1 hi0 hf E hE;clear hi0;have f4:vals 4=_:=hf 4 rfl;have f9:vals 9=_:=hf 9 rfl
   try dsimp only at f4 f9
   clear hf;simp only [sP,f4,f9] at hE ⊢;clear f4 f9;go_wp2_with fail;refine qab (mul_c _ _ _ (qbR (KP.out.y) (KP.out.x)) (qbR (KQ.out.y) (KQ.out.x))) ?_;rintro e w2 ⟨rfl,hb2⟩;go_wp2_with fail;exact .mk (hE _ _ rfl (hC1.trans (hb2.mono hC1.size)) hb2)
  ·refine qaf [] (fun _=>rfl) rfl ?_;intro w1 vals hC1 hi0 hf E hE;clear hi0;clear hf;simp only [sP] at hE ⊢;go_wp2;exact .mk (hE _ _ (NewBox.of hC1.size) (hC1.alloc hC1.size _) (below_new _ _))
  ·refine qaf [(11,some 7),(10,some 25),(10,some 25),(0,some 15),(1,some 16),(2,some 17),(3,some 18),(4,some 19),(5,some 20),(6,some 21),(7,some 22),(8,some 23),(9,some 24),(10,some 25),(11,some 7)] (fun _=>rfl) rfl ?_;intro w1 vals hC1 hi0 hf E hE;clear hi0;have f0:vals 0=_:=hf 0 rfl;have f1:vals 1=_:=hf 1 rfl;have f2:vals 2=_:=hf 2 rfl;have f3:vals 3=_:=hf 3 rfl;have f4:vals 4=_:=hf 4 rfl;have f5:vals 5=_:=hf 5 rfl;have f6:vals 6=_:=hf 6 rfl;have f7:vals 7=_:=hf 7 rfl;have f8:vals 8=_:=hf 8 rfl;have f9:vals 9=_:=hf 9 rfl;have f10:vals 10=_:=hf 10 rfl;have f11:(NewBox w0.heap.size 79 (eV zE)) (vals 11) w1:=hf 11 rfl
   try dsimp only at f0 f1 f2 f3 f4 f5 f6 f7 f8 f9 f10 f11
   clear hf;obtain ⟨o,hx,ho,hblk⟩:=f11;have hx':=hx;simp only [sP,f0,f1,f2,f3,f4,f5,f6,f7,f8,f9,f10,hx] at hE ⊢;clear f0 f1 f2 f3 f4 f5 f6 f7 f8 f9 f10;clear hx;refine qad (cells:=eV (mulE (subE (p.y) (p.x)) (subE (q.y) (q.x)))) hblk rfl rfl rfl rfl qah rfl (by simp [eV,ptV,wV,limbs,Value.oneCell']) ?_;intro w2 hb2 hw2;go_wp2_with fail;exact .mk (hE undef _ ⟨o,hx',ho,hb2⟩ (hw2.below hC1 ho hC1.size) trivial)
 intro w1 vals hC1 hf;have f0:vals 0=_:=hf 0 (by decide) rfl;have f1:vals 1=_:=hf 1 (by decide) rfl;have f2:vals 2=_:=hf 2 (by decide) rfl;have f3:vals 3=_:=hf 3 (by decide) rfl;have f4:vals 4=_:=hf 4 (by decide) rfl;have f5:vals 5=_:=hf 5 (by decide) rfl;have f6:vals 6=_:=hf 6 (by decide) rfl;have f7:vals 7=_:=hf 7 (by decide) rfl;have f8:vals 8=_:=hf 8 (by decide) rfl;have f9:vals 9=_:=hf 9 (by decide) rfl;have f10:vals 10=_:=hf 10 (by decide) rfl;have f12:(fun z u=>NewBox w0.heap.size 79 (eV (mulE (subE (p.y) (p.x)) (subE (q.y) (q.x)))) (z 11) u) vals w1:=hf 12 (by decide) rfl
 try dsimp only at f0 f1 f2 f3 f4 f5 f6 f7 f8 f9 f10 f12
 clear hf;simp only [sP,f0,f1,f2,f3,f4,f5,f6,f7,f8,f9,f10];clear f0 f1 f2 f3 f4 f5 f6 f7 f8 f9 f10;generalize vals 11=x11 at *;obtain ⟨o1,rfl,hlo1,hblk1⟩:=f12;obtain ⟨a,ha⟩:=eX (mulE (subE (p.y) (p.x)) (subE (q.y) (q.x)));rw [← ha] at hblk1;have Ka:=zY (show a.Ok by rw [ha]; exact qba (qbR (KP.out.y) (KP.out.x)) (qbR (KQ.out.y) (KQ.out.x)));have Ea:=zY ha;have HST1:=zY (show Cs (.box o1 79 (eV a) :: [.box gp 81 (ptV p),.box gq 81 (ptV q),.box gw 79 (eV tw),.box r 81 (ptV zP)]) w w1 from ⟨⟨hblk1,(HST0.out.next hC1).1⟩,(HST0.out.next hC1).2⟩);clear hC1 HC0 HST0 hblk1 hlo1 ha;obtain ⟨v1,rfl⟩:=eX w1;go_wp2_with fail;have HC0:Below v1.heap.size v1 v1.drew:=(Below.refl _ _).drew
 refine qaD (fun u=>Below v1.heap.size v1 u) (fun | false=>(fun _=>True) | true=>(fun _=>True)) (fun | false,_=>false | true,_=>false)
  [fun z _=>z 0=.pointer (some ⟨gp,5,none⟩),
   fun z _=>z 1=.agg (eV (p.y)),
   fun z _=>z 2=.pointer (some ⟨gp,0,none⟩),
   fun z _=>z 3=.agg (eV (p.x)),
   fun z _=>z 4=.agg (eV (addE (p.y) (p.x))),
   fun z _=>z 5=.pointer (some ⟨gq,5,none⟩),
   fun z _=>z 6=.agg (eV (q.y)),
   fun z _=>z 7=.pointer (some ⟨gq,0,none⟩),
   fun z _=>z 8=.agg (eV (q.x)),
   fun z _=>z 9=.agg (eV (addE (q.y) (q.x))),
   fun z _=>z 10=.agg (eV (mulE (addE (p.y) (p.x)) (addE (q.y) (q.x)))),
   fun z u=>(NewBox v1.heap.size 79 (eV zE)) (z 11) u,
   fun z u=>NewBox v1.heap.size 79 (eV (mulE (addE (p.y) (p.x)) (addE (q.y) (q.x)))) (z 11) u]
  [Eq,Eq,Eq,Eq,fun u u'=>Below u.heap.size u u',Eq,Eq,Eq,Eq,fun u u'=>Below u.heap.size u u',fun u u'=>Below u.heap.size u u',fun u u'=>Below u.heap.size u u',fun _ _=>True]
  (fun i k=>(i == 12 && k == 11)) [(0,some 26),(1,some 27),(2,some 28),(3,some 29),(4,some 30),(5,some 31),(6,some 32),(7,some 33),(8,some 34),(9,some 35),(10,some 36),(11,some 8),(12,none)] (by kernel_rfl) (by kernel_rfl) rfl (fun _=>rfl) ?_ ?_ ?_ ?_ ?_ ?_
 ·exact HC0
 ·intro m; cases m; exact trivial; exact trivial
 ·intro m; cases m
  ·refine ⟨?_,?_,?_,?_,?_,?_,?_,?_,?_,?_,?_,?_,?_,trivial⟩ <;> first | exact .inr fun _ _ h h0=>h▸h0 | exact .inr fun _ _ _ h=>h
  ·refine ⟨?_,?_,?_,?_,?_,?_,?_,?_,?_,?_,?_,?_,?_,trivial⟩ <;> first | exact .inr fun _ _ h h0=>h▸h0 | exact .inr fun _ _ _ h=>h
 ·refine ⟨⟨.inl rfl,?_,?_,?_,?_,?_,?_,?_,?_,?_,?_,?_,?_,trivial⟩,⟨?_,.inl rfl,?_,?_,?_,?_,?_,?_,?_,?_,?_,?_,?_,trivial⟩,⟨?_,?_,.inl rfl,?_,?_,?_,?_,?_,?_,?_,?_,?_,?_,trivial⟩,⟨?_,?_,?_,.inl rfl,?_,?_,?_,?_,?_,?_,?_,?_,?_,trivial⟩,⟨?_,?_,?_,?_,.inl rfl,?_,?_,?_,?_,?_,?_,.inr (.inr (.inr (fun _ _ _ _ h h0=>h0.next h))),?_,trivial⟩,⟨?_,?_,?_,?_,?_,.inl rfl,?_,?_,?_,?_,?_,?_,?_,trivial⟩,⟨?_,?_,?_,?_,?_,?_,.inl rfl,?_,?_,?_,?_,?_,?_,trivial⟩,⟨?_,?_,?_,?_,?_,?_,?_,.inl rfl,?_,?_,?_,?_,?_,trivial⟩,⟨?_,?_,?_,?_,?_,?_,?_,?_,.inl rfl,?_,?_,?_,?_,trivial⟩,⟨?_,?_,?_,?_,?_,?_,?_,?_,?_,.inl rfl,?_,.inr (.inr (.inr (fun _ _ _ _ h h0=>h0.next h))),?_,trivial⟩,⟨?_,?_,?_,?_,?_,?_,?_,?_,?_,?_,.inl rfl,.inr (.inr (.inr (fun _ _ _ _ h h0=>h0.next h))),?_,trivial⟩,⟨?_,?_,?_,?_,?_,?_,?_,?_,?_,?_,?_,.inl rfl,?_,trivial⟩,⟨?_,?_,?_,?_,?_,?_,?_,?_,?_,?_,?_,.inr (.inl rfl),.inl rfl,trivial⟩,trivial⟩ <;> first | exact .inr (.inr (.inl rfl)) | exact .inr (.inr (.inr fun _ _ _ _ _ h=>h)) | exact .inr (.inr (.inr fun _ _ _ _ h h0=>by cases h; exact h0))
 ·refine ⟨?_,?_,?_,?_,?_,?_,?_,?_,?_,?_,?_,?_,?_,trivial⟩
  ·refine qaf [] (fun _=>rfl) rfl ?_;intro w1 vals hC1 hi0 hf E hE;clear hi0;clear hf;simp only [sP] at hE ⊢;go_wp2;exact .mk (hE _ _ rfl hC1 rfl)
  ·refine qaf [(0,some 26)] (fun _=>rfl) rfl ?_;intro w1 vals hC1 hi0 hf E hE;clear hi0;have f0:vals 0=_:=hf 0 rfl
   try dsimp only at f0
   clear hf;have hs:=HST1.out.next hC1;simp only [sP,f0] at hE ⊢;clear f0;refine qan (n:=5) (r:=eV (p.y)) (hs.1.2.1) (by rw [qbj]; decide) rfl rfl rfl rfl hu rfl qah ?_;go_wp2_with fail;exact .mk (hE _ _ rfl hC1 rfl)
  ·refine qaf [] (fun _=>rfl) rfl ?_;intro w1 vals hC1 hi0 hf E hE;clear hi0;clear hf;simp only [sP] at hE ⊢;go_wp2;exact .mk (hE _ _ rfl hC1 rfl)
  ·refine qaf [(2,some 28)] (fun _=>rfl) rfl ?_;intro w1 vals hC1 hi0 hf E hE;clear hi0;have f2:vals 2=_:=hf 2 rfl
   try dsimp only at f2
   clear hf;have hs:=HST1.out.next hC1;simp only [sP,f2] at hE ⊢;clear f2;refine qan (n:=5) (r:=eV (p.x)) (hs.1.2.1) (by rw [qbj]; decide) rfl rfl rfl rfl hu rfl qah ?_;go_wp2_with fail;exact .mk (hE _ _ rfl hC1 rfl)
  ·refine qaf [(1,some 27),(3,some 29)] (fun _=>rfl) rfl ?_;intro w1 vals hC1 hi0 hf E hE;clear hi0;have f1:vals 1=_:=hf 1 rfl;have f3:vals 3=_:=hf 3 rfl
   try dsimp only at f1 f3
   clear hf;simp only [sP,f1,f3] at hE ⊢;clear f1 f3;go_wp2_with fail;refine qab (add_c _ _ _ (KP.out.y) (KP.out.x)) ?_;rintro e w2 ⟨rfl,hb2⟩;go_wp2_with fail;exact .mk (hE _ _ rfl (hC1.trans (hb2.mono hC1.size)) hb2)
  ·refine qaf [] (fun _=>rfl) rfl ?_;intro w1 vals hC1 hi0 hf E hE;clear hi0;clear hf;simp only [sP] at hE ⊢;go_wp2;exact .mk (hE _ _ rfl hC1 rfl)
  ·refine qaf [(5,some 31)] (fun _=>rfl) rfl ?_;intro w1 vals hC1 hi0 hf E hE;clear hi0;have f5:vals 5=_:=hf 5 rfl
   try dsimp only at f5
   clear hf;have hs:=HST1.out.next hC1;simp only [sP,f5] at hE ⊢;clear f5;refine qan (n:=5) (r:=eV (q.y)) (hs.1.2.2.1) (by rw [qbj]; decide) rfl rfl rfl rfl hu rfl qah ?_;go_wp2_with fail;exact .mk (hE _ _ rfl hC1 rfl)
  ·refine qaf [] (fun _=>rfl) rfl ?_;intro w1 vals hC1 hi0 hf E hE;clear hi0;clear hf;simp only [sP] at hE ⊢;go_wp2;exact .mk (hE _ _ rfl hC1 rfl)
  ·refine qaf [(7,some 33)] (fun _=>rfl) rfl ?_;intro w1 vals hC1 hi0 hf E hE;clear hi0;have f7:vals 7=_:=hf 7 rfl
   try dsimp only at f7
   clear hf;have hs:=HST1.out.next hC1;simp only [sP,f7] at hE ⊢;clear f7;refine qan (n:=5) (r:=eV (q.x)) (hs.1.2.2.1) (by rw [qbj]; decide) rfl rfl rfl rfl hu rfl qah ?_;go_wp2_with fail;exact .mk (hE _ _ rfl hC1 rfl)
  ·refine qaf [(6,some 32),(8,some 34),(4,some 30)] (fun _=>rfl) rfl ?_;intro w1 vals hC1 hi0 hf E hE;clear hi0;have f4:vals 4=_:=hf 4 rfl;have f6:vals 6=_:=hf 6 rfl;have f8:vals 8=_:=hf 8 rfl
   try dsimp only at f4 f6 f8
   clear hf;simp only [sP,f4,f6,f8] at hE ⊢;clear f4 f6 f8;go_wp2_with fail;refine qab (add_c _ _ _ (KQ.out.y) (KQ.out.x)) ?_;rintro e w2 ⟨rfl,hb2⟩;go_wp2_with fail;exact .mk (hE _ _ rfl (hC1.trans (hb2.mono hC1.size)) hb2)
  ·refine qaf [(4,some 30),(9,some 35),(9,some 35)] (fun _=>rfl) rfl ?_;intro w1 vals hC1 hi0 hf E hE;clear hi0;have f4:vals 4=_:=hf 4 rfl;have f9:vals 9=_:=hf 9 rfl
   try dsimp only at f4 f9
   clear hf;simp only [sP,f4,f9] at hE ⊢;clear f4 f9;go_wp2_with fail;refine qab (mul_c _ _ _ (qbu (KP.out.y) (KP.out.x)) (qbu (KQ.out.y) (KQ.out.x))) ?_;rintro e w2 ⟨rfl,hb2⟩;go_wp2_with fail;exact .mk (hE _ _ rfl (hC1.trans (hb2.mono hC1.size)) hb2)
  ·refine qaf [] (fun _=>rfl) rfl ?_;intro w1 vals hC1 hi0 hf E hE;clear hi0;clear hf;simp only [sP] at hE ⊢;go_wp2;exact .mk (hE _ _ (NewBox.of hC1.size) (hC1.alloc hC1.size _) (below_new _ _))
  ·refine qaf [(11,some 8),(10,some 36),(10,some 36),(0,some 26),(1,some 27),(2,some 28),(3,some 29),(4,some 30),(5,some 31),(6,some 32),(7,some 33),(8,some 34),(9,some 35),(10,some 36),(11,some 8)] (fun _=>rfl) rfl ?_;intro w1 vals hC1 hi0 hf E hE;clear hi0;have f0:vals 0=_:=hf 0 rfl;have f1:vals 1=_:=hf 1 rfl;have f2:vals 2=_:=hf 2 rfl;have f3:vals 3=_:=hf 3 rfl;have f4:vals 4=_:=hf 4 rfl;have f5:vals 5=_:=hf 5 rfl;have f6:vals 6=_:=hf 6 rfl;have f7:vals 7=_:=hf 7 rfl;have f8:vals 8=_:=hf 8 rfl;have f9:vals 9=_:=hf 9 rfl;have f10:vals 10=_:=hf 10 rfl;have f11:(NewBox v1.heap.size 79 (eV zE)) (vals 11) w1:=hf 11 rfl
   try dsimp only at f0 f1 f2 f3 f4 f5 f6 f7 f8 f9 f10 f11
   clear hf;obtain ⟨o,hx,ho,hblk⟩:=f11;have hx':=hx;simp only [sP,f0,f1,f2,f3,f4,f5,f6,f7,f8,f9,f10,hx] at hE ⊢;clear f0 f1 f2 f3 f4 f5 f6 f7 f8 f9 f10;clear hx;refine qad (cells:=eV (mulE (addE (p.y) (p.x)) (addE (q.y) (q.x)))) hblk rfl rfl rfl rfl qah rfl (by simp [eV,ptV,wV,limbs,Value.oneCell']) ?_;intro w2 hb2 hw2;go_wp2_with fail;exact .mk (hE undef _ ⟨o,hx',ho,hb2⟩ (hw2.below hC1 ho hC1.size) trivial)
 intro w1 vals hC1 hf;have f0:vals 0=_:=hf 0 (by decide) rfl;have f1:vals 1=_:=hf 1 (by decide) rfl;have f2:vals 2=_:=hf 2 (by decide) rfl;have f3:vals 3=_:=hf 3 (by decide) rfl;have f4:vals 4=_:=hf 4 (by decide) rfl;have f5:vals 5=_:=hf 5 (by decide) rfl;have f6:vals 6=_:=hf 6 (by decide) rfl;have f7:vals 7=_:=hf 7 (by decide) rfl;have f8:vals 8=_:=hf 8 (by decide) rfl;have f9:vals 9=_:=hf 9 (by decide) rfl;have f10:vals 10=_:=hf 10 (by decide) rfl;have f12:(fun z u=>NewBox v1.heap.size 79 (eV (mulE (addE (p.y) (p.x)) (addE (q.y) (q.x)))) (z 11) u) vals w1:=hf 12 (by decide) rfl
 try dsimp only at f0 f1 f2 f3 f4 f5 f6 f7 f8 f9 f10 f12
 clear hf;simp only [sP,f0,f1,f2,f3,f4,f5,f6,f7,f8,f9,f10];clear f0 f1 f2 f3 f4 f5 f6 f7 f8 f9 f10;generalize vals 11=x11 at *;obtain ⟨o2,rfl,hlo2,hblk2⟩:=f12;obtain ⟨b,hb⟩:=eX (mulE (addE (p.y) (p.x)) (addE (q.y) (q.x)));rw [← hb] at hblk2;have Kb:=zY (show b.Ok by rw [hb]; exact qba (qbu (KP.out.y) (KP.out.x)) (qbu (KQ.out.y) (KQ.out.x)));have Eb:=zY hb;have HST2:=zY (show Cs (.box o2 79 (eV b) :: [.box o1 79 (eV a),.box gp 81 (ptV p),.box gq 81 (ptV q),.box gw 79 (eV tw),.box r 81 (ptV zP)]) w w1 from ⟨⟨hblk2,(HST1.out.next hC1).1⟩,(HST1.out.next hC1).2⟩);clear hC1 HC0 HST1 hblk2 hlo2 hb;obtain ⟨v2,rfl⟩:=eX w1;go_wp2_with fail;have HC0:Below v2.heap.size v2 v2.drew:=(Below.refl _ _).drew
 refine qaD (fun u=>Below v2.heap.size v2 u) (fun | false=>(fun _=>True) | true=>(fun _=>True)) (fun | false,_=>false | true,_=>false)
  [fun z _=>z 0=.pointer (some ⟨gp,15,none⟩),
   fun z _=>z 1=.agg (eV (p.t)),
   fun z _=>z 2=.agg (eV (tw)),
   fun z _=>z 3=.agg (eV (mulE (p.t) (tw))),
   fun z _=>z 4=.pointer (some ⟨gq,15,none⟩),
   fun z _=>z 5=.agg (eV (q.t)),
   fun z _=>z 6=.agg (eV (mulE (mulE (p.t) (tw)) (q.t))),
   fun z u=>(NewBox v2.heap.size 79 (eV zE)) (z 7) u,
   fun z u=>NewBox v2.heap.size 79 (eV (mulE (mulE (p.t) (tw)) (q.t))) (z 7) u]
  [Eq,Eq,Eq,fun u u'=>Below u.heap.size u u',Eq,Eq,fun u u'=>Below u.heap.size u u',fun u u'=>Below u.heap.size u u',fun _ _=>True]
  (fun i k=>(i == 8 && k == 7)) [(0,some 37),(1,some 38),(2,some 39),(3,some 40),(4,some 41),(5,some 42),(6,some 43),(7,some 9),(8,none)] (by kernel_rfl) (by kernel_rfl) rfl (fun _=>rfl) ?_ ?_ ?_ ?_ ?_ ?_
 ·exact HC0
 ·intro m; cases m; exact trivial; exact trivial
 ·intro m; cases m
  ·refine ⟨?_,?_,?_,?_,?_,?_,?_,?_,?_,trivial⟩ <;> first | exact .inr fun _ _ h h0=>h▸h0 | exact .inr fun _ _ _ h=>h
  ·refine ⟨?_,?_,?_,?_,?_,?_,?_,?_,?_,trivial⟩ <;> first | exact .inr fun _ _ h h0=>h▸h0 | exact .inr fun _ _ _ h=>h
 ·refine ⟨⟨.inl rfl,?_,?_,?_,?_,?_,?_,?_,?_,trivial⟩,⟨?_,.inl rfl,?_,?_,?_,?_,?_,?_,?_,trivial⟩,⟨?_,?_,.inl rfl,?_,?_,?_,?_,?_,?_,trivial⟩,⟨?_,?_,?_,.inl rfl,?_,?_,?_,.inr (.inr (.inr (fun _ _ _ _ h h0=>h0.next h))),?_,trivial⟩,⟨?_,?_,?_,?_,.inl rfl,?_,?_,?_,?_,trivial⟩,⟨?_,?_,?_,?_,?_,.inl rfl,?_,?_,?_,trivial⟩,⟨?_,?_,?_,?_,?_,?_,.inl rfl,.inr (.inr (.inr (fun _ _ _ _ h h0=>h0.next h))),?_,trivial⟩,⟨?_,?_,?_,?_,?_,?_,?_,.inl rfl,?_,trivial⟩,⟨?_,?_,?_,?_,?_,?_,?_,.inr (.inl rfl),.inl rfl,trivial⟩,trivial⟩ <;> first | exact .inr (.inr (.inl rfl)) | exact .inr (.inr (.inr fun _ _ _ _ _ h=>h)) | exact .inr (.inr (.inr fun _ _ _ _ h h0=>by cases h; exact h0))
 ·refine ⟨?_,?_,?_,?_,?_,?_,?_,?_,?_,trivial⟩
  ·refine qaf [] (fun _=>rfl) rfl ?_;intro w1 vals hC1 hi0 hf E hE;clear hi0;clear hf;simp only [sP] at hE ⊢;go_wp2;exact .mk (hE _ _ rfl hC1 rfl)
  ·refine qaf [(0,some 37)] (fun _=>rfl) rfl ?_;intro w1 vals hC1 hi0 hf E hE;clear hi0;have f0:vals 0=_:=hf 0 rfl
   try dsimp only at f0
   clear hf;have hs:=HST2.out.next hC1;simp only [sP,f0] at hE ⊢;clear f0;refine qan (n:=5) (r:=eV (p.t)) (hs.1.2.2.1) (by rw [qbj]; decide) rfl rfl rfl rfl hu rfl qah ?_;go_wp2_with fail;exact .mk (hE _ _ rfl hC1 rfl)
  ·refine qaf [] (fun _=>rfl) rfl ?_;intro w1 vals hC1 hi0 hf E hE;clear hi0;clear hf;have hs:=HST2.out.next hC1;simp only [sP] at hE ⊢;refine qac (hs.1.2.2.2.2.1) rfl rfl rfl hu rfl qah ?_;go_wp2_with fail;exact .mk (hE _ _ rfl hC1 rfl)
  ·refine qaf [(1,some 38),(2,some 39)] (fun _=>rfl) rfl ?_;intro w1 vals hC1 hi0 hf E hE;clear hi0;have f1:vals 1=_:=hf 1 rfl;have f2:vals 2=_:=hf 2 rfl
   try dsimp only at f1 f2
   clear hf;simp only [sP,f1,f2] at hE ⊢;clear f1 f2;go_wp2_with fail;refine qab (mul_c _ _ _ (KP.out.t) (KW.out)) ?_;rintro e w2 ⟨rfl,hb2⟩;go_wp2_with fail;exact .mk (hE _ _ rfl (hC1.trans (hb2.mono hC1.size)) hb2)
  ·refine qaf [] (fun _=>rfl) rfl ?_;intro w1 vals hC1 hi0 hf E hE;clear hi0;clear hf;simp only [sP] at hE ⊢;go_wp2;exact .mk (hE _ _ rfl hC1 rfl)
  ·refine qaf [(4,some 41)] (fun _=>rfl) rfl ?_;intro w1 vals hC1 hi0 hf E hE;clear hi0;have f4:vals 4=_:=hf 4 rfl
   try dsimp only at f4
   clear hf;have hs:=HST2.out.next hC1;simp only [sP,f4] at hE ⊢;clear f4;refine qan (n:=5) (r:=eV (q.t)) (hs.1.2.2.2.1) (by rw [qbj]; decide) rfl rfl rfl rfl hu rfl qah ?_;go_wp2_with fail;exact .mk (hE _ _ rfl hC1 rfl)
  ·refine qaf [(3,some 40),(5,some 42),(3,some 40)] (fun _=>rfl) rfl ?_;intro w1 vals hC1 hi0 hf E hE;clear hi0;have f3:vals 3=_:=hf 3 rfl;have f5:vals 5=_:=hf 5 rfl
   try dsimp only at f3 f5
   clear hf;simp only [sP,f3,f5] at hE ⊢;clear f3 f5;go_wp2_with fail;refine qab (mul_c _ _ _ (qba (KP.out.t) (KW.out)) (KQ.out.t)) ?_;rintro e w2 ⟨rfl,hb2⟩;go_wp2_with fail;exact .mk (hE _ _ rfl (hC1.trans (hb2.mono hC1.size)) hb2)
  ·refine qaf [] (fun _=>rfl) rfl ?_;intro w1 vals hC1 hi0 hf E hE;clear hi0;clear hf;simp only [sP] at hE ⊢;go_wp2;exact .mk (hE _ _ (NewBox.of hC1.size) (hC1.alloc hC1.size _) (below_new _ _))
  ·refine qaf [(7,some 9),(6,some 43),(6,some 43),(0,some 37),(1,some 38),(2,some 39),(3,some 40),(4,some 41),(5,some 42),(6,some 43),(7,some 9)] (fun _=>rfl) rfl ?_;intro w1 vals hC1 hi0 hf E hE;clear hi0;have f0:vals 0=_:=hf 0 rfl;have f1:vals 1=_:=hf 1 rfl;have f2:vals 2=_:=hf 2 rfl;have f3:vals 3=_:=hf 3 rfl;have f4:vals 4=_:=hf 4 rfl;have f5:vals 5=_:=hf 5 rfl;have f6:vals 6=_:=hf 6 rfl;have f7:(NewBox v2.heap.size 79 (eV zE)) (vals 7) w1:=hf 7 rfl
   try dsimp only at f0 f1 f2 f3 f4 f5 f6 f7
   clear hf;obtain ⟨o,hx,ho,hblk⟩:=f7;have hx':=hx;simp only [sP,f0,f1,f2,f3,f4,f5,f6,hx] at hE ⊢;clear f0 f1 f2 f3 f4 f5 f6;clear hx;refine qad (cells:=eV (mulE (mulE (p.t) (tw)) (q.t))) hblk rfl rfl rfl rfl qah rfl (by simp [eV,ptV,wV,limbs,Value.oneCell']) ?_;intro w2 hb2 hw2;go_wp2_with fail;exact .mk (hE undef _ ⟨o,hx',ho,hb2⟩ (hw2.below hC1 ho hC1.size) trivial)
 intro w1 vals hC1 hf;have f0:vals 0=_:=hf 0 (by decide) rfl;have f1:vals 1=_:=hf 1 (by decide) rfl;have f2:vals 2=_:=hf 2 (by decide) rfl;have f3:vals 3=_:=hf 3 (by decide) rfl;have f4:vals 4=_:=hf 4 (by decide) rfl;have f5:vals 5=_:=hf 5 (by decide) rfl;have f6:vals 6=_:=hf 6 (by decide) rfl;have f8:(fun z u=>NewBox v2.heap.size 79 (eV (mulE (mulE (p.t) (tw)) (q.t))) (z 7) u) vals w1:=hf 8 (by decide) rfl
 try dsimp only at f0 f1 f2 f3 f4 f5 f6 f8
 clear hf;simp only [sP,f0,f1,f2,f3,f4,f5,f6];clear f0 f1 f2 f3 f4 f5 f6;generalize vals 7=x7 at *;obtain ⟨o3,rfl,hlo3,hblk3⟩:=f8;obtain ⟨c,hc⟩:=eX (mulE (mulE (p.t) (tw)) (q.t));rw [← hc] at hblk3;have Kc:=zY (show c.Ok by rw [hc]; exact qba (qba (KP.out.t) (KW.out)) (KQ.out.t));have Ec:=zY hc;have HST3:=zY (show Cs (.box o3 79 (eV c) :: [.box o2 79 (eV b),.box o1 79 (eV a),.box gp 81 (ptV p),.box gq 81 (ptV q),.box gw 79 (eV tw),.box r 81 (ptV zP)]) w w1 from ⟨⟨hblk3,(HST2.out.next hC1).1⟩,(HST2.out.next hC1).2⟩);clear hC1 HC0 HST2 hblk3 hlo3 hc;obtain ⟨v3,rfl⟩:=eX w1
 go_wp2_with (first
  | (refine qan (x:=.tmp 44) (n:=5) (r:=eV p.z) (HST3.out.1.2.2.2.1) (by rw [qbj]; decide) rfl rfl rfl rfl hu rfl qah ?_)
  | (refine qan (x:=.tmp 46) (n:=5) (r:=eV q.z) (HST3.out.1.2.2.2.2.1) (by rw [qbj]; decide) rfl rfl rfl rfl hu rfl qah ?_))
 refine qab (mul_c p.z q.z _ KP.out.z KQ.out.z) ?_;rintro e w2 ⟨rfl,hb2⟩;obtain ⟨zz,hz⟩:=eX (mulE p.z q.z);rw [← hz];have Kz:=zY (show zz.Ok by rw [hz]; exact qba KP.out.z KQ.out.z);have Ez:=zY hz;have HX:=zY (HST3.out.next hb2);clear hz hb2 HST3;go_wp2_with (refine qad (x:=.tmp 10) (cells:=eV zz) (Blk.new _ _ _) rfl rfl rfl rfl qah rfl (by simp [eV,ptV,wV,limbs,Value.oneCell']) ?_; intro v9 hb9 hw9; have HST9:=zY (show Cs (.box w2.heap.size 79 (eV zz) :: [.box o3 79 (eV c),.box o2 79 (eV b),.box o1 79 (eV a),.box gp 81 (ptV p),.box gq 81 (ptV q),.box gw 79 (eV tw),.box r 81 (ptV zP)]) w v9 from ⟨⟨hb9,(HX.out.next (qcC hw9)).1⟩,(HX.out.next (qcC hw9)).2⟩); clear hb9 hw9 HX);generalize w2.heap.size=oz at *;have HC0:C2 v9 6 7 (fun _=>undef) v9.drew:=C2.init (Below.refl _ _).drew
 refine qcp (C2 v9 6 7) (fun | false=>(fun _=>True) | true=>(fun _=>True)) (fun | false,_=>false | true,_=>false)
  [fun z _=>z 0=.agg (eV (b)),
   fun z _=>z 1=.agg (eV (a)),
   fun z _=>z 2=.agg (eV (subE (b) (a))),
   fun z _=>z 3=.agg (eV (b)),
   fun z _=>z 4=.agg (eV (a)),
   fun z _=>z 5=.agg (eV (addE (b) (a))),
   fun z u=>(NewBox v9.heap.size 79 (eV zE)) (z 6) u,
   fun z u=>(NewBox v9.heap.size 79 (eV zE)) (z 7) u,
   fun z u=>NewBox v9.heap.size 79 (eV (subE (b) (a))) (z 6) u∧NewBox v9.heap.size 79 (eV zE) (z 7) u,
   fun z u=>NewBox v9.heap.size 79 (eV (subE (b) (a))) (z 6) u∧NewBox v9.heap.size 79 (eV (addE (b) (a))) (z 7) u]
  [Eq,Eq,fun u u'=>Below u.heap.size u u',Eq,Eq,fun u u'=>Below u.heap.size u u',fun u u'=>Below u.heap.size u u',fun u u'=>Below u.heap.size u u',fun _ _=>True,fun _ _=>True]
  (fun i k=>(i == 8 && k == 6) || (i == 8 && k == 7) || (i == 9 && k == 6) || (i == 9 && k == 7) || (i == 9 && k == 8)) [(0,some 49),(1,some 50),(2,some 51),(3,some 52),(4,some 53),(5,some 54),(6,some 11),(7,some 12),(8,none),(9,none)] (by kernel_rfl) (by kernel_rfl) rfl (fun _=>rfl) ?_ ?_ ?_ ?_ ?_ ?_
 ·exact HC0
 ·intro m; cases m; exact trivial; exact trivial
 ·intro m; cases m
  ·refine ⟨?_,?_,?_,?_,?_,?_,?_,?_,?_,?_,trivial⟩ <;> first | exact .inr fun _ _ h h0=>h▸h0 | exact .inr fun _ _ _ h=>h
  ·refine ⟨?_,?_,?_,?_,?_,?_,?_,?_,?_,?_,trivial⟩ <;> first | exact .inr fun _ _ h h0=>h▸h0 | exact .inr fun _ _ _ h=>h
 ·refine ⟨⟨.inl rfl,?_,?_,?_,?_,?_,?_,?_,?_,?_,trivial⟩,⟨?_,.inl rfl,?_,?_,?_,?_,?_,?_,?_,?_,trivial⟩,⟨?_,?_,.inl rfl,?_,?_,?_,.inr (.inr (.inr (fun _ _ _ _ h h0=>h0.next h))),.inr (.inr (.inr (fun _ _ _ _ h h0=>h0.next h))),?_,?_,trivial⟩,⟨?_,?_,?_,.inl rfl,?_,?_,?_,?_,?_,?_,trivial⟩,⟨?_,?_,?_,?_,.inl rfl,?_,?_,?_,?_,?_,trivial⟩,⟨?_,?_,?_,?_,?_,.inl rfl,.inr (.inr (.inr (fun _ _ _ _ h h0=>h0.next h))),.inr (.inr (.inr (fun _ _ _ _ h h0=>h0.next h))),?_,?_,trivial⟩,⟨?_,?_,?_,?_,?_,?_,.inl rfl,.inr (.inr (.inr (fun _ _ _ _ h h0=>h0.next h))),?_,?_,trivial⟩,⟨?_,?_,?_,?_,?_,?_,.inr (.inr (.inr (fun _ _ _ _ h h0=>h0.next h))),.inl rfl,?_,?_,trivial⟩,⟨?_,?_,?_,?_,?_,?_,.inr (.inl rfl),.inr (.inl rfl),.inl rfl,?_,trivial⟩,⟨?_,?_,?_,?_,?_,?_,.inr (.inl rfl),.inr (.inl rfl),.inr (.inl rfl),.inl rfl,trivial⟩,trivial⟩ <;> first | exact .inr (.inr (.inl rfl)) | exact .inr (.inr (.inr fun _ _ _ _ _ h=>h)) | exact .inr (.inr (.inr fun _ _ _ _ h h0=>by cases h; exact h0))
 ·refine ⟨?_,?_,?_,?_,?_,?_,?_,?_,?_,?_,trivial⟩
  ·refine qaw [] (fun _=>rfl) rfl ?_;intro w1 vals hC1 hi0 hf E hE;clear hi0;clear hf;have hs:=HST9.out.next hC1.bel;simp only [sP] at hE ⊢;refine qac (hs.1.2.2.1) rfl rfl rfl hu rfl qah ?_;go_wp2_with fail;exact .mk (hE _ _ rfl (hC1.same (by decide) (by decide)) rfl)
  ·refine qaw [] (fun _=>rfl) rfl ?_;intro w1 vals hC1 hi0 hf E hE;clear hi0;clear hf;have hs:=HST9.out.next hC1.bel;simp only [sP] at hE ⊢;refine qac (hs.1.2.2.2.1) rfl rfl rfl hu rfl qah ?_;go_wp2_with fail;exact .mk (hE _ _ rfl (hC1.same (by decide) (by decide)) rfl)
  ·refine qaw [(0,some 49),(1,some 50)] (fun _=>rfl) rfl ?_;intro w1 vals hC1 hi0 hf E hE;clear hi0;have f0:vals 0=_:=hf 0 rfl;have f1:vals 1=_:=hf 1 rfl
   try dsimp only at f0 f1
   clear hf;simp only [sP,f0,f1] at hE ⊢;clear f0 f1;go_wp2_with fail;refine qab (sub_c _ _ _ (Kb.out) (Ka.out)) ?_;rintro e w2 ⟨rfl,hb2⟩;go_wp2_with fail;exact .mk (hE _ _ rfl (hC1.other (by decide) (by decide) (hC1.bel.trans (hb2.mono hC1.bel.size)) hb2.size) hb2)
  ·refine qaw [] (fun _=>rfl) rfl ?_;intro w1 vals hC1 hi0 hf E hE;clear hi0;clear hf;have hs:=HST9.out.next hC1.bel;simp only [sP] at hE ⊢;refine qac (hs.1.2.2.1) rfl rfl rfl hu rfl qah ?_;go_wp2_with fail;exact .mk (hE _ _ rfl (hC1.same (by decide) (by decide)) rfl)
  ·refine qaw [] (fun _=>rfl) rfl ?_;intro w1 vals hC1 hi0 hf E hE;clear hi0;clear hf;have hs:=HST9.out.next hC1.bel;simp only [sP] at hE ⊢;refine qac (hs.1.2.2.2.1) rfl rfl rfl hu rfl qah ?_;go_wp2_with fail;exact .mk (hE _ _ rfl (hC1.same (by decide) (by decide)) rfl)
  ·refine qaw [(3,some 52),(4,some 53),(2,some 51)] (fun _=>rfl) rfl ?_;intro w1 vals hC1 hi0 hf E hE;clear hi0;have f2:vals 2=_:=hf 2 rfl;have f3:vals 3=_:=hf 3 rfl;have f4:vals 4=_:=hf 4 rfl
   try dsimp only at f2 f3 f4
   clear hf;simp only [sP,f2,f3,f4] at hE ⊢;clear f2 f3 f4;go_wp2_with fail;refine qab (add_c _ _ _ (Kb.out) (Ka.out)) ?_;rintro e w2 ⟨rfl,hb2⟩;go_wp2_with fail;exact .mk (hE _ _ rfl (hC1.other (by decide) (by decide) (hC1.bel.trans (hb2.mono hC1.bel.size)) hb2.size) hb2)
  ·refine qaw [] (fun _=>rfl) rfl ?_;intro w1 vals hC1 hi0 hf E hE;clear hi0;clear hf;simp only [sP] at hE ⊢;go_wp2;exact .mk (hE _ _ (NewBox.of hC1.bel.size) (hC1.setI (by decide) (hC1.bel.alloc hC1.bel.size _) (by simp)) (below_new _ _))
  ·refine qaw [] (fun _=>rfl) rfl ?_;intro w1 vals hC1 hi0 hf E hE;clear hi0;clear hf;simp only [sP] at hE ⊢;go_wp2;exact .mk (hE _ _ (NewBox.of hC1.bel.size) (hC1.setJ (by decide) (hC1.bel.alloc hC1.bel.size _) (by simp)) (below_new _ _))
  ·refine qaw [(6,some 11),(2,some 51),(5,some 54),(0,some 49),(1,some 50),(2,some 51),(6,some 11),(7,some 12)] (fun _=>rfl) rfl ?_;intro w1 vals hC1 hi0 hf E hE;clear hi0;have f0:vals 0=_:=hf 0 rfl;have f1:vals 1=_:=hf 1 rfl;have f2:vals 2=_:=hf 2 rfl;have f5:vals 5=_:=hf 5 rfl;have f6:(NewBox v9.heap.size 79 (eV zE)) (vals 6) w1:=hf 6 rfl;have f7:(NewBox v9.heap.size 79 (eV zE)) (vals 7) w1:=hf 7 rfl
   try dsimp only at f0 f1 f2 f5 f6 f7
   clear hf;obtain ⟨o,hx,ho,hblk⟩:=f6;obtain ⟨o7,hx7,ho7,hblk7⟩:=f7;have hne:=hC1.apart hx hx7;have hx':=hx;have hx7':=hx7;simp only [sP,f0,f1,f2,f5,hx,hx7] at hE ⊢;clear f0 f1 f2 f5;clear hx hx7;refine qad (cells:=eV (subE (b) (a))) hblk rfl rfl rfl rfl qah rfl (by simp [eV,ptV,wV,limbs,Value.oneCell']) ?_;intro w2 hb2 hw2;go_wp2_with fail;exact .mk (hE undef _ ⟨⟨o,hx',ho,hb2⟩,⟨o7,hx7',ho7,hw2.blk hblk7 (Ne.symm hne)⟩⟩ (hC1.other (by decide) (by decide) (hw2.below hC1.bel ho hC1.bel.size) (Nat.le_of_eq hw2.size.symm)) trivial)
  ·refine qaw [(7,some 12),(5,some 54),(8,none),(0,some 49),(1,some 50),(2,some 51),(3,some 52),(4,some 53),(5,some 54),(6,some 11),(7,some 12),(8,none)] (fun _=>rfl) rfl ?_;intro w1 vals hC1 hi0 hf E hE;clear hi0;have f0:vals 0=_:=hf 0 rfl;have f1:vals 1=_:=hf 1 rfl;have f2:vals 2=_:=hf 2 rfl;have f3:vals 3=_:=hf 3 rfl;have f4:vals 4=_:=hf 4 rfl;have f5:vals 5=_:=hf 5 rfl;have f8:(fun z u=>NewBox v9.heap.size 79 (eV (subE (b) (a))) (z 6) u∧NewBox v9.heap.size 79 (eV zE) (z 7) u) vals w1:=hf 8 rfl
   try dsimp only at f0 f1 f2 f3 f4 f5 f8
   clear hf;obtain ⟨⟨o,hx,ho,hblk⟩,⟨o7,hx7,ho7,hblk7⟩⟩:=f8;have hne:=hC1.apart hx hx7;have hx':=hx;have hx7':=hx7;simp only [sP,f0,f1,f2,f3,f4,f5,hx,hx7] at hE ⊢;clear f0 f1 f2 f3 f4 f5;clear hx hx7;refine qad (cells:=eV (addE (b) (a))) hblk7 rfl rfl rfl rfl qah rfl (by simp [eV,ptV,wV,limbs,Value.oneCell']) ?_;intro w2 hb2 hw2;go_wp2_with fail;exact .mk (hE undef _ ⟨⟨o,hx',ho,hw2.blk hblk hne⟩,⟨o7,hx7',ho7,hb2⟩⟩ (hC1.other (by decide) (by decide) (hw2.below hC1.bel ho7 hC1.bel.size) (Nat.le_of_eq hw2.size.symm)) trivial)
 intro w1 vals hC1 hf;have f0:vals 0=_:=hf 0 (by decide) rfl;have f1:vals 1=_:=hf 1 (by decide) rfl;have f2:vals 2=_:=hf 2 (by decide) rfl;have f3:vals 3=_:=hf 3 (by decide) rfl;have f4:vals 4=_:=hf 4 (by decide) rfl;have f5:vals 5=_:=hf 5 (by decide) rfl;have f9:(fun z u=>NewBox v9.heap.size 79 (eV (subE (b) (a))) (z 6) u∧NewBox v9.heap.size 79 (eV (addE (b) (a))) (z 7) u) vals w1:=hf 9 (by decide) rfl
 try dsimp only at f0 f1 f2 f3 f4 f5 f9
 clear hf;simp only [sP,f0,f1,f2,f3,f4,f5];clear f0 f1 f2 f3 f4 f5;generalize vals 6=x6 at *;generalize vals 7=x7 at *;obtain ⟨⟨o4a,rfl,hlo4a,hblk4a⟩,⟨o4b,rfl,hlo4b,hblk4b⟩⟩:=f9;obtain ⟨e,he⟩:=eX (subE (b) (a));rw [← he] at hblk4a;have Ke:=zY (show e.Ok by rw [he]; exact qbR (Kb.out) (Ka.out));have Ee:=zY he;obtain ⟨h,hh⟩:=eX (addE (b) (a));rw [← hh] at hblk4b;have Kh:=zY (show h.Ok by rw [hh]; exact qbu (Kb.out) (Ka.out));have Eh:=zY hh;have HST4:=zY (show Cs (.box o4a 79 (eV e) :: .box o4b 79 (eV h) :: [.box oz 79 (eV zz),.box o3 79 (eV c),.box o2 79 (eV b),.box o1 79 (eV a),.box gp 81 (ptV p),.box gq 81 (ptV q),.box gw 79 (eV tw),.box r 81 (ptV zP)]) w w1 from ⟨⟨hblk4a,hblk4b,(HST9.out.next hC1.bel).1⟩,(HST9.out.next hC1.bel).2⟩);clear hC1 HC0 HST9 hblk4a hblk4b hlo4a hlo4b he hh;obtain ⟨v4,rfl⟩:=eX w1;go_wp2_with fail;have HC0:C2 v4 10 11 (fun _=>undef) v4.drew:=C2.init (Below.refl _ _).drew
 refine qcp (C2 v4 10 11) (fun | false=>(fun _=>True) | true=>(fun _=>True)) (fun | false,_=>false | true,_=>false)
  [fun z _=>z 0=.agg (eV (zz)),
   fun z _=>z 1=.agg (eV (zz)),
   fun z _=>z 2=.agg (eV (addE (zz) (zz))),
   fun z _=>z 3=.agg (eV (c)),
   fun z _=>z 4=.agg (eV (subE (addE (zz) (zz)) (c))),
   fun z _=>z 5=.agg (eV (zz)),
   fun z _=>z 6=.agg (eV (zz)),
   fun z _=>z 7=.agg (eV (addE (zz) (zz))),
   fun z _=>z 8=.agg (eV (c)),
   fun z _=>z 9=.agg (eV (addE (addE (zz) (zz)) (c))),
   fun z u=>(NewBox v4.heap.size 79 (eV zE)) (z 10) u,
   fun z u=>(NewBox v4.heap.size 79 (eV zE)) (z 11) u,
   fun z u=>NewBox v4.heap.size 79 (eV (subE (addE (zz) (zz)) (c))) (z 10) u∧NewBox v4.heap.size 79 (eV zE) (z 11) u,
   fun z u=>NewBox v4.heap.size 79 (eV (subE (addE (zz) (zz)) (c))) (z 10) u∧NewBox v4.heap.size 79 (eV (addE (addE (zz) (zz)) (c))) (z 11) u]
  [Eq,Eq,fun u u'=>Below u.heap.size u u',Eq,fun u u'=>Below u.heap.size u u',Eq,Eq,fun u u'=>Below u.heap.size u u',Eq,fun u u'=>Below u.heap.size u u',fun u u'=>Below u.heap.size u u',fun u u'=>Below u.heap.size u u',fun _ _=>True,fun _ _=>True]
  (fun i k=>(i == 12 && k == 10) || (i == 12 && k == 11) || (i == 13 && k == 10) || (i == 13 && k == 11) || (i == 13 && k == 12)) [(0,some 55),(1,some 56),(2,some 57),(3,some 58),(4,some 59),(5,some 60),(6,some 61),(7,some 62),(8,some 63),(9,some 64),(10,some 13),(11,some 14),(12,none),(13,none)] (by kernel_rfl) (by kernel_rfl) rfl (fun _=>rfl) ?_ ?_ ?_ ?_ ?_ ?_
 ·exact HC0
 ·intro m; cases m; exact trivial; exact trivial
 ·intro m; cases m
  ·refine ⟨?_,?_,?_,?_,?_,?_,?_,?_,?_,?_,?_,?_,?_,?_,trivial⟩ <;> first | exact .inr fun _ _ h h0=>h▸h0 | exact .inr fun _ _ _ h=>h
  ·refine ⟨?_,?_,?_,?_,?_,?_,?_,?_,?_,?_,?_,?_,?_,?_,trivial⟩ <;> first | exact .inr fun _ _ h h0=>h▸h0 | exact .inr fun _ _ _ h=>h
 ·refine ⟨⟨.inl rfl,?_,?_,?_,?_,?_,?_,?_,?_,?_,?_,?_,?_,?_,trivial⟩,⟨?_,.inl rfl,?_,?_,?_,?_,?_,?_,?_,?_,?_,?_,?_,?_,trivial⟩,⟨?_,?_,.inl rfl,?_,?_,?_,?_,?_,?_,?_,.inr (.inr (.inr (fun _ _ _ _ h h0=>h0.next h))),.inr (.inr (.inr (fun _ _ _ _ h h0=>h0.next h))),?_,?_,trivial⟩,⟨?_,?_,?_,.inl rfl,?_,?_,?_,?_,?_,?_,?_,?_,?_,?_,trivial⟩,⟨?_,?_,?_,?_,.inl rfl,?_,?_,?_,?_,?_,.inr (.inr (.inr (fun _ _ _ _ h h0=>h0.next h))),.inr (.inr (.inr (fun _ _ _ _ h h0=>h0.next h))),?_,?_,trivial⟩,⟨?_,?_,?_,?_,?_,.inl rfl,?_,?_,?_,?_,?_,?_,?_,?_,trivial⟩,⟨?_,?_,?_,?_,?_,?_,.inl rfl,?_,?_,?_,?_,?_,?_,?_,trivial⟩,⟨?_,?_,?_,?_,?_,?_,?_,.inl rfl,?_,?_,.inr (.inr (.inr (fun _ _ _ _ h h0=>h0.next h))),.inr (.inr (.inr (fun _ _ _ _ h h0=>h0.next h))),?_,?_,trivial⟩,⟨?_,?_,?_,?_,?_,?_,?_,?_,.inl rfl,?_,?_,?_,?_,?_,trivial⟩,⟨?_,?_,?_,?_,?_,?_,?_,?_,?_,.inl rfl,.inr (.inr (.inr (fun _ _ _ _ h h0=>h0.next h))),.inr (.inr (.inr (fun _ _ _ _ h h0=>h0.next h))),?_,?_,trivial⟩,⟨?_,?_,?_,?_,?_,?_,?_,?_,?_,?_,.inl rfl,.inr (.inr (.inr (fun _ _ _ _ h h0=>h0.next h))),?_,?_,trivial⟩,⟨?_,?_,?_,?_,?_,?_,?_,?_,?_,?_,.inr (.inr (.inr (fun _ _ _ _ h h0=>h0.next h))),.inl rfl,?_,?_,trivial⟩,⟨?_,?_,?_,?_,?_,?_,?_,?_,?_,?_,.inr (.inl rfl),.inr (.inl rfl),.inl rfl,?_,trivial⟩,⟨?_,?_,?_,?_,?_,?_,?_,?_,?_,?_,.inr (.inl rfl),.inr (.inl rfl),.inr (.inl rfl),.inl rfl,trivial⟩,trivial⟩ <;> first | exact .inr (.inr (.inl rfl)) | exact .inr (.inr (.inr fun _ _ _ _ _ h=>h)) | exact .inr (.inr (.inr fun _ _ _ _ h h0=>by cases h; exact h0))
 ·refine ⟨?_,?_,?_,?_,?_,?_,?_,?_,?_,?_,?_,?_,?_,?_,trivial⟩
  ·refine qaw [] (fun _=>rfl) rfl ?_;intro w1 vals hC1 hi0 hf E hE;clear hi0;clear hf;have hs:=HST4.out.next hC1.bel;simp only [sP] at hE ⊢;refine qac (hs.1.2.2.1) rfl rfl rfl hu rfl qah ?_;go_wp2_with fail;exact .mk (hE _ _ rfl (hC1.same (by decide) (by decide)) rfl)
  ·refine qaw [] (fun _=>rfl) rfl ?_;intro w1 vals hC1 hi0 hf E hE;clear hi0;clear hf;have hs:=HST4.out.next hC1.bel;simp only [sP] at hE ⊢;refine qac (hs.1.2.2.1) rfl rfl rfl hu rfl qah ?_;go_wp2_with fail;exact .mk (hE _ _ rfl (hC1.same (by decide) (by decide)) rfl)
  ·refine qaw [(0,some 55),(1,some 56)] (fun _=>rfl) rfl ?_;intro w1 vals hC1 hi0 hf E hE;clear hi0;have f0:vals 0=_:=hf 0 rfl;have f1:vals 1=_:=hf 1 rfl
   try dsimp only at f0 f1
   clear hf;simp only [sP,f0,f1] at hE ⊢;clear f0 f1;go_wp2_with fail;refine qab (add_c _ _ _ (Kz.out) (Kz.out)) ?_;rintro e w2 ⟨rfl,hb2⟩;go_wp2_with fail;exact .mk (hE _ _ rfl (hC1.other (by decide) (by decide) (hC1.bel.trans (hb2.mono hC1.bel.size)) hb2.size) hb2)
  ·refine qaw [] (fun _=>rfl) rfl ?_;intro w1 vals hC1 hi0 hf E hE;clear hi0;clear hf;have hs:=HST4.out.next hC1.bel;simp only [sP] at hE ⊢;refine qac (hs.1.2.2.2.1) rfl rfl rfl hu rfl qah ?_;go_wp2_with fail;exact .mk (hE _ _ rfl (hC1.same (by decide) (by decide)) rfl)
  ·refine qaw [(2,some 57),(3,some 58),(2,some 57)] (fun _=>rfl) rfl ?_;intro w1 vals hC1 hi0 hf E hE;clear hi0;have f2:vals 2=_:=hf 2 rfl;have f3:vals 3=_:=hf 3 rfl
   try dsimp only at f2 f3
   clear hf;simp only [sP,f2,f3] at hE ⊢;clear f2 f3;go_wp2_with fail;refine qab (sub_c _ _ _ (qbu (Kz.out) (Kz.out)) (Kc.out)) ?_;rintro e w2 ⟨rfl,hb2⟩;go_wp2_with fail;exact .mk (hE _ _ rfl (hC1.other (by decide) (by decide) (hC1.bel.trans (hb2.mono hC1.bel.size)) hb2.size) hb2)
  ·refine qaw [] (fun _=>rfl) rfl ?_;intro w1 vals hC1 hi0 hf E hE;clear hi0;clear hf;have hs:=HST4.out.next hC1.bel;simp only [sP] at hE ⊢;refine qac (hs.1.2.2.1) rfl rfl rfl hu rfl qah ?_;go_wp2_with fail;exact .mk (hE _ _ rfl (hC1.same (by decide) (by decide)) rfl)
  ·refine qaw [] (fun _=>rfl) rfl ?_;intro w1 vals hC1 hi0 hf E hE;clear hi0;clear hf;have hs:=HST4.out.next hC1.bel;simp only [sP] at hE ⊢;refine qac (hs.1.2.2.1) rfl rfl rfl hu rfl qah ?_;go_wp2_with fail;exact .mk (hE _ _ rfl (hC1.same (by decide) (by decide)) rfl)
  ·refine qaw [(5,some 60),(6,some 61),(4,some 59)] (fun _=>rfl) rfl ?_;intro w1 vals hC1 hi0 hf E hE;clear hi0;have f4:vals 4=_:=hf 4 rfl;have f5:vals 5=_:=hf 5 rfl;have f6:vals 6=_:=hf 6 rfl
   try dsimp only at f4 f5 f6
   clear hf;simp only [sP,f4,f5,f6] at hE ⊢;clear f4 f5 f6;go_wp2_with fail;refine qab (add_c _ _ _ (Kz.out) (Kz.out)) ?_;rintro e w2 ⟨rfl,hb2⟩;go_wp2_with fail;exact .mk (hE _ _ rfl (hC1.other (by decide) (by decide) (hC1.bel.trans (hb2.mono hC1.bel.size)) hb2.size) hb2)
  ·refine qaw [] (fun _=>rfl) rfl ?_;intro w1 vals hC1 hi0 hf E hE;clear hi0;clear hf;have hs:=HST4.out.next hC1.bel;simp only [sP] at hE ⊢;refine qac (hs.1.2.2.2.1) rfl rfl rfl hu rfl qah ?_;go_wp2_with fail;exact .mk (hE _ _ rfl (hC1.same (by decide) (by decide)) rfl)
  ·refine qaw [(7,some 62),(8,some 63),(7,some 62)] (fun _=>rfl) rfl ?_;intro w1 vals hC1 hi0 hf E hE;clear hi0;have f7:vals 7=_:=hf 7 rfl;have f8:vals 8=_:=hf 8 rfl
   try dsimp only at f7 f8
   clear hf;simp only [sP,f7,f8] at hE ⊢;clear f7 f8;go_wp2_with fail;refine qab (add_c _ _ _ (qbu (Kz.out) (Kz.out)) (Kc.out)) ?_;rintro e w2 ⟨rfl,hb2⟩;go_wp2_with fail;exact .mk (hE _ _ rfl (hC1.other (by decide) (by decide) (hC1.bel.trans (hb2.mono hC1.bel.size)) hb2.size) hb2)
  ·refine qaw [] (fun _=>rfl) rfl ?_;intro w1 vals hC1 hi0 hf E hE;clear hi0;clear hf;simp only [sP] at hE ⊢;go_wp2;exact .mk (hE _ _ (NewBox.of hC1.bel.size) (hC1.setI (by decide) (hC1.bel.alloc hC1.bel.size _) (by simp)) (below_new _ _))
  ·refine qaw [] (fun _=>rfl) rfl ?_;intro w1 vals hC1 hi0 hf E hE;clear hi0;clear hf;simp only [sP] at hE ⊢;go_wp2;exact .mk (hE _ _ (NewBox.of hC1.bel.size) (hC1.setJ (by decide) (hC1.bel.alloc hC1.bel.size _) (by simp)) (below_new _ _))
  ·refine qaw [(10,some 13),(4,some 59),(9,some 64),(0,some 55),(1,some 56),(2,some 57),(3,some 58),(4,some 59),(10,some 13),(11,some 14)] (fun _=>rfl) rfl ?_;intro w1 vals hC1 hi0 hf E hE;clear hi0;have f0:vals 0=_:=hf 0 rfl;have f1:vals 1=_:=hf 1 rfl;have f2:vals 2=_:=hf 2 rfl;have f3:vals 3=_:=hf 3 rfl;have f4:vals 4=_:=hf 4 rfl;have f9:vals 9=_:=hf 9 rfl;have f10:(NewBox v4.heap.size 79 (eV zE)) (vals 10) w1:=hf 10 rfl;have f11:(NewBox v4.heap.size 79 (eV zE)) (vals 11) w1:=hf 11 rfl
   try dsimp only at f0 f1 f2 f3 f4 f9 f10 f11
   clear hf;obtain ⟨o,hx,ho,hblk⟩:=f10;obtain ⟨o7,hx7,ho7,hblk7⟩:=f11;have hne:=hC1.apart hx hx7;have hx':=hx;have hx7':=hx7;simp only [sP,f0,f1,f2,f3,f4,f9,hx,hx7] at hE ⊢;clear f0 f1 f2 f3 f4 f9;clear hx hx7;refine qad (cells:=eV (subE (addE (zz) (zz)) (c))) hblk rfl rfl rfl rfl qah rfl (by simp [eV,ptV,wV,limbs,Value.oneCell']) ?_;intro w2 hb2 hw2;go_wp2_with fail;exact .mk (hE undef _ ⟨⟨o,hx',ho,hb2⟩,⟨o7,hx7',ho7,hw2.blk hblk7 (Ne.symm hne)⟩⟩ (hC1.other (by decide) (by decide) (hw2.below hC1.bel ho hC1.bel.size) (Nat.le_of_eq hw2.size.symm)) trivial)
  ·refine qaw [(11,some 14),(9,some 64),(12,none),(0,some 55),(1,some 56),(2,some 57),(3,some 58),(4,some 59),(5,some 60),(6,some 61),(7,some 62),(8,some 63),(9,some 64),(10,some 13),(11,some 14),(12,none)] (fun _=>rfl) rfl ?_;intro w1 vals hC1 hi0 hf E hE;clear hi0;have f0:vals 0=_:=hf 0 rfl;have f1:vals 1=_:=hf 1 rfl;have f2:vals 2=_:=hf 2 rfl;have f3:vals 3=_:=hf 3 rfl;have f4:vals 4=_:=hf 4 rfl;have f5:vals 5=_:=hf 5 rfl;have f6:vals 6=_:=hf 6 rfl;have f7:vals 7=_:=hf 7 rfl;have f8:vals 8=_:=hf 8 rfl;have f9:vals 9=_:=hf 9 rfl;have f12:(fun z u=>NewBox v4.heap.size 79 (eV (subE (addE (zz) (zz)) (c))) (z 10) u∧NewBox v4.heap.size 79 (eV zE) (z 11) u) vals w1:=hf 12 rfl
   try dsimp only at f0 f1 f2 f3 f4 f5 f6 f7 f8 f9 f12
   clear hf;obtain ⟨⟨o,hx,ho,hblk⟩,⟨o7,hx7,ho7,hblk7⟩⟩:=f12;have hne:=hC1.apart hx hx7;have hx':=hx;have hx7':=hx7;simp only [sP,f0,f1,f2,f3,f4,f5,f6,f7,f8,f9,hx,hx7] at hE ⊢;clear f0 f1 f2 f3 f4 f5 f6 f7 f8 f9;clear hx hx7;refine qad (cells:=eV (addE (addE (zz) (zz)) (c))) hblk7 rfl rfl rfl rfl qah rfl (by simp [eV,ptV,wV,limbs,Value.oneCell']) ?_;intro w2 hb2 hw2;go_wp2_with fail;exact .mk (hE undef _ ⟨⟨o,hx',ho,hw2.blk hblk hne⟩,⟨o7,hx7',ho7,hb2⟩⟩ (hC1.other (by decide) (by decide) (hw2.below hC1.bel ho7 hC1.bel.size) (Nat.le_of_eq hw2.size.symm)) trivial)
 intro w1 vals hC1 hf;have f0:vals 0=_:=hf 0 (by decide) rfl;have f1:vals 1=_:=hf 1 (by decide) rfl;have f2:vals 2=_:=hf 2 (by decide) rfl;have f3:vals 3=_:=hf 3 (by decide) rfl;have f4:vals 4=_:=hf 4 (by decide) rfl;have f5:vals 5=_:=hf 5 (by decide) rfl;have f6:vals 6=_:=hf 6 (by decide) rfl;have f7:vals 7=_:=hf 7 (by decide) rfl;have f8:vals 8=_:=hf 8 (by decide) rfl;have f9:vals 9=_:=hf 9 (by decide) rfl;have f13:(fun z u=>NewBox v4.heap.size 79 (eV (subE (addE (zz) (zz)) (c))) (z 10) u∧NewBox v4.heap.size 79 (eV (addE (addE (zz) (zz)) (c))) (z 11) u) vals w1:=hf 13 (by decide) rfl
 try dsimp only at f0 f1 f2 f3 f4 f5 f6 f7 f8 f9 f13
 clear hf;simp only [sP,f0,f1,f2,f3,f4,f5,f6,f7,f8,f9];clear f0 f1 f2 f3 f4 f5 f6 f7 f8 f9;generalize vals 10=x10 at *;generalize vals 11=x11 at *;obtain ⟨⟨o5a,rfl,hlo5a,hblk5a⟩,⟨o5b,rfl,hlo5b,hblk5b⟩⟩:=f13;obtain ⟨f,hf⟩:=eX (subE (addE (zz) (zz)) (c));rw [← hf] at hblk5a;have Kf:=zY (show f.Ok by rw [hf]; exact qbR (qbu (Kz.out) (Kz.out)) (Kc.out));have Ef:=zY hf;obtain ⟨g,hg⟩:=eX (addE (addE (zz) (zz)) (c));rw [← hg] at hblk5b;have Kg:=zY (show g.Ok by rw [hg]; exact qbu (qbu (Kz.out) (Kz.out)) (Kc.out));have Eg:=zY hg;have HST5:=zY (show Cs (.box o5a 79 (eV f) :: .box o5b 79 (eV g) :: [.box o4a 79 (eV e),.box o4b 79 (eV h),.box oz 79 (eV zz),.box o3 79 (eV c),.box o2 79 (eV b),.box o1 79 (eV a),.box gp 81 (ptV p),.box gq 81 (ptV q),.box gw 79 (eV tw),.box r 81 (ptV zP)]) w w1 from ⟨⟨hblk5a,hblk5b,(HST4.out.next hC1.bel).1⟩,(HST4.out.next hC1.bel).2⟩);clear hC1 HC0 HST4 hblk5a hblk5b hlo5a hlo5b hf hg;obtain ⟨v5,rfl⟩:=eX w1;go_wp2_with fail;have HC0:=HST5.out.drew;clear HST5;refine qal (fun u=>Cs [.box o5a 79 (eV f),.box o5b 79 (eV g),.box o4a 79 (eV e),.box o4b 79 (eV h),.box oz 79 (eV zz),.box o3 79 (eV c),.box o2 79 (eV b),.box o1 79 (eV a),.box gp 81 (ptV p),.box gq 81 (ptV q),.box gw 79 (eV tw),.box r 81 (ptV zP)] w u) (fun u=>Blk u r 81 (ptV (⟨mulE (e) (f),mulE (g) (h),mulE (f) (g),mulE (e) (h)⟩))∧Below w.heap.size w u) [(0,some 65),(1,some 66),(2,some 67),(3,some 68),(4,some 69),(5,some 70),(6,some 71),(7,some 72),(8,some 73),(9,some 74),(10,some 75),(11,some 76),(12,some 77),(13,none)] (by kernel_rfl) (by kernel_rfl) (by decide) (by kernel_rfl) (fun _=>rfl) HC0 ?_;apply yN_
 ·apply dP [];exact fun _=>rfl;rfl;rintro vals - w1 hC1 E hE;have hs:=hC1;simp only [sP] at hE ⊢;refine qac (hs.1.2.2.1) rfl rfl rfl hu rfl qah ?_;go_wp2_with fail;exact .mk (hE _ hC1)
 apply yN_
 ·apply dP [];exact fun _=>rfl;rfl;rintro vals ⟨-,-⟩ w1 hC1 E hE;have hs:=hC1;simp only [sP] at hE ⊢;refine qac (hs.1.1) rfl rfl rfl hu rfl qah ?_;go_wp2_with fail;exact .mk (hE _ hC1)
 apply yN_
 ·apply dP [(0,some 65),(1,some 66)];exact fun _=>rfl;rfl;intro vals vq w1 hC1 E hE;simp only [sP,vq] at hE ⊢;clear vq;go_wp2_with fail;refine qab (mul_c _ _ _ (Ke.out) (Kf.out)) ?_;rintro e w2 ⟨rfl,hb2⟩;go_wp2_with fail;exact .mk (hE _ (hC1.next hb2))
 apply yN_
 ·apply dP [];exact fun _=>rfl;rfl;intro vals vq w1 hC1 E hE;clear vq;have hs:=hC1;simp only [sP] at hE ⊢;refine qac (hs.1.2.1) rfl rfl rfl hu rfl qah ?_;go_wp2_with fail;exact .mk (hE _ hC1)
 apply yN_
 ·apply dP [];exact fun _=>rfl;rfl;intro vals vq w1 hC1 E hE;clear vq;have hs:=hC1;simp only [sP] at hE ⊢;refine qac (hs.1.2.2.2.1) rfl rfl rfl hu rfl qah ?_;go_wp2_with fail;exact .mk (hE _ hC1)
 apply yN_
 ·apply dP [(3,some 68),(4,some 69),(2,some 67)];exact fun _=>rfl;rfl;intro vals vq w1 hC1 E hE;simp only [sP,vq] at hE ⊢;clear vq;go_wp2_with fail;refine qab (mul_c _ _ _ (Kg.out) (Kh.out)) ?_;rintro e w2 ⟨rfl,hb2⟩;go_wp2_with fail;exact .mk (hE _ (hC1.next hb2))
 apply yN_
 ·apply dP [];exact fun _=>rfl;rfl;intro vals vq w1 hC1 E hE;clear vq;have hs:=hC1;simp only [sP] at hE ⊢;refine qac (hs.1.1) rfl rfl rfl hu rfl qah ?_;go_wp2_with fail;exact .mk (hE _ hC1)
 apply yN_
 ·apply dP [];exact fun _=>rfl;rfl;intro vals vq w1 hC1 E hE;clear vq;have hs:=hC1;simp only [sP] at hE ⊢;refine qac (hs.1.2.1) rfl rfl rfl hu rfl qah ?_;go_wp2_with fail;exact .mk (hE _ hC1)
 apply yN_
 ·apply dP [(6,some 71),(7,some 72),(5,some 70)];exact fun _=>rfl;rfl;intro vals vq w1 hC1 E hE;simp only [sP,vq] at hE ⊢;clear vq;go_wp2_with fail;refine qab (mul_c _ _ _ (Kf.out) (Kg.out)) ?_;rintro e w2 ⟨rfl,hb2⟩;go_wp2_with fail;exact .mk (hE _ (hC1.next hb2))
 apply yN_
 ·apply dP [];exact fun _=>rfl;rfl;intro vals vq w1 hC1 E hE;clear vq;have hs:=hC1;simp only [sP] at hE ⊢;refine qac (hs.1.2.2.1) rfl rfl rfl hu rfl qah ?_;go_wp2_with fail;exact .mk (hE _ hC1)
 apply yN_
 ·apply dP [];exact fun _=>rfl;rfl;intro vals vq w1 hC1 E hE;clear vq;have hs:=hC1;simp only [sP] at hE ⊢;refine qac (hs.1.2.2.2.1) rfl rfl rfl hu rfl qah ?_;go_wp2_with fail;exact .mk (hE _ hC1)
 apply yN_
 ·apply dP [(9,some 74),(10,some 75),(8,some 73)];exact fun _=>rfl;rfl;intro vals vq w1 hC1 E hE;simp only [sP,vq] at hE ⊢;clear vq;go_wp2_with fail;refine qab (mul_c _ _ _ (Ke.out) (Kh.out)) ?_;rintro e w2 ⟨rfl,hb2⟩;go_wp2_with fail;exact .mk (hE _ (hC1.next hb2))
 apply yN_
 ·apply dP [(2,some 67),(5,some 70),(8,some 73),(11,some 76)];exact fun _=>rfl;rfl;intro vals vq w1 hC1 E hE;simp only [sP,vq] at hE ⊢;clear vq;refine qcs (mulE (e) (f)) (mulE (g) (h)) (mulE (f) (g)) (mulE (e) (h)) rfl rfl rfl rfl rfl rfl ?_;go_wp2_with fail;exact .mk (hE _ hC1)
 apply yL_ (v:=undef)
 ·apply dP [(12,some 77),(11,some 76),(0,some 65),(1,some 66),(2,some 67),(3,some 68),(4,some 69),(5,some 70),(6,some 71),(7,some 72),(8,some 73),(9,some 74),(10,some 75),(11,some 76),(12,some 77)];exact fun _=>rfl;rfl;intro vals vq w1 hC1 E hE;have hlr:=HLR.out;simp only [sP,vq] at hE ⊢;clear vq;refine qad (cells:=ptV (⟨mulE (e) (f),mulE (g) (h),mulE (f) (g),mulE (e) (h)⟩)) (hC1.1.2.2.2.2.2.2.2.2.2.2.2.1) rfl rfl rfl rfl qaH rfl (by simp [eV,ptV,wV,limbs,Value.oneCell']) ?_;intro w6 hb6 hw6;go_wp2_with fail;exact .mk (hE _ ⟨hb6,hw6.below hC1.2 hlr hC1.2.size⟩)
 intro vals vq w1 hC1;simp only [sP,vq];clear vq;clear HC0;go_wp2_with fail;refine bodyPost_ret (qau (P:=Tryz.prog) rfl rfl hC1.1 hp rfl qaH) rfl ⟨?_,hC1.2⟩;rw [Ef.out,Eg.out,Ee.out,Eh.out,Ez.out,Ea.out,Eb.out,Ec.out];rfl
theorem Wrote.refl (g:Nat) (w:World):Wrote g w w:=⟨World.grownBy.refl w _,rfl⟩
theorem Wrote.trans {g:Nat} {a b c:World} (h:Wrote g a b) (k:Wrote g b c):Wrote g a c:=⟨h.grown.trans k.grown,k.size.trans h.size⟩
theorem Wrote.drew {g:Nat} {a b:World} (h:Wrote g a b):Wrote g a b.drew:=⟨grown_drew h.grown,h.size⟩
def revS (l:List Nat):Nat→List Nat
 | 0=>l
 | k+1=>((revS l k).set k ((revS l k).getD (31 - k) 0)).set (31 - k) ((revS l k).getD k 0)
theorem qcW (l:List Nat):∀ k,(revS l k).length=l.length
 | 0=>rfl
 | k+1=>by rw [revS,List.length_set,List.length_set,qcW l k]
theorem revS_dg {l:List Nat} (h:Dg l):∀ k,Dg (revS l k)
 | 0=>h
 | k+1=>qex (qex (revS_dg h k) _ _ (qa3 (revS_dg h k) _)) _ _ (qa3 (revS_dg h k) _)
theorem qdx (l:List Nat):(bnV l).toArray.size=l.length:=by simp [bnV]
theorem qdY:(Tryz.prog.info? 5).map (·.size)=some 1:=by kernel_rfl
theorem bnV_get {l:List Nat} {k:Nat} (h:k<l.length):(bnV l).toArray[k]?=some (.int .u8 ((l.getD k 0:Nat):Int)):=by
 simp [bnV,List.getElem?_eq_getElem h,List.getD_eq_getElem?_getD]
theorem reverse_any (l:List Nat) (hl:l.length=32) (g:Nat) (t:TypeId) (c:Nat) (w:World) (hb:Blk w g t (bnV l).toArray) :
  Calls Tryz.prog 64 #[.slice (some ⟨g,0,none⟩) 32 c] w (fun e w'=>(∃ v,e=.returned v)∧Blk w' g t (bnV (revS l 16)).toArray∧Wrote g w w'):=by
 have hs0:Blk w g t (bnV (revS l 0)).toArray∧Wrote g w w:=⟨hb,Wrote.refl g w⟩;have HS0:=zY hs0;have HL:=zY hl;clear hs0 hb hl;go_enter Tryz.func64,Tryz.ntmps64;go_wp2_with fail
 go_loopw [2,3] (fun i j wr=>∃ k:Nat,k≤16∧i=.int .i64 k∧j=.int .i64 (31 - (k:Int))∧Blk wr g t (bnV (revS l k)).toArray∧Wrote g w wr) (fun i _ _=>16 - (intOf i).toNat)
 case atStart=>exact ⟨0,by omega,rfl,rfl,HS0.out.1,HS0.out.2⟩
 case round =>
  clear HS0;obtain ⟨k,hk,rfl,rfl,hblk,hwr⟩:=hrel
  by_cases hlt:k<16
  ·obtain ⟨m,hm⟩:=eX (31 - k);have hmi:(31:Int) - (k:Int)=(m:Int):=by omega
   have hkm:(k:Int)<(m:Int):=by omega
   have hm32:(m:Int)<32:=by omega
   rw [hmi];obtain ⟨R,hR⟩:=eX (revS l k);obtain ⟨a,ha⟩:=eX (R.getD k 0);obtain ⟨b,hbb⟩:=eX (R.getD m 0);have hRl:R.length=32:=by rw [hR,qcW]; exact HL.out
   have hnext:revS l (k+1)=(R.set k b).set m a:=by rw [revS,← hR,← hm,← ha,← hbb]
   rw [← hR] at hblk;have HKA:=zY (show (bnV R).toArray[k]?=some (.int .u8 (a:Int)) by rw [ha]; exact bnV_get (by omega));have HKB:=zY (show (bnV R).toArray[m]?=some (.int .u8 (b:Int)) by rw [hbb]; exact bnV_get (by omega));have HNEXT:=zY hnext;have HRL:=zY hRl;have HK:=zY hlt;have HM:=zY hm;have HWR:=zY hwr;have HI0:Blk wr.drew g t (bnV R).toArray:=hblk;have HC0:Wrote g wr wr.drew:=(Wrote.refl g wr).drew;clear hnext hRl ha hbb hR hwr hblk hm hlt hmi;go_wp2_with fail
   refine qaD (fun u=>Wrote g wr u) (fun | false=>(fun u=>Blk u g t (bnV R).toArray) | true=>(fun _=>True)) (fun | false,i=>i == 13 || i == 15 | true,_=>false)
    [fun z _=>z 0=.slice (some ⟨g,0,none⟩) 32 c,
     fun z _=>z 1=.int .i64 (k:Int),
     fun z _=>z 2=.slice (some ⟨g,0,none⟩) 32 c,
     fun z _=>z 3=.int .i64 (m:Int),
     fun z _=>z 4=.slice (some ⟨g,0,none⟩) 32 c,
     fun z _=>z 5=.int .i64 (m:Int),
     fun z _=>z 6=.pointer (some ⟨g,m,none⟩),
     fun z _=>z 7=.int .u8 (b:Int),
     fun z _=>z 8=.slice (some ⟨g,0,none⟩) 32 c,
     fun z _=>z 9=.int .i64 (k:Int),
     fun z _=>z 10=.pointer (some ⟨g,k,none⟩),
     fun z _=>z 11=.int .u8 (a:Int),
     fun z _=>z 12=.pointer (some ⟨g,k,none⟩),
     fun z u=>Blk u g t (bnV (R.set k b)).toArray,
     fun z _=>z 14=.pointer (some ⟨g,m,none⟩),
     fun z u=>Blk u g t (bnV ((R.set k b).set m a)).toArray]
    [Eq,Eq,Eq,Eq,Eq,Eq,Eq,Eq,Eq,Eq,Eq,Eq,Eq,fun _ _=>True,Eq,fun _ _=>True]
    (fun i k=>(i == 15 && k == 13)) [(0,some 14),(1,some 15),(2,some 16),(3,some 17),(4,some 18),(5,some 19),(6,some 20),(7,some 21),(8,some 22),(9,some 23),(10,some 24),(11,some 25),(12,some 26),(13,none),(14,some 27),(15,none)] (by kernel_rfl) (by kernel_rfl) rfl (fun _=>rfl) ?_ ?_ ?_ ?_ ?_ ?_
   ·exact HC0
   ·intro m; cases m; exact HI0; exact trivial
   ·intro m; cases m
    ·refine ⟨?_,?_,?_,?_,?_,?_,?_,?_,?_,?_,?_,?_,?_,.inl rfl,?_,.inl rfl,trivial⟩ <;> exact .inr fun _ _ h h0=>h▸h0
    ·refine ⟨?_,?_,?_,?_,?_,?_,?_,?_,?_,?_,?_,?_,?_,?_,?_,?_,trivial⟩ <;> first | exact .inr fun _ _ h h0=>h▸h0 | exact .inr fun _ _ _ h=>h
   ·refine ⟨⟨.inl rfl,?_,?_,?_,?_,?_,?_,?_,?_,?_,?_,?_,?_,?_,?_,?_,trivial⟩,⟨?_,.inl rfl,?_,?_,?_,?_,?_,?_,?_,?_,?_,?_,?_,?_,?_,?_,trivial⟩,⟨?_,?_,.inl rfl,?_,?_,?_,?_,?_,?_,?_,?_,?_,?_,?_,?_,?_,trivial⟩,⟨?_,?_,?_,.inl rfl,?_,?_,?_,?_,?_,?_,?_,?_,?_,?_,?_,?_,trivial⟩,⟨?_,?_,?_,?_,.inl rfl,?_,?_,?_,?_,?_,?_,?_,?_,?_,?_,?_,trivial⟩,⟨?_,?_,?_,?_,?_,.inl rfl,?_,?_,?_,?_,?_,?_,?_,?_,?_,?_,trivial⟩,⟨?_,?_,?_,?_,?_,?_,.inl rfl,?_,?_,?_,?_,?_,?_,?_,?_,?_,trivial⟩,⟨?_,?_,?_,?_,?_,?_,?_,.inl rfl,?_,?_,?_,?_,?_,?_,?_,?_,trivial⟩,⟨?_,?_,?_,?_,?_,?_,?_,?_,.inl rfl,?_,?_,?_,?_,?_,?_,?_,trivial⟩,⟨?_,?_,?_,?_,?_,?_,?_,?_,?_,.inl rfl,?_,?_,?_,?_,?_,?_,trivial⟩,⟨?_,?_,?_,?_,?_,?_,?_,?_,?_,?_,.inl rfl,?_,?_,?_,?_,?_,trivial⟩,⟨?_,?_,?_,?_,?_,?_,?_,?_,?_,?_,?_,.inl rfl,?_,?_,?_,?_,trivial⟩,⟨?_,?_,?_,?_,?_,?_,?_,?_,?_,?_,?_,?_,.inl rfl,?_,?_,?_,trivial⟩,⟨?_,?_,?_,?_,?_,?_,?_,?_,?_,?_,?_,?_,?_,.inl rfl,?_,?_,trivial⟩,⟨?_,?_,?_,?_,?_,?_,?_,?_,?_,?_,?_,?_,?_,?_,.inl rfl,?_,trivial⟩,⟨?_,?_,?_,?_,?_,?_,?_,?_,?_,?_,?_,?_,?_,.inr (.inl rfl),?_,.inl rfl,trivial⟩,trivial⟩ <;> first | exact .inr (.inr (.inl rfl)) | exact .inr (.inr (.inr fun _ _ _ _ _ h=>h)) | exact .inr (.inr (.inr fun _ _ _ _ h h0=>by cases h; exact h0))
   ·refine ⟨?_,?_,?_,?_,?_,?_,?_,?_,?_,?_,?_,?_,?_,?_,?_,?_,trivial⟩
    ·refine qaf [] (fun _=>rfl) rfl ?_;intro w1 vals hC1 hi0 hf E hE;have hI1:(fun u=>Blk u g t (bnV R).toArray) w1:=hi0 false rfl
     try dsimp only at hI1
     clear hi0;clear hf;simp only [sP] at hE ⊢;go_wp2;exact .mk (hE _ _ rfl hC1 rfl)
    ·refine qaf [] (fun _=>rfl) rfl ?_;intro w1 vals hC1 hi0 hf E hE;have hI1:(fun u=>Blk u g t (bnV R).toArray) w1:=hi0 false rfl
     try dsimp only at hI1
     clear hi0;clear hf;simp only [sP] at hE ⊢;go_wp2;exact .mk (hE _ _ rfl hC1 rfl)
    ·refine qaf [] (fun _=>rfl) rfl ?_;intro w1 vals hC1 hi0 hf E hE;clear hi0;clear hf;simp only [sP] at hE ⊢;go_wp2;exact .mk (hE _ _ rfl hC1 rfl)
    ·refine qaf [] (fun _=>rfl) rfl ?_;intro w1 vals hC1 hi0 hf E hE;clear hi0;clear hf;simp only [sP] at hE ⊢;go_wp2;exact .mk (hE _ _ rfl hC1 rfl)
    ·refine qaf [] (fun _=>rfl) rfl ?_;intro w1 vals hC1 hi0 hf E hE;have hI1:(fun u=>Blk u g t (bnV R).toArray) w1:=hi0 false rfl
     try dsimp only at hI1
     clear hi0;clear hf;simp only [sP] at hE ⊢;go_wp2;exact .mk (hE _ _ rfl hC1 rfl)
    ·refine qaf [] (fun _=>rfl) rfl ?_;intro w1 vals hC1 hi0 hf E hE;have hI1:(fun u=>Blk u g t (bnV R).toArray) w1:=hi0 false rfl
     try dsimp only at hI1
     clear hi0;clear hf;simp only [sP] at hE ⊢;go_wp2;exact .mk (hE _ _ rfl hC1 rfl)
    ·refine qaf [(4,some 18),(5,some 19)] (fun _=>rfl) rfl ?_;intro w1 vals hC1 hi0 hf E hE;have hI1:(fun u=>Blk u g t (bnV R).toArray) w1:=hi0 false rfl
     try dsimp only at hI1
     clear hi0;have f4:vals 4=_:=hf 4 rfl;have f5:vals 5=_:=hf 5 rfl
     try dsimp only at f4 f5
     clear hf;simp only [sP,f4,f5] at hE ⊢;clear f4 f5;go_wp2;exact .mk (hE _ _ rfl hC1 rfl)
    ·refine qaf [(6,some 20)] (fun _=>rfl) rfl ?_;intro w1 vals hC1 hi0 hf E hE;have hI1:(fun u=>Blk u g t (bnV R).toArray) w1:=hi0 false rfl
     try dsimp only at hI1
     clear hi0;have f6:vals 6=_:=hf 6 rfl
     try dsimp only at f6
     clear hf;have d0:=hI1.cell m;rw [HKB.out] at d0;simp only [sP,f6] at hE ⊢;clear f6;go_wp2;exact .mk (hE _ _ rfl hC1 rfl)
    ·refine qaf [] (fun _=>rfl) rfl ?_;intro w1 vals hC1 hi0 hf E hE;have hI1:(fun u=>Blk u g t (bnV R).toArray) w1:=hi0 false rfl
     try dsimp only at hI1
     clear hi0;clear hf;simp only [sP] at hE ⊢;go_wp2;exact .mk (hE _ _ rfl hC1 rfl)
    ·refine qaf [] (fun _=>rfl) rfl ?_;intro w1 vals hC1 hi0 hf E hE;have hI1:(fun u=>Blk u g t (bnV R).toArray) w1:=hi0 false rfl
     try dsimp only at hI1
     clear hi0;clear hf;simp only [sP] at hE ⊢;go_wp2;exact .mk (hE _ _ rfl hC1 rfl)
    ·refine qaf [(8,some 22),(9,some 23)] (fun _=>rfl) rfl ?_;intro w1 vals hC1 hi0 hf E hE;have hI1:(fun u=>Blk u g t (bnV R).toArray) w1:=hi0 false rfl
     try dsimp only at hI1
     clear hi0;have f8:vals 8=_:=hf 8 rfl;have f9:vals 9=_:=hf 9 rfl
     try dsimp only at f8 f9
     clear hf;simp only [sP,f8,f9] at hE ⊢;clear f8 f9;go_wp2;exact .mk (hE _ _ rfl hC1 rfl)
    ·refine qaf [(10,some 24)] (fun _=>rfl) rfl ?_;intro w1 vals hC1 hi0 hf E hE;have hI1:(fun u=>Blk u g t (bnV R).toArray) w1:=hi0 false rfl
     try dsimp only at hI1
     clear hi0;have f10:vals 10=_:=hf 10 rfl
     try dsimp only at f10
     clear hf;have d0:=hI1.cell k;rw [HKA.out] at d0;simp only [sP,f10] at hE ⊢;clear f10;go_wp2;exact .mk (hE _ _ rfl hC1 rfl)
    ·refine qaf [(0,some 14),(1,some 15),(0,some 14),(1,some 15),(4,some 18),(5,some 19),(6,some 20),(7,some 21),(11,some 25)] (fun _=>rfl) rfl ?_;intro w1 vals hC1 hi0 hf E hE;have hI1:(fun u=>Blk u g t (bnV R).toArray) w1:=hi0 false rfl
     try dsimp only at hI1
     clear hi0;have f0:vals 0=_:=hf 0 rfl;have f1:vals 1=_:=hf 1 rfl;have f4:vals 4=_:=hf 4 rfl;have f5:vals 5=_:=hf 5 rfl;have f6:vals 6=_:=hf 6 rfl;have f7:vals 7=_:=hf 7 rfl;have f11:vals 11=_:=hf 11 rfl
     try dsimp only at f0 f1 f4 f5 f6 f7 f11
     clear hf;simp only [sP,f0,f1,f4,f5,f6,f7,f11] at hE ⊢;clear f0 f1 f4 f5 f6 f7 f11;go_wp2;exact .mk (hE _ _ rfl hC1 rfl)
    ·refine qaf [(12,some 26),(7,some 21),(0,some 14),(1,some 15),(4,some 18),(5,some 19),(6,some 20),(7,some 21),(11,some 25)] (fun _=>rfl) rfl ?_;intro w1 vals hC1 hi0 hf E hE;have hI1:(fun u=>Blk u g t (bnV R).toArray) w1:=hi0 false rfl
     try dsimp only at hI1
     clear hi0;have f0:vals 0=_:=hf 0 rfl;have f1:vals 1=_:=hf 1 rfl;have f4:vals 4=_:=hf 4 rfl;have f5:vals 5=_:=hf 5 rfl;have f6:vals 6=_:=hf 6 rfl;have f7:vals 7=_:=hf 7 rfl;have f11:vals 11=_:=hf 11 rfl;have f12:vals 12=_:=hf 12 rfl
     try dsimp only at f0 f1 f4 f5 f6 f7 f11 f12
     clear hf;simp only [sP,f0,f1,f4,f5,f6,f7,f11,f12] at hE ⊢;clear f0 f1 f4 f5 f6 f7 f11 f12;refine qam (i:=k) (v:=.int .u8 (b:Int)) hI1 rfl rfl rfl rfl qdY (by rw [qdx,HRL.out]; have:=HK.out; omega) rfl ?_;intro w2 hb2 hw2;rw [qcm] at hb2;go_wp2_with fail;exact .mk (hE undef _ hb2 (hC1.trans hw2) trivial)
    ·refine qaf [(2,some 16),(3,some 17),(0,some 14),(1,some 15),(2,some 16),(3,some 17),(4,some 18),(5,some 19),(6,some 20),(7,some 21),(8,some 22),(9,some 23),(10,some 24),(11,some 25),(12,some 26),(13,none)] (fun _=>rfl) rfl ?_;intro w1 vals hC1 hi0 hf E hE;clear hi0;have f0:vals 0=_:=hf 0 rfl;have f1:vals 1=_:=hf 1 rfl;have f2:vals 2=_:=hf 2 rfl;have f3:vals 3=_:=hf 3 rfl;have f4:vals 4=_:=hf 4 rfl;have f5:vals 5=_:=hf 5 rfl;have f6:vals 6=_:=hf 6 rfl;have f7:vals 7=_:=hf 7 rfl;have f8:vals 8=_:=hf 8 rfl;have f9:vals 9=_:=hf 9 rfl;have f10:vals 10=_:=hf 10 rfl;have f11:vals 11=_:=hf 11 rfl;have f12:vals 12=_:=hf 12 rfl;have f13:(fun z u=>Blk u g t (bnV (R.set k b)).toArray) vals w1:=hf 13 rfl
     try dsimp only at f0 f1 f2 f3 f4 f5 f6 f7 f8 f9 f10 f11 f12 f13
     clear hf;simp only [sP,f0,f1,f2,f3,f4,f5,f6,f7,f8,f9,f10,f11,f12] at hE ⊢;clear f0 f1 f2 f3 f4 f5 f6 f7 f8 f9 f10 f11 f12;go_wp2;exact .mk (hE _ _ rfl hC1 rfl)
    ·refine qaf [(14,some 27),(11,some 25),(13,none),(0,some 14),(1,some 15),(2,some 16),(3,some 17),(4,some 18),(5,some 19),(6,some 20),(7,some 21),(8,some 22),(9,some 23),(10,some 24),(11,some 25),(12,some 26),(13,none)] (fun _=>rfl) rfl ?_;intro w1 vals hC1 hi0 hf E hE;clear hi0;have f0:vals 0=_:=hf 0 rfl;have f1:vals 1=_:=hf 1 rfl;have f2:vals 2=_:=hf 2 rfl;have f3:vals 3=_:=hf 3 rfl;have f4:vals 4=_:=hf 4 rfl;have f5:vals 5=_:=hf 5 rfl;have f6:vals 6=_:=hf 6 rfl;have f7:vals 7=_:=hf 7 rfl;have f8:vals 8=_:=hf 8 rfl;have f9:vals 9=_:=hf 9 rfl;have f10:vals 10=_:=hf 10 rfl;have f11:vals 11=_:=hf 11 rfl;have f12:vals 12=_:=hf 12 rfl;have f13:(fun z u=>Blk u g t (bnV (R.set k b)).toArray) vals w1:=hf 13 rfl;have f14:vals 14=_:=hf 14 rfl
     try dsimp only at f0 f1 f2 f3 f4 f5 f6 f7 f8 f9 f10 f11 f12 f13 f14
     clear hf;simp only [sP,f0,f1,f2,f3,f4,f5,f6,f7,f8,f9,f10,f11,f12,f14] at hE ⊢;clear f0 f1 f2 f3 f4 f5 f6 f7 f8 f9 f10 f11 f12 f14;refine qam (i:=m) (v:=.int .u8 (a:Int)) f13 rfl rfl rfl rfl qdY (by rw [qdx,List.length_set,HRL.out]; have:=HM.out; omega) rfl ?_;intro w2 hb2 hw2;rw [qcm] at hb2;go_wp2_with fail;exact .mk (hE undef _ hb2 (hC1.trans hw2) trivial)
   intro w1 vals hC1 hf;have f0:vals 0=_:=hf 0 (by decide) rfl;have f1:vals 1=_:=hf 1 (by decide) rfl;have f2:vals 2=_:=hf 2 (by decide) rfl;have f3:vals 3=_:=hf 3 (by decide) rfl;have f4:vals 4=_:=hf 4 (by decide) rfl;have f5:vals 5=_:=hf 5 (by decide) rfl;have f6:vals 6=_:=hf 6 (by decide) rfl;have f7:vals 7=_:=hf 7 (by decide) rfl;have f8:vals 8=_:=hf 8 (by decide) rfl;have f9:vals 9=_:=hf 9 (by decide) rfl;have f10:vals 10=_:=hf 10 (by decide) rfl;have f11:vals 11=_:=hf 11 (by decide) rfl;have f12:vals 12=_:=hf 12 (by decide) rfl;have f14:vals 14=_:=hf 14 (by decide) rfl;have f15:(fun z u=>Blk u g t (bnV ((R.set k b).set m a)).toArray) vals w1:=hf 15 (by decide) rfl
   try dsimp only at f0 f1 f2 f3 f4 f5 f6 f7 f8 f9 f10 f11 f12 f14 f15
   clear hf;simp only [sP,f0,f1,f2,f3,f4,f5,f6,f7,f8,f9,f10,f11,f12,f14];clear f0 f1 f2 f3 f4 f5 f6 f7 f8 f9 f10 f11 f12 f14;rw [← HNEXT.out] at f15;have HF:=zY f15;have HC1:=zY hC1;clear hC1 f15 HC0 HI0;have hm1:(m:Int) - 1=31 - ((k+1:Nat):Int):=by have:=HM.out; have:=HK.out; omega
   have HM1:=zY hm1;clear hm1;go_wp2_with fail;exact ⟨⟨k+1,HK.out,by go_num,by rw [HM1.out],HF.out,HWR.out.trans HC1.out⟩,by have:=HK.out; simp [intOf]; omega⟩
  ·obtain rfl:k=16:=by omega
   have HF:=zY hblk;have HWR:=zY hwr;clear hblk hwr hlt hk;go_wp2_with fail;refine bodyPost_end (results_none rfl _ _ _) rfl ?_;exact ⟨⟨_,rfl⟩,HF.out,HWR.out⟩
def toB (l:List Nat):List UInt8:=l.map UInt8.ofNat
theorem toB_v {l:List Nat} (h:Dg l):bytesV (toB l)=bnV l:=by rw [← bnV_digs,toB,qdw l h]
def knownE (l:List Nat):E5:=readE (toB (revS l 16))
theorem readE_ok (l:List UInt8):(readE l).Ok:=by
 unfold readE
 split
 ·exact ofN_ok _
 ·exact zE_ok
theorem qcz (l:List Nat):(knownE l).Ok:=readE_ok _
theorem qep (l:List Nat) (hd:Dg l) (hl:l.length=32) (w:World):Calls Tryz.prog 41 #[.agg (bnV l).toArray] w (ElemPost (knownE l) w):=by
 have hu:=Tryz.underlying79;obtain ⟨w0,hw0⟩:=eX ((w.alloc (.cells (bnV l).toArray 94)).alloc (.cells (eV zE) 79));obtain ⟨R,hR⟩:=eX (revS l 16);have hRl:R.length=32:=by rw [hR,qcW]; exact hl
 have hbg:Blk w0 w.heap.size 94 (bnV l).toArray:=by rw [hw0]; exact (Blk.new _ _ _).alloc _
 have hbr:Blk w0 (w.heap.size+1) 79 (eV zE):=by rw [hw0]; exact Blk.newAt (by simp)
 have hbel:Below w.heap.size w w0:=by rw [hw0]; exact (below_new _ _).alloc (by simp) _
 have hrev:=reverse_any l hl w.heap.size 94 32 w0 hbg;rw [← hR] at hrev
 have hread:∀ u g,Blk u g 94 (bnV R).toArray→Calls Tryz.prog 65 #[.slice (some ⟨g,0,none⟩) 32 32] u (ReadPost (toB R) u):=fun u g hb=>by
  have hv:bytesV (toB R)=bnV R:=toB_v (by rw [hR]; exact revS_dg hd 16);have hlen:(toB R).length=32:=by rw [toB,List.length_map,hRl]
  have h:=read_any (toB R) (some ⟨g,0,none⟩) 32 u (by rw [hv]; exact Rd.of_blk hb hb.lt) (by rw [hlen]; exact Nat.le_refl _) (by rw [hlen]; decide);rw [hlen] at h; exact h
 have HW:=zY hw0;have HREV:=zY hrev;have HREAD:=zY hread;have HBR:=zY hbr;have HBEL:=zY hbel;have HR:=zY hR;have hne:w.heap.size+1≠w.heap.size:=by omega
 have HNE:=zY hne;have HLR:=zY (show w.heap.size≤w.heap.size+1 by omega);clear hw0 hRl hbg hbr hbel hrev hread hR hd hl hne;generalize hcs:(bnV l).toArray=cs at *;go_enter Tryz.func41,Tryz.ntmps41;go_wp2_with fail;show Calls _ _ _ ((w.alloc (.cells cs _)).alloc (.cells (eV zE) _)) _;rw [← HW.out];generalize w.heap.size+1=r at *;generalize hgg:w.heap.size=g at *;have HG:=zY hgg;clear hgg HW;refine qab HREV.out ?_;rintro e w1 ⟨⟨v,rfl⟩,hb1,hw1⟩;have HB1:=zY hb1;have HBR1:=zY (hw1.blk HBR.out HNE.out);have HBEL1:=zY (hw1.below HBEL.out (Nat.le_refl _) (by have h:=HBEL.out; rw [← HG.out] at h ⊢; exact h.size));clear hb1 hw1 HBR HBEL HREV;go_wp2_with fail;refine qab (HREAD.out w1 g HB1.out) ?_;rintro e w2 ⟨rfl,hb2⟩;have HGS:Hid (g≤w1.heap.size):=zY (by have h:=HBEL1.out; rw [← HG.out] at h ⊢; exact h.size);have HBEL2:=zY (HBEL1.out.trans (hb2.mono HGS.out));have HBR2:=zY (HBR1.out.below hb2 HBR1.out.lt);clear hb2 HBEL1 HBR1
 go_wp2_with (first
  | (refine qad (x:=.tmp 4) (cells:=eV (readE (toB R))) (Blk.new _ _ _) rfl rfl rfl rfl qah rfl (by simp [eV,wV,limbs,Value.oneCell']) ?_; intro w3 hb3 hw3; have HB3:=zY hb3; have HBR3:=zY (HBR2.out.below (qcC hw3) HBR2.out.lt); have HBEL3:=zY (HBEL2.out.trans ((qcC hw3).mono (by have h:=HBEL2.out; rw [← HG.out] at h ⊢; exact h.size))); clear hb3 hw3)
  | (refine qac (x:=.tmp 4) HB3.out rfl rfl rfl hu rfl qah ?_)
  | (refine qad (x:=.tmp 2) (cells:=eV (readE (toB R))) HBR3.out rfl rfl rfl rfl qah rfl (by simp [eV,wV,limbs,Value.oneCell']) ?_; intro w4 hb4 hw4; have HB4:=zY hb4; have HW4:=zY hw4; clear hb4 hw4))
 refine bodyPost_ret (qau (P:=Tryz.prog) rfl rfl HB4.out hu rfl qah) rfl ⟨by rw [knownE,← HR.out],?_⟩;rw [HG.out];exact HW4.out.below HBEL3.out HLR.out (by have h:=HBEL3.out; rw [← HG.out] at h ⊢; exact h.size)
def dL:List Nat:=[82,3,108,238,43,111,254,115,140,199,64,121,119,121,232,152,0,112,10,77,65,65,216,171,117,235,77,202,19,89,120,163]
def bxL:List Nat:=[33,105,54,211,205,110,83,254,192,164,226,49,253,214,220,92,105,44,199,96,149,37,167,178,201,86,45,96,143,37,213,26]
def byL:List Nat:=List.replicate 31 102++[88]
def dE:E5:=knownE dL
theorem dE_ok:dE.Ok:=qcz _
theorem d_known (u:World):Calls Tryz.prog 41 #[.agg (bnV dL).toArray] u (ElemPost dE u):=qep dL (by unfold Dg; decide) rfl u
theorem bx_known (u:World):Calls Tryz.prog 41 #[.agg (bnV bxL).toArray] u (ElemPost (knownE bxL) u):=qep bxL (by unfold Dg; decide) rfl u
theorem by_known (u:World):Calls Tryz.prog 41 #[.agg (bnV byL).toArray] u (ElemPost (knownE byL) u):=qep byL (by unfold Dg; decide) rfl u
theorem d_any (w:World):Calls Tryz.prog 44 #[] w (ElemPost dE w):=by
 have hu:=Tryz.underlying79;have HK:=zY d_known;have hbr:Blk (w.alloc (.cells (eV zE) 79)) w.heap.size 79 (eV zE):=Blk.new _ _ _;have hbel:Below w.heap.size w (w.alloc (.cells (eV zE) 79)):=below_new _ _;have HBR:=zY hbr;have HBEL:=zY hbel;clear hbr hbel;generalize dE=X at *;go_enter Tryz.func44,Tryz.ntmps44;go_wp2_with fail;refine qab (HK.out _) ?_;rintro e w2 ⟨rfl,hb2⟩;have HBR2:=zY (HBR.out.below hb2 HBR.out.lt);have HBEL2:=zY (HBEL.out.trans (hb2.mono (by simp)));clear hb2 HBR HBEL;go_wp2_with (refine qad (x:=.tmp 0) (cells:=eV X) HBR2.out rfl rfl rfl rfl qah rfl (by simp [eV,wV,limbs,Value.oneCell']) ?_; intro w4 hb4 hw4; have HB4:=zY hb4; have HW4:=zY hw4; clear hb4 hw4);refine bodyPost_ret (qau (P:=Tryz.prog) rfl rfl HB4.out hu rfl qah) rfl ⟨rfl,HW4.out.below HBEL2.out (Nat.le_refl _) HBEL2.out.size⟩
def zeroP:Pt4:=ofP (intE 0) (intE 1)
theorem int0_ok:(intE 0).Ok:=intE_ok (by decide) (by decide)
theorem zeroP_ok:zeroP.Ok:=ofP_ok int0_ok one_ok
theorem zero_any (w:World):Calls Tryz.prog 43 #[] w (PtPost zeroP w):=by
 have hp:=Tryz.underlying81;have H0:=zY int0_c;have H1:=zY int1_c;have HO:=zY (fun u=>pof_any (intE 0) (intE 1) int0_ok one_ok u);have hbr:Blk (w.alloc (.cells (ptV zP) 81)) w.heap.size 81 (ptV zP):=Blk.new _ _ _;have hbel:Below w.heap.size w (w.alloc (.cells (ptV zP) 81)):=below_new _ _;have HBR:=zY hbr;have HBEL:=zY hbel;clear hbr hbel;have HZ:Hid (zeroP=ofP (intE 0) (intE 1)):=zY rfl;generalize ofP (intE 0) (intE 1)=X at *;generalize intE 0=I0 at *;generalize intE 1=I1 at *;go_enter Tryz.func43,Tryz.ntmps43;go_wp2_with fail;refine qab (H0.out _) ?_;rintro e w1 ⟨rfl,hb1⟩;have HBR1:=zY (HBR.out.below hb1 HBR.out.lt);have HBEL1:=zY (HBEL.out.trans (hb1.mono (by simp)));clear hb1 HBR HBEL;go_wp2_with fail;refine qab (H1.out _) ?_;rintro e w2 ⟨rfl,hb2⟩;have HBR2:=zY (HBR1.out.below hb2 HBR1.out.lt);have HBEL2:=zY (HBEL1.out.trans (hb2.mono HBEL1.out.size));clear hb2 HBR1 HBEL1;go_wp2_with fail;refine qab (HO.out _) ?_;rintro e w3 ⟨rfl,hb3⟩;have HBR3:=zY (HBR2.out.below hb3 HBR2.out.lt);have HBEL3:=zY (HBEL2.out.trans (hb3.mono HBEL2.out.size));clear hb3 HBR2 HBEL2;go_wp2_with (refine qad (x:=.tmp 0) (cells:=ptV X) HBR3.out rfl rfl rfl rfl qaH rfl (by simp [ptV,wV,limbs,Value.oneCell']) ?_; intro w4 hb4 hw4; have HB4:=zY hb4; have HW4:=zY hw4; clear hb4 hw4);refine bodyPost_ret (qau (P:=Tryz.prog) rfl rfl HB4.out hp rfl qaH) rfl ⟨by rw [HZ.out],HW4.out.below HBEL3.out (Nat.le_refl _) HBEL3.out.size⟩
theorem d2_ok:(addE dE dE).Ok:=qbu dE_ok dE_ok
def addP (p q:Pt4):Pt4:=sumP p q (addE dE dE)
def pmS (T:E5) (p out:Pt4) (bit:Nat):Pt4:=if bit=1 then sumP (sumP out out T) p T else sumP out out T
def pmB (T:E5) (p out:Pt4) (b:Nat):Nat→Pt4
 | 0=>out
 | j+1=>pmS T p (pmB T p out b j) (b/2^(7 - j)%2)
def pmL (T:E5) (p:Pt4) (l:List Nat):Nat→Pt4
 | 0=>zeroP
 | j+1=>pmB T p (pmL T p l j) (l.getD (l.length - 1 - j) 0) 8
section
variable {T:E5} {p out:Pt4} (hT:T.Ok) (hp:p.Ok)
include hT hp
theorem pmS_ok (ho:out.Ok) (bit:Nat):(pmS T p out bit).Ok:=by
 unfold pmS
 split
 ·exact qdZ (qdZ ho ho hT) hp hT
 ·exact qdZ ho ho hT
theorem pmB_ok (ho:out.Ok) (b:Nat):∀ j,(pmB T p out b j).Ok
 | 0=>ho
 | j+1=>pmS_ok hT hp (pmB_ok ho b j) _
theorem pmL_ok (l:List Nat):∀ j,(pmL T p l j).Ok
 | 0=>zeroP_ok
 | j+1=>pmB_ok hT hp (pmL_ok l j) _ 8
end
def mulP (p:Pt4) (l:List UInt8):Pt4:=pmL (addE dE dE) p (digs (l.take 32)) (min l.length 32)
theorem mulP_ok {p:Pt4} (hp:p.Ok) (l:List UInt8):(mulP p l).Ok:=pmL_ok d2_ok hp _ _
structure PM (w0:World) (g r o ow:Nat) (p cur:Pt4) (T:E5) (u:World):Prop where
 bel:Below w0.heap.size w0 u
 x:Blk u g 81 (ptV p)
 z:Blk u r 81 (ptV zP)
 y:Blk u o 81 (ptV cur)
 t:Blk u ow 79 (eV T)
 lo:w0.heap.size≤o
 lr:w0.heap.size≤r
 go:g≠o
 ro:r≠o
 wo:ow≠o
theorem PM.next {w0 u u':World} {g r o ow:Nat} {p cur:Pt4} {T:E5} (k:PM w0 g r o ow p cur T u) (hb:Below u.heap.size u u'):PM w0 g r o ow p cur T u' :=
 ⟨k.bel.trans (hb.mono k.bel.size),k.x.below hb k.x.lt,k.z.below hb k.z.lt,k.y.below hb k.y.lt,k.t.below hb k.t.lt,k.lo,k.lr,k.go,k.ro,k.wo⟩
theorem PM.put {w0 u u':World} {g r o ow:Nat} {p cur cur':Pt4} {T:E5} (k:PM w0 g r o ow p cur T u) (hw:Wrote o u u') (hb:Blk u' o 81 (ptV cur')):PM w0 g r o ow p cur' T u' :=
 ⟨hw.below k.bel k.lo k.bel.size,hw.blk k.x k.go,hw.blk k.z k.ro,hb,hw.blk k.t k.wo,k.lo,k.lr,k.go,k.ro,k.wo⟩
theorem pmul_any (p:Pt4) (hkp:p.Ok) (l:List UInt8) (A:Option Addr) (c:Nat) (w:World) (hr:Rd w w.heap.size A (bytesV l)) (hc:l.length≤c) :
  Calls Tryz.prog 31 #[.agg (ptV p),.slice A l.length c] w (PtPost (mulP p l) w):=by
 have hu:=Tryz.underlying79;have hp:=Tryz.underlying81;obtain ⟨X,hX⟩:=eX dE;obtain ⟨T,hT⟩:=eX (addE X X);have okX:X.Ok:=by rw [hX]; exact dE_ok
 have okT:T.Ok:=by rw [hT]; exact qbu okX okX
 have CD:=zY (show ∀ u,Calls Tryz.prog 44 #[] u (ElemPost X u) from fun u=>by rw [hX]; exact d_any u);have CA:=zY (show ∀ u,Calls Tryz.prog 45 #[.agg (eV X),.agg (eV X)] u (ElemPost T u) from fun u=>by rw [hT]; exact add_c X X u okX okX);have CS:=zY (show ∀ (a b:Pt4),a.Ok→b.Ok→∀ u,Calls Tryz.prog 46 #[.agg (ptV a),.agg (ptV b),.agg (eV T)] u (PtPost (sumP a b T) u) from fun a b ha hb u=>sum_any a b T u ha hb okT);have hmul:mulP p l=pmL T p (digs (l.take 32)) (min l.length 32):=by rw [hT,hX]; rfl
 obtain ⟨Z,hZ⟩:=eX zeroP;have CZ:=zY (show ∀ u,Calls Tryz.prog 43 #[] u (PtPost Z u) from fun u=>by rw [hZ]; exact zero_any u);obtain ⟨n,hn⟩:=eX (l.length);rw [hmul,← hn];rw [← hn] at hc;obtain ⟨m,hm⟩:=eX (min n 32);have hmin1:(if (32:Int)<(n:Int) then (32:Int) else (n:Int))=(m:Int):=by rw [hm]; split <;> omega
 have hmin2:(if 32<n then (32:Int) else (n:Int))=(m:Int):=by rw [hm]; split <;> omega
 have hm32:(m:Int)≤32:=by omega
 have hmn:(m:Int)≤(n:Int):=by omega
 rw [← hm];generalize hL:digs (l.take 32)=L at *;have hLl:L.length=m:=by rw [← hL,digs,List.length_map,List.length_take,hm,hn,Nat.min_comm]
 have hLat:∀ k,k<m→∀ u,Below w.heap.size w u→∃ ad,A=some ad∧u.cell? (ad.add k)=some (.int .u8 ((L.getD k 0:Nat):Int)):=fun k hk u hb=>by
  have hkl:k<l.length:=by omega
  obtain ⟨ad,h1,_,h3⟩:=(hr.below hb).at_ (k:=k) (by rw [qap]; exact hkl);refine ⟨ad,h1,?_⟩;rw [h3,← hL];have hk32:k<32:=by omega
  simp [bytesV,byteV,digs,List.getD_eq_getElem?_getD,List.getElem?_take,hk32,hkl]
 have hLd:Dg L:=by rw [← hL]; exact digs_lt _
 have KP:=zY hkp;have OKT:=zY okT;have HLAT:=zY hLat;have HLL:=zY hLl;have HLD:=zY hLd;have HZ:=zY hZ;obtain ⟨w0,hw0⟩:=eX ((w.alloc (.cells (ptV p) 81)).alloc (.cells (ptV zP) 81));have HX0:=zY (show Blk w0 w.heap.size 81 (ptV p) by rw [hw0]; exact (Blk.new _ _ _).alloc _);have HR0:=zY (show Blk w0 (w.heap.size+1) 81 (ptV zP) by rw [hw0]; exact Blk.newAt (by simp));have HB0:=zY (show Below w.heap.size w w0 by rw [hw0]; exact (below_new _ _).alloc (by simp) _);have HLR:=zY (show w.heap.size≤w.heap.size+1 by omega);have HW:=zY hw0;clear hw0 hkp hX hT okX okT hmul hZ hn hm hL hLl hLat hLd hr hc;go_enter Tryz.func31,Tryz.ntmps31;go_wp2_with fail;show Calls _ _ _ ((w.alloc (.cells (ptV p) _)).alloc (.cells (ptV zP) _)) _;rw [← HW.out];generalize w.heap.size+1=r at *;generalize hgg:w.heap.size=g at HX0 ⊢;clear hgg HW;refine qab (CZ.out _) ?_;rintro e w1 ⟨rfl,hb1⟩;have HX1:=zY (HX0.out.below hb1 HX0.out.lt);have HR1:=zY (HR0.out.below hb1 HR0.out.lt);have HB1:=zY (HB0.out.trans (hb1.mono HB0.out.size));clear hb1 HX0 HR0 HB0;go_wp2_with fail;refine qab (CD.out _) ?_;rintro e w2 ⟨rfl,hb2⟩;have HX2:=zY (HX1.out.below hb2 HX1.out.lt);have HR2:=zY (HR1.out.below hb2 HR1.out.lt);have HB2:=zY (HB1.out.trans (hb2.mono HB1.out.size));clear hb2 HX1 HR1 HB1;go_wp2_with fail;refine qab (CD.out _) ?_;rintro e w3 ⟨rfl,hb3⟩;have HX3:=zY (HX2.out.below hb3 HX2.out.lt);have HR3:=zY (HR2.out.below hb3 HR2.out.lt);have HB3:=zY (HB2.out.trans (hb3.mono HB2.out.size));clear hb3 HX2 HR2 HB2;go_wp2_with fail;refine qab (CA.out _) ?_;rintro e w4 ⟨rfl,hb4⟩;have hx4:=HX3.out.below hb4 HX3.out.lt;have hr4:=HR3.out.below hb4 HR3.out.lt;have hb4':=HB3.out.trans (hb4.mono HB3.out.size);clear hb4 HX3 HR3 HB3;obtain ⟨w5,hw5⟩:=eX ((w4.alloc (.cells (ptV zP) 81)).alloc (.cells (eV zE) 79));have hsz5:(w4.alloc (.cells (ptV zP) 81)).heap.size=w4.heap.size+1:=by simp
 have HB5:=zY (show Below w.heap.size w w5 by rw [hw5]; exact (hb4'.alloc hb4'.size _).alloc (by rw [hsz5]; have:=hb4'.size; omega) _);have HX5:=zY (show Blk w5 g 81 (ptV p) by rw [hw5]; exact (hx4.alloc _).alloc _);have HR5:=zY (show Blk w5 r 81 (ptV zP) by rw [hw5]; exact (hr4.alloc _).alloc _);have HY5:=zY (show Blk w5 w4.heap.size 81 (ptV zP) by rw [hw5]; exact (Blk.new _ _ _).alloc _);have HT5:=zY (show Blk w5 (w4.heap.size+1) 79 (eV zE) by rw [hw5]; exact Blk.newAt (by simp));have HGO:=zY (Nat.ne_of_lt hx4.lt);have HRO:=zY (Nat.ne_of_lt hr4.lt);have HLO:=zY hb4'.size;have HW5:=zY hw5;have HWO:=zY (show w4.heap.size+1≠w4.heap.size by omega);have HLW:=zY (show w.heap.size≤w4.heap.size+1 by have:=hb4'.size; omega);have HGW:=zY (show g≠w4.heap.size+1 by have:=hx4.lt; omega);have HRW:=zY (show r≠w4.heap.size+1 by have:=hr4.lt; omega);clear hw5 hx4 hr4 hb4' hsz5
 go_wp2_with (first
  | (refine qad (x:=.tmp 5) (g:=w4.heap.size) (cells:=ptV Z) (old:=ptV zP) (t:=81) ((Blk.new _ _ _).alloc _) rfl rfl rfl rfl qaH rfl (by simp [ptV,wV,limbs,Value.oneCell']) ?_; intro w6 hb6 hw6)
  | (refine qad (x:=.tmp 6) (g:=w4.heap.size+1) (cells:=eV T) (old:=eV zE) (t:=79) (hw6.blk (Blk.newAt (by simp)) HWO.out) rfl rfl rfl rfl qah rfl (by simp [eV,wV,limbs,Value.oneCell']) ?_; intro w7 hb7 hw7))
 have hw6':Wrote w4.heap.size w5 w6:=by rw [HW5.out]; exact hw6
 have hst:PM w g r w4.heap.size (w4.heap.size+1) p (pmL T p L 0) T w7:=by
  have h6:=hw6'.below HB5.out HLO.out HB5.out.size;refine ⟨hw7.below h6 HLW.out h6.size,hw7.blk (hw6'.blk HX5.out HGO.out) HGW.out,hw7.blk (hw6'.blk HR5.out HRO.out) HRW.out,?_,hb7,HLO.out,HLR.out,HGO.out,HRO.out,HWO.out⟩;rw [HZ.out] at hb6;exact hw7.blk hb6 (Ne.symm HWO.out)
 have HST:=zY hst;clear hw6' hst hb6 hw6 hb7 hw7 HB5 HX5 HR5 HY5 HT5 HGO HRO HLO HW5 HWO HLW HGW HRW hmin1 hmin2 HZ CZ CD CA HLR;generalize w4.heap.size+1=ow at *;generalize w4.heap.size=o at *;clear w5
 go_loopw [7] (fun i wr=>∃ j:Nat,j≤m∧i=.int .i64 ((m:Int) - 1 - (j:Int))∧PM w g r o ow p (pmL T p L j) T wr) (fun i _=>(intOf i+1).toNat)
 case atStart=>exact ⟨0,Nat.zero_le _,by go_num,HST.out⟩
 case round =>
  clear HST;obtain ⟨j,hj,rfl,hst⟩:=hrel
  by_cases hlt:j<m
  ·obtain ⟨q,hq⟩:∃ q,q+1+j=m:=⟨m - 1 - j,by omega⟩;have hqi:(m:Int) - 1 - (j:Int)=(q:Int):=by omega
   rw [hqi];obtain ⟨cur,hcur⟩:=eX (pmL T p L j);rw [← hcur] at hst;obtain ⟨b,hb⟩:=eX (L.getD q 0);have hst':PM w g r o ow p (pmB T p cur b 0) T wr:=hst;have hcok:cur.Ok:=by rw [hcur]; exact pmL_ok OKT.out KP.out L j
   have hqm:(q:Int)<(m:Int):=by omega
   have HST:=zY hst';have HCUR:=zY hcur;have HCOK:=zY hcok;have HB:=zY hb;have HQ:=zY hq;have HJ:=zY hlt;clear hst hst' hcur hcok hb hqi hq hlt hj;go_wp2_with fail;obtain ⟨wo,rfl⟩:=eX wr
   go_loopw [8] (fun c wr=>∃ k:Nat,k≤8∧c=.int .i64 (7 - (k:Int))∧PM w g r o ow p (pmB T p cur b k) T wr) (fun c _=>(intOf c+1).toNat)
   case atStart=>exact ⟨0,by omega,rfl,HST.out⟩
   case round =>
    clear HST;obtain ⟨k,hk,rfl,hst⟩:=hrel
    by_cases hltk:k<8
    ·obtain ⟨s,hs⟩:∃ s,s+k=7:=⟨7 - k,by omega⟩;have hsi:(7:Int) - (k:Int)=(s:Int):=by omega
     have hs8:(s:Int)<8:=by omega
     have hbit:pmB T p cur b (k+1)=pmS T p (pmB T p cur b k) (b/2^s%2):=by rw [pmB,show 7 - k=s by omega]
     obtain ⟨y,hy⟩:=eX (pmB T p cur b k);have hyok:y.Ok:=by rw [hy]; exact pmB_ok OKT.out KP.out HCOK.out b k
     rw [← hy] at hst hbit;rw [hsi];obtain ⟨ad,rfl,_⟩:=HLAT.out q (by omega) wr hst.bel;have hb256:b<256:=by rw [HB.out]; exact qa3 HLD.out q
     obtain ⟨bq,hbq⟩:=eX (b/2^s);have hbqi:(b:Int)/2^s=(bq:Int):=by rw [hbq,qcc]
     have hbql:bq<256:=by rw [hbq]; exact Nat.lt_of_le_of_lt (Nat.div_le_self _ _) hb256
     rw [← hbq] at hbit;have hand:=and8_one bq hbql;obtain ⟨cb,hcb⟩:=eX (bq%2);rw [← hcb] at hbit hand;have hcb2:cb<2:=by omega
     have hcell:∀ u,Below w.heap.size w u→u.cell? (ad.add q)=some (.int .u8 (b:Int)):=fun u hu=>by
      obtain ⟨ad2,h1,h2⟩:=HLAT.out q (by omega) u hu
      injection h1 with h1
      rw [h1,HB.out]; exact h2
     have HCELL:=zY hcell;have HBIT:=zY hbit;have HAND:=zY hand;have HYOK:=zY hyok;have HBQI:=zY hbqi;have HS:=zY hs;have HK:=zY hltk;have HST:=zY hst;have hqn:(q:Int)<(n:Int):=by omega
     clear hcell hbit hand hyok hbqi hs hst hb256 hbq hbql hcb hy hk hsi
     rcases Nat.lt_or_ge cb 1 with hc1 | hc1
     ·have hcc:cb=0:=by omega
      rw [hcc] at HAND HBIT;have hand2:bits .and .u8 ((b:Int)/2^s) 1=0:=by rw [HBQI.out]; exact HAND.out
      clear hcc hcb2 hc1 hltk
      go_wp2_with (first
       | (refine qac (x:=.tmp 5) HST.out.y rfl rfl rfl hp rfl qaH ?_)
       | (refine qac (x:=.tmp 6) HST.out.t rfl rfl rfl hu rfl qah ?_))
      refine qab (CS.out y y HYOK.out HYOK.out _) ?_;rintro e w3 ⟨rfl,hb3⟩;have hst3:=HST.out.next hb3;clear HST;go_wp2_with (refine qad (x:=.tmp 5) (cells:=ptV (sumP y y T)) hst3.y rfl rfl rfl rfl qaH rfl (by simp [ptV,wV,limbs,Value.oneCell']) ?_; intro w6 hb6 hw6; have hst6:=hst3.put hw6 hb6; have hcell6:=HCELL.out w6 hst6.bel; have HST6:=zY hst6; clear hst3 hst6 hb6 hw6);have hq1:(s:Int) - 1=7 - ((k+1:Nat):Int):=by have:=HS.out; omega
      refine ⟨⟨k+1,by have:=HK.out; omega,by rw [hq1],?_⟩,by simp [intOf]⟩;rw [HBIT.out];exact HST6.out
     ·have hcc:cb=1:=by omega
      rw [hcc] at HAND HBIT;have hand2:bits .and .u8 ((b:Int)/2^s) 1=1:=by rw [HBQI.out]; exact HAND.out
      clear hcc hcb2 hc1 hltk
      go_wp2_with (first
       | (refine qac (x:=.tmp 5) HST.out.y rfl rfl rfl hp rfl qaH ?_)
       | (refine qac (x:=.tmp 6) HST.out.t rfl rfl rfl hu rfl qah ?_))
      refine qab (CS.out y y HYOK.out HYOK.out _) ?_;rintro e w3 ⟨rfl,hb3⟩;have hst3:=HST.out.next hb3;clear HST
      go_wp2_with (first
       | (refine qad (x:=.tmp 5) (cells:=ptV (sumP y y T)) hst3.y rfl rfl rfl rfl qaH rfl (by simp [ptV,wV,limbs,Value.oneCell']) ?_; intro w6 hb6 hw6; have hst6:=hst3.put hw6 hb6; have hcell6:=HCELL.out w6 hst6.bel; have HST6:=zY hst6; clear hst3 hst6 hb6 hw6)
       | (refine qac (x:=.tmp 5) HST6.out.y rfl rfl rfl hp rfl qaH ?_)
       | (refine qac (x:=.tmp 2) HST6.out.x rfl rfl rfl hp rfl qaH ?_)
       | (refine qac (x:=.tmp 6) HST6.out.t rfl rfl rfl hu rfl qah ?_))
      refine qab (CS.out (sumP y y T) p (qdZ HYOK.out HYOK.out OKT.out) KP.out _) ?_;rintro e w7 ⟨rfl,hb7⟩;have hst7:=HST6.out.next hb7;go_wp2_with (refine qad (x:=.tmp 5) (cells:=ptV (sumP (sumP y y T) p T)) hst7.y rfl rfl rfl rfl qaH rfl (by simp [ptV,wV,limbs,Value.oneCell']) ?_; intro w8 hb8 hw8; have hst8:=hst7.put hw8 hb8; have HST8:=zY hst8; clear hst7 hst8 hb8 hw8);have hq1:(s:Int) - 1=7 - ((k+1:Nat):Int):=by have:=HS.out; omega
      refine ⟨⟨k+1,by have:=HK.out; omega,by rw [hq1],?_⟩,by simp [intOf]⟩;rw [HBIT.out];exact HST8.out
    ·obtain rfl:k=8:=by omega
     have hend:pmB T p cur b 8=pmL T p L (j+1):=by
      rw [pmL,← HCUR.out,HB.out,HLL.out,show m - 1 - j=q by have:=HQ.out; omega]
     rw [hend] at hst;have hq1:(q:Int) - 1=(m:Int) - 1 - ((j+1:Nat):Int):=by have:=HQ.out; omega
     have HQ1:=zY hq1;have HST:=zY hst;clear hst hend hq1 hk hltk;go_wp2_with fail;exact ⟨⟨j+1,HJ.out,by rw [HQ1.out],HST.out⟩,by simp [intOf]⟩
  ·obtain rfl:j=m:=by omega
   have hpi:(j:Int) - 1 - (j:Int)=-1:=by omega
   rw [hpi];have HST:=zY hst;clear hst hpi hlt
   go_wp2_with (first
    | (refine qac (x:=.tmp 5) HST.out.y rfl rfl rfl hp rfl qaH ?_)
    | (refine qad (x:=.tmp 4) (cells:=ptV (pmL T p L j)) HST.out.z rfl rfl rfl rfl qaH rfl (by simp [ptV,wV,limbs,Value.oneCell']) ?_; intro w6 hb6 hw6))
   refine bodyPost_ret (qau (P:=Tryz.prog) rfl rfl hb6 hp rfl qaH) rfl ⟨rfl,?_⟩;exact hw6.below HST.out.bel HST.out.lr HST.out.bel.size
def oddP (p:Pt4):Bool:=decide ((mulE p.x (invE p.z)).val%PN%2=1)
def bytP (p:Pt4):List Nat :=
 let l:=byN (leastE (mulE p.y (invE p.z))).val
 if oddP p then l.set 31 (l.getD 31 0 ||| 128) else l
def PbyPost (p:Pt4) (w:World) (e:Ending) (w':World):Prop :=
 ∃ o,e=.returned (.slice (some ⟨o,0,none⟩) 32 32)∧w.heap.size≤o∧Blk w' o 5 (bnV (bytP p)).toArray∧Below w.heap.size w w'
theorem byN_31 (N:Nat):(byN N).getD 31 0<256:=qa3 (byN_lt N) 31
theorem pbytes_any (p:Pt4) (hkp:p.Ok) (w:World):Calls Tryz.prog 32 #[.agg (ptV p)] w (PbyPost p w):=by
 have hu:=Tryz.underlying79;have hp:=Tryz.underlying81;obtain ⟨I,hI⟩:=eX (invE p.z);have okI:I.Ok:=by rw [hI]; exact invE_ok hkp.z
 obtain ⟨V,hV⟩:=eX ((leastE (mulE p.y I)).val);obtain ⟨ob,hob⟩:=eX (oddP p);have hres:bytP p=if ob then (byN V).set 31 ((byN V).getD 31 0 ||| 128) else byN V:=by rw [hob,hV,hI]; rfl
 have cI:∀ u,Calls Tryz.prog 47 #[.agg (eV p.z)] u (ElemPost I u):=fun u=>by rw [hI]; exact inv_any p.z hkp.z u
 have cB:∀ u,Calls Tryz.prog 49 #[.agg (eV (mulE p.y I))] u (BytesPost V u):=fun u=>by rw [hV]; exact bytes_any _ u (qba hkp.y okI).big
 have cO:∀ u,Calls Tryz.prog 50 #[.agg (eV (mulE p.x I))] u (BoolPost ob u):=fun u=>by
  have h:=odd_c (mulE p.x I) (qba hkp.x okI) u;rw [show decide ((mulE p.x I).val%PN%2=1)=ob by rw [hob,hI]; rfl] at h;exact h
 have CI:=zY cI;have CB:=zY cB;have CO:=zY cO;have HRES:=zY hres;have CY:=zY (fun u=>mul_c p.y I u hkp.y okI);have CX:=zY (fun u=>mul_c p.x I u hkp.x okI);have HX0:=zY (Blk.new w 81 (ptV p));have HB0:=zY (below_new w (.cells (ptV p) 81));clear hI okI hV hob hres cI cB cO hkp;go_enter Tryz.func32,Tryz.ntmps32;go_wp2_with (refine qan (x:=.tmp 5) (n:=5) (r:=eV p.z) HX0.out (by rw [qbj]; decide) rfl rfl rfl rfl hu rfl qah ?_);refine qab (CI.out _) ?_;rintro e w1 ⟨rfl,hb1⟩;have HX1:=zY (HX0.out.below hb1 HX0.out.lt);have HB1:=zY (HB0.out.trans (hb1.mono HB0.out.size));clear hb1 HX0 HB0
 go_wp2_with (first
  | (refine qad (x:=.tmp 3) (cells:=eV I) (Blk.new _ _ _) rfl rfl rfl rfl qah rfl (by simp [eV,wV,limbs,Value.oneCell']) ?_; intro w2 hb2 hw2; have hk2:=qcC hw2; have HI2:=zY hb2; have HX2:=zY (HX1.out.below hk2 HX1.out.lt); have HB2:=zY (HB1.out.trans (hk2.mono HB1.out.size)); clear hb2 hw2 hk2 HX1 HB1)
  | (refine qan (x:=.tmp 8) (n:=5) (r:=eV p.y) HX2.out (by rw [qbj]; decide) rfl rfl rfl rfl hu rfl qah ?_)
  | (refine qac (x:=.tmp 3) HI2.out rfl rfl rfl hu rfl qah ?_))
 refine qab (CY.out _) ?_;rintro e w3 ⟨rfl,hb3⟩;have HX3:=zY (HX2.out.below hb3 HX2.out.lt);have HI3:=zY (HI2.out.below hb3 HI2.out.lt);have HB3:=zY (HB2.out.trans (hb3.mono HB2.out.size));clear hb3 HX2 HB2 HI2;generalize w1.heap.size=gi at *;go_wp2_with fail;refine qab (CB.out _) ?_;rintro e w4 ⟨o,rfl,hlo,hblk,hb4⟩;have HX4:=zY (HX3.out.below hb4 HX3.out.lt);have HI4:=zY (HI3.out.below hb4 HI3.out.lt);have HLO:=zY (Nat.le_trans HB3.out.size hlo);have HB4:=zY (HB3.out.trans (hb4.mono HB3.out.size));have HO4:=zY hblk;clear hb4 hlo hblk HX3 HI3 HB3
 go_wp2_with (first
  | (refine qan (x:=.tmp 13) (n:=5) (r:=eV p.x) HX4.out (by rw [qbj]; decide) rfl rfl rfl rfl hu rfl qah ?_)
  | (refine qac (x:=.tmp 3) HI4.out rfl rfl rfl hu rfl qah ?_))
 refine qab (CX.out _) ?_;rintro e w5 ⟨rfl,hb5⟩;have HLO5:=zY HLO.out;have HO5:=zY (HO4.out.below hb5 HO4.out.lt);have HB5:=zY (HB4.out.trans (hb5.mono HB4.out.size));clear hb5 HX4 HI4 HB4 HO4;go_wp2_with fail;refine qab (CO.out _) ?_;rintro e w6 ⟨rfl,hb6⟩;have HO6:=zY (HO5.out.below hb6 HO5.out.lt);have HB6:=zY (HB5.out.trans (hb6.mono HB5.out.size));clear hb6 HB5 HO5;obtain ⟨x,hx⟩:=eX ((byN V).getD 31 0);have hxl:x<256:=by rw [hx]; exact byN_31 V
 have hor:=or8 (a:=x) (b:=128) hxl (by decide);have hc:=bnV_get (l:=byN V) (k:=31) (by rw [qbs]; decide);rw [← hx] at hc;have d0:=HO6.out.cell 31;rw [hc] at d0;have q0:=HO6.out.free 31;rw [← hx] at HRES;obtain ⟨y,hy⟩:=eX (x ||| 128);rw [← hy] at hor HRES;have hor':bits .or .u8 (x:Int) 128=(y:Int):=hor;have hx256:(x:Int)<256:=by omega
 clear hx hxl hc hy hor
 cases ob
 ·go_wp2_with fail;go_ret;refine ⟨o,rfl,HLO5.out,?_,HB6.out⟩;rw [HRES.out];exact HO6.out
 ·go_wp2_with fail;go_ret;have h:=qak (i:=31) HO6.out (.int .u8 (y:Int));rw [qcm] at h;refine ⟨o,rfl,HLO5.out,?_,(qai _ _ _ _).below HB6.out HLO5.out HB6.out.size⟩;rw [HRES.out];exact h
def baseP:Pt4:=ofP (knownE bxL) (knownE byL)
theorem baseP_ok:baseP.Ok:=ofP_ok (qcz _) (qcz _)
def fillB (k:Nat):List Nat:=List.replicate k 102++List.replicate (32 - k) 0
theorem fillB_set:∀ k,k<32→(fillB k).set k 102=fillB (k+1):=by decide
theorem fillB_len:∀ k,k<33→(fillB k).length=32:=by decide
theorem fillB_end:(fillB 32).set 31 88=byL:=by decide
theorem arr_size:(Tryz.prog.info? 94).map (·.size)=some 32:=by kernel_rfl
theorem arr_size0:(Tryz.prog.info? 94).map (·.size)=some (bnV (fillB 0)).toArray.size:=by rw [qdx]; exact arr_size
theorem fillB_cells:(bnV (fillB 0)).toArray.all (·.oneCell')=true:=by simp [bnV,fillB,Value.oneCell']
structure BM (w0:World) (r gx ga:Nat) (x:E5) (l:List Nat) (u:World):Prop where
 bel:Below w0.heap.size w0 u
 z:Blk u r 81 (ptV zP)
 x:Blk u gx 79 (eV x)
 a:Blk u ga 94 (bnV l).toArray
 la:w0.heap.size≤ga
 lr:w0.heap.size≤r
 ra:r≠ga
 xa:gx≠ga
theorem BM.put {w0 u u':World} {r gx ga:Nat} {x:E5} {l l':List Nat} (k:BM w0 r gx ga x l u) (hw:Wrote ga u u') (hb:Blk u' ga 94 (bnV l').toArray):BM w0 r gx ga x l' u' :=
 ⟨hw.below k.bel k.la k.bel.size,hw.blk k.z k.ra,hw.blk k.x k.xa,hb,k.la,k.lr,k.ra,k.xa⟩
theorem BM.next {w0 u u':World} {r gx ga:Nat} {x:E5} {l:List Nat} (k:BM w0 r gx ga x l u) (hb:Below u.heap.size u u'):BM w0 r gx ga x l u' :=
 ⟨k.bel.trans (hb.mono k.bel.size),k.z.below hb k.z.lt,k.x.below hb k.x.lt,k.a.below hb k.a.lt,k.la,k.lr,k.ra,k.xa⟩
theorem BM.drew {w0 u:World} {r gx ga:Nat} {x:E5} {l:List Nat} (k:BM w0 r gx ga x l u):BM w0 r gx ga x l u.drew:=⟨k.bel.drew,k.z,k.x,k.a,k.la,k.lr,k.ra,k.xa⟩
theorem base_any (w:World):Calls Tryz.prog 30 #[] w (PtPost baseP w):=by
 have hu:=Tryz.underlying79;have hp:=Tryz.underlying81;have hua:=Tryz.underlying94;obtain ⟨X,hX⟩:=eX (knownE bxL);obtain ⟨Y,hY⟩:=eX (knownE byL);have okX:X.Ok:=by rw [hX]; exact qcz _
 have okY:Y.Ok:=by rw [hY]; exact qcz _
 have hbase:baseP=ofP X Y:=by rw [hX,hY]; rfl
 have CX:=zY (show ∀ u,Calls Tryz.prog 41 #[.agg (bnV bxL).toArray] u (ElemPost X u) from fun u=>by rw [hX]; exact bx_known u);have cy:∀ u,Calls Tryz.prog 41 #[.agg (bnV byL).toArray] u (ElemPost Y u):=fun u=>by rw [hY]; exact by_known u
 have hsz:(Tryz.prog.info? 94).map (·.size)=some (bnV byL).toArray.size:=by rw [qdx]; exact arr_size
 have HSZ:=zY hsz;have CY:=zY cy;have CO:=zY (fun u=>pof_any X Y okX okY u);have HBASE:=zY hbase;have HX0:=zY (Blk.new w 81 (ptV zP));have HB0:=zY (below_new w (.cells (ptV zP) 81));clear hX hY okX okY hbase cy hsz;go_enter Tryz.func30,Tryz.ntmps30;go_wp2_with fail;refine qab (CX.out _) ?_;rintro e w1 ⟨rfl,hb1⟩;have HX1:=zY (HX0.out.below hb1 HX0.out.lt);have HB1:=zY (HB0.out.trans (hb1.mono HB0.out.size));clear hb1 HX0 HB0
 go_wp2_with (first
  | (refine qad (x:=.tmp 1) (cells:=eV X) (Blk.new _ _ _) rfl rfl rfl rfl qah rfl (by simp [eV,wV,limbs,Value.oneCell']) ?_; intro w2 hb2 hw2; have hk2:=qcC hw2; have HE2:=zY hb2; have HX2:=zY (HX1.out.below hk2 HX1.out.lt); have HB2:=zY (HB1.out.trans (hk2.mono HB1.out.size)); clear hb2 hw2 hk2 HB1)
  | (refine qad (x:=.tmp 2) (cells:=(bnV (fillB 0)).toArray) (Blk.new _ _ _) rfl rfl rfl rfl arr_size0 rfl fillB_cells ?_; intro w3 hb3 hw3; have hk3:=qcC hw3; have HST:=zY (show BM w w.heap.size w1.heap.size w2.heap.size X (fillB 0) w3 from ⟨HB2.out.trans (hk3.mono HB2.out.size),HX2.out.below hk3 HX2.out.lt,HE2.out.below hk3 HE2.out.lt,hb3,HB2.out.size,Nat.le_refl _,Nat.ne_of_lt HX2.out.lt,Nat.ne_of_lt HE2.out.lt⟩); clear hb3 hw3 hk3 HB2 HX2 HE2))
 generalize w2.heap.size=ga at *;generalize w1.heap.size=gx at *;generalize w.heap.size=r at HST ⊢
 go_loopw [7] (fun i wr=>∃ k:Nat,k≤32∧i=.int .i64 k∧BM w r gx ga X (fillB k) wr) (fun i _=>32 - (intOf i).toNat)
 case atStart=>exact ⟨0,by omega,rfl,HST.out⟩
 case round =>
  clear HST;obtain ⟨k,hk,rfl,hst⟩:=hrel
  by_cases hlt:k<32
  ·have hlt':(k:Int)<32:=by omega
   have HST:=zY hst;clear hst;go_wp2_with (refine qam (x:=.tmp 11) (i:=k) (v:=.int .u8 102) HST.out.a rfl rfl rfl rfl qdY (by rw [qdx,fillB_len k (by omega)]; exact hlt) rfl ?_; intro w5 hb5 hw5; have hst5:=HST.out.put (l':=fillB (k+1)) hw5 (by rw [show (Value.int IntKind.u8 102)=.int .u8 ((102:Nat):Int) from rfl,qcm,fillB_set k hlt] at hb5; exact hb5); have HST5:=zY hst5; clear hst5 hb5 hw5);exact ⟨⟨k+1,by omega,by go_num,HST5.out⟩,by simp [intOf]; omega⟩
  ·obtain rfl:k=32:=by omega
   have HST:=zY hst;clear hst hlt hk;go_wp2_with (refine qam (x:=.tmp 13) (i:=31) (v:=.int .u8 88) HST.out.a rfl rfl rfl rfl qdY (by rw [qdx,fillB_len 32 (by omega)]; decide) rfl ?_; intro w5 hb5 hw5; have hst5:=HST.out.put (l':=byL) hw5 (by rw [show (Value.int IntKind.u8 88)=.int .u8 ((88:Nat):Int) from rfl,qcm,fillB_end] at hb5; exact hb5); have HST5:=zY hst5; clear hst5 hb5 hw5);have HC0:=HST5.out.drew;clear HST HST5;refine qal (fun u=>BM w r gx ga X byL u) (fun u=>Blk u r 81 (ptV (ofP X Y))∧Below w.heap.size w u) [(0,some 14),(1,some 15),(2,some 16),(3,some 17),(4,none)] (by kernel_rfl) (by kernel_rfl) (by decide) (by kernel_rfl) (fun _=>rfl) HC0 ?_;apply yN_
   ·apply dP [];exact fun _=>rfl;rfl;rintro vals - w1 hC1 E hE;simp only [sP] at hE ⊢;refine qac hC1.x rfl rfl rfl hu rfl qah ?_;go_wp2_with fail;exact .mk (hE _ hC1)
   apply yN_
   ·apply dP [];exact fun _=>rfl;rfl;rintro vals ⟨-,-⟩ w1 hC1 E hE;simp only [sP] at hE ⊢;refine qac hC1.a rfl rfl rfl hua rfl HSZ.out ?_;go_wp2_with fail;exact .mk (hE _ hC1)
   apply yN_
   ·apply dP [(1,some 15)];exact fun _=>rfl;rfl;intro vals vq w1 hC1 E hE;simp only [sP,vq] at hE ⊢;clear vq;go_wp2_with fail;refine qab (CY.out _) ?_;rintro e w2 ⟨rfl,hb2⟩;go_wp2_with fail;exact .mk (hE _ (hC1.next hb2))
   apply yN_
   ·apply dP [(0,some 14),(2,some 16),(2,some 16)];exact fun _=>rfl;rfl;intro vals vq w1 hC1 E hE;simp only [sP,vq] at hE ⊢;clear vq;go_wp2_with fail;refine qab (CO.out _) ?_;rintro e w2 ⟨rfl,hb2⟩;go_wp2_with fail;exact .mk (hE _ (hC1.next hb2))
   apply yL_ (v:=undef)
   ·apply dP [(3,some 17),(3,some 17),(0,some 14),(1,some 15),(2,some 16),(3,some 17)];exact fun _=>rfl;rfl;intro vals vq w1 hC1 E hE;simp only [sP,vq] at hE ⊢;clear vq;refine qad (cells:=ptV (ofP X Y)) hC1.z rfl rfl rfl rfl qaH rfl (by simp [ptV,wV,limbs,Value.oneCell']) ?_;intro w6 hb6 hw6;go_wp2_with fail;exact .mk (hE _ ⟨hb6,hw6.below hC1.bel hC1.lr hC1.bel.size⟩)
   intro vals vq w1 hC1;simp only [sP,vq];clear vq;clear HC0;go_wp2_with fail;refine bodyPost_ret (qau (P:=Tryz.prog) rfl rfl hC1.1 hp rfl qaH) rfl ⟨by rw [HBASE.out],hC1.2⟩
def Pr (p:Nat):Prop:=2≤p∧∀ d,d ∣ p→d=1∨d=p
theorem pr_ex:∀ n,2≤n→∃ r,Pr r∧r ∣ n:=fun n=>Nat.strongRecOn n fun n ih hn=>by
 by_cases h:∀ d,d ∣ n→d=1∨d=n
 ·exact ⟨n,⟨hn,h⟩,Nat.dvd_refl n⟩
 ·obtain ⟨d,hd⟩:=Classical.not_forall.1 h;obtain ⟨h1,h2⟩:=Classical.not_imp.1 hd;have h3:0<d:=Nat.pos_of_dvd_of_pos h1 (by omega);have h4:=Nat.le_of_dvd (by omega) h1;obtain ⟨r,hr,hrd⟩:=ih d (by omega) (by omega);exact ⟨r,hr,Nat.dvd_trans hrd h1⟩
theorem pr_cop {p a:Nat} (hp:Pr p) (h:¬ p ∣ a):Nat.gcd p a=1:=by
 rcases hp.2 _ (Nat.gcd_dvd_left p a) with h1 | h1
 ·exact h1
 ·exact absurd (h1▸Nat.gcd_dvd_right p a) h
theorem pr_dvd {p a b:Nat} (hp:Pr p) (h:p ∣ a*b):p ∣ a∨p ∣ b:=by
 by_cases ha:p ∣ a
 ·exact .inl ha
 ·exact .inr (Nat.Coprime.dvd_of_dvd_mul_left (pr_cop hp ha) h)
def ch:Nat→Nat→Nat
 | _,0=>1
 | 0,_+1=>0
 | n+1,k+1=>ch n k+ch n (k+1)
theorem ch_gt:∀ n k,n<k→ch n k=0
 | _,0,h=>absurd h (Nat.not_lt_zero _)
 | 0,_+1,_=>rfl
 | n+1,k+1,h=>by rw [ch,ch_gt n k (by omega),ch_gt n (k+1) (by omega)]
theorem ch_self:∀ n,ch n n=1
 | 0=>rfl
 | n+1=>by rw [ch,ch_self n,ch_gt n (n+1) (by omega)]
theorem ch_mul:∀ n k,(k+1)*ch (n+1) (k+1)=(n+1)*ch n k
 | 0,0=>rfl
 | 0,k+1=>by simp [ch]
 | n+1,0=>by
  have h:=ch_mul n 0;rw [ch,ch] at *;simp only [ch] at h ⊢;omega
 | n+1,k+1=>by
  have h1:=ch_mul n k;have h2:=ch_mul n (k+1);have e:ch (n+1+1) (k+1+1)=ch (n+1) (k+1)+ch (n+1) (k+1+1):=rfl;have e2:ch (n+1) (k+1)=ch n k+ch n (k+1):=rfl;rw [e,Nat.mul_add,h2];have e3:(k+1+1)*ch (n+1) (k+1)=(n+1)*ch n k+ch (n+1) (k+1):=by rw [Nat.add_mul,h1,Nat.one_mul]
  have e4:(n+1+1)*ch (n+1) (k+1)=(n+1)*ch n k+(n+1)*ch n (k+1)+ch (n+1) (k+1):=by
   rw [Nat.add_mul,Nat.one_mul]
   conv=>lhs; lhs; rw [e2]
   rw [Nat.mul_add]
  rw [e3,e4];omega
def bs (n a:Nat):Nat→Nat
 | 0=>0
 | k+1=>bs n a k+ch n k*a^k
theorem bs_step (n a:Nat):∀ k,bs (n+1) a (k+1)=bs n a (k+1)+a*bs n a k
 | 0=>by cases n <;> simp [bs,ch]
 | k+1=>by
  have ih:=bs_step n a k;have e1:bs (n+1) a (k+1+1)=bs (n+1) a (k+1)+(ch n k+ch n (k+1))*a^(k+1):=rfl;have e2:bs n a (k+1+1)=bs n a (k+1)+ch n (k+1)*a^(k+1):=rfl;have e3:bs n a (k+1)=bs n a k+ch n k*a^k:=rfl;have e4:a*(ch n k*a^k)=ch n k*a^(k+1):=by rw [Nat.pow_succ,Nat.mul_left_comm,Nat.mul_comm a]
  have e5:a*bs n a (k+1)=a*bs n a k+ch n k*a^(k+1):=by rw [e3,Nat.mul_add,e4]
  rw [e1,ih,e2,Nat.add_mul,e5];omega
theorem bs_pow (a:Nat):∀ n,(a+1)^n=bs n a (n+1)
 | 0=>by simp [bs,ch]
 | n+1=>by
  have ih:=bs_pow a n;have e:bs n a (n+1+1)=bs n a (n+1):=by rw [bs,ch_gt n (n+1) (by omega)]; simp
  rw [Nat.pow_succ,ih,bs_step,e,Nat.mul_add,Nat.mul_one,Nat.mul_comm];omega
theorem ch_dvd {p:Nat} (hp:Pr p) (k:Nat) (h1:0<k) (h2:k<p):p ∣ ch p k:=by
 obtain ⟨q,rfl⟩:∃ q,p=q+1:=⟨p - 1,by have:=hp.1; omega⟩;obtain ⟨j,rfl⟩:∃ j,k=j+1:=⟨k - 1,by omega⟩;have h:=ch_mul q j
 rcases pr_dvd hp (show q+1 ∣ (j+1)*ch (q+1) (j+1) from ⟨_,h⟩) with h3 | h3
 ·exact absurd (Nat.le_of_dvd (by omega) h3) (by omega)
 ·exact h3
theorem bs_mod {p:Nat} (hp:Pr p) (a:Nat):∀ k,k<p→bs p a (k+1)%p=1
 | 0,_=>by
  have h2:=hp.1;rw [bs,bs];simp only [ch,Nat.pow_zero];exact Nat.mod_eq_of_lt (by omega)
 | k+1,h=>by
  have ih:=bs_mod hp a k (by omega);obtain ⟨c,hc⟩:=ch_dvd hp (k+1) (by omega) h;have e:bs p a (k+1+1)=bs p a (k+1)+ch p (k+1)*a^(k+1):=rfl;rw [e,hc,Nat.mul_assoc,Nat.add_mul_mod_self_left];exact ih
theorem pow_succ_mod {p:Nat} (hp:Pr p) (a:Nat):(a+1)^p%p=(a^p+1)%p:=by
 have h2:=hp.1;obtain ⟨q,hq⟩:∃ q,p=q+1:=⟨p - 1,by omega⟩;have h:=bs_mod hp a q (by omega);rw [← hq] at h;have e:bs p a (p+1)=bs p a p+ch p p*a^p:=rfl;rw [bs_pow,e,ch_self,Nat.one_mul,Nat.add_mod,h,Nat.add_comm,← Nat.add_mod_mod,Nat.mod_eq_of_lt (show 1<p by omega),Nat.mod_add_mod]
theorem fermat0 {p:Nat} (hp:Pr p):∀ a,a^p%p=a%p
 | 0=>by rw [Nat.zero_pow (by have:=hp.1; omega)]
 | a+1=>by rw [pow_succ_mod hp,Nat.add_mod,fermat0 hp a,← Nat.add_mod]
theorem fermat {p:Nat} (hp:Pr p) (a:Nat) (h:¬ p ∣ a):a^(p - 1)%p=1:=by
 have h2:=hp.1;have h0:=fermat0 hp a;obtain ⟨q,rfl⟩:∃ q,p=q+1:=⟨p - 1,by omega⟩;rw [Nat.add_sub_cancel];have ha:0<a:=Nat.pos_of_ne_zero fun e=>h (e▸Nat.dvd_zero _);have hpos:0<a^q:=Nat.pow_pos ha
 have hd:q+1 ∣ a*(a^q - 1):=by
  have h1:=Nat.sub_mod_eq_zero_of_mod_eq h0;rw [Nat.pow_succ,Nat.mul_comm] at h1;rw [Nat.mul_sub,Nat.mul_one];exact Nat.dvd_of_mod_eq_zero h1
 rcases pr_dvd hp hd with h3 | h3
 ·exact absurd h3 h
 ·obtain ⟨c,hc⟩:=h3;rw [show a^q=1+(q+1)*c by omega,Nat.add_mul_mod_self_left];exact Nat.mod_eq_of_lt (by omega)
theorem pw_gcd {r c:Nat} (hr:2≤r):∀ m n,c^m%r=1→c^n%r=1→c^Nat.gcd m n%r=1:=fun m n=>by
 refine Nat.gcd.induction (P:=fun m n=>c^m%r=1→c^n%r=1→c^Nat.gcd m n%r=1) m n ?_ ?_
 ·intro n _ h;rw [Nat.gcd_zero_left]; exact h
 ·intro m n _ ih h1 h2;rw [Nat.gcd_rec];refine ih ?_ h1;have e:c^n=(c^m)^(n/m)*c^(n%m):=by rw [← Nat.pow_mul,← Nat.pow_add,Nat.div_add_mod]
  rw [e,Nat.mul_mod,Nat.pow_mod,h1,Nat.one_pow,Nat.mod_eq_of_lt (show 1<r by omega),Nat.one_mul,Nat.mod_mod] at h2;exact h2
theorem pock_dvd {q A N r:Nat} (hq:Pr q) (hN:N=q*A+1) (h1:2^(q*A)%N=1) (hg:Nat.gcd (2^A%N+(N - 1)) N=1) (hr:Pr r) (hd:r ∣ N):q ∣ r - 1:=by
 have hr2:=hr.1;have hq2:=hq.1;obtain ⟨c,hc⟩:=eX (2^A)
 have e1:c^q%r=1:=by
  rw [hc,← Nat.pow_mul,Nat.mul_comm,← Nat.mod_mod_of_dvd _ hd,h1,Nat.mod_eq_of_lt (by omega)]
 have hne:c%r≠1:=fun h=>by
  have h3:r ∣ 2^A%N+(N - 1):=by
   apply Nat.dvd_of_mod_eq_zero;have h5:2^A%N%r=1:=by rw [Nat.mod_mod_of_dvd _ hd,← hc]; exact h
   have h4:(1+(N - 1))%r=0:=by rw [show 1+(N - 1)=N by omega]; exact Nat.mod_eq_zero_of_dvd hd
   rw [← Nat.mod_add_mod,h5];exact h4
  have h5:=Nat.dvd_gcd h3 hd;rw [hg] at h5;have:=Nat.le_of_dvd (by omega) h5;omega
 have hnd:¬ r ∣ c:=fun h=>by
  have h3:c^q%r=0:=by rw [Nat.pow_mod,Nat.mod_eq_zero_of_dvd h,Nat.zero_pow (by omega)]; exact Nat.zero_mod r
  omega
 have e2:=fermat hr c hnd;apply Classical.byContradiction;intro hn;have h3:=pw_gcd hr2 q (r - 1) e1 e2;rw [pr_cop hq hn,Nat.pow_one] at h3;exact hne h3
theorem pock {q A N:Nat} (hq:Pr q) (hN:N=q*A+1) (hN2:2≤N) (h1:2^(q*A)%N=1) (hg:Nat.gcd (2^A%N+(N - 1)) N=1) (hB:A/q=0∨A/q+1<A%q):Pr N:=by
 have hq2:=hq.1;obtain ⟨r,hr,hd⟩:=pr_ex N hN2;obtain ⟨s,hs⟩:=pock_dvd hq hN h1 hg hr hd;have hr2:=hr.1;have hrs:r=q*s+1:=by omega
 obtain ⟨m,hm⟩:=hd
 have e:q*A+1=q*(s*m)+m:=by
  rw [← hN,hm,hrs,Nat.add_mul,Nat.one_mul,Nat.mul_assoc]
 have hle:s*m≤A:=by
  apply Nat.le_of_not_lt;intro h;have h2:q*(A+1)≤q*(s*m):=Nat.mul_le_mul_left q h;rw [Nat.mul_add] at h2;omega
 obtain ⟨t,ht⟩:∃ t,A=s*m+t:=⟨A - s*m,by omega⟩;have hmt:m=q*t+1:=by rw [ht,Nat.mul_add] at e; omega
 by_cases ht0:t=0
 ·rw [ht0,Nat.mul_zero,Nat.zero_add] at hmt;rw [hm,hmt,Nat.mul_one]; exact hr
 ·exfalso
  have hs0:s≠0:=fun h=>by rw [h,Nat.mul_zero] at hrs; omega
  have eA:A=(s+t)+q*(s*t):=by
   rw [ht,hmt,Nat.mul_add,Nat.mul_one,Nat.mul_left_comm]; omega
  have hst:s+t≤s*t+1:=by
   obtain ⟨s',rfl⟩:∃ s',s=s'+1:=⟨s - 1,by omega⟩;obtain ⟨t',rfl⟩:∃ t',t=t'+1:=⟨t - 1,by omega⟩;rw [Nat.add_mul,Nat.mul_add];omega
  have hpos:0<s*t:=Nat.mul_pos (Nat.pos_of_ne_zero hs0) (Nat.pos_of_ne_zero ht0);have hdiv:A/q=(s+t)/q+s*t:=by rw [eA,Nat.add_mul_div_left _ _ (by omega)]
  have hmod:A%q=(s+t)%q:=by rw [eA,Nat.add_mul_mod_self_left]
  have hlt:A%q<q:=Nat.mod_lt _ (by omega);generalize (s+t)/q=z1 at hdiv;generalize A/q=z2 at hdiv hB;generalize A%q=z3 at hmod hB hlt;generalize s*t=z4 at hst hpos hdiv
  rcases hB with h | h
  ·omega
  ·have h3:s+t<q:=by omega
   rw [Nat.mod_eq_of_lt h3] at hmod;omega
theorem pr_trial (n k:Nat) (h2:2≤n) (hk:n<k*k) (h:∀ d,d<k→2≤d→n%d≠0):Pr n:=by
 refine ⟨h2,fun d hd=>?_⟩;apply Classical.byContradiction;intro hn;obtain ⟨e,he⟩:=hd;have hd0:d≠0:=fun h=>by rw [h,Nat.zero_mul] at he; omega
 have hd1:d≠1:=fun h=>hn (.inl h);have he0:e≠0:=fun h=>by rw [h,Nat.mul_zero] at he; omega
 have he1:e≠1:=fun h=>hn (.inr (by rw [he,h,Nat.mul_one]))
 by_cases hdk:d<k
 ·exact h d hdk (by omega) (by rw [he]; exact Nat.mul_mod_right d e)
 ·by_cases hek:e<k
  ·exact h e hek (by omega) (by rw [he]; exact Nat.mul_mod_left d e)
  ·have:=Nat.mul_le_mul (Nat.le_of_not_lt hdk) (Nat.le_of_not_lt hek);omega
theorem two_pow {N E:Nat} (k:Nat) (hk:E<256^k):2^E%N=pm N 2 ((List.range k).map fun j=>E/256^j%256):=by
 rw [pm_eq,leV_mod,Nat.mod_eq_of_lt hk]
theorem pockD {q A N:Nat} (k l:Nat) (hq:Pr q) (hN:N=q*A+1) (hN2:2≤N) (hk:N<256^k) (hl:A<256^l) (h1:pm N 2 ((List.range k).map fun j=>(N - 1)/256^j%256)=1) (hg:Nat.gcd (pm N 2 ((List.range l).map fun j=>A/256^j%256)+(N - 1)) N=1) (hB:A/q=0∨A/q+1<A%q):Pr N:=by
 refine pock hq hN hN2 ?_ ?_ hB
 ·rw [show q*A=N - 1 by omega,two_pow k (by omega)]; exact h1
 ·rw [two_pow l hl]; exact hg
theorem prime1:Pr 991:=pr_trial 991 32 (by decide) (by decide) (by decide)
theorem prime2:Pr 8574133:=pockD (A:=8652) 3 3 prime1 (by decide) (by decide) (by decide) (by decide) (by decide) (by decide) (by decide)
theorem prime3:Pr 1919519569386763:=pockD (A:=223873314) 7 4 prime2 (by decide) (by decide) (by decide) (by decide) (by decide) (by decide) (by decide)
theorem prime4:Pr 75445702479781427272750846543864801:=pockD (A:=39304471641247389600) 15 9 prime3 (by decide) (by decide) (by decide) (by decide) (by decide) (by decide) (by decide)
theorem prime5:Pr 74058212732561358302231226437062788676166966415465897661863160754340907:=pockD (A:=981609426360740691344999861639072106) 30 15 prime4 (by decide) (by decide) (by decide) (by decide) (by decide) (by decide) (by decide)
theorem prime6:Pr PN:=pockD (A:=781764) 32 3 prime5 (by decide) (by decide) (by decide) (by decide) (by decide) (by decide) (by decide)
theorem fermatP (a:Nat) (h:a%PN≠0):a^(PN - 1)%PN=1:=fermat prime6 a fun hd=>h (Nat.mod_eq_zero_of_dvd hd)
structure PtN where
 x:Nat
 y:Nat
 z:Nat
 t:Nat
deriving DecidableEq
def sN (a b:Nat):Nat:=(a+b)%PN
def uN (a b:Nat):Nat:=(a+(PN - b%PN))%PN
def mN (a b:Nat):Nat:=a*b%PN
theorem uN_sm (a b:Nat):Sm (uN a b+b) a:=by
 unfold Sm uN;simp only [PN];omega
def Rp (x:E5) (n:Nat):Prop:=Sm x.val n
theorem Rp.add {x y:E5} {a b:Nat} (h:Rp x a) (k:Rp y b):Rp (addE x y) (sN a b):=(sm_add x y).trans (Sm.trans (Sm.add h k) (show Sm (a+b) (sN a b) from (Nat.mod_mod _ _).symm))
theorem Rp.mul {x y:E5} {a b:Nat} (h:Rp x a) (k:Rp y b):Rp (mulE x y) (mN a b):=(sm_mul x y).trans (Sm.trans (Sm.mul h k) (show Sm (a*b) (mN a b) from (Nat.mod_mod _ _).symm))
theorem Rp.sub {x y:E5} {a b:Nat} (hy:y.Ok) (h:Rp x a) (k:Rp y b):Rp (subE x y) (uN a b):=by
 refine Sm.back (c:=b) ?_;exact (((Sm.refl _).add k.symm).trans (sm_sub hy)).trans (h.trans (uN_sm a b).symm)
def sumN (p q:PtN) (w:Nat):PtN :=
 let a:=mN (uN p.y p.x) (uN q.y q.x)
 let b:=mN (sN p.y p.x) (sN q.y q.x)
 let c:=mN (mN p.t w) q.t
 let z:=mN p.z q.z
 let e:=uN b a
 let h:=sN b a
 let f:=uN (sN z z) c
 let g:=sN (sN z z) c
 ⟨mN e f,mN g h,mN f g,mN e h⟩
structure Rep (p:Pt4) (n:PtN):Prop where
 x:Rp p.x n.x
 y:Rp p.y n.y
 z:Rp p.z n.z
 t:Rp p.t n.t
theorem Rep.sum {p q:Pt4} {tw:E5} {m n:PtN} {w:Nat} (hp:p.Ok) (hq:q.Ok) (hw:tw.Ok) (h:Rep p m) (k:Rep q n) (l:Rp tw w):Rep (sumP p q tw) (sumN m n w):=by
 have okA:=qba (qbR hp.y hp.x) (qbR hq.y hq.x);have okC:=qba (qba hp.t hw) hq.t;have a:=(h.y.sub hp.x h.x).mul (k.y.sub hq.x k.x);have b:=(h.y.add h.x).mul (k.y.add k.x);have c:=(h.t.mul l).mul k.t;have z:=h.z.mul k.z;have e:=b.sub okA a;have hh:=b.add a;have f:=(z.add z).sub okC c;have g:=(z.add z).add c;exact ⟨e.mul f,g.mul hh,f.mul g,e.mul hh⟩
def dN:Nat:=37095705934669439343138083508754565189542113879843219016388785533085940283555
def bxN:Nat:=15112221349535400772501151409588531511454012693041857206046113283949847762202
def byNN:Nat:=46316835694926478169428394003475163141307993866256225615783033603165251855960
theorem qeo {l:List Nat} {n:Nat} (h1:mayR (toB (revS l 16))=true) (h2:leV (digs (toB (revS l 16)))=n) (h3:n<2^255):(knownE l).val=n:=by
 rw [knownE,readE,if_pos h1,ofN_val,h2,Nat.mod_eq_of_lt h3]
theorem dE_val:dE.val=dN:=qeo (by decide) (by decide) (by decide)
theorem bx_val:(knownE bxL).val=bxN:=qeo (by decide) (by decide) (by decide)
theorem by_val:(knownE byL).val=byNN:=qeo (by decide) (by decide) (by decide)
def pmSN (T:Nat) (p out:PtN) (bit:Nat):PtN:=if bit=1 then sumN (sumN out out T) p T else sumN out out T
def pmBN (T:Nat) (p out:PtN) (b:Nat):Nat→PtN
 | 0=>out
 | j+1=>pmSN T p (pmBN T p out b j) (b/2^(7 - j)%2)
def zeroN:PtN:=⟨0,1,1,0⟩
def pmLN (T:Nat) (p:PtN) (l:List Nat):Nat→PtN
 | 0=>zeroN
 | j+1=>pmBN T p (pmLN T p l j) (l.getD (l.length - 1 - j) 0) 8
def d2N:Nat:=sN dN dN
def mulN (p:PtN) (l:List UInt8):PtN:=pmLN d2N p (digs (l.take 32)) (min l.length 32)
def DN (v:Nat):List Value:=dV (digN 32 v)
def NumPost (v:Nat) (w:World) (e:Ending) (w':World):Prop:=∃ A c,e=.returned (.slice A 32 c)∧32≤c∧Rd w' w'.heap.size A (DN v)∧Below w.heap.size w w'
theorem qeg {v:Nat} {w:World} {e:Ending} {w':World} (h:DigPost (digN 32 v) w e w'):NumPost v w e w':=by
 obtain ⟨A,c,h1,h2,h3,h4⟩:=h;rw [qaj] at h1 h2;exact ⟨A,c,h1,h2,h3,h4⟩
theorem qea:0<PN:=by decide
theorem pn_big:PN<256^32:=by decide
theorem lev_n {a:Nat} (h:a<PN):leV (digN 32 a)=a:=qbk 32 a (Nat.lt_trans h pn_big)
theorem nmul {a b:Nat} (ha:a<PN) (hb:b<PN) {A B:Option Addr} {c d:Nat} {u:World} (h:Rd u u.heap.size A (DN a)) (k:Rd u u.heap.size B (DN b)) :
  Calls Tryz.prog 60 #[.slice A 32 c,.slice B 32 d] u (NumPost (a*b%PN) u):=by
 have e:=rmul_any (digN 32 a) (digN 32 b) (qa0 _ _) (qa0 _ _) A B c d u h k (by rw [qaj]; decide) (by rw [qaj]; decide);rw [lev_n ha,lev_n hb,qaj,qaj] at e;exact e.mono fun _ _ h=>qeg h
theorem nadd {a b:Nat} (ha:a<PN) (hb:b<PN) {A B:Option Addr} {c d:Nat} {u:World} (h:Rd u u.heap.size A (DN a)) (k:Rd u u.heap.size B (DN b)) :
  Calls Tryz.prog 83 #[.slice A 32 c,.slice B 32 d] u (NumPost ((a+b)%PN) u):=by
 have e:=radd_any (digN 32 a) (digN 32 b) (qa0 _ _) (qa0 _ _) A B c d u h k (by rw [qaj]; decide) (by rw [qaj]; decide);rw [lev_n ha,lev_n hb,qaj,qaj] at e;exact e.mono fun _ _ h=>qeg h
theorem nsub {a b:Nat} (ha:a<PN) (hb:b<PN) {A B:Option Addr} {c d:Nat} {u:World} (h:Rd u u.heap.size A (DN a)) (k:Rd u u.heap.size B (DN b)) :
  Calls Tryz.prog 82 #[.slice A 32 c,.slice B 32 d] u (NumPost ((a+PN - b)%PN) u):=by
 have e:=rsub_any (digN 32 a) (digN 32 b) (qa0 _ _) (qa0 _ _) (by rw [lev_n ha,lev_n hb]; omega) A B c d u h k (by rw [qaj]; decide) (by rw [qaj]; decide);rw [lev_n ha,lev_n hb,qaj,qaj] at e;exact e.mono fun _ _ h=>qeg h
theorem ninv {a:Nat} (ha:a<PN) {A:Option Addr} {c:Nat} {u:World} (h:Rd u u.heap.size A (DN a)) :
  Calls Tryz.prog 59 #[.slice A 32 c] u (NumPost (a^(PN - 2)%PN) u):=by
 have e:=rinv_any (digN 32 a) (qa0 _ _) A c u h (by rw [qaj]; decide);rw [lev_n ha,qaj] at e;exact e.mono fun _ _ h=>qeg h
theorem npow {a:Nat} {e:List Nat} (ha:a<PN) (he:Dg e) (hl:e.length=32) {A B:Option Addr} {c d:Nat} {u:World} (h:Rd u u.heap.size A (DN a)) (k:Rd u u.heap.size B (dV e)) :
  Calls Tryz.prog 84 #[.slice A 32 c,.slice B 32 d] u (NumPost (a^leV e%PN) u):=by
 have q:=rpow_any (digN 32 a) e (qa0 _ _) he A B c d u h k (by rw [qaj]; decide) (by rw [hl]; decide);rw [lev_n ha,qaj,hl] at q;exact q.mono fun _ _ h=>qeg h
theorem nint (N:Nat) (hN:N<1000000) (u:World):Calls Tryz.prog 57 #[.int .i64 (N:Int)] u (NumPost N u):=by
 have q:=rint_nat N (by omega) u;rw [Nat.mod_eq_of_lt (Nat.lt_of_lt_of_le hN (show 1000000≤PN by decide))] at q;exact q.mono fun _ _ h=>qeg h
theorem nneg (N:Nat) (hN:N<1000000) (h0:0<N) (u:World):Calls Tryz.prog 57 #[.int .i64 (-(N:Int))] u (NumPost (PN - N) u):=by
 have q:=rint_neg N (by omega) h0 u;have hP:1000000≤PN:=by decide
 rw [Nat.mod_eq_of_lt (Nat.lt_of_lt_of_le hN hP),Nat.mod_eq_of_lt (by omega)] at q;exact q.mono fun _ _ h=>qeg h
theorem nsame {a b:Nat} (ha:a<PN) (hb:b<PN) {A B:Option Addr} {c d:Nat} {u:World} (h:Rd u u.heap.size A (DN a)) (k:Rd u u.heap.size B (DN b)) (hc:32≤c) (hd:32≤d) :
  Calls Tryz.prog 89 #[.slice A 32 c,.slice B 32 d] u (BoolPost (decide (a=b)) u):=by
 have q:=same_any (digN 32 a) (digN 32 b) (qa0 _ _) (qa0 _ _) (qaj _ _) (qaj _ _) A B c d u h k hc hd
 have e:(refB (digN 32 a) == refB (digN 32 b))=decide (a=b):=by
  rw [refB_dig,refB_dig,Bool.eq_iff_iff,beq_iff_eq,decide_eq_true_iff]
  constructor
  ·intro h;have h1:digs (byB a)=digs (byB b):=by rw [h]
   rw [qdf,qdf] at h1;exact byN_inj (Nat.lt_trans ha pn_big) (Nat.lt_trans hb pn_big) h1
  ·rintro rfl; rfl
 rw [e] at q;exact q
theorem qag {A:Option Addr} {xs:List Value} {u u':World} (h:Rd u u.heap.size A xs) (hb:Below u.heap.size u u'):Rd u' u'.heap.size A xs:=(h.below hb).mono hb.size
theorem d_num:(PN - 121665)*(121666^(PN - 2)%PN)%PN=dN:=by
 rw [← qdS,← pm_eq]
 decide
theorem nd_any (w:World):Calls Tryz.prog 56 #[] w (NumPost dN w):=by
 obtain ⟨a,ha⟩:=eX (PN - 121665);obtain ⟨i,hi⟩:=eX (121666^(PN - 2)%PN);have la:a<PN:=by rw [ha]; decide
 have li:i<PN:=by rw [hi]; exact Nat.mod_lt _ qea
 have e:a*i%PN=dN:=by rw [ha,hi]; exact d_num
 have C1:=zY (show ∀ u,Calls Tryz.prog 57 #[.int .i64 (-121665)] u (NumPost a u) from fun u=>by rw [ha]; exact nneg 121665 (by decide) (by decide) u);have C2:=zY (show ∀ u,Calls Tryz.prog 57 #[.int .i64 121666] u (NumPost 121666 u) from fun u=>nint 121666 (by decide) u);have C3:=zY (show ∀ u A c,Rd u u.heap.size A (DN 121666)→Calls Tryz.prog 59 #[.slice A 32 c] u (NumPost i u) from fun u A c h=>by rw [hi]; exact ninv (by decide) h);have C4:=zY (show ∀ u A c B d,Rd u u.heap.size A (DN a)→Rd u u.heap.size B (DN i)→Calls Tryz.prog 60 #[.slice A 32 c,.slice B 32 d] u (NumPost dN u) from fun u A c B d h k=>by rw [← e]; exact nmul la li h k);clear ha hi la li e;generalize dN=D at *;go_enter Tryz.func56,Tryz.ntmps56;go_wp2_with fail;refine qab (C1.out _) ?_;rintro e w1 ⟨A1,c1,rfl,hc1,hr1,hb1⟩;have H1:=zY hr1;have HB1:=zY hb1;clear hr1 hb1 hc1;go_wp2_with fail;refine qab (C2.out _) ?_;rintro e w2 ⟨A2,c2,rfl,hc2,hr2,hb2⟩;have H1:=zY (qag H1.out hb2);have H2:=zY hr2;have HB2:=zY (HB1.out.trans (hb2.mono HB1.out.size));clear hr2 hb2 hc2 HB1;go_wp2_with fail;refine qab (C3.out _ _ _ H2.out) ?_;rintro e w3 ⟨A3,c3,rfl,hc3,hr3,hb3⟩;have H1:=zY (qag H1.out hb3);have H3:=zY hr3;have HB3:=zY (HB2.out.trans (hb3.mono HB2.out.size));clear hr3 hb3 hc3 HB2;go_wp2_with fail;refine qab (C4.out _ _ _ _ _ H1.out H3.out) ?_;rintro e w4 ⟨A4,c4,rfl,hc4,hr4,hb4⟩;have H4:=zY hr4;have HB4:=zY (HB3.out.trans (hb4.mono HB3.out.size));have HC4:=zY hc4;clear hr4 hb4 hc4 HB3 H1 H2 H3;go_wp2_with fail;go_ret;exact ⟨A4,c4,rfl,HC4.out,H4.out,HB4.out⟩
structure Segs (w:World) (bs:List (List UInt8)) (vs:List Value):Prop where
 len:vs.length=bs.length
 at_:∀ (i:Nat) (b:List UInt8),bs[i]?=some b→∃ A c,vs[i]?=some (Value.slice A b.length c)∧Rd w w.heap.size A (bytesV b)
def catL (bs:List (List UInt8)) (k:Nat):List UInt8:=(bs.take k).flatten
theorem catL_next {bs:List (List UInt8)} {k:Nat} (h:k<bs.length):catL bs (k+1)=catL bs k++bs[k]:=by
 rw [catL,catL,List.take_add_one,List.getElem?_eq_getElem h,List.flatten_append];simp
theorem catL_le (bs:List (List UInt8)):∀ k,(catL bs k).length≤bs.flatten.length:=fun k=>by
 have h:=congrArg (fun l=>(List.flatten l).length) (List.take_append_drop k bs);simp only [List.flatten_append,List.length_append] at h;unfold catL;omega
theorem catL_all (bs:List (List UInt8)):catL bs bs.length=bs.flatten:=by rw [catL,List.take_length]
theorem bytesV_one1 (b:List UInt8):∀ u ∈ bytesV b,u.oneCell'=true:=fun u h=>by
 rw [bytesV] at h;obtain ⟨x,_,rfl⟩:=List.mem_map.1 h;rfl
theorem concat_any (bs:List (List UInt8)) (vs:List Value) (o:Nat) (w:World) (hs:Segs w bs vs) (hb:Blk w o 23 vs.toArray) (hl:bs.flatten.length≤40000) (hn:bs.length≤4) :
  Calls Tryz.prog 63 #[.slice (some ⟨o,0,none⟩) bs.length bs.length] w (OwnPost 5 bs.flatten.length (bytesV bs.flatten) w):=by
 obtain ⟨n,hn0⟩:=eX (bs.length);rw [← hn0] at hn ⊢;have hn63:(n:Int)≤4:=by omega
 obtain ⟨z,hz⟩:=eX (bs.flatten.length);have hz63:(z:Int)≤40000:=by omega
 have hcat:∀ k,(catL bs k).length≤z:=fun k=>by rw [hz]; exact catL_le bs k
 have hcell:∀ k,k<n→∃ b A c,bs[k]?=some b∧Rd w w.heap.size A (bytesV b)∧(w.cell? ⟨o,k,none⟩=some (Value.slice A b.length c)):=fun k hk=>by
  have hk':k<bs.length:=by rw [← hn0]; exact hk
  obtain ⟨A,c,h1,h2⟩:=hs.at_ k _ (List.getElem?_eq_getElem hk');exact ⟨_,A,c,List.getElem?_eq_getElem hk',h2,by rw [hb.cell,List.getElem?_toArray,h1]⟩
 have HC:=zY hcell;have HK:=zY hcat;have HN:=zY hn0;have HZ:=zY hz;have HO:=zY hb.lt;rw [← hz];clear hcell hcat hn0 hs hb hl hz hn;go_enter Tryz.func63,Tryz.ntmps63;go_wp2_with fail
 go_loopw [3,11] (fun s i wr=>∃ k:Nat,k≤n∧s=.int .i64 (((catL bs k).length:Nat):Int)∧i=.int .i64 (k:Int)∧w=wr) (fun _ i _=>n - (intOf i).toNat)
 case atStart=>exact ⟨0,by omega,rfl,rfl,rfl⟩
 case round =>
  obtain ⟨k,hk,rfl,rfl,rfl⟩:=hrel
  by_cases hlt:k<n
  ·have hlt':(k:Int)<(n:Int):=by omega
   obtain ⟨b,A,c,hbk,hrd,hce⟩:=HC.out k hlt
   have hnx:catL bs (k+1)=catL bs k++b:=by
    have hk':k<bs.length:=by rw [← HN.out]; exact hlt
    rw [List.getElem?_eq_getElem hk'] at hbk;rw [catL_next hk',Option.some.inj hbk]
   have h1:=HK.out k;have h2:=HK.out (k+1);have h3:(catL bs (k+1)).length=(catL bs k).length+b.length:=by rw [hnx,List.length_append]
   obtain ⟨s,hs⟩:=eX ((catL bs k).length);obtain ⟨s2,hs2⟩:=eX ((catL bs (k+1)).length);obtain ⟨m,hm⟩:=eX (b.length);rw [← hs] at h1 h3 ⊢;rw [← hs2] at h2 h3;rw [← hm] at h3 hce;have hs1':(s:Int)≤40000:=by omega
   have hs2':(s:Int)+m=s2:=by omega
   have hs3':(s2:Int)≤40000:=by omega
   have hm':(m:Int)≤40000:=by omega
   have HS2:=zY hs2;clear h1 h2 h3 hs hs2 hm hbk hrd hnx;go_wp2_with fail;refine ⟨⟨k+1,by omega,?_,by go_num,trivial⟩,by simp [intOf]; omega⟩;rw [← HS2.out]
  ·obtain rfl:k=n:=by omega
   have hzz:(catL bs k).length=z:=by rw [HN.out,catL_all,HZ.out]
   rw [hzz];have HG:=zY (grow_any z (by omega) w);clear hlt hk;go_wp2_with fail;refine qab HG.out ?_;rintro e w1 ⟨A1,c1,rfl,ho1,hb1⟩;have HO1:=zY ho1;have HB1:=zY hb1;clear ho1 hb1;go_wp2_with fail
   go_loopw [6,27] (fun v i wr=>∃ (j:Nat) (A2:Option Addr) (c2:Nat),j≤k∧i=.int .i64 (j:Int)∧v=.slice A2 (catL bs j).length c2∧OwnX wr w.heap.size 5 1 (.slice A2 (catL bs j).length c2) (catL bs j).length (bytesV (catL bs j))∧Below w.heap.size w wr) (fun _ i _=>k - (intOf i).toNat)
   case atStart=>exact ⟨0,A1,c1,by omega,rfl,rfl,OwnX.of HO1.out,HB1.out⟩
   case round =>
    clear HO1 HB1;obtain ⟨j,A2,c2,hj,rfl,rfl,hown,hbel⟩:=hrel
    by_cases hlt:j<k
    ·have hlt':(j:Int)<(k:Int):=by omega
     obtain ⟨b,A,c,hbk,hrd,hce⟩:=HC.out j hlt
     have hnx:catL bs (j+1)=catL bs j++b:=by
      have hk':j<bs.length:=by rw [← HN.out]; exact hlt
      rw [List.getElem?_eq_getElem hk'] at hbk;rw [catL_next hk',Option.some.inj hbk]
     have h1:=HK.out j;have h2:=HK.out (j+1);have h3:(catL bs (j+1)).length=(catL bs j).length+b.length:=by rw [hnx,List.length_append]
     have hbv:bytesV (catL bs (j+1))=bytesV (catL bs j)++bytesV b:=by rw [hnx,qaT]
     have hbl:(bytesV b).length=b.length*1:=by rw [qap,Nat.mul_one]
     have h1v:=bytesV_one1 b;have hce2:wr.cell? ⟨o,j,none⟩=some (Value.slice A b.length c):=(hbel.cell HO.out).trans hce;have hcap:=(qcj hown).1;obtain ⟨s,hs⟩:=eX ((catL bs j).length);obtain ⟨m,hm⟩:=eX (b.length);rw [← hs] at h1 h3 hown ⊢;rw [← hm] at h3 hce2 hbl;have hs1':s≤40000:=by omega
     have hm':m≤40000:=by omega
     have HOWN:=zY hown;have HBEL:=zY hbel;have HBV:=zY hbv;have HBL:=zY hbl;have H1V:=zY h1v;have HRD:=zY (hrd.below hbel);have H3:=zY h3;clear h1 h2 h3 hs hm hbk hrd hnx hown hbel hbv hbl h1v hce hcap;go_wp2_with (refine qaz sl_bytes rfl rfl HOWN.out rfl rfl HBL.out HRD.out H1V.out (by unfold maxLen; omega) (by omega) HBEL.out.size ?_; intro A3 c3 w3 hown3 hg3 hn3; have HOWN3:=zY hown3; have HB3:Hid (Below w.heap.size w w3):=zY (qbE HBEL.out HOWN.out HBEL.out.size hg3); clear hown3 hg3 hn3);refine ⟨⟨j+1,A3,c3,by omega,by go_num,by rw [H3.out],?_,HB3.out⟩,by simp [intOf]; omega⟩;rw [H3.out,HBV.out];exact HOWN3.out
    ·obtain rfl:j=k:=by omega
     have hzz:(catL bs j).length=z:=by rw [HN.out,catL_all,HZ.out]
     rw [hzz] at hown ⊢;have hall:catL bs j=bs.flatten:=by rw [HN.out,catL_all]
     rw [hall] at hown;have HOWN:=zY hown;have HBEL:=zY hbel;clear hown hbel;go_wp2_with fail;go_ret;exact ⟨A2,c2,rfl,HOWN.out,HBEL.out⟩
def OwnZ (w:World) (base:Nat) (e:TypeId) (size:Nat) (v:Value) (n:Nat) (xs:List Value):Prop:=w.ownsRow base e size v n xs
theorem OwnZ.x {w:World} {base:Nat} {e:TypeId} {size:Nat} {v:Value} {n:Nat} {xs:List Value} (h:OwnZ w base e size v n xs):OwnX w base e size v n xs:=.of h
theorem OwnZ.nil (w:World) (base e size:Nat):OwnZ w base e size (.slice none 0 0) 0 []:=⟨by simp,.inl ⟨rfl,rfl⟩⟩
theorem OwnZ.blk {w:World} {base:Nat} {e:TypeId} {n c:Nat} {A:Option Addr} {xs:List Value} (h:OwnZ w base e 1 (.slice A n c) n xs) (hn:0<n):∃ g ys,A=some ⟨g,0,none⟩∧base≤g∧n≤c∧Blk w g e (xs++ys).toArray:=by
 rcases h.2 with ⟨_,h0⟩ | ⟨g,cap,cur,h1,h2,h3,h4,h5,h6,h7⟩
 ·omega
 ·injection h1 with e1 e2 e3
  subst e3;refine ⟨g,cur.toList.drop (n*1),e1,h2,h4,?_⟩;rw [← h7,List.take_append_drop];exact h3
theorem Rd.front {w:World} {B:Nat} {A:Option Addr} {xs ys:List Value} (h:Rd w B A (xs++ys)):Rd w B A xs:=fun i u hi=>by
 have hlt:i<xs.length:=(List.getElem?_eq_some_iff.1 hi).1;exact h i u (by rw [List.getElem?_append_left hlt]; exact hi)
theorem set_front {xs ys:List Value} {i:Nat} {v:Value} (h:i<xs.length):(xs++ys).toArray.setIfInBounds i v=(xs.set i v++ys).toArray:=by
 rw [List.setIfInBounds_toArray,List.set_append_left _ _ h]
def OwnPostZ (e0:TypeId) (n:Nat) (xs:List Value) (w:World) (e:Ending) (w':World):Prop :=
 ∃ A c,e=.returned (.slice A n c)∧OwnZ w' w.heap.size e0 1 (.slice A n c) n xs∧Below w.heap.size w w'
theorem qb5 {P:Program} {w0:World} {y:Value} {ops:Array Oper} {rest:List Oper} {o:Oper} {a:Act} {Q:Exit→Act→World→Prop} {s x:Operand} {t e:TypeId} {bytes:Nat} (T:SlT P t e 1 bytes)
  (hgd:o.guard=none) (ho:o.op=.call { callee:=.builtin .append,args:=#[s,x],argTypes:=#[t,t] })
  {base n:Nat} {v:Value} {xs:List Value} {ad:Nat} (hown:OwnZ w0 base e 1 v n xs) (hs:a.eval s=v) (hx:a.eval x=.slice (some ⟨ad,0,none⟩) 1 1) (had:ad=w0.heap.size)
  (hy:y.oneCell'=true)
  (h63:n+1≤maxLen) (hbytes:(n+1)*bytes≤140737488355328) (hbase:base≤w0.heap.size)
  (h:∀ A c w',OwnZ w' base e 1 (.slice A (n+1) c) (n+1) (xs++[y])→w0.grownBy w' v.ownBlock→Next w0 v (.slice A (n+1) c)→wpList P ops Q rest (a.put o.dst (.slice A (n+1) c)) w') :
  wpList P ops Q (o :: rest) a (w0.alloc (.cells #[y] e)):=by
 subst had;obtain ⟨i,z,hi,hz,hsz,hby,hzs⟩:=T.info
 have hown1:(w0.alloc (.cells #[y] e)).ownsRow base e 1 v n xs:=by
  refine ⟨hown.1,?_⟩
  rcases hown.2 with h0 | ⟨g,cap,cur,h1,h2,h3,h4⟩
  ·exact .inl h0
  ·exact .inr ⟨g,cap,cur,h1,h2,(Below.heap_alloc w0 _ g (Array.getElem?_eq_some_iff.1 h3).1).trans h3,h4⟩
 obtain ⟨v',w',hr,h2,h3,_,h5⟩:=run_append_own_at (P:=P) (w0.alloc (.cells #[y] e)) base t o.type e i z 1 bytes T.und hi hz hsz hby hzs T.pos v n xs hown1 ⟨w0.heap.size,0,none⟩ 1 1 [y] rfl (fun j u hu=>cell_one_new _ _ _ j u hu)
  (by intro u hu; simp at hu; subst hu; exact hy) h63 hbytes (by simp; omega)
 have hn:Next (w0.alloc (.cells #[y] e)) v v':=by
  rcases h5 with h5 | h5
  ·exact .inl h5
  ·exact .inr fun k hk=>by rw [h5] at hk; simp at hk; simp; omega
 rcases h2.2 with ⟨_,h0⟩ | ⟨g,cap,cur,rfl,_⟩
 ·omega
 ·refine qaU (R:=fun v1 w1=>v1=.slice (some ⟨g,0,none⟩) (n+1) cap∧w1=w') hgd ho hs hx ⟨_,_,hr,rfl,rfl⟩ ?_;rintro v1 w1 ⟨rfl,rfl⟩;exact h _ _ _ h2 ((World.grownBy_alloc w0 _ _).trans h3) (hn.back (by simp))
theorem qdo {P:Program} {w:World} {ops:Array Oper} {rest:List Oper} {o:Oper} {a:Act} {Q:Exit→Act→World→Prop} {sl x:Operand} {t e:TypeId} {bytes:Nat} (T:SlT P t e 1 bytes)
  (hgd:o.guard=none) (ho:o.op=.call { callee:=.builtin .append,args:=#[sl,x],argTypes:=#[t,t] })
  {base n B:Nat} {v:Value} {xs:List Value} {ad:Addr} {m cx:Nat} {news:List Value} (hown:OwnZ w base e 1 v n xs) (hs:a.eval sl=v) (hx:a.eval x=.slice (some ad) m cx)
  (hl:news.length=m*1) (hm:0<m) (hr:Rd w B (some ad) news) (h1:∀ u ∈ news,u.oneCell'=true)
  (h63:n+m≤maxLen) (hbytes:(n+m)*bytes≤140737488355328) (hbase:base≤w.heap.size)
  (h:∀ A c w',OwnZ w' base e 1 (.slice A (n+m) c) (n+m) (xs++news)→w.grownBy w' v.ownBlock→wpList P ops Q rest (a.put o.dst (.slice A (n+m) c)) w') :
  wpList P ops Q (o :: rest) a w:=by
 obtain ⟨i,z,hi,hz,hsz,hby,hzs⟩:=T.info
 obtain ⟨v',w',hr',h2,h3,_,h5⟩:=run_append_own_at (P:=P) w base t o.type e i z 1 bytes T.und hi hz hsz hby hzs T.pos v n xs hown ad m cx news hl (fun j u hu=>by
  obtain ⟨ad',e1,_,e3⟩:=hr j u hu
  injection e1 with e1
  subst e1;exact e3) h1 h63 hbytes hbase
 rcases h2.2 with ⟨_,h0⟩ | ⟨g,cap,cur,rfl,_⟩
 ·omega
 ·refine qaU (R:=fun v1 w1=>v1=.slice (some ⟨g,0,none⟩) (n+m) cap∧w1=w') hgd ho hs hx ⟨_,_,hr',rfl,rfl⟩ ?_;rintro v1 w1 ⟨rfl,rfl⟩;exact h _ _ _ h2 h3
def clampL (L:List Nat):List Nat:=(L.set 0 (L.getD 0 0 - L.getD 0 0%8)).set 31 (L.getD 31 0%64+64)
def secD (data:List UInt8):List Nat:=digs (Sh.digS Sh.F64 data)
def secL (data:List UInt8):List Nat:=clampL (secD data)
theorem clampL_len (L:List Nat):(clampL L).length=L.length:=by rw [clampL,List.length_set,List.length_set]
theorem clampL_dg {L:List Nat} (h:Dg L):Dg (clampL L):=by
 have h0:=qa3 h 0;have h1:=qa3 h 31;exact qex (qex h 0 _ (by omega)) 31 _ (by omega)
structure SecW (w0:World) (g:Nat) (ys:List Value) (L:List Nat) (u:World):Prop where
 bel:Below w0.heap.size w0 u
 x:Blk u g 5 (bnV L++ys).toArray
 lo:w0.heap.size≤g
theorem SecW.put {w0 u u':World} {g:Nat} {ys:List Value} {L L':List Nat} (k:SecW w0 g ys L u) (hw:Wrote g u u') (hb:Blk u' g 5 (bnV L'++ys).toArray):SecW w0 g ys L' u' :=
 ⟨hw.below k.bel k.lo k.bel.size,hb,k.lo⟩
theorem SecW.drew {w0 u:World} {g:Nat} {ys:List Value} {L:List Nat} (k:SecW w0 g ys L u):SecW w0 g ys L u.drew:=⟨k.bel.drew,k.x,k.lo⟩
theorem qc2 {L:List Nat} {ys:List Value} {i:Nat} (h:i<L.length):(bnV L++ys).toArray[i]?=some (.int .u8 ((L.getD i 0:Nat):Int)):=by
 rw [List.getElem?_toArray,List.getElem?_append_left (by rw [bnV,List.length_map]; exact h)];simp [bnV,List.getD_eq_getElem?_getD,List.getElem?_eq_getElem h]
theorem qd2 {L:List Nat} {ys:List Value} {i n:Nat} (h:i<L.length):(bnV L++ys).toArray.setIfInBounds i (.int .u8 (n:Int))=(bnV (L.set i n)++ys).toArray:=by
 rw [set_front (by rw [bnV,List.length_map]; exact h)];simp [bnV,List.map_set]
theorem sec_rd {u:World} {g:Nat} {K:List Nat} {ys:List Value} (hb:Blk u g 5 (bnV K++ys).toArray) :
  Rd u u.heap.size (some ⟨g,0,none⟩) (bnV (K.take 32))∧Rd u u.heap.size (some ⟨g,32,none⟩) (bnV (K.drop 32)):=by
 have h:=(Rd.of_blk hb hb.lt).front
 constructor
 ·rw [← List.take_append_drop 32 K] at h;rw [show bnV (K.take 32++K.drop 32)=bnV (K.take 32)++bnV (K.drop 32) by simp [bnV]] at h;exact h.front
 ·have h2:=qcv h 32;rw [Addr.add_lit,Nat.zero_add] at h2;rw [show bnV (K.drop 32)=(bnV K).drop 32 by simp [bnV,List.map_drop]];exact h2
def SecPost (K:List Nat) (w:World) (e:Ending) (w':World):Prop :=
 ∃ A c B d,e=.returned (.tuple #[.slice A 32 c,.slice B 32 d])∧32≤c∧32≤d∧Rd w' w'.heap.size A (bnV (K.take 32))∧Rd w' w'.heap.size B (bnV (K.drop 32))∧Below w.heap.size w w'
end Go.Proofs.YtcbkaaodmjphdaaGreatDoor
namespace Go.Proofs.YtcbkaaodmjphdaaGreatDoor.Sh
set_option linter.unusedSimpArgs false
set_option linter.unusedVariables false
set_option maxRecDepth 100000
set_option maxHeartbeats 4000000
open Go.RowKit
theorem elem64:(Tryz.prog.info? 76).map (fun i=>(i.zero,i.size,i.bytes))=some (some (.int .u64 0),1,8):=by kernel_rfl
theorem one64:(Tryz.prog.info? 76).map (·.size)=some 1:=by kernel_rfl
theorem qcH:(Tryz.prog.info? 101).map (·.size)=some 3:=by kernel_rfl
def RowPost64 (blk:List UInt8) (w:World) (e:Ending) (w':World):Prop :=
 ∃ g,e=.returned (.slice (some ⟨g,0,none⟩) 80 80)∧w.heap.size≤g∧Blk w' g 76 (rowC .u64 (rowW F64 blk 80) 0)∧Below w.heap.size w w'
structure RowSt64 (w:World) (gf gw:Nat) (cs:Array Value) (u:World):Prop where
 below:Below gf w u
 form:Blk u gf 105 f64C
 row:Blk u gw 76 cs
 lw:gf<gw
theorem RowSt64.put {w u u':World} {gf gw:Nat} {cs cs':Array Value} (h:RowSt64 w gf gw cs u) (hw:Wrote gw u u') (hb:Blk u' gw 76 cs'):RowSt64 w gf gw cs' u' :=
 ⟨hw.below h.below (by have:=h.lw; omega) (by have:=h.form.lt; omega),hw.blk h.form (by have:=h.lw; omega),hb,h.lw⟩
theorem RowSt64.next {w u u':World} {gf gw:Nat} {cs:Array Value} (h:RowSt64 w gf gw cs u) (hb:Below u.heap.size u u'):RowSt64 w gf gw cs u' :=
 ⟨h.below.trans (hb.mono (by have:=h.form.lt; omega)),h.form.below hb h.form.lt,h.row.below hb h.row.lt,h.lw⟩
theorem RowSt64.drew {w u:World} {gf gw:Nat} {cs:Array Value} (h:RowSt64 w gf gw cs u):RowSt64 w gf gw cs u.drew:=⟨h.below.drew,h.form,h.row,h.lw⟩
theorem rowSt64_start (w:World) (cs:Array Value):RowSt64 w w.heap.size (w.heap.size+1) cs ((w.alloc (.cells f64C 105)).alloc (.cells cs 76)) :=
 ⟨(below_new _ _).alloc (by simp) _,(Blk.new _ _ _).alloc _,by have:=Blk.new (w.alloc (.cells f64C 105)) 76 cs; simpa using this,by omega⟩
theorem row64_any (blk:List UInt8) (A:Option Addr) (c B:Nat) (w:World) (hr:Rd w B A (bytesV blk)) (hB:B≤w.heap.size) (hl:blk.length=128) (hc:blk.length≤c) (hcm:c≤9223372036854775807) :
  Calls Tryz.prog 106 #[.agg f64C,.slice A blk.length c] w (RowPost64 blk w):=by
 obtain ⟨W0,hW0⟩:=eX (w.alloc (.cells f64C 105));have hb0:Below w.heap.size w W0:=by rw [hW0]; exact below_new _ _
 have hbf:Blk W0 w.heap.size 105 f64C:=by rw [hW0]; exact Blk.new _ _ _
 have hs0:W0.heap.size=w.heap.size+1:=by rw [hW0]; simp
 have c0:=hbf.cell 0;have c1:=hbf.cell 1;simp only [f64C,List.getElem?_toArray,List.getElem?_cons_zero,List.getElem?_cons_succ] at c0 c1;rw [hW0,f64C] at c0 c1;have HB:=zY hb0;have HF:=zY hbf;have HS:=zY hs0;have HR:=zY (hr.mono hB);have HL:=zY hl;have HW:=zY hW0;obtain ⟨ie,hie,hez,hes,heb⟩:=info_parts elem64;have hc2:128≤c:=by omega
 clear hb0 hbf hs0 hr hW0 HB HF HS hl hc;rw [HL.out];rw [f64C];have hmk:∀ u:World,(Instr.makeSlice 106 (.int .i64 80) (.int .i64 80)).run Tryz.prog u=.ok (.slice (some ⟨u.heap.size,0,none⟩) 80 80) (u.alloc (.cells (rowC .u64 [] 80) 76)):=fun _=>by kernel_rfl
 go_enter Tryz.func106,Tryz.ntmps106;go_wp2_with fail;have hst0:=rowSt64_start w (rowC .u64 (rowW F64 blk 0) (80 - 0));generalize hgw:w.heap.size+1=gw at *;generalize hgf:w.heap.size=gf at *;have HGF:=zY hgf;clear hgf hgw c0 c1 hmk
 go_loopw [20] (fun i wr=>∃ t:Nat,t≤80∧i=.int .i64 t∧RowSt64 w gf gw (rowC .u64 (rowW F64 blk t) (80 - t)) wr) (fun i _=>80 - (intOf i).toNat)
 case atStart=>exact ⟨0,by omega,rfl,hst0⟩
 case round =>
  obtain ⟨t,ht,rfl,hst⟩:=hrel;clear hst0;have hlen:=qaC F64 blk t
  by_cases hlt:t<80
  ·have hlt':(t:Int)<80:=by omega
   by_cases h16:t<16
   ·have h16':(t:Int)<16:=by omega
    rw [show 80 - t=(80 - t - 1)+1 by omega,qcK] at hst;obtain ⟨l,hl'⟩:∃ l,l=rowW F64 blk t:=⟨_,rfl⟩;obtain ⟨m,hm⟩:=eX (80 - t - 1);rw [← hl'] at hst hlen;rw [← hm] at hst;have HL':=zY hl';have HM:=zY hm;have HLEN:=zY hlen;have HST:=zY hst;clear hl' hm hlen hst;obtain ⟨ad,rfl,hadB,_⟩:=(HR.out.below HST.out.below).at_ (k:=t*8) (by rw [qap,HL.out]; omega);go_wp2_with fail;rw [show (t+1)*8 - t*8=8 by omega];obtain ⟨pc,hpc⟩:=eX ((blk.drop (t*8)).take 8);have hpl:pc.length=8:=by rw [hpc]; simp; rw [HL.out]; omega
    have hrp:Rd w gf (some (ad.add (t*8))) (bytesV pc):=by rw [hpc,bytesV,List.map_take,List.map_drop]; exact qcu (qcv HR.out (t*8)) 8
    have HPC:=zY hpc;have HRP:=zY hrp;have HPL:=zY hpl;clear hpc hrp hpl;obtain ⟨wo,rfl⟩:∃ wo:World,wo=wr:=⟨_,rfl⟩
    go_loopw [35] (fun i wi=>∃ j:Nat,j≤8∧i=.int .i64 j∧RowSt64 w gf gw (rowP .u64 l (beN (pc.take j)) m) wi) (fun i _=>8 - (intOf i).toNat)
    case atStart=>exact ⟨0,by omega,rfl,by simpa [beN] using HST.out⟩
    case round =>
     obtain ⟨j,hj,rfl,hsi⟩:=hrel
     by_cases hjl:j<8
     ·have hjl':(j:Int)<8:=by omega
      have hpj:j<pc.length:=by rw [HPL.out]; exact hjl
      obtain ⟨ad',hae,_,hcell⟩:=(HRP.out.below hsi.below).at_ (k:=j) (by rw [qap]; exact hpj)
      injection hae with hae
      subst hae;obtain ⟨z,hz⟩:=eX (pc[j]);have hcl:wr.cell? ((ad.add (t*8)).add j)=some (.int .u8 (z.toNat:Int)):=by rw [hcell,hz]; simp [bytesV,byteV]
      have hzl:=z.toNat_lt;have hzl2:(z.toNat:Int)<256:=by omega
      obtain ⟨x,hx⟩:=eX (beN (pc.take j))
      have hxl:x<256^j:=by
       rw [hx];have h1:=beN_lt (pc.take j);have h2:(pc.take j).length≤j:=List.length_take_le _ _;exact Nat.lt_of_lt_of_le h1 (Nat.pow_le_pow_right (by omega) h2)
      have hst:beN (pc.take (j+1))=x*256+z.toNat:=by
       rw [List.take_succ_eq_append_getElem hpj,qdV,hx,hz]
      rw [← hx] at hsi;have crow:=hsi.row.cell t;rw [show (rowP .u64 l x m)[t]?=some (.int .u64 (x:Int)) by have:=rowP_at .u64 l x m; rwa [HLEN.out] at this] at crow;have frow:=hsi.row.free t;have HSI:=zY hsi;have HST2:=zY hst;have HXL:=zY hxl;clear hcell hz hx hst hsi hpj hxl;go_wp2_with fail;refine ⟨⟨j+1,hjl,by go_num,?_⟩,by simp [intOf]; omega⟩;have hx8:x<256^(8 - 1):=Nat.lt_of_lt_of_le HXL.out (Nat.pow_le_pow_right (by omega) (by omega));rw [or_byte64 x z.toNat hx8 hzl,HST2.out];refine HSI.out.put (qai _ _ _ _) ?_;have:=qak (i:=t) HSI.out.row (.int .u64 ((x*256+z.toNat:Nat):Int));have h9:=qdK .u64 l x (x*256+z.toNat) m;rw [HLEN.out] at h9
      rwa [h9] at this
     ·have hjl':¬ (j:Int)<8:=by omega
      have hfin:RowSt64 w gf gw (rowC .u64 (rowW F64 blk (t+1)) (80 - (t+1))) wr:=by
       obtain rfl:j=8:=by omega
       rw [qc3,List.take_of_length_le (by rw [HPL.out]; omega)] at hsi;rw [rowW,if_pos h16,← HL'.out,show 80 - (t+1)=m by rw [HM.out]; omega];rw [show pieceN (F64.bits/8) blk t=beN pc by rw [HPC.out]; rfl];exact hsi
      have HFIN:=zY hfin;clear hfin hsi;go_wp2_with fail;exact ⟨⟨t+1,hlt,by go_num,HFIN.out⟩,by simp [intOf]; omega⟩
   ·have h16':¬ (t:Int)<16:=by omega
    rw [show 80 - t=(80 - t - 1)+1 by omega,qcK] at hst;obtain ⟨l,hl'⟩:∃ l,l=rowW F64 blk t:=⟨_,rfl⟩;obtain ⟨m,hm⟩:=eX (80 - t - 1);have hlw:∀ i,l.getD i 0<2^64:=by rw [hl']; exact qbZ (qci F64 (by decide) blk t) (by decide)
    rw [← hl'] at hst hlen;rw [← hm] at hst;have HL':=zY hl';have HM:=zY hm;have HLEN:=zY hlen;have HLW:=zY hlw;obtain ⟨a15,h15⟩:=eX (l.getD (t - 15) 0);obtain ⟨a2,h2⟩:=eX (l.getD (t - 2) 0);obtain ⟨a16,h16e⟩:=eX (l.getD (t - 16) 0);obtain ⟨a7,h7⟩:=eX (l.getD (t - 7) 0);have w15:a15<2^64:=by rw [h15]; exact hlw _
    have w2:a2<2^64:=by rw [h2]; exact hlw _
    have w16:a16<2^64:=by rw [h16e]; exact hlw _
    have w7:a7<2^64:=by rw [h7]; exact hlw _
    have e15:(rowP .u64 l 0 m)[t - 15]?=some (.int .u64 (a15:Int)):=by rw [qb9 _ _ _ _ _ (by omega),h15]
    have e2:(rowP .u64 l 0 m)[t - 2]?=some (.int .u64 (a2:Int)):=by rw [qb9 _ _ _ _ _ (by omega),h2]
    have e16:(rowP .u64 l 0 m)[t - 16]?=some (.int .u64 (a16:Int)):=by rw [qb9 _ _ _ _ _ (by omega),h16e]
    have e7:(rowP .u64 l 0 m)[t - 7]?=some (.int .u64 (a7:Int)):=by rw [qb9 _ _ _ _ _ (by omega),h7]
    have E15:=zY e15;have E2:=zY e2;have E16:=zY e16;have E7:=zY e7;have W15:=zY (show a15<18446744073709551616 by omega);have W2:=zY (show a2<18446744073709551616 by omega);have W16:=zY w16;have W7:=zY w7;have H15:=zY h15;have H2:=zY h2;have H16:=zY h16e;have H7:=zY h7;have i15:(a15:Int)<18446744073709551616:=by omega
    have i2:(a2:Int)<18446744073709551616:=by omega
    clear hl' hm hlen hlw h15 h2 h16e h7 w15 w2 w16 w7 e15 e2 e16 e7;have hu:=Tryz.underlying105;have hu3:=Tryz.underlying101;have HC0:=hst.drew;clear hst;go_wp2_with fail;refine qal (fun u=>RowSt64 w gf gw (rowP .u64 l 0 m) u) (fun u=>RowSt64 w gf gw (rowP .u64 l 0 m) u) [(0,some 51),(1,some 52),(2,some 53),(3,some 54),(4,some 55),(5,some 56),(6,some 57),(7,some 58),(8,some 59),(9,some 60),(10,some 61),(11,some 62),(12,some 63),(13,some 64),(14,some 65),(15,some 66),(16,some 67),(17,some 68),(18,some 69),(19,some 70),(20,some 10),(21,some 11)] (by kernel_rfl) (by kernel_rfl) (by decide) (by kernel_rfl) (fun _=>rfl) HC0 ?_;apply yN_
    ·apply dP [];exact fun _=>rfl;rfl;rintro vals - w1 hC1 E hE;simp only [sP] at hE ⊢;refine qac hC1.form rfl rfl rfl hu rfl qaG ?_;go_wp2_with fail;exact .mk (hE _ hC1)
    apply yN_
    ·apply dP [];exact fun _=>rfl;rfl;rintro vals ⟨-,-⟩ w1 hC1 E hE;simp only [sP] at hE ⊢;go_wp2;exact .mk (hE _ hC1)
    apply yN_
    ·apply dP [];exact fun _=>rfl;rfl;intro vals vq w1 hC1 E hE;clear vq;simp only [sP] at hE ⊢;go_wp2;exact .mk (hE _ hC1)
    apply yN_
    ·apply dP [(2,some 53)];exact fun _=>rfl;rfl;intro vals vq w1 hC1 E hE;simp only [sP,vq] at hE ⊢;clear vq;go_wp2;exact .mk (hE _ hC1)
    apply yN_
    ·apply dP [(1,some 52),(3,some 54)];exact fun _=>rfl;rfl;intro vals vq w1 hC1 E hE;simp only [sP,vq] at hE ⊢;clear vq;go_wp2;exact .mk (hE _ hC1)
    apply yN_
    ·apply dP [(4,some 55)];exact fun _=>rfl;rfl;intro vals vq w1 hC1 E hE;have d0:=hC1.row.cell (t - 15);rw [E15.out] at d0;simp only [sP,vq] at hE ⊢;clear vq;go_wp2;exact .mk (hE _ hC1)
    apply yN_
    ·apply dP [];exact fun _=>rfl;rfl;intro vals vq w1 hC1 E hE;clear vq;simp only [sP] at hE ⊢;go_wp2;exact .mk (hE _ hC1)
    apply yN_
    ·apply dP [(6,some 57)];exact fun _=>rfl;rfl;intro vals vq w1 hC1 E hE;simp only [sP,vq] at hE ⊢;clear vq;go_wp2;exact .mk (hE _ hC1)
    apply yN_
    ·apply dP [(7,some 58)];exact fun _=>rfl;rfl;intro vals vq w1 hC1 E hE;simp only [sP,vq] at hE ⊢;clear vq;refine qan (n:=3) (r:=#[.int .i64 1,.int .i64 8,.int .i64 7]) hC1.form (by decide) rfl rfl rfl rfl hu3 rfl qcH ?_;go_wp2_with fail;exact .mk (hE _ hC1)
    apply yN_
    ·apply dP [(0,some 51),(5,some 56),(8,some 59)];exact fun _=>rfl;rfl;intro vals vq w1 hC1 E hE;simp only [sP,vq] at hE ⊢;clear vq;go_wp2_with fail;refine qab (qdm a15 1 8 7 true _ W15.out (by decide) (by decide) (by decide)) ?_;rintro e w2 ⟨rfl,hb2⟩;go_wp2_with fail;exact .mk (hE _ (hC1.next hb2))
    apply yN_
    ·apply dP [];exact fun _=>rfl;rfl;intro vals vq w1 hC1 E hE;clear vq;simp only [sP] at hE ⊢;refine qac hC1.form rfl rfl rfl hu rfl qaG ?_;go_wp2_with fail;exact .mk (hE _ hC1)
    apply yN_
    ·apply dP [];exact fun _=>rfl;rfl;intro vals vq w1 hC1 E hE;clear vq;simp only [sP] at hE ⊢;go_wp2;exact .mk (hE _ hC1)
    apply yN_
    ·apply dP [];exact fun _=>rfl;rfl;intro vals vq w1 hC1 E hE;clear vq;simp only [sP] at hE ⊢;go_wp2;exact .mk (hE _ hC1)
    apply yN_
    ·apply dP [(12,some 63)];exact fun _=>rfl;rfl;intro vals vq w1 hC1 E hE;simp only [sP,vq] at hE ⊢;clear vq;go_wp2;exact .mk (hE _ hC1)
    apply yN_
    ·apply dP [(11,some 62),(13,some 64)];exact fun _=>rfl;rfl;intro vals vq w1 hC1 E hE;simp only [sP,vq] at hE ⊢;clear vq;go_wp2;exact .mk (hE _ hC1)
    apply yN_
    ·apply dP [(14,some 65)];exact fun _=>rfl;rfl;intro vals vq w1 hC1 E hE;have d0:=hC1.row.cell (t - 2);rw [E2.out] at d0;simp only [sP,vq] at hE ⊢;clear vq;go_wp2;exact .mk (hE _ hC1)
    apply yN_
    ·apply dP [];exact fun _=>rfl;rfl;intro vals vq w1 hC1 E hE;clear vq;simp only [sP] at hE ⊢;go_wp2;exact .mk (hE _ hC1)
    apply yN_
    ·apply dP [(16,some 67)];exact fun _=>rfl;rfl;intro vals vq w1 hC1 E hE;simp only [sP,vq] at hE ⊢;clear vq;go_wp2;exact .mk (hE _ hC1)
    apply yN_
    ·apply dP [(17,some 68)];exact fun _=>rfl;rfl;intro vals vq w1 hC1 E hE;simp only [sP,vq] at hE ⊢;clear vq;refine qan (n:=3) (r:=#[.int .i64 19,.int .i64 61,.int .i64 6]) hC1.form (by decide) rfl rfl rfl rfl hu3 rfl qcH ?_;go_wp2_with fail;exact .mk (hE _ hC1)
    apply yN_
    ·apply dP [(10,some 61),(15,some 66),(18,some 69),(9,some 60)];exact fun _=>rfl;rfl;intro vals vq w1 hC1 E hE;simp only [sP,vq] at hE ⊢;clear vq;go_wp2_with fail;refine qab (qdm a2 19 61 6 true _ W2.out (by decide) (by decide) (by decide)) ?_;rintro e w2 ⟨rfl,hb2⟩;go_wp2_with fail;exact .mk (hE _ (hC1.next hb2))
    apply yN_
    ·apply dP [(9,some 60),(19,some 70),(0,some 51),(1,some 52),(2,some 53),(3,some 54),(4,some 55),(5,some 56),(6,some 57),(7,some 58),(8,some 59),(9,some 60)];exact fun _=>rfl;rfl;intro vals vq w1 hC1 E hE;simp only [sP,vq] at hE ⊢;clear vq;go_wp2;exact .mk (hE _ hC1)
    apply yL_
    ·apply dP [(19,some 70),(20,some 10),(0,some 51),(1,some 52),(2,some 53),(3,some 54),(4,some 55),(5,some 56),(6,some 57),(7,some 58),(8,some 59),(9,some 60),(10,some 61),(11,some 62),(12,some 63),(13,some 64),(14,some 65),(15,some 66),(16,some 67),(17,some 68),(18,some 69),(19,some 70),(20,some 10)];exact fun _=>rfl;rfl;intro vals vq w1 hC1 E hE;simp only [sP,vq] at hE ⊢;clear vq;go_wp2;exact .mk (hE _ hC1)
    intro vals vq w1 hC1;simp only [sP,vq];clear vq;obtain ⟨X,hX⟩:∃ X:Nat,X=allN 64 a15 1 8 7 true:=⟨_,rfl⟩;obtain ⟨Y,hY⟩:∃ X:Nat,X=allN 64 a2 19 61 6 true:=⟨_,rfl⟩;rw [← hX,← hY];obtain ⟨NV,hNV⟩:∃ v:Nat,v=(a16+a7+(X+Y))%2^64:=⟨_,rfl⟩;have HX:=zY hX;have HY:=zY hY;have HNV:=zY hNV;have lX:(X:Int)<18446744073709551616:=by have:=qcD (b:=64) (p:=1) (q:=8) (c:=7) (shift:=true) W15.out; rw [← HX.out] at this; omega
    have lY:(Y:Int)<18446744073709551616:=by have:=qcD (b:=64) (p:=19) (q:=61) (c:=6) (shift:=true) W2.out; rw [← HY.out] at this; omega
    have l16:(a16:Int)<18446744073709551616:=by have:=W16.out; omega
    have l7:(a7:Int)<18446744073709551616:=by have:=W7.out; omega
    clear HC0 hX hY hNV;go_wp2_with fail;have HC0:=hC1.drew;refine qal (fun u=>RowSt64 w gf gw (rowP .u64 l 0 m) u) (fun u=>RowSt64 w gf gw (rowP .u64 l NV m) u) [(0,some 71),(1,some 72),(2,some 73),(3,some 74),(4,some 75),(5,some 76),(6,some 77),(7,some 78),(8,some 79),(9,some 80),(10,some 81),(11,some 82),(12,some 83),(13,some 84),(14,some 85),(15,some 86),(16,some 87),(17,some 88),(18,some 89),(19,none)] (by kernel_rfl) (by kernel_rfl) (by decide) (by kernel_rfl) (fun _=>rfl) HC0 ?_;apply yN_
    ·apply dP [];exact fun _=>rfl;rfl;rintro vals - w1 hC1 E hE;simp only [sP] at hE ⊢;go_wp2;exact .mk (hE _ hC1)
    apply yN_
    ·apply dP [];exact fun _=>rfl;rfl;rintro vals ⟨-,-⟩ w1 hC1 E hE;simp only [sP] at hE ⊢;go_wp2;exact .mk (hE _ hC1)
    apply yN_
    ·apply dP [];exact fun _=>rfl;rfl;intro vals vq w1 hC1 E hE;clear vq;simp only [sP] at hE ⊢;go_wp2;exact .mk (hE _ hC1)
    apply yN_
    ·apply dP [];exact fun _=>rfl;rfl;intro vals vq w1 hC1 E hE;clear vq;simp only [sP] at hE ⊢;go_wp2;exact .mk (hE _ hC1)
    apply yN_
    ·apply dP [(3,some 74)];exact fun _=>rfl;rfl;intro vals vq w1 hC1 E hE;simp only [sP,vq] at hE ⊢;clear vq;go_wp2;exact .mk (hE _ hC1)
    apply yN_
    ·apply dP [(2,some 73),(4,some 75)];exact fun _=>rfl;rfl;intro vals vq w1 hC1 E hE;simp only [sP,vq] at hE ⊢;clear vq;go_wp2;exact .mk (hE _ hC1)
    apply yN_
    ·apply dP [(5,some 76)];exact fun _=>rfl;rfl;intro vals vq w1 hC1 E hE;have d0:=hC1.row.cell (t - 16);rw [E16.out] at d0;simp only [sP,vq] at hE ⊢;clear vq;go_wp2;exact .mk (hE _ hC1)
    apply yN_
    ·apply dP [];exact fun _=>rfl;rfl;intro vals vq w1 hC1 E hE;clear vq;simp only [sP] at hE ⊢;go_wp2;exact .mk (hE _ hC1)
    apply yN_
    ·apply dP [];exact fun _=>rfl;rfl;intro vals vq w1 hC1 E hE;clear vq;simp only [sP] at hE ⊢;go_wp2;exact .mk (hE _ hC1)
    apply yN_
    ·apply dP [(8,some 79)];exact fun _=>rfl;rfl;intro vals vq w1 hC1 E hE;simp only [sP,vq] at hE ⊢;clear vq;go_wp2;exact .mk (hE _ hC1)
    apply yN_
    ·apply dP [(7,some 78),(9,some 80)];exact fun _=>rfl;rfl;intro vals vq w1 hC1 E hE;simp only [sP,vq] at hE ⊢;clear vq;go_wp2;exact .mk (hE _ hC1)
    apply yN_
    ·apply dP [(10,some 81)];exact fun _=>rfl;rfl;intro vals vq w1 hC1 E hE;have d0:=hC1.row.cell (t - 7);rw [E7.out] at d0;simp only [sP,vq] at hE ⊢;clear vq;go_wp2;exact .mk (hE _ hC1)
    apply yN_
    ·apply dP [(6,some 77),(11,some 82)];exact fun _=>rfl;rfl;intro vals vq w1 hC1 E hE;simp only [sP,vq] at hE ⊢;clear vq;go_wp2;exact .mk (hE _ hC1)
    apply yN_
    ·apply dP [];exact fun _=>rfl;rfl;intro vals vq w1 hC1 E hE;clear vq;simp only [sP] at hE ⊢;go_wp2;exact .mk (hE _ hC1)
    apply yN_
    ·apply dP [];exact fun _=>rfl;rfl;intro vals vq w1 hC1 E hE;clear vq;simp only [sP] at hE ⊢;go_wp2;exact .mk (hE _ hC1)
    apply yN_
    ·apply dP [(13,some 84),(14,some 85)];exact fun _=>rfl;rfl;intro vals vq w1 hC1 E hE;simp only [sP,vq] at hE ⊢;clear vq;go_wp2;exact .mk (hE _ hC1)
    apply yN_
    ·apply dP [(15,some 86)];exact fun _=>rfl;rfl;intro vals vq w1 hC1 E hE;simp only [sP,vq] at hE ⊢;clear vq;go_wp2_with fail;rw [sum64w X Y];refine qab (qcA _ _ (Nat.mod_lt _ (by decide))) ?_;rintro e w2 ⟨rfl,rfl⟩;go_wp2_with fail;exact .mk (hE _ hC1)
    apply yN_
    ·apply dP [(12,some 83),(16,some 87)];exact fun _=>rfl;rfl;intro vals vq w1 hC1 E hE;simp only [sP,vq] at hE ⊢;clear vq;go_wp2;rw [sum64f a16 a7 X Y,← HNV.out];exact .mk (hE _ hC1)
    apply yN_
    ·apply dP [(0,some 71),(1,some 72),(0,some 71),(1,some 72),(2,some 73),(3,some 74),(4,some 75),(5,some 76),(6,some 77),(7,some 78),(8,some 79),(9,some 80),(10,some 81),(11,some 82),(12,some 83),(13,some 84),(14,some 85),(15,some 86),(16,some 87),(17,some 88)];exact fun _=>rfl;rfl;intro vals vq w1 hC1 E hE;simp only [sP,vq] at hE ⊢;clear vq;go_wp2;exact .mk (hE _ hC1)
    apply yL_ (v:=undef)
    ·apply dP [(18,some 89),(17,some 88),(16,some 87),(0,some 71),(1,some 72),(2,some 73),(3,some 74),(4,some 75),(5,some 76),(6,some 77),(7,some 78),(8,some 79),(9,some 80),(10,some 81),(11,some 82),(12,some 83),(13,some 84),(14,some 85),(15,some 86),(16,some 87),(17,some 88)];exact fun _=>rfl;rfl;intro vals vq w1 hC1 E hE;simp only [sP,vq] at hE ⊢;clear vq;refine qam (i:=t) (v:=.int .u64 (NV:Int)) hC1.row rfl rfl rfl rfl one64 (by rw [rowP_size,HLEN.out]; omega) rfl ?_;intro w2 hb2 hw2;go_wp2_with fail;exact .mk (hE _ (hC1.put hw2 (by have h9:=qdK .u64 l 0 NV m; rw [HLEN.out] at h9; rw [h9] at hb2; exact hb2)))
    intro vals vq w1 hC1;simp only [sP,vq];clear vq
    have hfin:RowSt64 w gf gw (rowC .u64 (rowW F64 blk (t+1)) (80 - (t+1))) w1:=by
     rw [qc3] at hC1;rw [rowW,if_neg h16,← HL'.out,show 80 - (t+1)=m by rw [HM.out]; omega]
     have:nextW F64 l t=NV:=by
      rw [HNV.out,nextW,← H16.out,← H7.out,← H15.out,← H2.out,HX.out,HY.out]; rfl
     rw [this];exact hC1
    have HFIN:=zY hfin;clear hfin hC1 HC0;go_wp2_with fail;exact ⟨⟨t+1,hlt,by go_num,HFIN.out⟩,by simp [intOf]; omega⟩
  ·have hge:¬ (t:Int)<80:=by omega
   go_wp2_with fail;go_ret;obtain rfl:t=80:=by omega
   exact ⟨gw,rfl,by rw [HGF.out]; have:=hst.lw; omega,hst.row,by rw [HGF.out]; exact hst.below⟩
theorem qbh:(Tryz.prog.info? 132).map (·.size)=some 8:=by kernel_rfl
structure MixSt64 (w0:World) (gf gr:Nat) (s:S8) (r:Array Value) (v:Array Value) (u:World):Prop where
 bel:Below gf w0 u
 form:Blk u gf 105 f64C
 s:Blk u (gf+1) 132 (s8V .u64 s)
 res:Blk u (gf+1+1) 132 (s8V .u64 ⟨0,0,0,0,0,0,0,0⟩)
 v:Blk u (gf+1+1+1) 132 v
 row:Blk u gr 76 r
 lr:gf+1+1+1<gr
theorem MixSt64.next {w0:World} {gf gr:Nat} {s:S8} {r v:Array Value} {u u':World} (h:MixSt64 w0 gf gr s r v u) (hb:Below u.heap.size u u'):MixSt64 w0 gf gr s r v u' :=
 ⟨h.bel.trans (hb.mono (by have:=h.form.lt; omega)),h.form.below hb h.form.lt,h.s.below hb h.s.lt,h.res.below hb h.res.lt,h.v.below hb h.v.lt,h.row.below hb h.row.lt,h.lr⟩
theorem MixSt64.drew {w0:World} {gf gr:Nat} {s:S8} {r v:Array Value} {u:World} (h:MixSt64 w0 gf gr s r v u):MixSt64 w0 gf gr s r v u.drew :=
 ⟨h.bel.drew,h.form,h.s,h.res,h.v,h.row,h.lr⟩
theorem MixSt64.put {w0:World} {gf gr:Nat} {s:S8} {r v v':Array Value} {u u':World} (h:MixSt64 w0 gf gr s r v u) (hw:Wrote (gf+1+1+1) u u') (hb:Blk u' (gf+1+1+1) 132 v'):MixSt64 w0 gf gr s r v' u' :=
 ⟨hw.below h.bel (by omega) (by have:=h.form.lt; omega),hw.blk h.form (by omega),hw.blk h.s (by omega),hw.blk h.res (by omega),hb,hw.blk h.row (by have:=h.lr; omega),h.lr⟩
def MixPost64 (s:S8) (blk:List UInt8) (w:World) (e:Ending) (w':World):Prop :=
 e=.returned (.agg (s8V .u64 (mixS F64 s blk)))∧Below w.heap.size w w'
theorem mix64_any (s:S8) (blk:List UInt8) (A:Option Addr) (c B:Nat) (w:World) (hr:Rd w B A (bytesV blk)) (hB:B≤w.heap.size) (hl:blk.length=128) (hc:blk.length≤c) (hcm:c≤9223372036854775807) (hs:s.Lt (2^64)) (hG:TabG w) :
  Calls Tryz.prog 103 #[.agg f64C,.agg (s8V .u64 s),.slice A blk.length c] w (MixPost64 s blk w):=by
 obtain ⟨W0,hW0⟩:∃ W0,W0=((w.alloc (.cells f64C 105)).alloc (.cells (s8V .u64 s) 132)).alloc (.cells (s8V .u64 ⟨0,0,0,0,0,0,0,0⟩) 132):=⟨_,rfl⟩;have hb0:Below w.heap.size w W0:=by rw [hW0]; exact ((below_new _ _).alloc (by simp) _).alloc (by simp; omega) _
 have hs0:W0.heap.size=w.heap.size+1+1+1:=by rw [hW0]; simp
 have hf0:Blk W0 w.heap.size 105 f64C:=by rw [hW0]; exact ((Blk.new _ _ _).alloc _).alloc _
 have hbs0:Blk W0 (w.heap.size+1) 132 (s8V .u64 s):=by
  have:=(Blk.new (w.alloc (.cells f64C 105)) 132 (s8V .u64 s)).alloc (.cells (s8V .u64 ⟨0,0,0,0,0,0,0,0⟩) 132);rw [hW0]; simpa using this
 have hbr0:Blk W0 (w.heap.size+1+1) 132 (s8V .u64 ⟨0,0,0,0,0,0,0,0⟩):=by
  have:=Blk.new ((w.alloc (.cells f64C 105)).alloc (.cells (s8V .u64 s) 132)) 132 (s8V .u64 ⟨0,0,0,0,0,0,0,0⟩);rw [hW0]; simpa using this
 have hbv0:Blk (W0.alloc (.cells (s8V .u64 ⟨0,0,0,0,0,0,0,0⟩) 132)) (w.heap.size+1+1+1) 132 (s8V .u64 ⟨0,0,0,0,0,0,0,0⟩):=by
  have:=Blk.new W0 132 (s8V .u64 ⟨0,0,0,0,0,0,0,0⟩)
  rwa [hs0] at this
 have hbs1:=hbs0;rw [hW0] at hbs1;have HB0:=zY hb0;have HS0:=zY hs0;have HF0:=zY hf0;have HBS0:=zY hbs0;have HBR0:=zY hbr0;have HR:=zY (hr.mono hB);have HL:=zY hl;have HG:=zY hG;have HSL:=zY hs;have hu8:=Tryz.underlying132;have hu:=Tryz.underlying105;have hu3:=Tryz.underlying101;have hc2:128≤c:=by omega
 rw [hW0] at hbv0;have HW:=zY hW0;rw [HL.out];clear hb0 hs0 hf0 hbs0 hbr0 hr hl hG hs hc hW0;go_enter Tryz.func103,Tryz.ntmps103
 go_wp2_with (first
  | (refine qac (x:=.tmp 4) (o:=⟨some 16,_,_,_,_,_⟩) (hbs1) rfl rfl rfl hu8 rfl qbh ?_)
  | (refine qad (x:=.tmp 7) hbv0 rfl rfl rfl rfl qbh rfl (by simp [s8V,Value.oneCell']) ?_; intro w1 hb1 hw1)
  | (refine qac (x:=.tmp 3) (hw1.blk (((Blk.new w 105 f64C).alloc _).alloc _ |>.alloc _) (by omega)) rfl rfl rfl hu rfl qaG ?_))
 have hf1:=hw1.blk (((Blk.new w 105 f64C).alloc (.cells (s8V .u64 s) 132)).alloc (.cells (s8V .u64 ⟨0,0,0,0,0,0,0,0⟩) 132) |>.alloc (.cells (s8V .u64 ⟨0,0,0,0,0,0,0,0⟩) 132)) (by omega);have hs1:Blk w1 (w.heap.size+1) 132 (s8V .u64 s):=hw1.blk (by have:=HBS0.out.alloc (.cells (s8V .u64 ⟨0,0,0,0,0,0,0,0⟩) 132); rwa [HW.out] at this) (by omega);have hr1:Blk w1 (w.heap.size+1+1) 132 (s8V .u64 ⟨0,0,0,0,0,0,0,0⟩):=hw1.blk (by have:=HBR0.out.alloc (.cells (s8V .u64 ⟨0,0,0,0,0,0,0,0⟩) 132); rwa [HW.out] at this) (by omega);have hbel1:Below w.heap.size w w1:=hw1.below (by have:=HB0.out.alloc HB0.out.size (.cells (s8V .u64 ⟨0,0,0,0,0,0,0,0⟩) 132); rwa [HW.out] at this) (by omega) (by simp; omega);have hz1:w1.heap.size=w.heap.size+1+1+1+1:=by rw [hw1.size]; simp
 have HF1:=zY hf1;have HS1:=zY hs1;have HR1:=zY hr1;have HV1:=zY hb1;have HBEL1:=zY hbel1;have HZ1:=zY hz1;have hrow:=row64_any blk A c w1.heap.size w1 ((HR.out.below hbel1).mono hbel1.size) (Nat.le_refl _) HL.out (by rw [HL.out]; exact hc2) hcm;rw [HL.out] at hrow;clear hf1 hs1 hr1 hb1 hbel1 hz1 hw1 hbv0 hbs1 HB0 HS0 HF0 HBS0 HBR0 HW W0;refine qab hrow ?_;rintro e w2 ⟨gr,rfl,hgl,hbr,hbw⟩;clear hrow;obtain ⟨RW,hRW⟩:=eX (rowW F64 blk 80);rw [← hRW] at hbr
 have hst0:MixSt64 w w.heap.size gr s (rowC .u64 RW 0) (s8V .u64 s) w2 :=
  ⟨HBEL1.out.trans (hbw.mono HBEL1.out.size),HF1.out.below hbw HF1.out.lt,HS1.out.below hbw HS1.out.lt,HR1.out.below hbw HR1.out.lt,HV1.out.below hbw HV1.out.lt,hbr,by rw [HZ1.out] at hgl; omega⟩
 have HGP:=zY HG.out.size;have HRW:=zY hRW;clear hbr hbw hgl hRW HF1 HS1 HR1 HV1 HBEL1 HZ1 HR;generalize hgf:w.heap.size=gf at *;have HGF:=zY hgf;clear hgf;go_wp2_with fail
 go_loopw [21] (fun i wr=>∃ k:Nat,k≤80∧i=.int .i64 k∧MixSt64 w gf gr s (rowC .u64 RW 0) (s8V .u64 (mixTo F64 RW s k)) wr) (fun i _=>80 - (intOf i).toNat)
 case atStart=>exact ⟨0,by omega,rfl,hst0⟩
 case round =>
  obtain ⟨k,hk,rfl,hst⟩:=hrel;clear hst0
  by_cases hlt:k<80
  ·have hlt':(k:Int)<80:=by omega
   obtain ⟨vv,hvv⟩:=eX (mixTo F64 RW s k);have hvl:vv.Lt (2^64):=by rw [hvv]; exact qc9 HSL.out k
   rw [← hvv] at hst;have HVV:=zY hvv;obtain ⟨va,vb,vc,vd,ve,vf,vg,vh⟩:=vv;obtain ⟨la,lb,lc,ld,le_,lf,lg,lh⟩:=hvl;dsimp only at la lb lc ld le_ lf lg lh;obtain ⟨wk,hwk⟩:=eX (RW.getD k 0);obtain ⟨kk,hkk⟩:=eX (stepsN.getD k 0);have hRL:RW.length=80:=by rw [HRW.out]; exact qaC _ _ _
   have hwl:wk<2^64:=by rw [hwk,HRW.out]; exact qbZ (qci F64 (by decide) blk 80) (by decide) k
   have hkl:kk<18446744073709551616:=by rw [hkk]; exact stepsN_lt k
   have hcr:(rowC .u64 RW 0)[k]?=some (.int .u64 (wk:Int)):=by rw [rowC_get _ _ _ _ (by rw [hRL]; exact hlt),hwk]
   have HGC:Hid (∀ u,Below gf w u→u.cell? ⟨0,k,none⟩=some (.int .u64 (kk:Int))):=zY fun u hu=>by
    rw [hkk]; exact (HG.out.below hu HGP.out).cell k (by omega)
   have crow:=hst.row.cell k;rw [hcr] at crow;have iwk:(wk:Int)<18446744073709551616:=by omega
   have ikk:(kk:Int)<18446744073709551616:=by omega
   have HWK:=zY hwk;have HKK:=zY hkk;have HL8:=zY (show S8.Lt ⟨va,vb,vc,vd,ve,vf,vg,vh⟩ (2^64) from ⟨la,lb,lc,ld,le_,lf,lg,lh⟩);have HWL:=zY hwl;have HKL:=zY hkl;clear hvv la lb lc ld le_ lf lg lh hwk hkk hRL hwl hkl hcr;have HST:=zY hst;clear hst;go_wp2_with fail;obtain ⟨kn,hkn⟩:=eX (kN F64 k);have hkn2:kn=kk:=by rw [hkn,kN,← HKK.out]; show kk/1%18446744073709551616=kk; have:=HKL.out; omega
   have hknl:kn<2^64:=by rw [hkn]; exact Nat.mod_lt _ (by decide)
   subst hkn2;have hkn2:kn<2^64:=hknl;have HKN:=zY hkn2;have HKNE:=zY hkn;have HKNL:=zY hknl;clear hkn2 hkn hknl;have HC0:=HST.out.drew;refine qal (fun u=>MixSt64 w gf gr s (rowC .u64 RW 0) (s8V .u64 ⟨va,vb,vc,vd,ve,vf,vg,vh⟩) u) (fun u=>MixSt64 w gf gr s (rowC .u64 RW 0) (s8V .u64 ⟨va,vb,vc,vd,ve,vf,vg,vh⟩) u) [(0,some 26),(1,some 27),(2,some 28),(3,some 29),(4,some 30),(5,some 31),(6,some 32),(7,some 33),(8,some 10)] (by kernel_rfl) (by kernel_rfl) (by decide) (by kernel_rfl) (fun _=>rfl) HC0 ?_;apply yN_
   ·apply dP [];exact fun _=>rfl;rfl;rintro vals - w1 hC1 E hE;simp only [sP] at hE ⊢;go_wp2;exact .mk (hE _ hC1)
   apply yN_
   ·apply dP [(0,some 26)];exact fun _=>rfl;rfl;intro vals vq w1 hC1 E hE;simp only [sP,vq] at hE ⊢;clear vq;go_wp2;exact .mk (hE _ hC1)
   apply yN_
   ·apply dP [(1,some 27)];exact fun _=>rfl;rfl;intro vals vq w1 hC1 E hE;have d0:=HGC.out _ hC1.bel;simp only [sP,vq] at hE ⊢;clear vq;go_wp2;exact .mk (hE _ hC1)
   apply yN_
   ·apply dP [];exact fun _=>rfl;rfl;intro vals vq w1 hC1 E hE;clear vq;simp only [sP] at hE ⊢;go_wp2;exact .mk (hE _ hC1)
   apply yN_
   ·apply dP [(3,some 29)];exact fun _=>rfl;rfl;intro vals vq w1 hC1 E hE;have d0:=hC1.form.cell 0;simp [f64C] at d0;simp only [sP,vq] at hE ⊢;clear vq;go_wp2;exact .mk (hE _ hC1)
   apply yN_
   ·apply dP [(4,some 30)];exact fun _=>rfl;rfl;intro vals vq w1 hC1 E hE;simp only [sP,vq] at hE ⊢;clear vq;go_wp2;exact .mk (hE _ hC1)
   apply yN_
   ·apply dP [(2,some 28),(5,some 31)];exact fun _=>rfl;rfl;intro vals vq w1 hC1 E hE;simp only [sP,vq] at hE ⊢;clear vq;go_wp2;exact .mk (hE _ hC1)
   apply yN_
   ·apply dP [(6,some 32)];exact fun _=>rfl;rfl;intro vals vq w1 hC1 E hE;simp only [sP,vq] at hE ⊢;clear vq;go_wp2_with fail
    skip
    refine qab (qcA _ _ (by have:=HKL.out; omega)) ?_;rintro e w2 ⟨rfl,rfl⟩
    skip
    go_wp2_with fail;exact .mk (hE _ hC1)
   apply yL_
   ·apply dP [(7,some 33),(7,some 33),(0,some 26),(1,some 27),(2,some 28),(3,some 29),(4,some 30),(5,some 31),(6,some 32),(7,some 33)];exact fun _=>rfl;rfl;intro vals vq w1 hC1 E hE;simp only [sP,vq] at hE ⊢;clear vq;go_wp2;exact .mk (hE _ hC1)
   intro vals vq w1 hC1;simp only [sP,vq];clear vq;clear HC0 crow;go_wp2_with fail;have HC0:=hC1.drew;clear hC1;refine qal (fun u=>MixSt64 w gf gr s (rowC .u64 RW 0) (s8V .u64 ⟨va,vb,vc,vd,ve,vf,vg,vh⟩) u) (fun u=>MixSt64 w gf gr s (rowC .u64 RW 0) (s8V .u64 ⟨va,vb,vc,vd,ve,vf,vg,vh⟩) u) [(0,some 34),(1,some 35),(2,some 36),(3,some 37),(4,some 11),(5,some 12)] (by kernel_rfl) (by kernel_rfl) (by decide) (by kernel_rfl) (fun _=>rfl) HC0 ?_;apply yN_
   ·apply dP [];exact fun _=>rfl;rfl;rintro vals - w1 hC1 E hE;simp only [sP] at hE ⊢;go_wp2;exact .mk (hE _ hC1)
   apply yN_
   ·apply dP [(0,some 34)];exact fun _=>rfl;rfl;intro vals vq w1 hC1 E hE;have d0:=hC1.v.cell 0;simp [s8V] at d0;simp only [sP,vq] at hE ⊢;clear vq;go_wp2;exact .mk (hE _ hC1)
   apply yN_
   ·apply dP [];exact fun _=>rfl;rfl;intro vals vq w1 hC1 E hE;clear vq;simp only [sP] at hE ⊢;go_wp2;exact .mk (hE _ hC1)
   apply yN_
   ·apply dP [(2,some 36)];exact fun _=>rfl;rfl;intro vals vq w1 hC1 E hE;have d0:=hC1.v.cell 4;simp [s8V] at d0;simp only [sP,vq] at hE ⊢;clear vq;go_wp2;exact .mk (hE _ hC1)
   apply yN_
   ·apply dP [(1,some 35),(0,some 34),(1,some 35)];exact fun _=>rfl;rfl;intro vals vq w1 hC1 E hE;simp only [sP,vq] at hE ⊢;clear vq;go_wp2;exact .mk (hE _ hC1)
   apply yL_
   ·apply dP [(3,some 37),(4,some 11),(0,some 34),(1,some 35),(2,some 36),(3,some 37),(4,some 11)];exact fun _=>rfl;rfl;intro vals vq w1 hC1 E hE;simp only [sP,vq] at hE ⊢;clear vq;go_wp2;exact .mk (hE _ hC1)
   intro vals vq w1 hC1;simp only [sP,vq];clear vq;clear HC0;have ive:(ve:Int)<18446744073709551616:=by have:=HL8.out.e; dsimp only at this; omega
   have iva:(va:Int)<18446744073709551616:=by have:=HL8.out.a; dsimp only at this; omega
   go_wp2_with fail;have HC0:=hC1.drew;clear hC1;obtain ⟨ca,hXA⟩:=eX (allN 64 ve 14 18 41 false);have lXA:ca<18446744073709551616:=by rw [hXA]; exact qcD (by have:=HL8.out.e; dsimp only at this; omega)
   obtain ⟨af,haf⟩:=eX (ve &&& vf);obtain ⟨ne,hne⟩:=eX (18446744073709551615 - ve);obtain ⟨ng,hng⟩:=eX (ne &&& vg);obtain ⟨ch,hch⟩:=eX (af ^^^ ng);obtain ⟨p1,hp1⟩:=eX ((vh+ca)%2^64);obtain ⟨p2,hp2⟩:=eX ((p1+ch)%2^64);obtain ⟨p3,hp3⟩:=eX ((p2+kn)%2^64);obtain ⟨xx,hxx⟩:=eX ((p3+wk)%2^64);have HP1:=zY hp1;have HP2:=zY hp2;have HP3:=zY hp3;have HXA:=zY hXA;have LXA:=zY lXA;have HAF:=zY haf;have HNE:=zY hne;have HNG:=zY hng;have HCH:=zY hch;have AFL:Hid (af<2^64):=zY (by rw [haf]; exact qbF HL8.out.e);have NEL:Hid (ne<2^64):=zY (by rw [hne]; omega);have NGL:Hid (ng<2^64):=zY (by rw [hng]; exact qbF NEL.out);have HXX:=zY hxx;clear hXA lXA haf hne hng hch hxx hp1 hp2 hp3;refine qal (fun u=>MixSt64 w gf gr s (rowC .u64 RW 0) (s8V .u64 ⟨va,vb,vc,vd,ve,vf,vg,vh⟩) u) (fun u=>MixSt64 w gf gr s (rowC .u64 RW 0) (s8V .u64 ⟨va,vb,vc,vd,ve,vf,vg,vh⟩) u) [(0,some 38),(1,some 39),(2,some 40),(3,some 41),(4,some 42),(5,some 43),(6,some 44),(7,some 45),(8,some 46),(9,some 47),(10,some 48),(11,some 49),(12,some 50),(13,some 51),(14,some 52),(15,some 53),(16,some 54),(17,some 55),(18,some 56),(19,some 57),(20,some 58),(21,some 59),(22,some 60),(23,some 61),(24,some 62),(25,some 13)] (by kernel_rfl) (by kernel_rfl) (by decide) (by kernel_rfl) (fun _=>rfl) HC0 ?_;apply yN_
   ·apply dP [];exact fun _=>rfl;rfl;rintro vals - w1 hC1 E hE;simp only [sP] at hE ⊢;go_wp2;exact .mk (hE _ hC1)
   apply yN_
   ·apply dP [(0,some 38)];exact fun _=>rfl;rfl;intro vals vq w1 hC1 E hE;have d0:=hC1.v.cell 7;simp [s8V] at d0;simp only [sP,vq] at hE ⊢;clear vq;go_wp2;exact .mk (hE _ hC1)
   apply yN_
   ·apply dP [];exact fun _=>rfl;rfl;intro vals vq w1 hC1 E hE;clear vq;simp only [sP] at hE ⊢;refine qac hC1.form rfl rfl rfl hu rfl qaG ?_;go_wp2_with fail;exact .mk (hE _ hC1)
   apply yN_
   ·apply dP [];exact fun _=>rfl;rfl;intro vals vq w1 hC1 E hE;clear vq;simp only [sP] at hE ⊢;go_wp2;exact .mk (hE _ hC1)
   apply yN_
   ·apply dP [];exact fun _=>rfl;rfl;intro vals vq w1 hC1 E hE;clear vq;simp only [sP] at hE ⊢;go_wp2;exact .mk (hE _ hC1)
   apply yN_
   ·apply dP [(4,some 42)];exact fun _=>rfl;rfl;intro vals vq w1 hC1 E hE;simp only [sP,vq] at hE ⊢;clear vq;go_wp2;exact .mk (hE _ hC1)
   apply yN_
   ·apply dP [(5,some 43)];exact fun _=>rfl;rfl;intro vals vq w1 hC1 E hE;simp only [sP,vq] at hE ⊢;clear vq;refine qan (n:=3) (r:=#[.int .i64 14,.int .i64 18,.int .i64 41]) hC1.form (by decide) rfl rfl rfl rfl hu3 rfl qcH ?_;go_wp2_with fail;exact .mk (hE _ hC1)
   apply yN_
   ·apply dP [(2,some 40),(3,some 41),(6,some 44)];exact fun _=>rfl;rfl;intro vals vq w1 hC1 E hE;simp only [sP,vq] at hE ⊢;clear vq;go_wp2_with fail;refine qab (qdm ve 14 18 41 false _ (by have:=HL8.out.e; dsimp only at this; omega) (by decide) (by decide) (by decide)) ?_;rintro e w2 ⟨rfl,hb2⟩;rw [← HXA.out];go_wp2_with fail;exact .mk (hE _ (hC1.next hb2))
   apply yN_
   ·apply dP [(7,some 45),(7,some 45)];exact fun _=>rfl;rfl;intro vals vq w1 hC1 E hE;simp only [sP,vq] at hE ⊢;clear vq;go_wp2_with fail;refine qab (qcA ca _ LXA.out) ?_;rintro e w2 ⟨rfl,rfl⟩
    skip
    go_wp2_with fail;exact .mk (hE _ hC1)
   apply yN_
   ·apply dP [(1,some 39),(8,some 46)];exact fun _=>rfl;rfl;intro vals vq w1 hC1 E hE;simp only [sP,vq] at hE ⊢;clear vq;go_wp2;rw [qaQ vh ca,← HP1.out];exact .mk (hE _ hC1)
   apply yN_
   ·apply dP [];exact fun _=>rfl;rfl;intro vals vq w1 hC1 E hE;clear vq;simp only [sP] at hE ⊢;go_wp2;exact .mk (hE _ hC1)
   apply yN_
   ·apply dP [];exact fun _=>rfl;rfl;intro vals vq w1 hC1 E hE;clear vq;simp only [sP] at hE ⊢;go_wp2;exact .mk (hE _ hC1)
   apply yN_
   ·apply dP [(11,some 49)];exact fun _=>rfl;rfl;intro vals vq w1 hC1 E hE;have d0:=hC1.v.cell 5;simp [s8V] at d0;simp only [sP,vq] at hE ⊢;clear vq;go_wp2;exact .mk (hE _ hC1)
   apply yN_
   ·apply dP [(10,some 48),(12,some 50)];exact fun _=>rfl;rfl;intro vals vq w1 hC1 E hE;simp only [sP,vq] at hE ⊢;clear vq;go_wp2;rw [and64 ve vf HL8.out.e HL8.out.f,← HAF.out];exact .mk (hE _ hC1)
   apply yN_
   ·apply dP [];exact fun _=>rfl;rfl;intro vals vq w1 hC1 E hE;clear vq;simp only [sP] at hE ⊢;go_wp2;exact .mk (hE _ hC1)
   apply yN_
   ·apply dP [(14,some 52)];exact fun _=>rfl;rfl;intro vals vq w1 hC1 E hE;simp only [sP,vq] at hE ⊢;clear vq;refine qdy (run_not64 ve HL8.out.e) rfl rfl rfl ?_;rw [← HNE.out];go_wp2_with fail;exact .mk (hE _ hC1)
   apply yN_
   ·apply dP [];exact fun _=>rfl;rfl;intro vals vq w1 hC1 E hE;clear vq;simp only [sP] at hE ⊢;go_wp2;exact .mk (hE _ hC1)
   apply yN_
   ·apply dP [(16,some 54)];exact fun _=>rfl;rfl;intro vals vq w1 hC1 E hE;have d0:=hC1.v.cell 6;simp [s8V] at d0;simp only [sP,vq] at hE ⊢;clear vq;go_wp2;exact .mk (hE _ hC1)
   apply yN_
   ·apply dP [(15,some 53),(17,some 55)];exact fun _=>rfl;rfl;intro vals vq w1 hC1 E hE;simp only [sP,vq] at hE ⊢;clear vq;go_wp2;rw [and64 ne vg NEL.out HL8.out.g,← HNG.out];exact .mk (hE _ hC1)
   apply yN_
   ·apply dP [(13,some 51),(18,some 56)];exact fun _=>rfl;rfl;intro vals vq w1 hC1 E hE;simp only [sP,vq] at hE ⊢;clear vq;go_wp2;rw [xor64 af ng AFL.out NGL.out,← HCH.out];exact .mk (hE _ hC1)
   apply yN_
   ·apply dP [(9,some 47),(19,some 57)];exact fun _=>rfl;rfl;intro vals vq w1 hC1 E hE;simp only [sP,vq] at hE ⊢;clear vq;go_wp2;rw [qaQ p1 ch,← HP2.out];exact .mk (hE _ hC1)
   apply yN_
   ·apply dP [];exact fun _=>rfl;rfl;intro vals vq w1 hC1 E hE;clear vq;simp only [sP] at hE ⊢;go_wp2;exact .mk (hE _ hC1)
   apply yN_
   ·apply dP [(20,some 58),(21,some 59)];exact fun _=>rfl;rfl;intro vals vq w1 hC1 E hE;simp only [sP,vq] at hE ⊢;clear vq;go_wp2;rw [qaQ p2 kn,← HP3.out];exact .mk (hE _ hC1)
   apply yN_
   ·apply dP [];exact fun _=>rfl;rfl;intro vals vq w1 hC1 E hE;clear vq;simp only [sP] at hE ⊢;go_wp2;exact .mk (hE _ hC1)
   apply yN_
   ·apply dP [(22,some 60),(23,some 61)];exact fun _=>rfl;rfl;intro vals vq w1 hC1 E hE;simp only [sP,vq] at hE ⊢;clear vq;go_wp2;rw [qaQ p3 wk,← HXX.out];exact .mk (hE _ hC1)
   apply yL_
   ·apply dP [(24,some 62),(8,some 46),(0,some 38),(1,some 39),(2,some 40),(3,some 41),(4,some 42),(5,some 43),(6,some 44),(7,some 45),(8,some 46),(9,some 47),(10,some 48),(11,some 49),(12,some 50),(13,some 51),(14,some 52),(15,some 53),(16,some 54),(17,some 55),(18,some 56),(19,some 57),(20,some 58),(21,some 59),(22,some 60),(23,some 61),(24,some 62)];exact fun _=>rfl;rfl;intro vals vq w1 hC1 E hE;simp only [sP,vq] at hE ⊢;clear vq;go_wp2;exact .mk (hE _ hC1)
   intro vals vq w1 hC1;simp only [sP,vq];clear vq;clear HC0;go_wp2_with fail;have HC0:=hC1.drew;clear hC1;obtain ⟨cy,hYA⟩:=eX (allN 64 va 28 34 39 false);have lYA:cy<18446744073709551616:=by rw [hYA]; exact qcD (by have:=HL8.out.a; dsimp only at this; omega)
   obtain ⟨ab,hab⟩:=eX (va &&& vb);obtain ⟨ac,hac⟩:=eX (va &&& vc);obtain ⟨bc,hbc⟩:=eX (vb &&& vc);obtain ⟨x1,hx1⟩:=eX (ab ^^^ ac);obtain ⟨mj,hmj⟩:=eX (x1 ^^^ bc);obtain ⟨yy,hyy⟩:=eX ((cy+mj)%2^64);have HYA:=zY hYA;have LYA:=zY lYA;have HAB:=zY hab;have HAC:=zY hac;have HBC:=zY hbc;have HX1:=zY hx1;have HMJ:=zY hmj;have HYY:=zY hyy;have ABL:Hid (ab<2^64):=zY (by rw [hab]; exact qbF HL8.out.a);have ACL:Hid (ac<2^64):=zY (by rw [hac]; exact qbF HL8.out.a);have BCL:Hid (bc<2^64):=zY (by rw [hbc]; exact qbF HL8.out.b);have X1L:Hid (x1<2^64):=zY (by rw [hx1]; exact Nat.xor_lt_two_pow ABL.out ACL.out);clear hYA lYA hab hac hbc hx1 hmj hyy;refine qal (fun u=>MixSt64 w gf gr s (rowC .u64 RW 0) (s8V .u64 ⟨va,vb,vc,vd,ve,vf,vg,vh⟩) u) (fun u=>MixSt64 w gf gr s (rowC .u64 RW 0) (s8V .u64 ⟨va,vb,vc,vd,ve,vf,vg,vh⟩) u) [(0,some 63),(1,some 64),(2,some 65),(3,some 66),(4,some 67),(5,some 68),(6,some 69),(7,some 70),(8,some 71),(9,some 72),(10,some 73),(11,some 74),(12,some 75),(13,some 76),(14,some 77),(15,some 78),(16,some 79),(17,some 80),(18,some 81),(19,some 82),(20,some 83),(21,some 84),(22,some 85),(23,some 14)] (by kernel_rfl) (by kernel_rfl) (by decide) (by kernel_rfl) (fun _=>rfl) HC0 ?_;apply yN_
   ·apply dP [];exact fun _=>rfl;rfl;rintro vals - w1 hC1 E hE;simp only [sP] at hE ⊢;refine qac hC1.form rfl rfl rfl hu rfl qaG ?_;go_wp2_with fail;exact .mk (hE _ hC1)
   apply yN_
   ·apply dP [];exact fun _=>rfl;rfl;rintro vals ⟨-,-⟩ w1 hC1 E hE;simp only [sP] at hE ⊢;go_wp2;exact .mk (hE _ hC1)
   apply yN_
   ·apply dP [];exact fun _=>rfl;rfl;intro vals vq w1 hC1 E hE;clear vq;simp only [sP] at hE ⊢;go_wp2;exact .mk (hE _ hC1)
   apply yN_
   ·apply dP [(2,some 65)];exact fun _=>rfl;rfl;intro vals vq w1 hC1 E hE;simp only [sP,vq] at hE ⊢;clear vq;go_wp2;exact .mk (hE _ hC1)
   apply yN_
   ·apply dP [(3,some 66)];exact fun _=>rfl;rfl;intro vals vq w1 hC1 E hE;simp only [sP,vq] at hE ⊢;clear vq;refine qan (n:=3) (r:=#[.int .i64 28,.int .i64 34,.int .i64 39]) hC1.form (by decide) rfl rfl rfl rfl hu3 rfl qcH ?_;go_wp2_with fail;exact .mk (hE _ hC1)
   apply yN_
   ·apply dP [(0,some 63),(1,some 64),(4,some 67)];exact fun _=>rfl;rfl;intro vals vq w1 hC1 E hE;simp only [sP,vq] at hE ⊢;clear vq;go_wp2_with fail;refine qab (qdm va 28 34 39 false _ (by have:=HL8.out.a; dsimp only at this; omega) (by decide) (by decide) (by decide)) ?_;rintro e w2 ⟨rfl,hb2⟩;rw [← HYA.out];go_wp2_with fail;exact .mk (hE _ (hC1.next hb2))
   apply yN_
   ·apply dP [(5,some 68),(5,some 68)];exact fun _=>rfl;rfl;intro vals vq w1 hC1 E hE;simp only [sP,vq] at hE ⊢;clear vq;go_wp2_with fail;refine qab (qcA cy _ LYA.out) ?_;rintro e w2 ⟨rfl,rfl⟩
    skip
    go_wp2_with fail;exact .mk (hE _ hC1)
   apply yN_
   ·apply dP [];exact fun _=>rfl;rfl;intro vals vq w1 hC1 E hE;clear vq;simp only [sP] at hE ⊢;go_wp2;exact .mk (hE _ hC1)
   apply yN_
   ·apply dP [];exact fun _=>rfl;rfl;intro vals vq w1 hC1 E hE;clear vq;simp only [sP] at hE ⊢;go_wp2;exact .mk (hE _ hC1)
   apply yN_
   ·apply dP [(8,some 71)];exact fun _=>rfl;rfl;intro vals vq w1 hC1 E hE;have d0:=hC1.v.cell 1;simp [s8V] at d0;simp only [sP,vq] at hE ⊢;clear vq;go_wp2;exact .mk (hE _ hC1)
   apply yN_
   ·apply dP [(7,some 70),(9,some 72)];exact fun _=>rfl;rfl;intro vals vq w1 hC1 E hE;simp only [sP,vq] at hE ⊢;clear vq;go_wp2;rw [and64 va vb HL8.out.a HL8.out.b,← HAB.out];exact .mk (hE _ hC1)
   apply yN_
   ·apply dP [];exact fun _=>rfl;rfl;intro vals vq w1 hC1 E hE;clear vq;simp only [sP] at hE ⊢;go_wp2;exact .mk (hE _ hC1)
   apply yN_
   ·apply dP [];exact fun _=>rfl;rfl;intro vals vq w1 hC1 E hE;clear vq;simp only [sP] at hE ⊢;go_wp2;exact .mk (hE _ hC1)
   apply yN_
   ·apply dP [(12,some 75)];exact fun _=>rfl;rfl;intro vals vq w1 hC1 E hE;have d0:=hC1.v.cell 2;simp [s8V] at d0;simp only [sP,vq] at hE ⊢;clear vq;go_wp2;exact .mk (hE _ hC1)
   apply yN_
   ·apply dP [(11,some 74),(13,some 76)];exact fun _=>rfl;rfl;intro vals vq w1 hC1 E hE;simp only [sP,vq] at hE ⊢;clear vq;go_wp2;rw [and64 va vc HL8.out.a HL8.out.c,← HAC.out];exact .mk (hE _ hC1)
   apply yN_
   ·apply dP [(10,some 73),(14,some 77)];exact fun _=>rfl;rfl;intro vals vq w1 hC1 E hE;simp only [sP,vq] at hE ⊢;clear vq;go_wp2;rw [xor64 ab ac ABL.out ACL.out,← HX1.out];exact .mk (hE _ hC1)
   apply yN_
   ·apply dP [];exact fun _=>rfl;rfl;intro vals vq w1 hC1 E hE;clear vq;simp only [sP] at hE ⊢;go_wp2;exact .mk (hE _ hC1)
   apply yN_
   ·apply dP [(16,some 79)];exact fun _=>rfl;rfl;intro vals vq w1 hC1 E hE;have d0:=hC1.v.cell 1;simp [s8V] at d0;simp only [sP,vq] at hE ⊢;clear vq;go_wp2;exact .mk (hE _ hC1)
   apply yN_
   ·apply dP [];exact fun _=>rfl;rfl;intro vals vq w1 hC1 E hE;clear vq;simp only [sP] at hE ⊢;go_wp2;exact .mk (hE _ hC1)
   apply yN_
   ·apply dP [(18,some 81)];exact fun _=>rfl;rfl;intro vals vq w1 hC1 E hE;have d0:=hC1.v.cell 2;simp [s8V] at d0;simp only [sP,vq] at hE ⊢;clear vq;go_wp2;exact .mk (hE _ hC1)
   apply yN_
   ·apply dP [(17,some 80),(19,some 82)];exact fun _=>rfl;rfl;intro vals vq w1 hC1 E hE;simp only [sP,vq] at hE ⊢;clear vq;go_wp2;rw [and64 vb vc HL8.out.b HL8.out.c,← HBC.out];exact .mk (hE _ hC1)
   apply yN_
   ·apply dP [(15,some 78),(20,some 83)];exact fun _=>rfl;rfl;intro vals vq w1 hC1 E hE;simp only [sP,vq] at hE ⊢;clear vq;go_wp2;rw [xor64 x1 bc X1L.out BCL.out,← HMJ.out];exact .mk (hE _ hC1)
   apply yN_
   ·apply dP [(6,some 69),(21,some 84)];exact fun _=>rfl;rfl;intro vals vq w1 hC1 E hE;simp only [sP,vq] at hE ⊢;clear vq;go_wp2;rw [qaQ cy mj,← HYY.out];exact .mk (hE _ hC1)
   apply yL_
   ·apply dP [(22,some 85),(6,some 69),(0,some 63),(1,some 64),(2,some 65),(3,some 66),(4,some 67),(5,some 68),(6,some 69),(7,some 70),(8,some 71),(9,some 72),(10,some 73),(11,some 74),(12,some 75),(13,some 76),(14,some 77),(15,some 78),(16,some 79),(17,some 80),(18,some 81),(19,some 82),(20,some 83),(21,some 84),(22,some 85)];exact fun _=>rfl;rfl;intro vals vq w1 hC1 E hE;simp only [sP,vq] at hE ⊢;clear vq;go_wp2;exact .mk (hE _ hC1)
   intro vals vq w1 hC1;simp only [sP,vq];clear vq;clear HC0;go_wp2_with fail;have HC0:=hC1.drew;clear hC1;refine qal (fun u=>MixSt64 w gf gr s (rowC .u64 RW 0) (s8V .u64 ⟨va,vb,vc,vd,ve,vf,vg,vh⟩) u) (fun u=>MixSt64 w gf gr s (rowC .u64 RW 0) (s8V .u64 ⟨va,va,vb,vc,vd,ve,vf,vg⟩) u) [(0,some 86),(1,some 87),(2,some 88)] (by kernel_rfl) (by kernel_rfl) (by decide) (by kernel_rfl) (fun _=>rfl) HC0 ?_;apply yN_
   ·apply dP [];exact fun _=>rfl;rfl;rintro vals - w1 hC1 E hE;simp only [sP] at hE ⊢;go_wp2;exact .mk (hE _ hC1)
   apply yN_
   ·apply dP [];exact fun _=>rfl;rfl;rintro vals ⟨-,-⟩ w1 hC1 E hE;simp only [sP] at hE ⊢;go_wp2;exact .mk (hE _ hC1)
   apply yL_
   ·apply dP [(0,some 86),(1,some 87)];exact fun _=>rfl;rfl;intro vals vq w1 hC1 E hE;simp only [sP,vq] at hE ⊢;clear vq;refine qcr ((s8V .u64 ⟨va,vb,vc,vd,ve,vf,vg,vh⟩).toList.take 7) (new:=s8V .u64 ⟨va,va,vb,vc,vd,ve,vf,vg⟩) hC1.v rfl rfl Tryz.underlying106 one64 rfl rfl rfl (blk_src hC1.v 7) (by simp [s8V]) (by simp [s8V,Value.oneCell']) rfl ?_;intro w2 hb2 hw2;go_wp2_with fail;exact .mk (hE _ (hC1.put hw2 hb2))
   intro vals vq w1 hC1;simp only [sP,vq];clear vq;clear HC0;have d4:=hC1.v.cell 4;simp [s8V] at d4;have d0:=hC1.v.cell 0;simp [s8V] at d0;have g4:=hC1.v.free 4;have g0:=hC1.v.free 0;have HC1:=zY hC1;clear hC1 iwk ikk ive iva;have hu8':=zY hu8;have hu':=zY hu;have hu3':=zY hu3;clear hu8 hu hu3;obtain ⟨dx,hdx⟩:=eX ((vd+xx)%2^64);obtain ⟨xy,hxy⟩:=eX ((xx+yy)%2^64);have HDX:=zY hdx;have HXY:=zY hxy;clear hdx hxy
   have hfin:∀ u,u=(w1.setCell ⟨gf+1+1+1,4,none⟩ (.int .u64 (dx:Int))).setCell ⟨gf+1+1+1,0,none⟩ (.int .u64 (xy:Int))→MixSt64 w gf gr s (rowC .u64 RW 0) (s8V .u64 (mixTo F64 RW s (k+1))) u:=by
    intro u hu;rw [hu,mixTo,← HVV.out];have h1:=HC1.out.put (v':=s8V .u64 ⟨va,va,vb,vc,dx,ve,vf,vg⟩) (qai w1 (gf+1+1+1) 4 (.int .u64 (dx:Int))) (qak (i:=4) HC1.out.v (.int .u64 (dx:Int)));have h2:=h1.put (v':=s8V .u64 ⟨xy,va,vb,vc,dx,ve,vf,vg⟩) (qai _ (gf+1+1+1) 0 (.int .u64 (xy:Int))) (qak (i:=0) h1.v (.int .u64 (xy:Int)))
    have e1:mixX F64 ⟨va,vb,vc,vd,ve,vf,vg,vh⟩ (kN F64 k) (RW.getD k 0)=xx:=by
     rw [HXX.out,HP3.out,HP2.out,HP1.out,HCH.out,HNG.out,HNE.out,HAF.out,HXA.out,HWK.out,HKNE.out];exact mixX_64 _ _ _ _ _
    have e2:mixY F64 ⟨va,vb,vc,vd,ve,vf,vg,vh⟩=yy:=by
     rw [HYY.out,HMJ.out,HX1.out,HAB.out,HAC.out,HBC.out,HYA.out];exact mixY_64 _ _
    have e3:stepS F64 ⟨va,vb,vc,vd,ve,vf,vg,vh⟩ (kN F64 k) (RW.getD k 0)=⟨xy,va,vb,vc,dx,ve,vf,vg⟩:=by
     rw [stepS,e1,e2,HDX.out,HXY.out];rfl
    rw [e3];exact h2
   have HFIN:=zY hfin;clear hfin;go_wp2_with fail;rw [qaQ vd xx,qaQ xx yy,← HDX.out,← HXY.out];exact ⟨⟨k+1,hlt,by go_num,HFIN.out _ rfl⟩,by simp [intOf]; omega⟩
  ·have hge:¬ (k:Int)<80:=by omega
   obtain rfl:k=80:=by omega
   have HST:=zY hst;clear hst;go_wp2_with fail;obtain ⟨vv,hvv⟩:=eX (mixTo F64 RW s 80);have HVV:=zY hvv;have hst9:MixSt64 w gf gr s (rowC .u64 RW 0) (addC .u64 F64 s vv 0) wr:=by rw [addC_zero,HVV.out]; exact HST.out
   clear hvv HST;obtain ⟨wo,rfl⟩:∃ wo:World,wo=wr:=⟨_,rfl⟩
   go_loopw [99] (fun i wr=>∃ j:Nat,j≤8∧i=.int .i64 j∧MixSt64 w gf gr s (rowC .u64 RW 0) (addC .u64 F64 s vv j) wr) (fun i _=>8 - (intOf i).toNat)
   case atStart=>exact ⟨0,by omega,rfl,hst9⟩
   case round =>
    obtain ⟨j,hj,rfl,hsj⟩:=hrel;clear hst9
    by_cases hj8:j<8
    ·have hj8':(j:Int)<8:=by omega
     obtain ⟨vj,hvj⟩:=eX ((s8L vv).getD j 0);obtain ⟨sj,hsj'⟩:∃ x,x=(s8L s).getD j 0:=⟨_,rfl⟩;obtain ⟨aj,haj⟩:=eX ((vj+sj)%2^64);have E1:Hid ((addC .u64 F64 s vv j)[j]?=some (.int .u64 (vj:Int))):=zY (by rw [addC_at .u64 F64 s vv j hj8,hvj]);have E2:Hid ((s8V .u64 s)[j]?=some (.int .u64 (sj:Int))):=zY (by rw [s8V_at .u64 s j hj8,hsj']);have E3:Hid ((addC .u64 F64 s vv j).setIfInBounds j (.int .u64 (aj:Int))=addC .u64 F64 s vv (j+1)):=zY (by rw [haj,hvj,hsj']; exact addC_set .u64 F64 s vv j hj8);have HAJ:=zY haj;clear hvj hsj' haj;go_wp2_with fail;have HC0:=hsj.drew;clear hsj;refine qal (fun u=>MixSt64 w gf gr s (rowC .u64 RW 0) (addC .u64 F64 s vv j) u) (fun u=>MixSt64 w gf gr s (rowC .u64 RW 0) (addC .u64 F64 s vv (j+1)) u) [(0,some 102),(1,some 103),(2,some 104),(3,some 105),(4,some 106),(5,some 107),(6,some 108),(7,some 109),(8,none)] (by kernel_rfl) (by kernel_rfl) (by decide) (by kernel_rfl) (fun _=>rfl) HC0 ?_;apply yN_
     ·apply dP [];exact fun _=>rfl;rfl;rintro vals - w1 hC1 E hE;simp only [sP] at hE ⊢;go_wp2;exact .mk (hE _ hC1)
     apply yN_
     ·apply dP [(0,some 102)];exact fun _=>rfl;rfl;intro vals vq w1 hC1 E hE;simp only [sP,vq] at hE ⊢;clear vq;go_wp2;exact .mk (hE _ hC1)
     apply yN_
     ·apply dP [(1,some 103)];exact fun _=>rfl;rfl;intro vals vq w1 hC1 E hE;have d0:=hC1.v.cell j;rw [E1.out] at d0;simp only [sP,vq] at hE ⊢;clear vq;go_wp2;exact .mk (hE _ hC1)
     apply yN_
     ·apply dP [];exact fun _=>rfl;rfl;intro vals vq w1 hC1 E hE;clear vq;simp only [sP] at hE ⊢;go_wp2;exact .mk (hE _ hC1)
     apply yN_
     ·apply dP [(3,some 105)];exact fun _=>rfl;rfl;intro vals vq w1 hC1 E hE;simp only [sP,vq] at hE ⊢;clear vq;go_wp2;exact .mk (hE _ hC1)
     apply yN_
     ·apply dP [(4,some 106)];exact fun _=>rfl;rfl;intro vals vq w1 hC1 E hE;have d0:=hC1.s.cell j;rw [E2.out] at d0;simp only [sP,vq] at hE ⊢;clear vq;go_wp2;exact .mk (hE _ hC1)
     apply yN_
     ·apply dP [(2,some 104),(5,some 107)];exact fun _=>rfl;rfl;intro vals vq w1 hC1 E hE;simp only [sP,vq] at hE ⊢;clear vq;go_wp2;rw [qaQ vj sj,← HAJ.out];exact .mk (hE _ hC1)
     apply yN_
     ·apply dP [(0,some 102),(0,some 102),(1,some 103),(2,some 104),(3,some 105),(4,some 106),(5,some 107),(6,some 108)];exact fun _=>rfl;rfl;intro vals vq w1 hC1 E hE;simp only [sP,vq] at hE ⊢;clear vq;go_wp2;exact .mk (hE _ hC1)
     apply yL_ (v:=undef)
     ·apply dP [(7,some 109),(6,some 108),(0,some 102),(1,some 103),(2,some 104),(3,some 105),(4,some 106),(5,some 107),(6,some 108)];exact fun _=>rfl;rfl;intro vals vq w1 hC1 E hE;simp only [sP,vq] at hE ⊢;clear vq;refine qam (i:=j) (v:=.int .u64 (aj:Int)) hC1.v rfl rfl rfl rfl one64 (by rw [addC_size]; exact hj8) rfl ?_;intro w2 hb2 hw2;go_wp2_with fail;exact .mk (hE _ (hC1.put hw2 (by rw [E3.out] at hb2; exact hb2)))
     intro vals vq w1 hC1;simp only [sP,vq];clear vq;clear HC0;have HC1:=zY hC1;clear hC1;go_wp2_with fail;exact ⟨⟨j+1,hj8,by go_num,HC1.out⟩,by simp [intOf]; omega⟩
    ·have hge:¬ (j:Int)<8:=by omega
     obtain rfl:j=8:=by omega
     rw [addC_end] at hsj
     go_wp2_with (first
      | (refine qac (x:=.tmp 7) hsj.v rfl rfl rfl hu8 rfl qbh ?_)
      | (refine qad (x:=.tmp 6) hsj.res rfl rfl rfl rfl qbh rfl (by simp [s8V,Value.oneCell']) ?_; intro w5 hb5 hw5))
     refine bodyPost_ret (qau (P:=Tryz.prog) rfl rfl hb5 hu8 rfl qbh) rfl ?_;refine ⟨?_,?_⟩
     ·rw [mixS,HVV.out,HRW.out]; rfl
     ·rw [HGF.out];exact hw5.below hsj.bel (by omega) (by have:=hsj.form.lt; omega)
theorem u8_zero:∃ i,Tryz.prog.info? 5=some i∧i.zero=some (.int .u8 0):=by
 obtain ⟨i,hi,h0,_,_⟩:=info_parts (show (Tryz.prog.info? 5).map (fun i=>(i.zero,i.size,i.bytes))=some (some (.int .u8 0),1,1) by kernel_rfl);exact ⟨i,hi,h0⟩
theorem qcx (data:List UInt8):prepS F64 data=oneZ data (zeroN F64 data.length)++List.replicate (moreN F64 data.length) 0:=by simp [prepS,oneZ]
theorem prep64_le {data:List UInt8} (h:data.length≤40000):(prepS F64 data).length≤60000:=by
 rw [qcx,List.length_append,qax,List.length_replicate];have:zeroN F64 data.length<128:=Nat.mod_lt _ (by decide);have:moreN F64 data.length≤128:=by unfold moreN; split <;> simp [F64]
 omega
structure SumSt64 (w0:World) (gf:Nat) (xs:List UInt8) (v:Value) (u:World):Prop where
 bel:Below gf w0 u
 form:Blk u gf 105 f64C
 own:OwnX u (gf+1) 5 1 v xs.length (bytesV xs)
theorem SumSt64.grow {w0 u u':World} {gf:Nat} {xs ys:List UInt8} {v v':Value} (h:SumSt64 w0 gf xs v u) (hg:u.grownBy u' v.ownBlock) (ho:OwnX u' (gf+1) 5 1 v' ys.length (bytesV ys)):SumSt64 w0 gf ys v' u' :=
 ⟨h.bel.grown hg (by have:=h.form.lt; omega) (fun k hk=>by have:=(h.own.lt k hk).1; omega),h.form.grown hg (fun e=>by have:=(h.own.lt gf e.symm).1; omega),ho⟩
theorem zero64_ne (n k:Nat) (h:k<zeroN F64 n):((((n+1+k:Nat):Int)%128) != 120)=true:=by
 simp only [zeroN,F64] at h;rw [bne_iff_ne];omega
theorem zero64_eq (n:Nat):((((n+1+zeroN F64 n:Nat):Int)%128) != 120)=false:=by
 have h:zeroN F64 n=(2*64 - 8+2*64 - (n+1)%(2*64))%(2*64):=rfl;rw [bne_eq_false_iff_eq];omega
theorem qdz (data:List UInt8):(padS F64 data).length%128=0:=by
 have hz:zeroN F64 data.length=(2*64 - 8+2*64 - (data.length+1)%(2*64))%(2*64):=rfl
 have hm:moreN F64 data.length=0∨moreN F64 data.length=128:=by
  unfold moreN
  split
  ·exact .inr rfl
  ·exact .inl rfl
 simp only [padS,List.length_append,List.length_replicate,List.length_singleton,qa8];omega
structure SumT64 (w0:World) (gf gs:Nat) (A:Option Addr) (xs:List UInt8) (cs:Array Value) (u:World):Prop where
 bel:Below gf w0 u
 form:Blk u gf 105 f64C
 rd:Rd u gs A (bytesV xs)
 s:Blk u gs 132 cs
 lg:gf<gs
theorem SumT64.next {w0 u u':World} {gf gs:Nat} {A:Option Addr} {xs:List UInt8} {cs:Array Value} (h:SumT64 w0 gf gs A xs cs u) (hb:Below u.heap.size u u'):SumT64 w0 gf gs A xs cs u' :=
 ⟨h.bel.trans (hb.mono (by have:=h.form.lt; omega)),h.form.below hb h.form.lt,h.rd.below (hb.mono (by have:=h.s.lt; omega)),h.s.below hb h.s.lt,h.lg⟩
theorem SumT64.drew {w0 u:World} {gf gs:Nat} {A:Option Addr} {xs:List UInt8} {cs:Array Value} (h:SumT64 w0 gf gs A xs cs u):SumT64 w0 gf gs A xs cs u.drew :=
 ⟨h.bel.drew,h.form,h.rd.below ((Below.refl _ _).drew),h.s,h.lg⟩
theorem SumT64.put {w0 u u':World} {gf gs:Nat} {A:Option Addr} {xs:List UInt8} {cs cs':Array Value} (h:SumT64 w0 gf gs A xs cs u) (hw:Wrote gs u u') (hb:Blk u' gs 132 cs'):SumT64 w0 gf gs A xs cs' u' :=
 ⟨hw.below h.bel (by have:=h.lg; omega) (by have:=h.form.lt; omega),hw.blk h.form (by have:=h.lg; omega),h.rd.below (hw.below (Below.refl _ _) (Nat.le_refl _) (by have:=h.s.lt; omega)),hb,h.lg⟩
structure SumO64 (w0:World) (gf gb:Nat) (xs:List UInt8) (v:Value) (u:World):Prop where
 bel:Below gf w0 u
 form:Blk u gf 105 f64C
 own:u.ownsRow gb 5 1 v xs.length (bytesV xs)
 lb:gb≤u.heap.size
theorem SumO64.grow {w0 u u':World} {gf gb:Nat} {xs ys:List UInt8} {v v':Value} (h:SumO64 w0 gf gb xs v u) (hlt:gf<gb) (hg:u.grownBy u' v.ownBlock) (ho:u'.ownsRow gb 5 1 v' ys.length (bytesV ys)):SumO64 w0 gf gb ys v' u' :=
 ⟨h.bel.grown hg (by have:=h.form.lt; omega) (fun k hk=>by have:=(own_lt h.own k hk).1; omega),h.form.grown hg (fun e=>by have:=(own_lt h.own gf e.symm).1; omega),ho,by have:=h.lb; have:=hg.size; omega⟩
def SumPost64 (data:List UInt8) (w:World) (e:Ending) (w':World):Prop :=
 ∃ A c,e=.returned (.slice A (8*8) c)∧w'.ownsRow w.heap.size 5 1 (.slice A (8*8) c) (8*8) (bytesV (digS F64 data))∧Below w.heap.size w w'
theorem sum64_any (data:List UInt8) (A:Option Addr) (c B:Nat) (w:World) (hr:Rd w B A (bytesV data)) (hB:B≤w.heap.size) (hl:data.length≤40000) (hc:data.length≤c) (hcm:c≤9223372036854775807) (hG:TabG w) :
  Calls Tryz.prog 90 #[.agg f64C,.slice A data.length c] w (SumPost64 data w):=by
 obtain ⟨W0,hW0⟩:=eX (w.alloc (.cells f64C 105));have hb0:Below w.heap.size w W0:=by rw [hW0]; exact below_new _ _
 have hf0:Blk W0 w.heap.size 105 f64C:=by rw [hW0]; exact Blk.new _ _ _
 have hs0:W0.heap.size=w.heap.size+1:=by rw [hW0]; simp
 have c0:=hf0.cell 0;simp [f64C] at c0;rw [hW0] at c0;have HB0:=zY hb0;have HF0:=zY hf0;have HS0:=zY hs0;have HR:=zY (hr.mono hB);have HW:=zY hW0;have HG:=zY hG;have hl':(data.length:Int)≤40000:=by omega
 clear hb0 hf0 hs0 hr hW0 hG;go_enter Tryz.func90,Tryz.ntmps90;go_wp2
 go_quiet (fail)
 have hb1:Below w.heap.size w ((w.alloc (.cells f64C 105)).drewN nq):=qbV (below_new _ _) nq;have hf1:Blk ((w.alloc (.cells f64C 105)).drewN nq) w.heap.size 105 f64C:=Blk.new _ _ _;have hz1:((w.alloc (.cells f64C 105)).drewN nq).heap.size=w.heap.size+1:=by simp
 generalize (w.alloc (.cells f64C 105)).drewN nq=W1 at *;have hr1:=HR.out.below hb1;generalize hgf:w.heap.size=gf at *;have HGF:=zY hgf
 have hst0:SumSt64 w gf [] (.slice (some ⟨W1.heap.size,0,none⟩) 0 0) (W1.alloc (.cells #[] 5)) :=
  ⟨hb1.alloc (by omega) _,hf1.alloc _,own_empty W1 (by omega)⟩
 have hr2:Rd (W1.alloc (.cells #[] 5)) gf A (bytesV data):=hr1.below ((Below.refl _ _).alloc (by omega) _);have HST0:=zY hst0;have HR2:=zY hr2;have HZ1:=zY hz1;clear hb1 hf1 hz1 hr1 hst0 hr2 hgf c0 HB0 HF0 HS0 HW;have HOWN0:Hid (OwnX (W1.alloc (.cells #[] 5)) (gf+1) 5 1 (.slice (some ⟨W1.heap.size,0,none⟩) 0 0) 0 []):=zY HST0.out.own
 go_wp2_with (first
  | (refine qaz (o:=⟨some 25,_,_,_,_,_⟩) sl_bytes rfl rfl HOWN0.out rfl rfl (by simp [bytesV]) HR2.out (by intro u hu; simp [bytesV,byteV] at hu; obtain ⟨_,_,rfl⟩:=hu; rfl) (by unfold maxLen; omega) (by omega) (by have:=HST0.out.form.lt; omega) ?_; intro A1 c1 w1 hown1 hg1 hn1; have HOWN1:Hid (OwnX w1 (gf+1) 5 1 (.slice A1 data.length c1) data.length (bytesV data)):=zY (by simpa using hown1); have H1281:Hid (gf+1≤w1.heap.size):=zY (by have:=hg1.size; have:=HZ1.out; simp at *; omega); have HG1:=zY hg1; clear hown1 hg1 hn1)
  | (refine qao (o:=⟨some 28,_,_,_,_,_⟩) sl_bytes rfl rfl HOWN1.out rfl rfl rfl rfl (by unfold maxLen; omega) (by omega) H1281.out ?_; intro A2 c2 w2 hown2 hg2 hn2; have HOWN2:=zY hown2; have HG2:=zY hg2; clear hown2 hg2 hn2))
 have hst2:SumSt64 w gf (oneZ data 0) (.slice A2 (data.length+1) c2) w2 :=
  (HST0.out.grow (ys:=data) HG1.out HOWN1.out).grow HG2.out (by rw [qax,qc7,qaS]; exact HOWN2.out)
 have hzl:zeroN F64 data.length<128:=Nat.mod_lt _ (by decide);clear HST0 HOWN0 HR2 HZ1 HOWN1 H1281 HG1 HOWN2 HG2
 go_loopw [7] (fun v wr=>∃ (k n:Nat) (A3:Option Addr) (c3:Nat),k≤zeroN F64 data.length∧n=data.length+1+k∧v=.slice A3 n c3∧SumSt64 w gf (oneZ data k) (.slice A3 n c3) wr) (fun v _=>data.length+1+zeroN F64 data.length - lenOf v)
 case atStart=>exact ⟨0,data.length+1,A2,c2,Nat.zero_le _,rfl,rfl,hst2⟩
 case round =>
  obtain ⟨k,n,A3,c3,hk,hn,rfl,hst⟩:=hrel;clear hst2;have hn2:n≤50000:=by omega
  by_cases hlt:k<zeroN F64 data.length
  ·have hne:(((n:Nat):Int)%128 != 120)=true:=by rw [hn]; exact zero64_ne _ _ hlt
   have ho:OwnX wr (gf+1) 5 1 (.slice A3 n c3) n (bytesV (oneZ data k)):=by have:=hst.own; rwa [qax,← hn] at this
   have HO:=zY ho;have HN:=zY hn;have HST:=zY hst;clear ho hn hst;go_wp2_with (refine qao (o:=⟨some 38,_,_,_,_,_⟩) sl_bytes rfl rfl HO.out rfl rfl rfl rfl (by unfold maxLen; omega) (by omega) (by have:=HST.out.form.lt; omega) ?_; intro A4 c4 w4 hown4 hg4 hn4; have HOWN4:=zY hown4; have HG4:=zY hg4; clear hown4 hg4 hn4);exact ⟨⟨k+1,n+1,A4,c4,hlt,by rw [HN.out]; omega,rfl,HST.out.grow HG4.out (by rw [qax,qc8,qaS,← Nat.add_assoc,← HN.out]; exact HOWN4.out)⟩,by simp only [lenOf]; have:=HN.out; omega⟩
  ·obtain rfl:k=zeroN F64 data.length:=by omega
   have hne:(((n:Nat):Int)%128 != 120)=false:=by rw [hn]; exact zero64_eq _
   have HN:=zY hn;have HST:=zY hst;clear hn hst;obtain ⟨pl,hpl⟩:=eX ((prepS F64 data).length);have hpl3:pl≤60000:=by rw [hpl]; exact prep64_le hl
   have hne2:((((n:Nat):Int)%128 != 120))=false:=hne
   go_upto_region 6 with (fail)
   go_cut [5,59] (fun s5 b wx=>∃ sz:Nat,sz=128∧s5=.int .i64 (sz:Int)∧b=.bool (decide (112≤data.length%128∧data.length%128<120))∧wx=wr)
   case first =>
    by_cases h1:112≤data.length%128
    ·have h1':(112:Int)≤(data.length:Int)%128:=by omega
     by_cases h2:data.length%128<120
     ·have h2':(data.length:Int)%128<120:=by omega
      go_wp2_with fail
      go_meet
      exact ⟨128,rfl,rfl,congrArg Value.bool (decide_eq_true ⟨h1,h2⟩).symm,rfl⟩
     ·have h2':¬ (data.length:Int)%128<120:=by omega
      go_wp2_with fail
      go_meet
      exact ⟨128,rfl,rfl,congrArg Value.bool (decide_eq_false (fun h=>h2 h.2)).symm,rfl⟩
    ·have h1':¬ (112:Int)≤(data.length:Int)%128:=by omega
     go_wp2_with fail
     go_meet
     exact ⟨128,rfl,rfl,congrArg Value.bool (decide_eq_false (fun h=>h1 h.1)).symm,rfl⟩
   case rest =>
   obtain ⟨sz,hsz,rfl,rfl,rfl⟩:=hcut;have H128:=zY hsz;clear hsz;obtain ⟨bb,hbb⟩:=eX (decide (112≤data.length%128∧data.length%128<120));rw [← hbb];have H64:=zY hbb;have HPL0:=zY hpl;clear hbb hpl
   go_upto_if 59 with (fail)
   go_cut [7] (fun v wx=>∃ A4 c4,v=.slice A4 pl c4∧SumSt64 w gf (prepS F64 data) (.slice A4 pl c4) wx)
   case first =>
    by_cases hbt:bb=true
    ·subst hbt;have hmore:moreN F64 data.length=128:=if_pos (show _∧_∧_ from ⟨by decide,(of_decide_eq_true H64.out.symm).1,(of_decide_eq_true H64.out.symm).2⟩);have HMORE:=zY hmore;clear hmore;have HO:Hid (OwnX wc (gf+1) 5 1 (.slice A3 n c3) n (bytesV (oneZ data (zeroN F64 data.length)))):=zY (by have:=HST.out.own; rwa [qax,← HN.out] at this);go_wp2_with (refine qcU (m:=sz) sl_bytes u8_zero Tryz.underlying3 rfl rfl HO.out rfl rfl (by have:=HN.out; omega) (by rw [H128.out]; decide) (by have:=H128.out; omega) (by have:=HST.out.form.lt; omega) ?_; intro A4 c4 w4 hown4 hg4 hn4; have HOWN4:=zY hown4; have HG4:=zY hg4; clear hown4 hg4 hn4)
     go_meet
     have hpe:pl=n+sz:=by rw [HPL0.out,qcx,List.length_append,qax,List.length_replicate,HMORE.out,H128.out,HN.out]
     refine ⟨A4,c4,by rw [hpe],HST.out.grow HG4.out ?_⟩;rw [← HPL0.out,hpe,qcx,HMORE.out,qaT,← H128.out];have h:=HOWN4.out
     rwa [show List.replicate sz (Value.int .u8 0)=bytesV (List.replicate sz 0) from by simp [bytesV,byteV]] at h
    ·have hbf:bb=false:=by simpa using hbt
     subst hbf;have hmore:moreN F64 data.length=0:=if_neg (fun h=>of_decide_eq_false H64.out.symm ⟨h.2.1,h.2.2⟩);have HMORE:=zY hmore;clear hmore hbt;go_wp2_with fail
     go_meet
     have hpe:pl=n:=by rw [HPL0.out,qcx,List.length_append,qax,List.length_replicate,HMORE.out,HN.out]; rfl
     refine ⟨A3,c3,by rw [hpe],?_⟩;have h:=HST.out;have e:prepS F64 data=oneZ data (zeroN F64 data.length):=by rw [qcx,HMORE.out]; simp
     rw [e,hpe];exact h
   case rest =>
   obtain ⟨A3,c3,rfl,hst3⟩:=hcut;obtain rfl:sz=128:=H128.out;rw [show ((128:Nat):Int)=128 from rfl];clear HST;obtain ⟨wr,rfl⟩:=eX wc
   have hst3':SumSt64 w gf (prepS F64 data++be8 (data.length*8) 0) (.slice A3 (pl+0) c3) wr:=by
    simp only [be8,List.append_nil];exact hst3
   clear hst3;obtain ⟨n,hn3⟩:=eX (pl+0);rw [show pl=n from hn3.symm];rw [← hn3] at hst3';have HST3:=zY hst3';have HN30:=zY hn3;clear hst3' hn3;go_wp2_with fail;have hst3:=HST3.out;have hn3:=HN30.out;have hpl:pl=(prepS F64 data).length:=HPL0.out;have hn:True:=trivial;have hn2:True:=trivial;have HPL:=zY hpl;have HN3:=zY hn3;clear hpl hn3 hn2 hn;obtain ⟨wo,rfl⟩:∃ wo:World,wo=wr:=⟨_,rfl⟩
   go_loopw [7,8] (fun v i wr=>∃ (k m:Nat) (A4:Option Addr) (c4:Nat),k≤8∧m=pl+k∧v=.slice A4 m c4∧i=.int .i64 (56 - 8*(k:Int))∧SumSt64 w gf (prepS F64 data++be8 (data.length*8) k) (.slice A4 m c4) wr) (fun _ i _=>(intOf i+8).toNat)
   case atStart=>exact ⟨0,n,A3,c3,by omega,HN3.out,rfl,rfl,hst3⟩
   case round =>
    obtain ⟨k,m,A4,c4,hk8,hm,rfl,rfl,hs4⟩:=hrel;clear hst3
    by_cases hlt8:k<8
    ·obtain ⟨sh,hsh⟩:∃ sh:Nat,(56 - 8*(k:Int))=(sh:Int):=⟨56 - 8*k,by omega⟩;rw [hsh];have hsh2:sh=56 - 8*k:=by omega
     have hsl:(sh:Int)<64:=by omega
     have HSH:=zY hsh2;have HM:=zY hm;have HS4:=zY hs4
     have ho4:OwnX wr (gf+1) 5 1 (.slice A4 m c4) m (bytesV (prepS F64 data++be8 (data.length*8) k)):=by
      have:=hs4.own
      rwa [List.length_append,qa8,← HPL.out,← hm] at this
     have HO4:=zY ho4;have hm3:m≤70000:=by omega
     clear hsh hsh2 hm hs4 ho4;go_wp2_with (refine qao (o:=⟨some 76,_,_,_,_,_⟩) sl_bytes rfl rfl HO4.out rfl rfl rfl rfl (by unfold maxLen; omega) (by omega) (by have:=HS4.out.form.lt; omega) ?_; intro A5 c5 w5 hown5 hg5 hn5; have HOWN5:=zY hown5; have HG5:=zY hg5; clear hown5 hg5 hn5)
     have hfin:SumSt64 w gf (prepS F64 data++be8 (data.length*8) (k+1)) (.slice A5 (m+1) c5) w5:=by
      refine HS4.out.grow HG5.out ?_;have h:=HOWN5.out;rw [be8_val _ _ _ HSH.out,← qaS,List.append_assoc] at h;rw [List.length_append,qa8,← HPL.out,show pl+(k+1)=m+1 by rw [HM.out]; omega];exact h
     exact ⟨⟨k+1,m+1,A5,c5,hlt8,by rw [HM.out]; omega,rfl,by have:=HSH.out; exact congrArg (Value.int .i64) (by omega),hfin⟩,by have:=HSH.out; simp [intOf]; omega⟩
    ·obtain rfl:k=8:=by omega
     have HM:=zY hm;have HS4:=zY hs4;clear hm hs4;go_wp2_with fail;obtain ⟨A128,hA128⟩:=eX (padS F64 data);have hAll:A128=prepS F64 data++be8 (data.length*8) 8:=by rw [hA128]; rfl
     have hal:A128.length=m:=by rw [hAll,List.length_append,qa8,← HPL.out,HM.out]
     obtain ⟨gs,hgs⟩:=eX (wr.heap.size)
     have hst5:SumT64 w gf gs A4 A128 (setC .u64 (startS F64) 0) (wr.alloc (.cells (s8V .u64 ⟨0,0,0,0,0,0,0,0⟩) 132)) :=
      ⟨HS4.out.bel.alloc (by have:=HS4.out.form.lt; omega) _,HS4.out.form.alloc _,by
       have ho:OwnX wr (gf+1) 5 1 (.slice A4 m c4) m (bytesV A128):=by have:=HS4.out.own; rwa [← hAll,hal] at this
       have h:=Rd.of_own ho (Nat.le_refl _);rw [← hgs] at h;exact h.below ((Below.refl _ _).alloc (by omega) _),by rw [hgs]; exact Blk.new _ _ _,by have:=HS4.out.form.lt; omega⟩
     rw [← hgs];have HOWN4:Hid (OwnX wr (gf+1) 5 1 (.slice A4 m c4) m (bytesV A128)):=zY (by have:=HS4.out.own; rwa [← hAll,hal] at this);have HA128:=zY hA128;have HAL:=zY hal;have HGS:=zY hgs;have HS5:=zY hst5;clear hA128 hAll hal hgs hst5;refine qab (first_any _) ?_;rintro e w6 ⟨rfl,hb6⟩;have hst6:=HS5.out.next hb6;clear HS5 hb6;go_wp2_with fail;have hu42:=Tryz.underlying132;have hst6':=hst6;clear hst6
     go_loopw [78] (fun i wr=>∃ k:Nat,k≤8∧i=.int .i64 k∧SumT64 w gf gs A4 A128 (setC .u64 (startS F64) k) wr) (fun i _=>8 - (intOf i).toNat)
     case atStart=>exact ⟨0,by omega,rfl,hst6'⟩
     case round =>
      obtain ⟨k,hk,rfl,hsk⟩:=hrel;clear hst6'
      by_cases hk8:k<8
      ·have hk8':(k:Int)<8:=by omega
       obtain ⟨x,hx⟩:=eX (firstN.getD k 0);obtain ⟨y,hy⟩:=eX ((s8L (startS F64)).getD k 0);have hxl:x<18446744073709551616:=by rw [hx]; exact qeu k
       have hxl':(x:Int)<18446744073709551616:=by omega
       have hyx:y=x:=by rw [hy,hx,qd0 _ _ hk8]; show _/1%18446744073709551616=_; have:=qeu k; omega
       have hix:∀ u:World,(Instr.index 132 (.agg firstV) (.int .i64 (k:Int))).run Tryz.prog u=.ok (.int .u64 (x:Int)) u:=fun u =>
        qaR (n:=8) (e:=76) hu42 hk8 (by rw [hx]; exact firstV_at k hk8) (by kernel_rfl) (by kernel_rfl) ⟨_,Tryz.underlying76⟩
       have f0:=hsk.form.cell 0;simp [f64C] at f0;have d0:=hsk.s.cell k;rw [setC_at _ _ _ hk8] at d0;have g0:=hsk.s.free k
       have hfin:SumT64 w gf gs A4 A128 (setC .u64 (startS F64) (k+1)) (wr.setCell ⟨gs,k,none⟩ (.int .u64 (y:Int))) :=
        hsk.put (qai _ _ _ _) (by have:=qak (i:=k) hsk.s (.int .u64 (y:Int)); rwa [hy,setC_set _ _ _ hk8,← hy] at this)
       have HFIN:=zY hfin;have HYX:=zY hyx;have HXL:=zY hxl;clear hfin hyx hxl hx hy hsk;go_wp2_with fail
       skip
       refine qab (qcA _ _ (by have:=HXL.out; omega)) ?_;rintro e w7 ⟨rfl,rfl⟩;rw [← HYX.out];go_wp2_with fail;exact ⟨⟨k+1,hk8,by go_num,HFIN.out⟩,by simp [intOf]; omega⟩
      ·have hge:¬ (k:Int)<8:=by omega
       obtain rfl:k=8:=by omega
       rw [setC_end] at hsk;obtain ⟨nb,hnb⟩:∃ nb,m=nb*128:=⟨m/128,by have:=qdz data; rw [← HA128.out,HAL.out] at this; omega⟩;have hm4:m≤70000:=by have:=HM.out; omega
       have hcap:m≤c4∧c4≤9223372036854775807:=by
        have ho:OwnX _ (gf+1) 5 1 (.slice A4 m c4) m (bytesV A128):=HOWN4.out;exact qcj ho
       obtain ⟨hcap1,hcap2⟩:=hcap;have hst8:SumT64 w gf gs A4 A128 (s8V .u64 (runS F64 A128 0)) wr:=hsk;have HNB:=zY hnb;have HS8:=zY hst8;clear hnb hst8 hsk hu42;obtain ⟨wo3,rfl⟩:∃ wo3:World,wo3=wr:=⟨_,rfl⟩;go_wp2_with fail
       go_loopw [12] (fun i wr=>∃ j a:Nat,j≤nb∧a=j*128∧i=.int .i64 (a:Int)∧SumT64 w gf gs A4 A128 (s8V .u64 (runS F64 A128 j)) wr) (fun i _=>m - (intOf i).toNat)
       case atStart=>exact ⟨0,0,by omega,rfl,rfl,HS8.out⟩
       case round =>
        obtain ⟨j,a,hj,ha,rfl,hsj⟩:=hrel
        by_cases hjn:j<nb
        ·have ham:a+128≤m:=by rw [HNB.out,ha]; omega
         have hlt:a<m:=by omega
         have hle1:a+128≤c4:=by omega
         obtain ⟨ad,hAd,_,_⟩:=(hsj.rd).at_ (k:=a) (by rw [qap,HAL.out]; omega);subst hAd;obtain ⟨bk,hbk⟩:=eX ((A128.drop a).take 128);have hbl:bk.length=128:=by rw [hbk]; simp; rw [HAL.out]; omega
         have HRB:Hid (∀ u,SumT64 w gf gs (some ad) A128 (s8V .u64 (runS F64 A128 j)) u→Rd u gs (some (ad.add a)) (bytesV bk)):=zY fun u hu=>by
          rw [hbk,bytesV,List.map_take,List.map_drop]; exact qcu (qcv hu.rd a) 128
         obtain ⟨sj,hsj2⟩:=eX (runS F64 A128 j);obtain ⟨sn,hsn⟩:=eX (mixS F64 sj bk);have hsl:sj.Lt (2^64):=by rw [hsj2]; exact qct F64 A128 j
         have hs1:runS F64 A128 (j+1)=sn:=by rw [hsn,hsj2,hbk,ha]; rfl
         rw [← hsj2] at hsj;have HRB2:Hid (∀ u,SumT64 w gf gs (some ad) A128 (s8V .u64 sj) u→Rd u gs (some (ad.add a)) (bytesV bk)):=zY (by rw [hsj2]; exact HRB.out);have HBL:=zY hbl;have HSN:=zY hsn;have HSL:=zY hsl;have HS1:=zY hs1;have HA:=zY ha;clear HRB hbl hsn hsl hs1 hbk hsj2 ha;have HC0:=hsj.drew;clear hsj;have hu8:=Tryz.underlying132;have hu:=Tryz.underlying105;go_wp2_with fail;refine qal (fun u=>SumT64 w gf gs (some ad) A128 (s8V .u64 sj) u) (fun u=>SumT64 w gf gs (some ad) A128 (s8V .u64 sn) u) [(0,some 98),(1,some 99),(2,some 100),(3,some 101),(4,some 102),(5,some 103),(6,some 104),(7,some 105),(8,some 106),(9,none)] (by kernel_rfl) (by kernel_rfl) (by decide) (by kernel_rfl) (fun _=>rfl) HC0 ?_;apply yN_
         ·apply dP [];exact fun _=>rfl;rfl;rintro vals - w1 hC1 E hE;simp only [sP] at hE ⊢;refine qac hC1.form rfl rfl rfl hu rfl qaG ?_;go_wp2_with fail;exact .mk (hE _ hC1)
         apply yN_
         ·apply dP [];exact fun _=>rfl;rfl;rintro vals ⟨-,-⟩ w1 hC1 E hE;simp only [sP] at hE ⊢;refine qac hC1.s rfl rfl rfl hu8 rfl qbh ?_;go_wp2_with fail;exact .mk (hE _ hC1)
         apply yN_
         ·apply dP [];exact fun _=>rfl;rfl;intro vals vq w1 hC1 E hE;clear vq;simp only [sP] at hE ⊢;go_wp2;exact .mk (hE _ hC1)
         apply yN_
         ·apply dP [];exact fun _=>rfl;rfl;intro vals vq w1 hC1 E hE;clear vq;simp only [sP] at hE ⊢;go_wp2;exact .mk (hE _ hC1)
         apply yN_
         ·apply dP [];exact fun _=>rfl;rfl;intro vals vq w1 hC1 E hE;clear vq;simp only [sP] at hE ⊢;go_wp2;exact .mk (hE _ hC1)
         apply yN_
         ·apply dP [];exact fun _=>rfl;rfl;intro vals vq w1 hC1 E hE;clear vq;simp only [sP] at hE ⊢;go_wp2;exact .mk (hE _ hC1)
         apply yN_
         ·apply dP [(4,some 102),(5,some 103)];exact fun _=>rfl;rfl;intro vals vq w1 hC1 E hE;simp only [sP,vq] at hE ⊢;clear vq;go_wp2;exact .mk (hE _ hC1)
         apply yN_
         ·apply dP [(2,some 100),(3,some 101),(6,some 104)];exact fun _=>rfl;rfl;intro vals vq w1 hC1 E hE;simp only [sP,vq] at hE ⊢;clear vq;go_wp2;rw [show a+128 - a=128 by omega];exact .mk (hE _ hC1)
         apply yN_
         ·apply dP [(0,some 98),(1,some 99),(7,some 105)];exact fun _=>rfl;rfl;intro vals vq w1 hC1 E hE;simp only [sP,vq] at hE ⊢;clear vq;go_wp2_with fail;have hmx:=mix64_any sj bk (some (ad.add a)) (c4 - a) gs w1 (HRB2.out _ hC1) (by have:=hC1.s.lt; omega) HBL.out (by rw [HBL.out]; omega) (by omega) HSL.out (HG.out.below hC1.bel (by rw [← HGF.out]; exact HG.out.size));rw [HBL.out] at hmx;refine qab hmx ?_;rintro e w2 ⟨rfl,hb2⟩;rw [← HSN.out];go_wp2_with fail;exact .mk (hE _ (hC1.next hb2))
         apply yL_ (v:=undef)
         ·apply dP [(8,some 106),(8,some 106),(0,some 98),(1,some 99),(2,some 100),(3,some 101),(4,some 102),(5,some 103),(6,some 104),(7,some 105),(8,some 106)];exact fun _=>rfl;rfl;intro vals vq w1 hC1 E hE;simp only [sP,vq] at hE ⊢;clear vq;refine qad hC1.s rfl rfl rfl rfl qbh rfl (by simp [s8V,Value.oneCell']) ?_;intro w2 hb2 hw2;go_wp2_with fail;exact .mk (hE _ (hC1.put hw2 hb2))
         intro vals vq w1 hC1;simp only [sP,vq];clear vq;clear HC0;have hfin:SumT64 w gf gs (some ad) A128 (s8V .u64 (runS F64 A128 (j+1))) w1:=by rw [HS1.out]; exact hC1
         have HFIN:=zY hfin;clear hfin hC1;go_wp2_with fail;exact ⟨⟨j+1,a+128,hjn,by rw [HA.out]; omega,by go_num,HFIN.out⟩,by simp [intOf]; omega⟩
        ·obtain rfl:j=nb:=by omega
         have hge:¬ a<m:=by rw [HNB.out,ha]; omega
         have HA:=zY ha;obtain ⟨sv,hsv⟩:=eX (runS F64 A128 j);have hsl:sv.Lt (2^64):=by rw [hsv]; exact qct F64 A128 j
         rw [← hsv] at hsj;have hu8:=Tryz.underlying132;have HSV:=zY hsv;have HSL:=zY hsl;clear ha hsv hsl;go_wp2_with (refine qac (x:=.tmp 9) hsj.s rfl rfl rfl hu8 rfl qbh ?_);obtain ⟨g2,hg2⟩:=eX (wr.heap.size);have hso:SumO64 w gf (gf+1) [] (.slice none 0 0) wr:=⟨hsj.bel,hsj.form,World.ownsRow_nil _ _ _ _,by have:=hsj.form.lt; omega⟩;have HSO:=zY hso;clear hso hsj;obtain ⟨wo4,rfl⟩:∃ wo4:World,wo4=wr:=⟨_,rfl⟩
         go_loopw [13,108] (fun v i wr=>∃ (k q:Nat) (A5:Option Addr) (c5:Nat),k≤8∧q=k*8∧i=.int .i64 k∧v=.slice A5 q c5∧SumO64 w gf (gf+1) (outW 64 8 sv k) (.slice A5 q c5) wr) (fun _ i _=>8 - (intOf i).toNat)
         case atStart=>exact ⟨0,0,none,0,by omega,by omega,rfl,rfl,HSO.out⟩
         case round =>
          obtain ⟨k,q,A5,c5,hk,hq,rfl,rfl,hso⟩:=hrel
          by_cases hk8:k<8
          ·have hk8':(k:Int)<8:=by omega
           obtain ⟨x,hx⟩:=eX ((s8L sv).getD k 0);have hxl:x<2^64:=by rw [hx]; exact s8L_lt HSL.out (by decide) k
           have hxl':(x:Int)<18446744073709551616:=by omega
           have hix:∀ u:World,(Instr.index 132 (.agg (s8V .u64 sv)) (.int .i64 (k:Int))).run Tryz.prog u=.ok (.int .u64 (x:Int)) u:=fun u =>
            qaR (n:=8) (e:=76) hu8 hk8 (by rw [hx]; exact s8V_at .u64 sv k hk8) (by kernel_rfl) (by kernel_rfl) ⟨_,Tryz.underlying76⟩
           have f0:=hso.form.cell 0;simp [f64C] at f0;have hs6:SumO64 w gf (gf+1) (outW 64 8 sv k++wordB 64 x 0) (.slice A5 q c5) wr:=by simpa [wordB] using hso
           have HX:=zY hx;have HQ:=zY hq;have HS6:=zY hs6;have HU8:=zY hu8;have hq9:q≤64:=by omega
           clear hx hq hs6 hso hxl hu8;go_wp2_with fail;clear hix f0;obtain ⟨wo5,rfl⟩:∃ wo5:World,wo5=wr:=⟨_,rfl⟩
           go_loopw [13,16] (fun v i wr=>∃ (p r:Nat) (A6:Option Addr) (c6:Nat),p≤8∧r=q+p∧v=.slice A6 r c6∧i=.int .i64 (64 - 8 - 8*(p:Int))∧SumO64 w gf (gf+1) (outW 64 8 sv k++wordB 64 x p) (.slice A6 r c6) wr) (fun _ i _=>(intOf i+8).toNat)
           case atStart=>exact ⟨0,q,A5,c5,by omega,by omega,rfl,rfl,HS6.out⟩
           case round =>
            obtain ⟨p,r,A6,c6,hp,hr6,rfl,rfl,hs7⟩:=hrel
            by_cases hp8:p<8
            ·obtain ⟨sh,hsh⟩:∃ sh:Nat,(64 - 8 - 8*(p:Int))=(sh:Int):=⟨64 - 8 - 8*p,by omega⟩;rw [hsh];have hsh2:sh=64 - 8 - 8*p:=by omega
             have hsl:(sh:Int)<64:=by omega
             have HSH:=zY hsh2;have HR6:=zY hr6;have HS7:=zY hs7
             have ho7:wr.ownsRow (gf+1) 5 1 (.slice A6 r c6) r (bytesV (outW 64 8 sv k++wordB 64 x p)):=by
              have:=hs7.own
              rwa [List.length_append,wordB_length,outW_length _ _ _ _ (by omega),← HQ.out,← hr6] at this
             have HO7:=zY ho7;have hr9:r≤100:=by omega
             clear hsh hsh2 hr6 hs7 ho7;go_wp2_with (refine qbl sl_bytes rfl rfl HO7.out rfl rfl rfl rfl (by unfold maxLen; omega) (by omega) HS7.out.lb ?_; intro A8 c8 w8 hown8 hg8; have HOWN8:=zY hown8; have HG8:=zY hg8; clear hown8 hg8)
             have hfin:SumO64 w gf (gf+1) (outW 64 8 sv k++wordB 64 x (p+1)) (.slice A8 (r+1) c8) w8:=by
              refine HS7.out.grow (by omega) HG8.out ?_;have h:=HOWN8.out;rw [wordB_val _ _ _ _ HSH.out,← qaS,List.append_assoc] at h;rw [List.length_append,wordB_length,outW_length _ _ _ _ (by omega),← HQ.out,show q+(p+1)=r+1 by rw [HR6.out]; omega];exact h
             exact ⟨⟨p+1,r+1,A8,c8,hp8,by rw [HR6.out]; omega,rfl,by have:=HSH.out; exact congrArg (Value.int .i64) (by omega),hfin⟩,by have:=HSH.out; simp [intOf]; omega⟩
            ·obtain rfl:p=8:=by omega
             have hfin:SumO64 w gf (gf+1) (outW 64 8 sv (k+1)) (.slice A6 r c6) wr:=by rw [qc6 _ _ _ _ hk8,← HX.out]; exact hs7
             have HFIN:=zY hfin;have HR6:=zY hr6;clear hfin hr6 hs7;go_wp2_with fail;exact ⟨⟨k+1,r,A6,c6,hk8,by rw [HR6.out,HQ.out]; omega,by go_num,rfl,HFIN.out⟩,by simp [intOf]; omega⟩
          ·have hge:¬ (k:Int)<8:=by omega
           obtain rfl:k=8:=by omega
           have HSO:=zY hso;obtain rfl:q=8*8:=hq;clear hso;go_wp2_with fail;go_ret;refine ⟨A5,c5,rfl,?_,by rw [HGF.out]; exact HSO.out.bel⟩;have h:=HSO.out.own;rw [outW_length _ _ _ _ (by omega)] at h
           have hd:outW 64 8 sv 8=digS F64 data:=by
            rw [HSV.out,digS,← HA128.out,HAL.out,HNB.out];show _=(s8L (runS F64 A128 (j*128/128))).flatMap _;rw [Nat.mul_div_cancel _ (by decide)];rfl
           rw [← hd];exact own_mono h (by rw [HGF.out]; omega)
theorem p512_any (data:List UInt8) (A:Option Addr) (c B:Nat) (w:World) (hr:Rd w B A (bytesV data)) (hB:B≤w.heap.size) (hl:data.length≤40000) (hc:data.length≤c) (hcm:c≤9223372036854775807) (hG:TabG w) :
  Calls Tryz.prog 62 #[.slice A data.length c] w (SumPost64 data w):=by
 have hs:=sum64_any data A c B w hr hB hl hc hcm hG;rw [f64C] at hs;go_enter Tryz.func62,Tryz.ntmps62;go_wp2_with fail;refine qab hs ?_;rintro e w' ⟨A2,c2,rfl,ho,hb⟩;have HO:=zY ho;have HB:=zY hb;clear ho hb hs;go_wp2_with fail;go_ret;exact ⟨A2,c2,rfl,HO.out,HB.out⟩
end Go.Proofs.YtcbkaaodmjphdaaGreatDoor.Sh
namespace Go.Proofs.YtcbkaaodmjphdaaGreatDoor
set_option linter.unusedSimpArgs false
set_option linter.unusedVariables false
set_option maxRecDepth 100000
set_option maxHeartbeats 4000000
open Go.RowKit
theorem sdigest_any (bs:List (List UInt8)) (vs:List Value) (o:Nat) (w:World) (hs:Segs w bs vs) (hb:Blk w o 23 vs.toArray) (hl:bs.flatten.length≤40000) (hn:bs.length≤4) (hG:Sh.TabG w) :
  Calls Tryz.prog 40 #[.slice (some ⟨o,0,none⟩) bs.length bs.length] w (Sh.SumPost64 bs.flatten w):=by
 have hc:=concat_any bs vs o w hs hb hl hn;have HC:=zY hc;have HG:=zY hG;have HL:=zY hl;clear hc hG hl hn hs hb;obtain ⟨n,hn0⟩:=eX (bs.length);rw [← hn0] at HC ⊢;clear hn0;go_enter Tryz.func40,Tryz.ntmps40;go_wp2_with fail;refine qab HC.out ?_;rintro e w1 ⟨A1,c1,rfl,ho,hb⟩;have hcap:=qcj ho;have hs:=Sh.p512_any bs.flatten A1 c1 w1.heap.size w1 (Rd.of_own ho (Nat.le_refl _)) (Nat.le_refl _) HL.out hcap.1 hcap.2 (HG.out.below hb HG.out.size);have HS:=zY hs;have HB:=zY hb;clear hs hcap ho hb;obtain ⟨m,hm⟩:=eX (bs.flatten.length);rw [← hm] at HS ⊢;clear hm;go_wp2_with fail;refine qab HS.out ?_;rintro e w2 ⟨A2,c2,rfl,ho2,hb2⟩;have HF:=zY (And.intro (own_mono ho2 HB.out.size) (HB.out.trans (hb2.mono HB.out.size)));clear ho2 hb2;go_wp2_with fail;go_ret;exact ⟨A2,c2,rfl,HF.out⟩
theorem and248:∀ x,x<256→x &&& (255 - 7)=x - x%8:=by decide +kernel
theorem and127:∀ x,x<256→x &&& (255 - 128)=x%128:=by decide +kernel
theorem or64s:∀ x,x<256→(x%128) ||| 64=x%64+64:=by decide +kernel
theorem bits_an7 {x:Nat} (h:x<256):bits .andNot .u8 (x:Int) 7=((x - x%8:Nat):Int):=by
 rw [← and248 x h];exact u8_andNot_nat x 7 h (by decide)
theorem bits_an128 {x:Nat} (h:x<256):bits .andNot .u8 (x:Int) 128=((x%128:Nat):Int):=by
 rw [← and127 x h];exact u8_andNot_nat x 128 h (by decide)
theorem bits_or64 {x:Nat} (h:x<256):bits .or .u8 ((x%128:Nat):Int) 64=((x%64+64:Nat):Int):=by
 rw [← or64s x h];exact u8_or_nat (x%128) 64 (by omega) (by decide)
theorem segs1 {w:World} {b:List UInt8} {A:Option Addr} {c:Nat} (h:Rd w w.heap.size A (bytesV b)):Segs w [b] [.slice A b.length c] :=
 ⟨rfl,fun i x hi=>by
  match i with
  | 0=>injection hi with hi; subst hi; exact ⟨A,c,rfl,h⟩
  | i+1=>cases hi⟩
theorem ssecret_any (data:List UInt8) (A:Option Addr) (c:Nat) (w:World) (hr:Rd w w.heap.size A (bytesV data)) (hl:data.length≤200) (hc:data.length≤c) (hG:Sh.TabG w) :
  Calls Tryz.prog 29 #[.slice A data.length c] w (SecPost (secL data) w):=by
 obtain ⟨n,hn⟩:=eX (data.length);have HR:=zY hr;have HG:=zY hG;have HL:=zY hl;have HN:=zY hn;rw [← hn] at hc ⊢;clear hr hG hl hn;go_enter Tryz.func29,Tryz.ntmps29;go_wp2_with fail;obtain ⟨w0,hw0⟩:=eX (w.alloc (.cells #[.slice A n c] 23));have hb0:Below w.heap.size w w0:=by rw [hw0]; exact below_new _ _
 have hk0:Blk w0 w.heap.size 23 [Value.slice A n c].toArray:=by rw [hw0]; exact Blk.new _ _ _
 have hs0:=sdigest_any [data] [.slice A data.length c] w.heap.size w0 (segs1 (qag HR.out hb0)) (by rw [← HN.out]; exact hk0) (by simpa using Nat.le_trans HL.out (by decide)) (by show 1≤4; decide) (HG.out.below hb0 HG.out.size);rw [show [data].flatten=data by simp] at hs0;rw [← hw0];have HS:=zY hs0;have HB0:=zY hb0;clear hs0 hk0 hb0 hw0;refine qab HS.out ?_;rintro e w1 ⟨A1,c1,rfl,ho,hb⟩;have hcap:=qcj (OwnX.of ho);obtain ⟨g,ys,rfl,hg,_,hblk⟩:=OwnZ.blk ho (by decide)
 have hlen:(secD data).length=64:=by
  have h:=ho.1;rw [qap] at h;rw [secD,digs,List.length_map,h]
 rw [← bnV_digs'] at hblk;obtain ⟨L,hL⟩:=eX (secD data);have hdg:Dg L:=by rw [hL]; exact digs_dg _
 rw [← hL] at hlen;have hst:SecW w g ys L w1:=⟨HB0.out.trans (hb.mono HB0.out.size),by rw [hL]; exact hblk,Nat.le_trans HB0.out.size hg⟩;have hkl:secL data=clampL L:=by rw [hL]; rfl
 obtain ⟨x,hx⟩:=eX (L.getD 0 0);obtain ⟨y,hy⟩:=eX (L.getD 31 0);have hxl:x<256:=by rw [hx]; exact qa3 hdg 0
 have hyl:y<256:=by rw [hy]; exact qa3 hdg 31
 obtain ⟨s,hss⟩:=eX (x - x%8);obtain ⟨t,ht⟩:=eX (y%128);obtain ⟨z,hz⟩:=eX (y%64+64);have hb1:bits .andNot .u8 (x:Int) 7=(s:Int):=by rw [hss]; exact bits_an7 hxl
 have hb2:bits .andNot .u8 (y:Int) 128=(t:Int):=by rw [ht]; exact bits_an128 hyl
 have hb3:bits .or .u8 (t:Int) 64=(z:Int):=by rw [ht,hz]; exact bits_or64 hyl
 have hkl2:secL data=(((L.set 0 s).set 31 t).set 31 z):=by
  rw [hkl,clampL,← hx,← hy,← hss,← hz,List.set_set]
 have d0:w1.cell? ⟨g,0,none⟩=some (.int .u8 (x:Int)):=by rw [hst.x.cell,qc2 (by omega),hx]
 have d1:∀ u,SecW w g ys (L.set 0 s) u→u.cell? ⟨g,31,none⟩=some (.int .u8 (y:Int)):=fun u h=>by
  rw [h.x.cell,qc2 (by rw [List.length_set]; omega),List.getD_eq_getElem?_getD,List.getElem?_set_ne (by decide),← List.getD_eq_getElem?_getD,hy]
 have d2:∀ u,SecW w g ys ((L.set 0 s).set 31 t) u→u.cell? ⟨g,31,none⟩=some (.int .u8 (t:Int)):=fun u h=>by
  rw [h.x.cell,qc2 (by rw [List.length_set,List.length_set]; omega),List.getD_eq_getElem?_getD,List.getElem?_set_self (by rw [List.length_set]; omega)];rfl
 have q0:=hst.x.free 0
 have hst1:SecW w g ys (L.set 0 s) (w1.setCell ⟨g,0,none⟩ (.int .u8 (s:Int))):=by
  refine hst.put (qai _ _ _ _) ?_;have h:=qak (i:=0) hst.x (.int .u8 (s:Int));rw [qd2 (by omega)] at h;exact h
 have e1:=d1 _ hst1;have q1:=hst1.x.free 31
 have hst2:SecW w g ys ((L.set 0 s).set 31 t) ((w1.setCell ⟨g,0,none⟩ (.int .u8 (s:Int))).setCell ⟨g,31,none⟩ (.int .u8 (t:Int))):=by
  refine hst1.put (qai _ _ _ _) ?_;have h:=qak (i:=31) hst1.x (.int .u8 (t:Int));rw [qd2 (by rw [List.length_set]; omega)] at h;exact h
 have e2:=d2 _ hst2;have q2:=hst2.x.free 31
 have hst3:SecW w g ys (secL data) (((w1.setCell ⟨g,0,none⟩ (.int .u8 (s:Int))).setCell ⟨g,31,none⟩ (.int .u8 (t:Int))).setCell ⟨g,31,none⟩ (.int .u8 (z:Int))):=by
  rw [hkl2];refine hst2.put (qai _ _ _ _) ?_;have h:=qak (i:=31) hst2.x (.int .u8 (z:Int));rw [qd2 (by rw [List.length_set,List.length_set]; omega)] at h;exact h
 have hxl':(x:Int)<256:=by omega
 have hsl':(s:Int)<256:=by omega
 have hyl':(y:Int)<256:=by omega
 have htl':(t:Int)<256:=by omega
 have hzl':(z:Int)<256:=by omega
 have hc64:64≤c1:=hcap.1;have hc63:c1≤9223372036854775807:=hcap.2;have HST:=zY hst3;clear d1 d2 hst hst1 hst2 hst3 hkl hkl2 hx hy hss ht hz hL hdg hlen ho hb hg hblk hxl hyl hcap;go_wp2_with fail;have HC0:=HST.out.drew;refine qal (fun u=>SecW w g ys (secL data) u) (fun u=>SecW w g ys (secL data) u) [(0,some 23),(1,some 24),(2,some 25),(3,some 26),(4,some 2),(5,some 3)] (by kernel_rfl) (by kernel_rfl) (by decide) (by kernel_rfl) (fun _=>rfl) HC0 ?_;apply yN_
 ·apply dP [];exact fun _=>rfl;rfl;rintro vals - w1 hC1 E hE;simp only [sP] at hE ⊢;go_wp2;exact .mk (hE _ hC1)
 apply yN_
 ·apply dP [(0,some 23)];exact fun _=>rfl;rfl;intro vals vq w1 hC1 E hE;simp only [sP,vq] at hE ⊢;clear vq;go_wp2;exact .mk (hE _ hC1)
 apply yN_
 ·apply dP [];exact fun _=>rfl;rfl;intro vals vq w1 hC1 E hE;clear vq;simp only [sP] at hE ⊢;go_wp2;exact .mk (hE _ hC1)
 apply yN_
 ·apply dP [(2,some 25)];exact fun _=>rfl;rfl;intro vals vq w1 hC1 E hE;simp only [sP,vq] at hE ⊢;clear vq;go_wp2;exact .mk (hE _ hC1)
 apply yN_
 ·apply dP [(1,some 24),(0,some 23),(1,some 24)];exact fun _=>rfl;rfl;intro vals vq w1 hC1 E hE;simp only [sP,vq] at hE ⊢;clear vq;go_wp2;exact .mk (hE _ hC1)
 apply yL_
 ·apply dP [(3,some 26),(4,some 2),(0,some 23),(1,some 24),(2,some 25),(3,some 26),(4,some 2)];exact fun _=>rfl;rfl;intro vals vq w1 hC1 E hE;simp only [sP,vq] at hE ⊢;clear vq;go_wp2;exact .mk (hE _ hC1)
 intro vals vq w1 hC1;simp only [sP,vq];clear vq;obtain ⟨h1,h2⟩:=sec_rd hC1.x;have HF:=zY (And.intro h1 (And.intro h2 hC1.bel));clear HC0 hC1 h1 h2 HST;go_wp2_with fail;go_ret2;exact ⟨_,_,_,_,rfl,by omega,by omega,HF.out⟩
def axN (p:Pt4):Nat:=(mulE p.x (invE p.z)).val%PN
theorem oddP_ax (p:Pt4):oddP p=decide (axN p%2=1):=rfl
def ayN (p:Pt4):Nat:=(leastE (mulE p.y (invE p.z))).val
theorem bytP_ax (p:Pt4):bytP p=if oddP p then (byN (ayN p)).set 31 ((byN (ayN p)).getD 31 0 ||| 128) else byN (ayN p):=rfl
end Go.Proofs.YtcbkaaodmjphdaaGreatDoor
namespace Go.Proofs.YtcbkaaodmjphdaaGreatDoor.Ed
set_option linter.unusedSimpArgs false
set_option linter.unusedVariables false
set_option maxRecDepth 100000
set_option maxHeartbeats 4000000
variable {n:Nat} [NeZero n]
structure Fld (n:Nat) [NeZero n] (d:Fin n) (iv:Fin n→Fin n):Prop where
 iv1:∀ a:Fin n,a≠0→a*iv a=1
 one:(1:Fin n)≠0
 two:(2:Fin n)≠0
 i:∃ i:Fin n,i*i=-1
 ns:∀ w:Fin n,w*w≠d
theorem Fld.inv {d:Fin n} {iv:Fin n→Fin n} (F:Fld n d iv) (a:Fin n) (h:a≠0):∃ b,a*b=1:=⟨iv a,F.iv1 a h⟩
theorem mul_ne {d:Fin n} {iv:Fin n→Fin n} (F:Fld n d iv) {a b:Fin n} (ha:a≠0) (hb:b≠0):a*b≠0:=by
 intro h;obtain ⟨a',h1⟩:=F.inv a ha;obtain ⟨b',h2⟩:=F.inv b hb;apply F.one
 grind
theorem cancel {d:Fin n} {iv:Fin n→Fin n} (F:Fld n d iv) {a b c:Fin n} (hc:c≠0) (h:a*c=b*c):a=b:=by
 obtain ⟨c',h1⟩:=F.inv c hc
 grind
def On (d x y:Fin n):Prop:=y*y - x*x=1+d*x*x*y*y
theorem no_sq {d:Fin n} {iv:Fin n→Fin n} (F:Fld n d iv) {u v:Fin n} (hv:v≠0) (h:u*u=d*(v*v)):False:=by
 obtain ⟨v',h1⟩:=F.inv v hv;apply F.ns (u*v')
 grind
theorem complete {d:Fin n} {iv:Fin n→Fin n} (F:Fld n d iv) {x1 y1 x2 y2 e:Fin n} (h1:On d x1 y1) (h2:On d x2 y2) (he:e*e=1) (hk:d*x1*x2*y1*y2=e):False:=by
 obtain ⟨i,hi⟩:=F.i;unfold On at h1 h2;have he0:e≠0:=by intro h; apply F.one; grind
 have hx1:x1≠0:=by intro h; apply he0; grind
 have hy1:y1≠0:=by intro h; apply he0; grind
 have hy2:y2≠0:=by intro h; apply he0; grind
 have a1:(i*x1+e*y1)*(i*x1+e*y1)=d*((x1*y1*(i*x2+y2))*(x1*y1*(i*x2+y2))):=by grind
 have a2:(i*x1 - e*y1)*(i*x1 - e*y1)=d*((x1*y1*(i*x2 - y2))*(x1*y1*(i*x2 - y2))):=by grind
 by_cases z1:i*x2+y2=0
 ·by_cases z2:i*x2 - y2=0
  ·apply mul_ne F F.two hy2; grind
  ·exact no_sq F (mul_ne F (mul_ne F hx1 hy1) z2) a2
 ·exact no_sq F (mul_ne F (mul_ne F hx1 hy1) z1) a1
theorem den_p {d:Fin n} {iv:Fin n→Fin n} (F:Fld n d iv) {x1 y1 x2 y2:Fin n} (h1:On d x1 y1) (h2:On d x2 y2):1+d*x1*x2*y1*y2≠0:=by
 intro h;exact complete F h1 h2 (e:=-1) (by grind) (by grind)
theorem den_m {d:Fin n} {iv:Fin n→Fin n} (F:Fld n d iv) {x1 y1 x2 y2:Fin n} (h1:On d x1 y1) (h2:On d x2 y2):1 - d*x1*x2*y1*y2≠0:=by
 intro h;exact complete F h1 h2 (e:=1) (by grind) (by grind)
structure Sum (d x1 y1 x2 y2 x y:Fin n):Prop where
 x:x*(1+d*x1*x2*y1*y2)=x1*y2+y1*x2
 y:y*(1 - d*x1*x2*y1*y2)=y1*y2+x1*x2
theorem on_key {d x1 y1 x2 y2:Fin n} (h1:y1*y1 - x1*x1=1+d*x1*x1*y1*y1) (h2:y2*y2 - x2*x2=1+d*x2*x2*y2*y2) :
 (y1*y2+x1*x2)*(y1*y2+x1*x2)*((1+d*x1*x2*y1*y2)*(1+d*x1*x2*y1*y2)) - (x1*y2+y1*x2)*(x1*y2+y1*x2)*((1 - d*x1*x2*y1*y2)*(1 - d*x1*x2*y1*y2))=(1+d*x1*x2*y1*y2)*(1+d*x1*x2*y1*y2)*((1 - d*x1*x2*y1*y2)*(1 - d*x1*x2*y1*y2))+d*(x1*y2+y1*x2)*(x1*y2+y1*x2)*(y1*y2+x1*x2)*(y1*y2+x1*x2):=by grind -lia
theorem sum_on {d:Fin n} {iv:Fin n→Fin n} (F:Fld n d iv) {x1 y1 x2 y2 x y:Fin n} (h1:On d x1 y1) (h2:On d x2 y2) (s:Sum d x1 y1 x2 y2 x y):On d x y:=by
 have p:=den_p F h1 h2;have m:=den_m F h1 h2;obtain ⟨sx,sy⟩:=s;have key:=on_key h1 h2;unfold On;generalize hk:d*x1*x2*y1*y2=k at *;generalize hX:x1*y2+y1*x2=X at *;generalize hY:y1*y2+x1*x2=Y at *;refine cancel F (c:=(1+k)*(1+k)*((1 - k)*(1 - k))) (mul_ne F (mul_ne F p p) (mul_ne F m m)) ?_;clear h1 h2 hk hX hY p m
 grind -lia
theorem assoc_x {d x1 y1 x2 y2 x3 y3:Fin n}
 (e1:On d x1 y1) (e2:On d x2 y2) (e3:On d x3 y3) :
 ((x1*y2+y1*x2)*(1 - d*x1*x2*y1*y2)*y3+(y1*y2+x1*x2)*(1+d*x1*x2*y1*y2)*x3)*((1 - d*x2*x3*y2*y3)*(1+d*x2*x3*y2*y3)+d*x1*y1*(x2*y3+y2*x3)*(y2*y3+x2*x3))
 = (x1*(y2*y3+x2*x3)*(1+d*x2*x3*y2*y3)+y1*(x2*y3+y2*x3)*(1 - d*x2*x3*y2*y3))*((1 - d*x1*x2*y1*y2)*(1+d*x1*x2*y1*y2)+d*(x1*y2+y1*x2)*(y1*y2+x1*x2)*x3*y3):=by
 unfold On at *
 grind
theorem assoc_y {d x1 y1 x2 y2 x3 y3:Fin n}
 (e1:On d x1 y1) (e2:On d x2 y2) (e3:On d x3 y3) :
 ((y1*y2+x1*x2)*(1+d*x1*x2*y1*y2)*y3+(x1*y2+y1*x2)*(1 - d*x1*x2*y1*y2)*x3)*((1 - d*x2*x3*y2*y3)*(1+d*x2*x3*y2*y3) - d*x1*y1*(x2*y3+y2*x3)*(y2*y3+x2*x3))
 = (y1*(y2*y3+x2*x3)*(1+d*x2*x3*y2*y3)+x1*(x2*y3+y2*x3)*(1 - d*x2*x3*y2*y3))*((1 - d*x1*x2*y1*y2)*(1+d*x1*x2*y1*y2) - d*(x1*y2+y1*x2)*(y1*y2+x1*x2)*x3*y3):=by
 unfold On at *
 grind
theorem sum_assoc {d:Fin n} {iv:Fin n→Fin n} (F:Fld n d iv) {x1 y1 x2 y2 x3 y3 xs ys xt yt x y x' y':Fin n} (h1:On d x1 y1) (h2:On d x2 y2) (h3:On d x3 y3)
  (s:Sum d x1 y1 x2 y2 xs ys) (l:Sum d xs ys x3 y3 x y) (t:Sum d x2 y2 x3 y3 xt yt) (r:Sum d x1 y1 xt yt x' y'):x=x'∧y=y':=by
 have ax:=assoc_x h1 h2 h3;have ay:=assoc_y h1 h2 h3;have hs:=sum_on F h1 h2 s;have ht:=sum_on F h2 h3 t;have p1:=den_p F h1 h2;have m1:=den_m F h1 h2;have p2:=den_p F h2 h3;have m2:=den_m F h2 h3;have pl:=den_p F hs h3;have ml:=den_m F hs h3;have pr:=den_p F h1 ht;have mr:=den_m F h1 ht;obtain ⟨sx,sy⟩:=s;obtain ⟨lx,ly⟩:=l;obtain ⟨tx,ty⟩:=t;obtain ⟨rx,ry⟩:=r;clear h1 h2 h3 hs ht;have c1:=mul_ne F p1 m1;have c2:=mul_ne F p2 m2
 have e1:(1+d*x1*x2*y1*y2)*(1 - d*x1*x2*y1*y2)*(1+d*xs*x3*ys*y3)=(1 - d*x1*x2*y1*y2)*(1+d*x1*x2*y1*y2)+d*(x1*y2+y1*x2)*(y1*y2+x1*x2)*x3*y3:=by
  rw [← sx,← sy]; grind -lia
 have e2:(1+d*x1*x2*y1*y2)*(1 - d*x1*x2*y1*y2)*(1 - d*xs*x3*ys*y3)=(1 - d*x1*x2*y1*y2)*(1+d*x1*x2*y1*y2) - d*(x1*y2+y1*x2)*(y1*y2+x1*x2)*x3*y3:=by
  rw [← sx,← sy]; grind -lia
 have e3:(1+d*x2*x3*y2*y3)*(1 - d*x2*x3*y2*y3)*(1+d*x1*xt*y1*yt)=(1 - d*x2*x3*y2*y3)*(1+d*x2*x3*y2*y3)+d*x1*y1*(x2*y3+y2*x3)*(y2*y3+x2*x3):=by
  rw [← tx,← ty]; grind -lia
 have e4:(1+d*x2*x3*y2*y3)*(1 - d*x2*x3*y2*y3)*(1 - d*x1*xt*y1*yt)=(1 - d*x2*x3*y2*y3)*(1+d*x2*x3*y2*y3) - d*x1*y1*(x2*y3+y2*x3)*(y2*y3+x2*x3):=by
  rw [← tx,← ty]; grind -lia
 rw [← e1,← e3,← sx,← sy,← tx,← ty] at ax;rw [← e2,← e4,← sx,← sy,← tx,← ty] at ay;clear e1 e2 e3 e4 sx sy tx ty;generalize 1+d*x1*x2*y1*y2=u1 at *;generalize 1 - d*x1*x2*y1*y2=v1 at *;generalize 1+d*x2*x3*y2*y3=u2 at *;generalize 1 - d*x2*x3*y2*y3=v2 at *;generalize 1+d*xs*x3*ys*y3=u3 at *;generalize 1 - d*xs*x3*ys*y3=v3 at *;generalize 1+d*x1*xt*y1*yt=u4 at *;generalize 1 - d*x1*xt*y1*yt=v4 at *;have q1:((xs*y3+ys*x3)*(u1*v1))*(u2*v2*u4)=((x1*yt+y1*xt)*(u2*v2))*(u1*v1*u3):=by grind -lia
 have q2:((ys*y3+xs*x3)*(u1*v1))*(u2*v2*v4)=((y1*yt+x1*xt)*(u2*v2))*(u1*v1*v3):=by grind -lia
 rw [← lx,← rx] at q1;rw [← ly,← ry] at q2
 constructor
 ·refine cancel F (c:=(u1*v1)*(u2*v2)*(u3*u4)) (mul_ne F (mul_ne F c1 c2) (mul_ne F pl pr)) ?_;clear ax ay q2 lx ly rx ry
  grind -lia
 ·refine cancel F (c:=(u1*v1)*(u2*v2)*(v3*v4)) (mul_ne F (mul_ne F c1 c2) (mul_ne F ml mr)) ?_;clear ax ay q1 lx ly rx ry
  grind -lia
theorem sum_one {d:Fin n} {iv:Fin n→Fin n} (F:Fld n d iv) {x1 y1 x2 y2 x y x' y':Fin n} (h1:On d x1 y1) (h2:On d x2 y2) (s:Sum d x1 y1 x2 y2 x y) (t:Sum d x1 y1 x2 y2 x' y'):x=x'∧y=y' :=
 ⟨cancel F (den_p F h1 h2) (s.x.trans t.x.symm),cancel F (den_m F h1 h2) (s.y.trans t.y.symm)⟩
theorem sum_comm {d x1 y1 x2 y2 x y:Fin n} (s:Sum d x1 y1 x2 y2 x y):Sum d x2 y2 x1 y1 x y:=by
 obtain ⟨sx,sy⟩:=s
 constructor
 ·grind -lia
 ·grind -lia
theorem zero_on (d:Fin n):On d 0 1:=by unfold On; grind -lia
theorem sum_zero (d x y:Fin n):Sum d x y 0 1 x y:=by constructor <;> grind -lia
structure Pn (n:Nat) [NeZero n] (d:Fin n) where
 x:Fin n
 y:Fin n
 on:On d x y
theorem Pn.eq {d:Fin n} {P Q:Pn n d} (h:P.x=Q.x) (k:P.y=Q.y):P=Q:=by
 cases P; cases Q; subst h; subst k; rfl
def sumX (d:Fin n) (iv:Fin n→Fin n) (x1 y1 x2 y2:Fin n):Fin n:=(x1*y2+y1*x2)*iv (1+d*x1*x2*y1*y2)
def sumY (d:Fin n) (iv:Fin n→Fin n) (x1 y1 x2 y2:Fin n):Fin n:=(y1*y2+x1*x2)*iv (1 - d*x1*x2*y1*y2)
theorem sum_is {d:Fin n} {iv:Fin n→Fin n} (F:Fld n d iv) {x1 y1 x2 y2:Fin n} (h1:On d x1 y1) (h2:On d x2 y2):Sum d x1 y1 x2 y2 (sumX d iv x1 y1 x2 y2) (sumY d iv x1 y1 x2 y2):=by
 have ha:=F.iv1 _ (den_p F h1 h2);have hb:=F.iv1 _ (den_m F h1 h2)
 constructor
 ·unfold sumX; generalize iv (1+d*x1*x2*y1*y2)=v at *; grind -lia
 ·unfold sumY; generalize iv (1 - d*x1*x2*y1*y2)=v at *; grind -lia
section
variable {d:Fin n} {iv:Fin n→Fin n} (F:Fld n d iv)
def add (P Q:Pn n d):Pn n d:=⟨sumX d iv P.x P.y Q.x Q.y,sumY d iv P.x P.y Q.x Q.y,sum_on F P.on Q.on (sum_is F P.on Q.on)⟩
theorem add_sum (P Q:Pn n d):Sum d P.x P.y Q.x Q.y (add F P Q).x (add F P Q).y:=sum_is F P.on Q.on
theorem add_eq {P Q R:Pn n d} (h:Sum d P.x P.y Q.x Q.y R.x R.y):add F P Q=R:=Pn.eq (sum_one F P.on Q.on (add_sum F P Q) h).1 (sum_one F P.on Q.on (add_sum F P Q) h).2
def zero (d:Fin n):Pn n d:=⟨0,1,zero_on d⟩
theorem add_assoc (P Q R:Pn n d):add F (add F P Q) R=add F P (add F Q R) :=
 have h:=sum_assoc F P.on Q.on R.on (add_sum F P Q) (add_sum F (add F P Q) R) (add_sum F Q R) (add_sum F P (add F Q R))
 Pn.eq h.1 h.2
theorem add_comm (P Q:Pn n d):add F P Q=add F Q P:=add_eq F (sum_comm (add_sum F Q P))
theorem add_zero (P:Pn n d):add F P (zero d)=P:=add_eq F (sum_zero d P.x P.y)
theorem zero_add (P:Pn n d):add F (zero d) P=P:=by rw [add_comm,add_zero]
include F in
def mul (P:Pn n d):Nat→Pn n d
 | 0=>zero d
 | k+1=>add F (mul P k) P
theorem mul_add (P:Pn n d) (a:Nat):∀ b,mul F P (a+b)=add F (mul F P a) (mul F P b)
 | 0=>(add_zero F _).symm
 | b+1=>by
  show add F (mul F P (a+b)) P=add F (mul F P a) (add F (mul F P b) P);rw [mul_add P a b,add_assoc]
theorem mul_one (P:Pn n d):mul F P 1=P:=zero_add F P
theorem mul_two (P:Pn n d) (k:Nat):mul F P (2*k)=add F (mul F P k) (mul F P k):=by rw [Nat.two_mul,mul_add]
theorem mul_zero:∀ b:Nat,mul F (zero d) b=zero d
 | 0=>rfl
 | b+1=>(add_zero F _).trans (mul_zero b)
end
theorem four {d:Fin n} {iv:Fin n→Fin n} (F:Fld n d iv) {x1 y1 z1 x2 y2 z2 x y a b c z e f g h X1 Y1 T1 X2 Y2 T2 tw:Fin n} (h1:On d x1 y1) (h2:On d x2 y2) (s:Sum d x1 y1 x2 y2 x y)
  (hz1:z1≠0) (hz2:z2≠0) (hX1:X1=x1*z1) (hY1:Y1=y1*z1) (hT1:T1=x1*y1*z1) (hX2:X2=x2*z2) (hY2:Y2=y2*z2) (hT2:T2=x2*y2*z2) (htw:tw=d+d)
  (ha:a=(Y1 - X1)*(Y2 - X2)) (hb:b=(Y1+X1)*(Y2+X2)) (hc:c=T1*tw*T2) (hz:z=z1*z2) (he:e=b - a) (hh:h=b+a) (hf:f=z+z - c) (hg:g=z+z+c) :
  f*g≠0∧e*f=x*(f*g)∧g*h=y*(f*g)∧e*h=x*y*(f*g):=by
 have p:=den_p F h1 h2;have m:=den_m F h1 h2;have h2z:=mul_ne F F.two (mul_ne F hz1 hz2);obtain ⟨sx,sy⟩:=s;subst ha hb hc hz he hh hf hg hX1 hY1 hT1 hX2 hY2 hT2 htw;have f1:z1*z2+z1*z2 - x1*y1*z1*(d+d)*(x2*y2*z2)=2*(z1*z2)*(1 - d*x1*x2*y1*y2):=by clear sx sy p m h2z; grind -lia
 have g1:z1*z2+z1*z2+x1*y1*z1*(d+d)*(x2*y2*z2)=2*(z1*z2)*(1+d*x1*x2*y1*y2):=by clear sx sy p m h2z; grind -lia
 have e1:(y1*z1+x1*z1)*(y2*z2+x2*z2) - (y1*z1 - x1*z1)*(y2*z2 - x2*z2)=2*(z1*z2)*(x*(1+d*x1*x2*y1*y2)):=by rw [sx]; clear sx sy p m h2z; grind -lia
 have i1:(y1*z1+x1*z1)*(y2*z2+x2*z2)+(y1*z1 - x1*z1)*(y2*z2 - x2*z2)=2*(z1*z2)*(y*(1 - d*x1*x2*y1*y2)):=by rw [sy]; clear sx sy p m h2z; grind -lia
 rw [f1,g1,e1,i1];clear sx sy f1 g1 e1 i1 h1 h2;generalize 1+d*x1*x2*y1*y2=u at *;generalize 1 - d*x1*x2*y1*y2=v at *;refine ⟨mul_ne F (mul_ne F h2z m) (mul_ne F h2z p),?_,?_,?_⟩ <;> clear F h2z m p hz1 hz2 <;> grind -lia
end Go.Proofs.YtcbkaaodmjphdaaGreatDoor.Ed
namespace Go.Proofs.YtcbkaaodmjphdaaGreatDoor
set_option linter.unusedSimpArgs false
set_option linter.unusedVariables false
set_option maxRecDepth 100000
set_option maxHeartbeats 4000000
open Go.RowKit
section
variable {n:Nat} [NeZero n]
theorem gn_add (a b:Nat):Fin.ofNat n (a+b)=Fin.ofNat n a+Fin.ofNat n b:=by
 apply Fin.ext;rw [Fin.val_add];simp only [Fin.ofNat];rw [← Nat.add_mod]
theorem gn_mul (a b:Nat):Fin.ofNat n (a*b)=Fin.ofNat n a*Fin.ofNat n b:=by
 apply Fin.ext;rw [Fin.val_mul];simp only [Fin.ofNat];rw [← Nat.mul_mod]
theorem gn_eq {a b:Nat}:Fin.ofNat n a=Fin.ofNat n b↔a%n=b%n:=by
 constructor
 ·intro h;have:=congrArg Fin.val h
  simpa only [Fin.ofNat] using this
 ·intro h;apply Fin.ext
  simpa only [Fin.ofNat] using h
theorem gn_val (x:Fin n):Fin.ofNat n x.val=x:=Fin.ext (Nat.mod_eq_of_lt x.isLt)
theorem gn_mod (a:Nat):Fin.ofNat n (a%n)=Fin.ofNat n a:=gn_eq.2 (Nat.mod_mod _ _)
theorem gn_sub {a b c:Nat} (h:(a+b)%n=c%n):Fin.ofNat n a=Fin.ofNat n c - Fin.ofNat n b:=by
 have h1:Fin.ofNat n a+Fin.ofNat n b=Fin.ofNat n c:=by rw [← gn_add]; exact gn_eq.2 h
 rw [← h1];generalize Fin.ofNat n a=x;generalize Fin.ofNat n b=y
 grind -lia
end
instance:NeZero PN:=⟨by decide⟩
abbrev FP:=Fin PN
def fn (a:Nat):FP:=Fin.ofNat PN a
theorem fn_add (a b:Nat):fn (a+b)=fn a+fn b:=gn_add a b
theorem fn_mul (a b:Nat):fn (a*b)=fn a*fn b:=gn_mul a b
theorem fn_eq {a b:Nat}:fn a=fn b↔a%PN=b%PN:=gn_eq
theorem fn_val (x:FP):fn x.val=x:=gn_val x
theorem fn_mod (a:Nat):fn (a%PN)=fn a:=gn_mod a
theorem val_fn (a:Nat):(fn a).val=a%PN:=rfl
theorem fn_one:fn 1=1:=rfl
theorem fn_zero:fn 0=0:=rfl
theorem fn_ne {a:Nat}:fn a≠0↔a%PN≠0:=by
 rw [← fn_zero,Ne,fn_eq,Nat.zero_mod]
def dF:FP:=fn dN
def ivF (a:FP):FP:=fn (a.val^(PN - 2))
theorem iv_one (a:FP) (h:a≠0):a*ivF a=1:=by
 obtain ⟨e,he⟩:=eX (PN - 2);have he1:PN - 1=e+1:=by rw [he]; decide
 have h1:a.val%PN≠0:=by rw [← fn_ne,fn_val]; exact h
 have h2:=fermatP a.val h1;rw [he1,Nat.pow_succ] at h2;rw [ivF,← he]
 conv=>lhs; lhs; rw [← fn_val a]
 rw [← fn_mul,← fn_one,fn_eq,Nat.mul_comm,h2]
 decide
def rootN:Nat:=19681161376707505956807079304988542015446066515923890162744021073123829784752
def halfL:List Nat:=(List.range 32).map fun j=>(PN - 1)/2/256^j%256
theorem half_val:leV halfL=(PN - 1)/2:=by decide
theorem d_half:dN^((PN - 1)/2)%PN=PN - 1:=by
 rw [← half_val,← pm_eq]
 decide
theorem d_none (w:FP):w*w≠dF:=by
 intro h;obtain ⟨k,hk⟩:=eX ((PN - 1)/2);have hk2:PN - 1=k+k:=by rw [hk]; decide
 have hd:=d_half;rw [← hk] at hd;have h1:w.val*w.val%PN=dN%PN:=by rw [← fn_eq,fn_mul,fn_val]; exact h
 by_cases hw:w.val%PN=0
 ·rw [Nat.mul_mod,hw] at h1;exact absurd h1 (by decide)
 ·have h2:=fermatP w.val hw;rw [hk2,Nat.pow_add,← Nat.mul_pow,Nat.pow_mod,h1,← Nat.pow_mod,hd] at h2;exact absurd h2 (by decide)
theorem FF:Ed.Fld PN dF ivF where
 iv1:=iv_one
 one:=by decide
 two:=by decide
 i:=⟨fn rootN,by decide⟩
 ns:=d_none
abbrev PtF:=Ed.Pn PN dF
def fv (x:E5):FP:=fn x.val
theorem fv_add (x y:E5):fv (addE x y)=fv x+fv y:=by rw [fv,fv,fv,← fn_add]; exact fn_eq.2 (sm_add x y)
theorem qb4 (x y:E5):fv (mulE x y)=fv x*fv y:=by rw [fv,fv,fv,← fn_mul]; exact fn_eq.2 (sm_mul x y)
theorem fv_sub {x y:E5} (hy:y.Ok):fv (subE x y)=fv x - fv y:=gn_sub (sm_sub hy)
theorem fv_inv (x:E5):fv (invE x)=ivF (fv x):=by
 rw [fv,fv,ivF];refine fn_eq.2 ?_;rw [invE_val,val_fn];generalize PN - 2=e;rw [Nat.pow_mod]
theorem fv_int (n:Nat):fv (intE (n:Int))=fn n:=by rw [fv,intE_nat,natE_val]
structure Is (p:Pt4) (P:PtF):Prop where
 z:fv p.z≠0
 x:fv p.x=P.x*fv p.z
 y:fv p.y=P.y*fv p.z
 t:fv p.t=P.x*P.y*fv p.z
def plus (P Q:PtF):PtF:=Ed.add FF P Q
def times (P:PtF) (k:Nat):PtF:=Ed.mul FF P k
def zeroF:PtF:=Ed.zero dF
theorem Is.sum {p q:Pt4} {P Q:PtF} {tw:E5} (hp:p.Ok) (hq:q.Ok) (hw:tw.Ok) (ht:fv tw=dF+dF) (h:Is p P) (k:Is q Q):Is (sumP p q tw) (plus P Q):=by
 have okA:=qba (qbR hp.y hp.x) (qbR hq.y hq.x);have okC:=qba (qba hp.t hw) hq.t;obtain ⟨r1,r2,r3,r4⟩:=Ed.four FF P.on Q.on (Ed.add_sum FF P Q) h.z k.z h.x h.y h.t k.x k.y k.t ht rfl rfl rfl rfl rfl rfl rfl rfl;rw [← fv_sub hp.x,← fv_sub hq.x,← fv_add,← fv_add,← qb4,← qb4,← qb4,← qb4,← qb4,← fv_sub okA,← fv_add,← fv_add,← fv_sub okC,← fv_add] at *;exact ⟨by rw [sumP,qb4]; exact r1,by rw [sumP,qb4,qb4]; exact r2,by rw [sumP,qb4,qb4]; exact r3,by rw [sumP,qb4,qb4]; exact r4⟩
theorem is_of {x y:E5} {P:PtF} (hx:fv x=P.x) (hy:fv y=P.y):Is (ofP x y) P:=by
 have h1:fv (intE 1)=1:=fv_int 1;refine ⟨?_,?_,?_,?_⟩
 ·show fv (intE 1)≠0;rw [h1]; exact FF.one
 ·show fv x=P.x*fv (intE 1);rw [h1,hx]; grind -lia
 ·show fv y=P.y*fv (intE 1);rw [h1,hy]; grind -lia
 ·show fv (mulE x y)=P.x*P.y*fv (intE 1);rw [h1,qb4,hx,hy]; grind -lia
theorem is_zero:Is zeroP zeroF:=is_of (fv_int 0) (fv_int 1)
theorem base_on:Ed.On dF (fn bxN) (fn byNN):=by unfold Ed.On; decide
def baseF:PtF:=⟨fn bxN,fn byNN,base_on⟩
theorem is_base:Is baseP baseF:=by
 have h:∀ x y,fn x.val=baseF.x→fn y.val=baseF.y→Is (ofP x y) baseF:=fun x y hx hy=>is_of hx hy;exact h _ _ (by rw [bx_val]; rfl) (by rw [by_val]; rfl)
theorem fv_d:fv dE=dF:=by rw [fv,dE_val,dF]
theorem fv_d2:fv (addE dE dE)=dF+dF:=by rw [fv_add,fv_d]
theorem Is.add {p q:Pt4} {P Q:PtF} (hp:p.Ok) (hq:q.Ok) (h:Is p P) (k:Is q Q):Is (addP p q) (plus P Q):=Is.sum hp hq d2_ok fv_d2 h k
section
variable {p:Pt4} {P:PtF} {T:E5} (hT:T.Ok) (ht:fv T=dF+dF) (hp:p.Ok) (h:Is p P)
include hT ht hp h
theorem is_S {out:Pt4} {n bit:Nat} (ho:out.Ok) (k:Is out (times P n)) (hb:bit<2):Is (pmS T p out bit) (times P (2*n+bit)):=by
 have h2:Is (sumP out out T) (times P (2*n)):=by
  have:=Is.sum ho ho hT ht k k
  rwa [show plus (times P n) (times P n)=times P (2*n) from (Ed.mul_two FF P n).symm] at this
 unfold pmS
 split
 ·next e =>
  rw [e];exact Is.sum (qdZ ho ho hT) hp hT ht h2 h
 ·next e =>
  obtain rfl:bit=0:=by omega
  exact h2
theorem is_B {out:Pt4} {n:Nat} (ho:out.Ok) (k:Is out (times P n)) (b:Nat):∀ j,j≤8→Is (pmB T p out b j) (times P (n*2^j+b%256/2^(8 - j)))
 | 0,_=>by
  have e:b%256/2^(8 - 0)=0:=Nat.div_eq_of_lt (Nat.mod_lt _ (by decide));rw [e,Nat.pow_zero,Nat.mul_one,Nat.add_zero];exact k
 | j+1,hj=>by
  have ih:=is_B ho k b j (by omega);have e:=is_S hT ht hp h (bit:=b/2^(7 - j)%2) (pmB_ok hT hp ho b j) ih (Nat.mod_lt _ (by decide));rw [pmB];have hp:2^(8 - j)=2^(7 - j)*2:=by rw [← Nat.pow_succ]; congr 1; omega
  have h1:b%256/2^(8 - j)=b%256/2^(7 - j)/2:=by rw [hp,Nat.div_div_eq_div_mul]
  have h2:b/2^(7 - j)%2=b%256/2^(7 - j)%2:=by
   obtain ⟨d,hd⟩:∃ d,8=(7 - j)+(1+d):=⟨j,by omega⟩
   have h8:2^(7 - j)*(2*2^d)=256:=by
    have h9:2^((7 - j)+(1+d))=256:=by rw [← hd]
    rw [Nat.pow_add,Nat.pow_add,Nat.pow_one] at h9;exact h9
   obtain ⟨c,hc⟩:=eX (b/256);have e4:2^(7 - j)*(2*(2^d*c))=256*c:=by rw [← h8]; simp only [Nat.mul_assoc]
   have e3:b=b%256+2^(7 - j)*(2*(2^d*c)):=by rw [e4,hc]; exact (Nat.mod_add_div b 256).symm
   conv=>lhs; rw [e3,Nat.add_mul_div_left _ _ (Nat.two_pow_pos _),Nat.add_mul_mod_self_left]
  have e6:2*(n*2^j+b%256/2^(8 - j))+b/2^(7 - j)%2=n*2^(j+1)+b%256/2^(8 - (j+1)):=by
   rw [h1,h2,show 8 - (j+1)=7 - j by omega,Nat.pow_succ]
   have e5:2*(n*2^j+b%256/2^(7 - j)/2)=n*(2^j*2)+2*(b%256/2^(7 - j)/2):=by
    rw [Nat.mul_add,← Nat.mul_assoc n,Nat.mul_comm 2 (n*2^j)]
   rw [e5];omega
  rwa [e6] at e
theorem is_L (l:List Nat) (hl:∀ d ∈ l,d<256):∀ j,j≤l.length→Is (pmL T p l j) (times P (leV (l.drop (l.length - j))))
 | 0,_=>by
  rw [Nat.sub_zero,List.drop_length,leV,pmL];exact is_zero
 | j+1,hj=>by
  have hlt:l.length - 1 - j<l.length:=by omega
  have hd:l.getD (l.length - 1 - j) 0=l[l.length - 1 - j]:=by rw [List.getD_eq_getElem?_getD,List.getElem?_eq_getElem hlt]; rfl
  have hb:l[l.length - 1 - j]<256:=hl _ (List.getElem_mem hlt);have e:=is_B hT ht hp h (pmL_ok hT hp l j) (is_L l hl j (by omega)) l[l.length - 1 - j] 8 (Nat.le_refl _);rw [pmL,hd,show l.length - (j+1)=l.length - 1 - j by omega,List.drop_eq_getElem_cons hlt,leV,show l.length - 1 - j+1=l.length - j by omega];rw [Nat.mod_eq_of_lt hb,show 8 - 8=0 from rfl,Nat.pow_zero,Nat.div_one,show (2:Nat)^8=256 from rfl,Nat.mul_comm,Nat.add_comm] at e;exact e
end
theorem Is.mul {p:Pt4} {P:PtF} (hp:p.Ok) (h:Is p P) (l:List UInt8):Is (mulP p l) (times P (leV (digs (l.take 32)))):=by
 have e:=is_L d2_ok fv_d2 hp h (digs (l.take 32)) (digs_lt _) (min l.length 32) (by rw [digs,List.length_map,List.length_take,Nat.min_comm]; exact Nat.le_refl _);rw [show (digs (l.take 32)).length - min l.length 32=0 by rw [digs,List.length_map,List.length_take,Nat.min_comm,Nat.sub_self],List.drop_zero] at e;exact e
section
variable {n:Nat} [NeZero n] {d:Fin n} {iv:Fin n→Fin n} (F:Ed.Fld n d iv)
include F
omit F
theorem g_mul1 (x:Fin n):x*1=x:=by grind -lia
theorem g_zm (x:Fin n):0*x=0:=by grind -lia
end
def byP (x y:Nat):List Nat:=if x%2=1 then (byN y).set 31 ((byN y).getD 31 0+128) else byN y
theorem byN_high {V:Nat} (h:V<PN):(byN V).getD 31 0<128:=by
 have e:=byN_at V 31 (by decide);rw [List.getD_eq_getElem?_getD,e];show V/256^31%256<128;have h2:V/256^31<128:=Nat.div_lt_of_lt_mul (Nat.lt_trans h (by decide));omega
theorem or_add:∀ x,x<128→x ||| 128=x+128:=by decide
def byF (P:PtF):List Nat:=byP P.x.val P.y.val
theorem ax_is {p:Pt4} {P:PtF} (h:Is p P):axN p=P.x.val:=by
 have e:fv (mulE p.x (invE p.z))=P.x:=by
  rw [qb4,fv_inv,h.x];have:=FF.iv1 _ h.z;generalize ivF (fv p.z)=i at *;generalize fv p.z=z at *;rw [Fin.mul_assoc,this,g_mul1]
 rw [← e]; rfl
theorem ay_is {p:Pt4} {P:PtF} (hp:p.Ok) (h:Is p P):ayN p=P.y.val:=by
 have e:fv (mulE p.y (invE p.z))=P.y:=by
  rw [qb4,fv_inv,h.y];have:=FF.iv1 _ h.z;generalize ivF (fv p.z)=i at *;generalize fv p.z=z at *;rw [Fin.mul_assoc,this,g_mul1]
 rw [ayN,qen (qba hp.y (invE_ok hp.z)).big,← e]; rfl
theorem bytP_is {p:Pt4} {P:PtF} (hp:p.Ok) (h:Is p P):bytP p=byF P:=by
 rw [bytP_ax,oddP_ax,ax_is h,ay_is hp h,byF,byP];have hx:=byN_high P.y.isLt;rw [or_add _ hx]
 by_cases ho:P.x.val%2=1
 ·rw [if_pos ho,if_pos (decide_eq_true ho)]
 ·rw [if_neg ho,if_neg (by simpa using ho)]
theorem byP_len (x y:Nat):(byP x y).length=32:=by
 rw [byP]
 split
 ·rw [List.length_set,qbs]
 ·exact qbs _
theorem byP_dg {x y:Nat} (hy:y<PN):Dg (byP x y):=by
 rw [byP]
 split
 ·exact qex (byN_lt _) _ _ (by have:=byN_high hy; omega)
 ·exact byN_lt _
theorem fn_sub {a b:Nat} (hb:b≤PN):fn ((a+PN - b)%PN)=fn a - fn b:=by
 refine gn_sub ?_;rw [Nat.mod_add_mod,show a+PN - b+b=a+PN by omega,Nat.add_mod_right]
theorem fn_inv {v:Nat} (h:v<PN):fn (v^(PN - 2)%PN)=ivF (fn v):=by
 rw [fn_mod,ivF,val_fn,Nat.mod_eq_of_lt h]
theorem qbp (a b:Nat):fn (a*b%PN)=fn a*fn b:=by rw [fn_mod,fn_mul]
theorem fn_addm (a b:Nat):fn ((a+b)%PN)=fn a+fn b:=by rw [fn_mod,fn_add]
theorem qdc {a:Nat} (h:a<PN):(fn a).val=a:=by rw [val_fn,Nat.mod_eq_of_lt h]
theorem rbytesz_any (l:List Nat) (hd:∀ d ∈ l,d<256) (A:Option Addr) (c:Nat) (w:World) (hr:Rd w w.heap.size A (dV l)) (hc:l.length≤c) (hl:l.length≤1000000) :
  Calls Tryz.prog 55 #[.slice A l.length c] w (OwnPostZ 5 32 (bytesV (refB l)) w):=by
 obtain ⟨n,hn⟩:=eX (l.length);rw [← hn];have hn63:(n:Int)≤1000000:=by omega
 have hown0:OwnZ w w.heap.size 5 1 (.slice none 0 0) 0 (bytesV ((refB l).take 0)):=OwnZ.nil _ _ _ _
 have hd':∀ k,l.getD k 0<256:=fun k=>by
  rw [List.getD_eq_getElem?_getD]
  by_cases h:k<l.length
  ·rw [List.getElem?_eq_getElem h]; exact hd _ (List.getElem_mem h)
  ·rw [List.getElem?_eq_none (by omega)]; decide
 have HR:=zY hr;have HN:=zY hn;have HD:=zY hd';have HOWN0:=zY hown0;clear hr hn hc hl hown0 hd hd';go_enter Tryz.func55,Tryz.ntmps55;go_wp2_with fail;generalize hg:w.heap.size=g at *;have HHG:=zY hg;clear hg
 go_loopw [3,4] (fun v i wr=>∃ (k:Nat) (A1:Option Addr) (c1:Nat),k≤32∧i=.int .i64 k∧v=.slice A1 k c1∧OwnZ wr g 5 1 (.slice A1 k c1) k (bytesV ((refB l).take k))∧Below g w wr) (fun _ i _=>32 - (intOf i).toNat)
 case atStart=>exact ⟨0,none,0,by omega,rfl,rfl,HOWN0.out,Below.refl _ _⟩
 case round =>
  clear HOWN0;obtain ⟨k,A1,c1,hk,rfl,rfl,hown,hbel⟩:=hrel
  by_cases hlt:k<32
  ·have hlt':(k:Int)<32:=by omega
   have hrd:=HR.out.below hbel;obtain ⟨b,hb⟩:=eX (l.getD k 0);have hbl:(b:Int)<256:=by have:=HD.out k; omega
   have hnext:(refB l).take (k+1)=(refB l).take k++[UInt8.ofNat b]:=by
    rw [qc1 (by rw [refB,List.length_map,List.length_range]; exact hlt),hb];simp [refB]
   have hbv:byteV (UInt8.ofNat b)=.int .u8 (b:Int):=by
    rw [byteV,UInt8.toNat_ofNat',Nat.mod_eq_of_lt (by omega)]
   have hsz:g≤wr.heap.size:=by rw [← HHG.out]; exact (by rw [← HHG.out] at hbel; exact hbel.size)
   have HOWN:=zY hown;have HBEL:=zY hbel;have HNEXT:=zY hnext;have HSZ:=zY hsz;have HBV:=zY hbv
   by_cases hkn:k<n
   ·have hkn':(k:Int)<(n:Int):=by omega
    have hkl:k<l.length:=by rw [← HN.out]; exact hkn
    obtain ⟨ad,rfl,hadl,hcell⟩:=hrd.at_ (k:=k) (by rw [qbL]; exact hkl);rw [dV_at hkl,show l[k]=b by rw [hb,List.getD_eq_getElem?_getD,List.getElem?_eq_getElem hkl]; rfl] at hcell;clear hown hbel hnext hrd hb hkl hsz hbv;go_wp2_with (refine qb5 sl_bytes rfl rfl HOWN.out rfl rfl rfl rfl (by unfold maxLen; omega) (by omega) HSZ.out ?_; intro A2 c2 w2 hown2 hg2 hn2; have HOWN2:=zY hown2; have HG2:=zY hg2; clear hown2 hg2 hn2);refine ⟨⟨k+1,A2,c2,by omega,by go_num,rfl,?_,qbE HBEL.out HOWN.out.x HSZ.out HG2.out⟩,by simp [intOf]; omega⟩;rw [HNEXT.out,qaT,show bytesV [UInt8.ofNat b]=[byteV (UInt8.ofNat b)] from rfl,HBV.out];exact HOWN2.out
   ·have hkn':¬ (k:Int)<(n:Int):=by omega
    have hb0:b=0:=by rw [hb,List.getD_eq_getElem?_getD,List.getElem?_eq_none (by rw [← HN.out]; omega)]; rfl
    subst hb0;clear hown hbel hnext hrd hb hsz hbv;go_wp2_with (refine qb5 sl_bytes rfl rfl HOWN.out rfl rfl rfl rfl (by unfold maxLen; omega) (by omega) HSZ.out ?_; intro A2 c2 w2 hown2 hg2 hn2; have HOWN2:=zY hown2; have HG2:=zY hg2; clear hown2 hg2 hn2);refine ⟨⟨k+1,A2,c2,by omega,by go_num,rfl,?_,qbE HBEL.out HOWN.out.x HSZ.out HG2.out⟩,by simp [intOf]; omega⟩;rw [HNEXT.out,qaT];exact HOWN2.out
  ·obtain rfl:k=32:=by omega
   have HOWN:=zY hown;have HBEL:=zY hbel;clear hown hbel;go_wp2_with fail;go_ret;refine ⟨A1,c1,rfl,?_,by rw [HHG.out]; exact HBEL.out⟩;rw [HHG.out];have h:=HOWN.out;rw [List.take_of_length_le (by rw [refB,List.length_map,List.length_range]; exact Nat.le_refl _)] at h;exact h
def LN:Nat:=7237005577332262213973186563042994240857116359379907606001950938285454250989
def oL (l:List Nat) (j:Nat):List Nat:=l.take j++(List.replicate (31 - j) 0++[16])
structure LS (w0:World) (o:Nat) (l:List Nat) (ad:Addr) (j:Nat) (u:World):Prop where
 bel:Below w0.heap.size w0 u
 out:Blk u o 3 (dV (oL l j)).toArray
 s:Rd u u.heap.size (some ad) (dV l)
theorem LS.drew {w0 u:World} {o:Nat} {l:List Nat} {ad:Addr} {j:Nat} (k:LS w0 o l ad j u):LS w0 o l ad j u.drew:=⟨k.bel.drew,k.out,k.s⟩
def vI:List Int→Int
 | []=>0
 | x :: r=>x+256*vI r
theorem vI_set:∀ (l:List Int) (j:Nat) (v:Int),j<l.length→vI (l.set j v)=vI l+(v - l.getD j 0)*256^j
 | [],_,_,h=>absurd h (Nat.not_lt_zero _)
 | x :: r,0,v,_=>by simp [vI]; omega
 | x :: r,j+1,v,h=>by
  have ih:=vI_set r j v (by simpa using h);show x+256*vI (r.set j v)=x+256*vI r+(v - (x :: r).getD (j+1) 0)*256^(j+1);rw [ih,show (x :: r).getD (j+1) 0=r.getD j 0 by simp,Int.pow_succ];generalize v - r.getD j 0=t;generalize (256:Int)^j=p
  grind
theorem getD_set_same {l:List Int} {j:Nat} (v:Int) (h:j<l.length):(l.set j v).getD j 0=v:=by
 rw [List.getD_eq_getElem?_getD,List.getElem?_set_self h]; rfl
theorem getD_set_ne {l:List Int} {j m:Nat} (v:Int) (h:j≠m):(l.set j v).getD m 0=l.getD m 0:=by
 rw [List.getD_eq_getElem?_getD,List.getElem?_set_ne h,← List.getD_eq_getElem?_getD]
def odL:List Int:=[237,211,245,92,26,99,18,88,214,156,247,162,222,249,222,20,0,0,0,0,0,0,0,0,0,0,0,0,0,0,0,16]
def cB (s:Bool) (k:Nat):Int:=if k≤16 then 268435456 else if k=17 then 2097152 else if s then (if k=18 then 8194 else if k=19 then 34 else 1) else 65536
def p2 (X:List Int) (t:Int):Nat→List Int × Int
 | 0=>(X,0)
 | j+1=>((p2 X t j).1.set j (((p2 X t j).1.getD j 0+((p2 X t j).2 - t*odL.getD j 0))%256),((p2 X t j).1.getD j 0+((p2 X t j).2 - t*odL.getD j 0))/256)
def p3 (X:List Int) (c:Int):Nat→List Int
 | 0=>X
 | j+1=>(p3 X c j).set j ((p3 X c j).getD j 0 - c*odL.getD j 0)
def p4 (X:List Int):Nat→List Int × List Nat
 | 0=>(X,[])
 | i+1=>((p4 X i).1.set (i+1) ((p4 X i).1.getD (i+1) 0+(p4 X i).1.getD i 0/256),(p4 X i).2++[((p4 X i).1.getD i 0%256).toNat])
theorem bn_cell {w:World} {A:Option Addr} {l:List Nat} {B:Nat} (h:Rd w B A (bnV l)) {k:Nat} (hk:k<l.length):∃ ad,A=some ad∧w.cell? (ad.add k)=some (.int .u8 ((l.getD k 0:Nat):Int)):=by
 obtain ⟨ad,rfl,_,hcell⟩:=h.at_ (k:=k) (by rw [bnV,List.length_map]; exact hk);refine ⟨ad,rfl,?_⟩;rw [hcell,List.getD_eq_getElem?_getD,List.getElem?_eq_getElem hk];simp [bnV]
def keyN (b:List UInt8):Nat:=leV ((secL b).take 32)
def pubL (n:Nat):List Nat:=byF (times baseF n)
theorem digS_len (b:List UInt8):(Sh.digS Sh.F64 b).length=64:=Sh.outW_length 64 8 (Sh.runS Sh.F64 (Sh.padS Sh.F64 b) ((Sh.padS Sh.F64 b).length/(2*Sh.F64.bits))) 8 (Nat.le_refl _)
theorem secD_len (b:List UInt8) (h:(Sh.digS Sh.F64 b).length=64):(secL b).length=64:=by rw [secL,clampL_len,secD,digs,List.length_map,h]
def prefB (b:List UInt8):List UInt8:=bsN ((secL b).drop 32)
def ptB (n:Nat):List UInt8:=bsN (pubL n)
theorem secL_dg (b:List UInt8):Dg (secL b):=clampL_dg (digs_dg _)
theorem pubL_dg (n:Nat):Dg (pubL n):=byP_dg (times baseF n).y.isLt
theorem pubL_len (n:Nat):(pubL n).length=32:=byP_len _ _
theorem ptB_len (n:Nat):(ptB n).length=32:=by rw [ptB,bsN,List.length_map,pubL_len]
theorem bsN_val {l:List Nat} (h:Dg l):leV (digs (bsN l))=leV l:=by rw [digs_bsN h]
def bmP (kb:List UInt8):Pt4:=mulP baseP kb
theorem bmP_ok (kb:List UInt8):(bmP kb).Ok:=mulP_ok baseP_ok kb
theorem bmP_is {kb:List UInt8} (h:kb.length=32):Is (bmP kb) (times baseF (leV (digs kb))):=by
 have e:=Is.mul baseP_ok is_base kb;rw [List.take_of_length_le (by omega)] at e;exact e
theorem bmP_bytes {kb:List UInt8} (h:kb.length=32):bytP (bmP kb)=pubL (leV (digs kb)):=bytP_is (bmP_ok kb) (bmP_is h)
theorem bm_any (kb:List UInt8) (h:kb.length=32) (A:Option Addr) (c:Nat) (u:World) (hr:Rd u u.heap.size A (bytesV kb)) (hc:32≤c) :
  Calls Tryz.prog 31 #[.agg (ptV baseP),.slice A 32 c] u (PtPost (bmP kb) u):=by
 have e:=pmul_any baseP baseP_ok kb A c u hr (by omega);rw [h] at e;exact e
theorem bb_any (kb:List UInt8) (h:kb.length=32) (u:World):Calls Tryz.prog 32 #[.agg (ptV (bmP kb))] u
  (fun e w'=>∃ o,e=.returned (.slice (some ⟨o,0,none⟩) 32 32)∧u.heap.size≤o∧Blk w' o 5 (bnV (pubL (leV (digs kb)))).toArray∧Below u.heap.size u w'):=by
 have e:=pbytes_any (bmP kb) (bmP_ok kb) u;unfold PbyPost at e;rw [bmP_bytes h] at e;exact e
theorem ssec_any (b:List UInt8) (lb:b.length=32) (A:Option Addr) (c:Nat) (w:World) (hr:Rd w w.heap.size A (bytesV b)) (hc:32≤c) (hG:Sh.TabG w) :
  Calls Tryz.prog 29 #[.slice A 32 c] w (fun e w'=>∃ A c B d,e=.returned (.tuple #[.slice A 32 c,.slice B 32 d])∧32≤c∧32≤d∧Rd w' w'.heap.size A (bytesV (bsN ((secL b).take 32)))∧Rd w' w'.heap.size B (bytesV (prefB b))∧Below w.heap.size w w'):=by
 have hS:=ssecret_any b A c w hr (by rw [lb]; decide) (by rw [lb]; exact hc) hG;rw [lb] at hS;refine Calls.mono hS fun e w' q=>?_;obtain ⟨A1,c1,B1,d1,q1,q2,q3,q4,q5,q6⟩:=q;exact ⟨A1,c1,B1,d1,q1,q2,q3,by rw [← bnV_bsN (fun d hd=>secL_dg b d (List.mem_of_mem_take hd))]; exact q4,by rw [prefB,← bnV_bsN (fun d hd=>secL_dg b d (List.mem_of_mem_drop hd))]; exact q5,q6⟩
theorem keyB_val (b:List UInt8):leV (digs (bsN ((secL b).take 32)))=keyN b:=by rw [bsN_val (fun d hd=>secL_dg b d (List.mem_of_mem_take hd)),keyN]
theorem keyB_len (b:List UInt8):(bsN ((secL b).take 32)).length=32:=by rw [bsN,List.length_map,List.length_take,secD_len b (digS_len b)]; rfl
def SpuPost (L:List Nat) (w:World) (e:Ending) (w':World):Prop :=
 ∃ o,e=.returned (.tuple #[.slice (some ⟨o,0,none⟩) 32 32,.int .i64 0])∧w.heap.size≤o∧Blk w' o 5 (bnV L).toArray∧Below w.heap.size w w'
theorem spublic_any (b:List UInt8) (lb:b.length=32) (A:Option Addr) (c:Nat) (w:World) (hr:Rd w w.heap.size A (bytesV b)) (hc:32≤c) (hG:Sh.TabG w) :
  Calls Tryz.prog 22 #[.slice A 32 c] w (SpuPost (pubL (keyN b)) w):=by
 have HS:=zY (ssec_any b lb A c w hr hc hG);obtain ⟨K,hK⟩:=eX (bsN ((secL b).take 32));have hKl:K.length=32:=by rw [hK]; exact keyB_len b
 have hkv:leV (digs K)=keyN b:=by rw [hK]; exact keyB_val b
 rw [← hK] at HS;rw [← hkv];obtain ⟨B,hB⟩:=eX baseP;obtain ⟨P,hP⟩:=eX (bmP K);have CB:=zY (show ∀ u,Calls Tryz.prog 30 #[] u (PtPost B u) from fun u=>by rw [hB]; exact base_any u);have CM:=zY (show ∀ A c u,Rd u u.heap.size A (bytesV K)→32≤c→Calls Tryz.prog 31 #[.agg (ptV B),.slice A 32 c] u (PtPost P u) from fun A c u h1 h2=>by rw [hB,hP]; exact bm_any K hKl A c u h1 h2);have CY:=zY (show ∀ u,Calls Tryz.prog 32 #[.agg (ptV P)] u (fun e w'=>∃ o,e=.returned (.slice (some ⟨o,0,none⟩) 32 32)∧u.heap.size≤o∧Blk w' o 5 (bnV (pubL (leV (digs K)))).toArray∧Below u.heap.size u w') from fun u=>by rw [hP]; exact bb_any K hKl u);obtain ⟨L,hL⟩:=eX (pubL (leV (digs K)));rw [← hL] at CY ⊢;clear hr hc hG hK hKl hkv hB hP hL lb;go_enter Tryz.func22,Tryz.ntmps22;go_wp2_with fail;refine qab HS.out ?_;rintro e w1 ⟨A1,c1,B1,d1,rfl,hc1,hd1,r1,r2,hb1⟩;have R1:=zY r1;have HB:=zY hb1;have HC1:=zY hc1;clear r1 r2 hb1 hc1 hd1;go_wp2_with fail;refine qab (CB.out _) ?_;rintro e w2 ⟨rfl,hb⟩;replace R1:=zY (qag R1.out hb);replace HB:=zY (HB.out.trans (hb.mono HB.out.size));clear hb;go_wp2_with fail;refine qab (CM.out _ _ _ R1.out HC1.out) ?_;rintro e w3 ⟨rfl,hb⟩;replace HB:=zY (HB.out.trans (hb.mono HB.out.size));clear hb;go_wp2_with fail;refine qab (CY.out _) ?_;rintro e w4 ⟨o,rfl,ho,hk,hb⟩;have HF:=zY (And.intro (Nat.le_trans HB.out.size ho) (And.intro hk (HB.out.trans (hb.mono HB.out.size))));clear ho hk hb;go_wp2_with fail;go_ret2;exact ⟨o,rfl,HF.out⟩
theorem spublic_bad (n:Nat) (hn:n≠32) (hl:n≤1000) (A:Option Addr) (c:Nat) (w:World) :
  Calls Tryz.prog 22 #[.slice A n c] w (fun e w'=>e=.returned (.tuple #[.slice none 0 0,.int .i64 1])∧w'=w):=by
 have h1:¬ (n:Int)=32:=by omega
 have h2:(n:Int)≤1000:=by omega
 clear hn hl;go_enter Tryz.func22,Tryz.ntmps22;go_wp2_with fail;go_ret2;exact ⟨rfl,rfl⟩
end Go.Proofs.YtcbkaaodmjphdaaGreatDoor
