/-
  PROVED: 'brevetlaw19.KeysNext': for all keys, every time, span and seed what is to be done next is the document's. The listed variable (the words of the steps) is tied to the program's text by the card.
-/
import Derived.Deep.DeepCutAuto
import Derived.Laws.StructEq
import Derived.Test.YtcbkaaodmjphdaaGreatDoorProg
import Derived.Great.Walk
import Derived.Deep.Slices
import Derived.Test.YtcbkaaodmjphdaaGreatDoorCards
import Derived.Test.YtcbkaaodmjphdaaGreatDoorTie
import Derived.SevenTiedAt
import Derived.ProofKit
import Derived.OpenShut
import Derived.Test.YtcbkaaodmjphdaaGreatDoorJ5
import Derived.Test.YtcbkaaodmjphdaaGreatDoorJ1
namespace Go.Proofs.YtcbkaaodmjphdaaGreatDoor
set_option linter.unusedSimpArgs false
set_option linter.unusedVariables false
set_option maxRecDepth 100000
set_option maxHeartbeats 4000000
open Go.RowKit Go.Shelf
attribute [local go_sem] Oper.semAt_some
def restOp (l:List KeyD) (q:KeyD) (now every:Int):Int × Int × ByteArray × Bool :=
 if timeC q.since every≤now then (10,now,⟨#[]⟩,true) else match (keysOf l 3).find? (fun k=>spentB k now) with | some k=>(11,0,k.kid,true) | none=>(0,0,⟨#[]⟩,false)
def NextRest (l:List KeyD) (q:KeyD) (now every:Int) (w:World) (e:Ending) (w':World):Prop :=
 e=.returned (.tuple #[.agg (opCells (restOp l q now every).1 (restOp l q now every).2.1 (restOp l q now every).2.2.1 zKey),.bool (restOp l q now every).2.2.2])∧Below w.heap.size w w'
theorem qdp {F:Fence} {n:Nat} {ops:Array Oper} {rest:List Oper} {o:Oper} {a:Act} {w:World} {Q:Exit→Act→World→Prop} {cells:Array Value} (hg:o.guard=none) (parts:Array (Nat × Operand)) (ho:o.op=.build 38 parts)
  (hf:Tryz.prog.built 38 (parts.map fun (i,x)=>(i,a.eval x)).toList=some cells) (h:wpListIn F n Tryz.prog ops Q rest (a.put o.dst (.agg cells)) w):wpListIn F n Tryz.prog ops Q (o :: rest) a w:=by
 refine wpListIn_plain hg fun K hK=>?_;unfold Oper.wpIn;refine ⟨by simp [Oper.about,ho],?_⟩;rw [Oper.semAt_plain F _ _ (by rw [ho]; intro c hc'; cases hc')];unfold execOp;simp only [ho,Sem.run_bind,run_build w _ _ cells hf,Result.andThen_ok];exact hK _ _ h
def lastKid (pre:List KeyD):ByteArray:=(pre.getLast?.getD zKey).kid
theorem qdD (xs:List KeyD) (x:KeyD):lastKid (xs++[x])=x.kid:=by simp [lastKid]
structure NxC (w:World) (g:Nat) (q:KeyD) (now:Int) (u:World):Prop where
 below:Below w.heap.size w u
 now:Blk u w.heap.size 3 #[.int .i64 now]
 op:Blk u (w.heap.size+1) 38 zOp
 ok:Blk u (w.heap.size+1+1) 4 #[.bool false]
 key:Blk u g 33 (keyCells q)
theorem NxC.next {w u u':World} {g:Nat} {q:KeyD} {now:Int} (h:NxC w g q now u) (hb:Below u.heap.size u u'):NxC w g q now u' :=
 ⟨h.below.trans (hb.mono h.below.size),h.now.below hb h.now.lt,h.op.below hb h.op.lt,h.ok.below hb h.ok.lt,h.key.below hb h.key.lt⟩
theorem next_rest (l:List KeyD) (hl:l.length≤1000) (p q:KeyD) (hf:firstK l 1=some p) (hf2:firstK l 2=some q) (now every:Int) (nb:Nat) (A B:Option Addr) (c cb:Nat) (w:World) (hr:Rd w w.heap.size A (keysV l)) :
  Calls Tryz.prog 5 #[.slice A l.length c,.int .i64 now,.int .i64 every,.slice B nb cb] w (NextRest l q now every w):=by
 have hu:=Tryz.underlying33;have huo:=Tryz.underlying38;obtain ⟨W0,hW0⟩:∃ W0,W0=((w.alloc (.cells #[.int .i64 now] 3)).alloc (.cells #[.int .i64 0,.int .i64 0,.string ⟨#[]⟩,.int .i64 0,.string ⟨#[]⟩,.string ⟨#[]⟩,.int .i64 0,.slice none 0 0,.string ⟨#[]⟩,.string ⟨#[]⟩,.int .i64 0,.bool false,.string ⟨#[]⟩,.string ⟨#[]⟩,.int .i64 0,.int .i64 0,.string ⟨#[]⟩,.string ⟨#[]⟩,.string ⟨#[]⟩,.int .i64 0,.int .i64 0,.string ⟨#[]⟩,.int .i64 0,.slice none 0 0] 38)).alloc (.cells #[.bool false] 4):=⟨_,rfl⟩;have hb0:Below w.heap.size w W0:=by rw [hW0]; exact (((Below.refl _ w).alloc (Nat.le_refl _) _).alloc (by simp) _).alloc (by simp; omega) _
 have hk0:Blk W0 w.heap.size 3 #[.int .i64 now]:=by rw [hW0]; exact (Blk.new _ _ _).alloc _ |>.alloc _
 have hk1:Blk W0 (w.heap.size+1) 38 zOp:=by
  have:=(Blk.new (w.alloc (.cells #[.int .i64 now] 3)) 38 zOp).alloc (.cells #[.bool false] 4);rw [hW0]; simpa [zOp,opCells,zKey] using this
 have hk2:Blk W0 (w.heap.size+1+1) 4 #[.bool false]:=by
  have:=Blk.new ((w.alloc (.cells #[.int .i64 now] 3)).alloc (.cells zOp 38)) 4 #[.bool false];rw [hW0]; simpa [zOp,opCells,zKey] using this
 have HB0:=zY hb0;have HK0:=zY hk0;have HK1:=zY hk1;have HK2:=zY hk2;have HW0:=zY hW0;have CF:=zY (first_any l hl 1 A c W0 (qbI hr hb0));rw [hf,show optB (some p)=true from rfl,show optK (some p)=p from rfl] at CF
 have CF2:=zY (show ∀ u,Below w.heap.size w u→Calls Tryz.prog 9 #[.slice A l.length c,.int .i64 2] u (fun e w'=>e=.returned (.tuple #[.agg (keyCells q),.bool true])∧Below u.heap.size u w') from fun u h=>by
  have:=first_any l hl 2 A c u ((hr.below h).mono h.size);rw [hf2,show optB (some q)=true from rfl,show optK (some q)=q from rfl] at this;exact this)
 have HRA:=zY hr;have HLL:=zY hl;clear hb0 hk0 hk1 hk2 hW0 hr hl hf hf2;refine (callsIn_wide (n:=5)).1 ?_;refine callsIn_of_wp_marks Tryz.func5 rfl trivial ?_ rfl;simp only [Tryz.ntmps5,List.size_toArray,List.length_cons,List.length_nil,Nat.reduceAdd,Nat.reduceSub,Array.replicate_succ,Array.replicate_zero,List.push_toArray,List.append_toArray,List.nil_append,List.cons_append];refine wpIn_wide.2 ?_;go_wp2_with fail;rw [← HW0.out];refine qab CF.out ?_;rintro e w1 ⟨rfl,hb1⟩;have HB1:=zY (HB0.out.trans (hb1.mono HB0.out.size));replace HK0:=zY (HK0.out.below hb1 HK0.out.lt);replace HK1:=zY (HK1.out.below hb1 HK1.out.lt);replace HK2:=zY (HK2.out.below hb1 HK2.out.lt);clear CF HB0 hb1;have hbn:=Blk.new w1 33 #[.string ⟨#[]⟩,.string ⟨#[]⟩,.int .i64 0,.int .i64 0];obtain ⟨g1,hg1⟩:=eX (w1.heap.size);go_wp2_with (refine qad (cells:=keyCells p) hbn rfl rfl rfl rfl qat rfl (qas _) ?_; intro w2 hb2 hw2; have HW2:=zY hw2; clear hb2 hw2);have hbel:Below w1.heap.size w1 w2:=HW2.out.below ((Below.refl _ _).alloc (Nat.le_refl _) _) (Nat.le_refl _) (by simp);replace HB1:=zY (HB1.out.trans (hbel.mono HB1.out.size));replace HK0:=zY (HK0.out.below hbel HK0.out.lt);replace HK1:=zY (HK1.out.below hbel HK1.out.lt);replace HK2:=zY (HK2.out.below hbel HK2.out.lt);clear hbel HW2 hbn;rw [← hg1];clear hg1;refine qab (CF2.out _ HB1.out) ?_;rintro e w3 ⟨rfl,hb3⟩;replace HB1:=zY (HB1.out.trans (hb3.mono HB1.out.size));replace HK0:=zY (HK0.out.below hb3 HK0.out.lt);replace HK1:=zY (HK1.out.below hb3 HK1.out.lt);replace HK2:=zY (HK2.out.below hb3 HK2.out.lt);clear hb3 CF2;have hbn:=Blk.new w3 33 #[.string ⟨#[]⟩,.string ⟨#[]⟩,.int .i64 0,.int .i64 0];obtain ⟨g3,hg3⟩:=eX (w3.heap.size);have HG3:=zY (show w.heap.size+1+1<g3 by rw [hg3]; exact HK2.out.lt);go_wp2_with (refine qad (cells:=keyCells q) hbn rfl rfl rfl rfl qat rfl (qas _) ?_; intro w4 hb4 hw4; have HB4:=zY hb4; have HW4:=zY hw4; clear hb4 hw4);have hbel4:Below w3.heap.size w3 w4:=HW4.out.below ((Below.refl _ _).alloc (Nat.le_refl _) _) (Nat.le_refl _) (by simp);have HC0:NxC w g3 q now w4.drew:=NxC.next (u:=w4) (u':=w4.drew) ⟨HB1.out.trans (hbel4.mono HB1.out.size),HK0.out.below hbel4 HK0.out.lt,HK1.out.below hbel4 HK1.out.lt,HK2.out.below hbel4 HK2.out.lt,by rw [hg3]; exact HB4.out⟩ ((Below.refl _ _).drew);have CU:=zY (fun u:World=>cuntil_any q.since every u);obtain ⟨T,hT⟩:=eX (timeC q.since every);rw [← hT] at CU;obtain ⟨ob,hob⟩:=eX (decide (T≤now));have HOB:=zY hob;have HT:=zY hT;rw [← hg3];clear hbn hbel4 HW4 HB4 HB1 HK0 HK1 HK2 hob hT hg3
 refine qaD (NxC w g3 q now) (fun | false=>(fun _=>True) | true=>(fun _=>True)) (fun | false,_=>false | true,_=>false)
  [fun z _=>z 0=.bool true,
   fun z _=>z 1=.bool false,
   fun z _=>z 2=.bool false,
   fun z _=>z 3=.int .i64 now,
   fun z _=>z 4=.pointer (some ⟨g3,3,none⟩),
   fun z _=>z 5=.int .i64 q.since,
   fun z _=>z 6=.int .i64 every,
   fun z _=>z 7=.int .i64 T,
   fun z _=>z 8=.bool ob,
   fun z _=>z 9=.bool ob]
  [Eq,Eq,Eq,Eq,Eq,Eq,Eq,fun u u'=>Below u.heap.size u u',Eq,Eq]
  (fun _ _=>false) [(0,some 40),(1,some 41),(2,some 42),(3,some 43),(4,some 44),(5,some 45),(6,some 46),(7,some 47),(8,some 48),(9,some 49)] (by kernel_rfl) (by kernel_rfl) rfl (fun _=>rfl) ?_ ?_ ?_ ?_ ?_ ?_
 ·exact HC0
 ·intro m; cases m; exact trivial; exact trivial
 ·intro m; cases m
  ·refine ⟨?_,?_,?_,?_,?_,?_,?_,.inr (fun _ _ _ h=>h),?_,?_,trivial⟩ <;> exact .inr fun _ _ h h0=>h▸h0
  ·refine ⟨?_,?_,?_,?_,?_,?_,?_,.inr (fun _ _ _ h=>h),?_,?_,trivial⟩ <;> exact .inr fun _ _ h h0=>h▸h0
 ·refine ⟨⟨.inl rfl,?_,?_,?_,?_,?_,?_,?_,?_,?_,trivial⟩,⟨?_,.inl rfl,?_,?_,?_,?_,?_,?_,?_,?_,trivial⟩,⟨?_,?_,.inl rfl,?_,?_,?_,?_,?_,?_,?_,trivial⟩,⟨?_,?_,?_,.inl rfl,?_,?_,?_,?_,?_,?_,trivial⟩,⟨?_,?_,?_,?_,.inl rfl,?_,?_,?_,?_,?_,trivial⟩,⟨?_,?_,?_,?_,?_,.inl rfl,?_,?_,?_,?_,trivial⟩,⟨?_,?_,?_,?_,?_,?_,.inl rfl,?_,?_,?_,trivial⟩,⟨?_,?_,?_,?_,?_,?_,?_,.inl rfl,?_,?_,trivial⟩,⟨?_,?_,?_,?_,?_,?_,?_,?_,.inl rfl,?_,trivial⟩,⟨?_,?_,?_,?_,?_,?_,?_,?_,?_,.inl rfl,trivial⟩,trivial⟩ <;> first | exact .inr (.inr (.inl rfl)) | exact .inr (.inr (.inr fun _ _ _ _ _ h=>h))
 ·refine ⟨?_,?_,?_,?_,?_,?_,?_,?_,?_,?_,trivial⟩
  ·refine qaf [] (fun _=>rfl) rfl ?_;intro w1 vals hC1 hi0 hf E hE;clear hi0;clear hf;simp only [sP] at hE ⊢;go_wp2;exact .mk (hE _ _ rfl hC1 rfl)
  ·refine qaf [(0,some 40)] (fun _=>rfl) rfl ?_;intro w1 vals hC1 hi0 hf E hE;clear hi0;have f0:vals 0=_:=hf 0 rfl
   try dsimp only at f0
   clear hf;simp only [sP,f0] at hE ⊢;clear f0;go_wp2;exact .mk (hE _ _ rfl hC1 rfl)
  ·refine qaf [(1,some 41)] (fun _=>rfl) rfl ?_;intro w1 vals hC1 hi0 hf E hE;clear hi0;have f1:vals 1=_:=hf 1 rfl
   try dsimp only at f1
   clear hf;simp only [sP,f1] at hE ⊢;clear f1;go_wp2;exact .mk (hE _ _ rfl hC1 rfl)
  ·refine qb0 [(2,some 42)] (fun _=>rfl) 2 42 false rfl rfl ?_ ?_
   ·intro w1 vals hC1 hi0 hf hy E hE;dsimp only at hE ⊢;clear hi0;have f2:vals 2=_:=hf 2 rfl
    try dsimp only at f2
    clear hf;clear hy;have d0:w1.cell? ⟨w.heap.size,0,none⟩=some (.int .i64 now):=hC1.now.cell 0;simp only [sP,f2] at hE ⊢;clear f2;go_wp2;exact .mk (hE _ _ rfl hC1 rfl)
   ·intro w1 vals hC1 hi0 hf hy;clear hi0;have f2:vals 2=_:=hf 2 rfl
    try dsimp only at f2
    clear hf;exact absurd (by simp only [sP,f2]; rfl) hy
  ·refine qb0 [(2,some 42)] (fun _=>rfl) 2 42 false rfl rfl ?_ ?_
   ·intro w1 vals hC1 hi0 hf hy E hE;dsimp only at hE ⊢;clear hi0;have f2:vals 2=_:=hf 2 rfl
    try dsimp only at f2
    clear hf;clear hy;simp only [sP,f2] at hE ⊢;clear f2;go_wp2;exact .mk (hE _ _ rfl hC1 rfl)
   ·intro w1 vals hC1 hi0 hf hy;clear hi0;have f2:vals 2=_:=hf 2 rfl
    try dsimp only at f2
    clear hf;exact absurd (by simp only [sP,f2]; rfl) hy
  ·refine qb0 [(4,some 44),(2,some 42)] (fun _=>rfl) 2 42 false rfl rfl ?_ ?_
   ·intro w1 vals hC1 hi0 hf hy E hE;dsimp only at hE ⊢;clear hi0;have f2:vals 2=_:=hf 2 rfl;have f4:vals 4=_:=hf 4 rfl
    try dsimp only at f2 f4
    clear hf;clear hy;have d0:w1.cell? ⟨g3,3,none⟩=some (.int .i64 q.since):=hC1.key.cell 3;simp only [sP,f2,f4] at hE ⊢;clear f2 f4;go_wp2;exact .mk (hE _ _ rfl hC1 rfl)
   ·intro w1 vals hC1 hi0 hf hy;clear hi0;have f2:vals 2=_:=hf 2 rfl;have f4:vals 4=_:=hf 4 rfl
    try dsimp only at f2 f4
    clear hf;exact absurd (by simp only [sP,f2]; rfl) hy
  ·refine qb0 [(2,some 42)] (fun _=>rfl) 2 42 false rfl rfl ?_ ?_
   ·intro w1 vals hC1 hi0 hf hy E hE;dsimp only at hE ⊢;clear hi0;have f2:vals 2=_:=hf 2 rfl
    try dsimp only at f2
    clear hf;clear hy;simp only [sP,f2] at hE ⊢;clear f2;go_wp2;exact .mk (hE _ _ rfl hC1 rfl)
   ·intro w1 vals hC1 hi0 hf hy;clear hi0;have f2:vals 2=_:=hf 2 rfl
    try dsimp only at f2
    clear hf;exact absurd (by simp only [sP,f2]; rfl) hy
  ·refine qb0 [(5,some 45),(6,some 46),(2,some 42),(2,some 42)] (fun _=>rfl) 2 42 false rfl rfl ?_ ?_
   ·intro w1 vals hC1 hi0 hf hy E hE;dsimp only at hE ⊢;clear hi0;have f2:vals 2=_:=hf 2 rfl;have f5:vals 5=_:=hf 5 rfl;have f6:vals 6=_:=hf 6 rfl
    try dsimp only at f2 f5 f6
    clear hf;clear hy;simp only [sP,f2,f5,f6] at hE ⊢;clear f2 f5 f6;go_wp2_with fail;refine qab (CU.out _) ?_;rintro e w2 ⟨rfl,hb2⟩;go_wp2_with fail;exact .mk (hE _ _ rfl (hC1.next hb2) hb2)
   ·intro w1 vals hC1 hi0 hf hy;clear hi0;have f2:vals 2=_:=hf 2 rfl;have f5:vals 5=_:=hf 5 rfl;have f6:vals 6=_:=hf 6 rfl
    try dsimp only at f2 f5 f6
    clear hf;exact absurd (by simp only [sP,f2]; rfl) hy
  ·refine qb0 [(3,some 43),(7,some 47),(7,some 47),(2,some 42)] (fun _=>rfl) 2 42 false rfl rfl ?_ ?_
   ·intro w1 vals hC1 hi0 hf hy E hE;dsimp only at hE ⊢;clear hi0;have f2:vals 2=_:=hf 2 rfl;have f3:vals 3=_:=hf 3 rfl;have f7:vals 7=_:=hf 7 rfl
    try dsimp only at f2 f3 f7
    clear hf;clear hy;simp only [sP,f2,f3,f7] at hE ⊢;clear f2 f3 f7;go_wp2_with fail;refine qab (cover_any _ _ _) ?_;rintro e w2 ⟨rfl,rfl⟩;rw [← HOB.out];go_wp2_with fail;exact .mk (hE _ _ rfl hC1 rfl)
   ·intro w1 vals hC1 hi0 hf hy;clear hi0;have f2:vals 2=_:=hf 2 rfl;have f3:vals 3=_:=hf 3 rfl;have f7:vals 7=_:=hf 7 rfl
    try dsimp only at f2 f3 f7
    clear hf;exact absurd (by simp only [sP,f2]; rfl) hy
  ·refine qaf [(2,some 42),(8,some 48)] (fun _=>rfl) rfl ?_;intro w1 vals hC1 hi0 hf E hE;clear hi0;have f2:vals 2=_:=hf 2 rfl;have f8:vals 8=_:=hf 8 rfl
   try dsimp only at f2 f8
   clear hf;simp only [sP,f2,f8] at hE ⊢;clear f2 f8;go_wp2;exact .mk (hE _ _ rfl hC1 rfl)
 intro w1 vals hC1 hf;have f0:vals 0=_:=hf 0 (by decide) rfl;have f1:vals 1=_:=hf 1 (by decide) rfl;have f2:vals 2=_:=hf 2 (by decide) rfl;have f3:vals 3=_:=hf 3 (by decide) rfl;have f4:vals 4=_:=hf 4 (by decide) rfl;have f5:vals 5=_:=hf 5 (by decide) rfl;have f6:vals 6=_:=hf 6 (by decide) rfl;have f7:vals 7=_:=hf 7 (by decide) rfl;have f8:vals 8=_:=hf 8 (by decide) rfl;have f9:vals 9=_:=hf 9 (by decide) rfl
 try dsimp only at f0 f1 f2 f3 f4 f5 f6 f7 f8 f9
 clear hf;simp only [sP,f0,f1,f2,f3,f4,f5,f6,f7,f8,f9];clear f0 f1 f2 f3 f4 f5 f6 f7 f8 f9;have HC:=zY hC1;clear hC1 HC0 CU
 cases ob with
 | true =>
  have hTn:T≤now:=by have:=HOB.out; simpa using this.symm
  have HRO:=zY (show restOp l q now every=(10,now,⟨#[]⟩,true) by rw [restOp,if_pos (by rw [← HT.out]; exact hTn)]);have dn:w1.cell? ⟨w.heap.size,0,none⟩=some (.int .i64 now):=HC.out.now.cell 0;have k1:=HC.out.op;have k2:=HC.out.ok;clear hTn HOB HT
  go_wp2_with (first
   | (refine qa5 (cells:=opCells 10 now ⟨#[]⟩ zKey) rfl _ rfl (by kernel_rfl) ?_)
   | (refine qad (cells:=opCells 10 now ⟨#[]⟩ zKey) k1 rfl rfl rfl rfl qaP rfl (qaN _ _ _ _) ?_; intro w6 hb6 hw6; have k26:=hw6.blk k2 (by omega); have HB6:=zY hb6; have HW6:=zY hw6; clear hb6 hw6)
   | (refine qam (i:=0) (v:=.bool true) k26 rfl rfl rfl rfl qbU (by simp) rfl ?_; intro w7 hb7 hw7; have HB7:=zY hb7; have HW7:=zY hw7; clear hb7 hw7))
  have hs:=HW6.out.size;have h5:=HC.out.below;refine ⟨_,qaV (P:=Tryz.prog) rfl rfl rfl (HW7.out.blk HB6.out (by omega)) HB7.out huo rfl qaP (qbT _ _ _ HB7.out),?_⟩;refine ⟨by rw [HRO.out],?_⟩;exact HW7.out.below (HW6.out.below h5 (by omega) h5.size) (by omega) (HW6.out.below h5 (by omega) h5.size).size
 | false =>
  have hTn:¬ T≤now:=by have:=HOB.out; simpa using this.symm
  have HRO:=zY (show restOp l q now every=(match (keysOf l 3).find? (fun k=>spentB k now) with | some k=>(11,0,k.kid,true) | none=>(0,0,⟨#[]⟩,false)) by rw [restOp,if_neg (by rw [← HT.out]; exact hTn)]);clear hTn HOB HT;go_wp2_with fail;refine qab (of_any _ _ _ _ _) ?_;rintro e w5 ⟨rfl,rfl⟩;obtain ⟨gl,hgl⟩:=eX (w1.heap.size);obtain ⟨W1,hW1⟩:=eX ((w1.alloc (.cells #[.slice A l.length c] 22)).alloc (.cells #[.int .i64 3] 3));have hb1:Below w1.heap.size w1 W1:=by rw [hW1]; exact ((Below.refl _ _).alloc (Nat.le_refl _) _).alloc (by simp) _
  have hk2:Blk W1 gl 22 #[.slice A l.length c]:=by rw [hW1,hgl]; exact (Blk.new _ _ _).alloc _
  have hk3:Blk W1 (gl+1) 3 #[.int .i64 3]:=by
   have:=Blk.new (w1.alloc (.cells #[.slice A l.length c] 22)) 3 #[.int .i64 3];rw [hW1,hgl]; simpa using this
  have hsz:W1.heap.size=gl+2:=by rw [hW1,hgl]; simp
  have hN1:=HC.out.next hb1;have hlt:w.heap.size+1+1<gl:=by rw [hgl]; exact HC.out.ok.lt
  have HSQ:=zY (of1_stops 4 (by omega) l HLL.out 3 A c gl (gl+1) W1.heap.size W1 (by omega) (by omega) (Nat.le_refl _) hk2 hk3 ((HRA.out.below hN1.below).mono hN1.below.size));have HN1:=zY hN1;have HSZ:=zY hsz;have HLT:=zY hlt;rw [← hW1,← hgl];clear hb1 hk2 hk3 hsz hN1 hlt hW1 hgl HC;go_wp2_with fail;refine (wpIn_wide (n:=5)).1 ?_
  refine wpIn_rangeFunc_ownH rfl (by omega) (gf:=25) (lb:=#[.pointer (some ⟨gl,0,none⟩),.pointer (some ⟨gl+1,0,none⟩)]) rfl trivial (enters_of Tryz.func25 (by kernel_rfl) rfl)
   HSQ.out belowK_t (belowK_b (Nat.le_refl _)) (Below.refl _ _) (fun _=>rfl)
   (fun pre W=>Below W1.heap.size W1 W∧(∀ k ∈ pre,spentB k now=false))
   (fun cd pre W=>((Blk W (w.heap.size+1) 38 (opCells 11 0 (lastKid pre) zKey)∧Blk W (w.heap.size+1+1) 4 #[.bool true])∧Below w.heap.size w W)∧(cd=.ret∧∃ xs x,pre=xs++[x]∧(∀ k ∈ xs,spentB k now=false)∧spentB x now=true))
   (OwnFrom.and (ownFrom_below (Nat.le_refl _) (Nat.le_refl _)) (ownFrom_pure _ _))
   (fun _=>OwnFrom.and (OwnFrom.and (OwnFrom.and (qbO _ _ _ (fun pre:List KeyD=>opCells 11 0 (lastKid pre) zKey)) (qbO _ _ _ _)) (ownFrom_below (Nat.le_refl _) HN1.out.below.size)) (ownFrom_pure _ _))
   ⟨Below.refl _ _,by simp⟩
   (fun x a' W=>∃ Bx,gl+1<Bx∧Blk W Bx 33 (keyCells x)∧a'={ tmps:=#[.slice A l.length c,.int .i64 now,.int .i64 every,.slice B nb cb,undef,.pointer (some ⟨w.heap.size,0,none⟩),undef,undef,.pointer (some ⟨w.heap.size+1,0,none⟩),.pointer (some ⟨w.heap.size+1+1,0,none⟩),.pointer (some ⟨g1,0,none⟩),.bool true,undef,undef,.pointer (some ⟨g3,0,none⟩),.bool true,.pointer (some ⟨Bx,0,none⟩),.tuple #[.agg (keyCells p),.bool true],.slice A l.length c,.tuple #[.agg (keyCells p),.bool true],.agg (keyCells p),.bool true,.bool true,.bool false,undef,undef,undef,undef,undef,undef,undef,undef,undef,undef,undef,.tuple #[.agg (keyCells q),.bool true],.slice A l.length c,.tuple #[.agg (keyCells q),.bool true],.agg (keyCells q),.bool true,.bool true,.bool false,.bool false,.int .i64 now,.pointer (some ⟨g3,3,none⟩),.int .i64 q.since,.int .i64 every,.int .i64 T,.bool false,.bool false,undef,undef,.slice A l.length c,.func (.func 25) #[] #[.pointer (some ⟨gl,0,none⟩),.pointer (some ⟨gl+1,0,none⟩)],.agg (keyCells x),undef,undef,undef,undef,undef,undef,undef],defers:=[] })
   (fun x a'=>by
    rintro _ X Y row ⟨Bx,h1,h2,rfl⟩ hg hr;exact ⟨Bx,h1,qbO _ Bx _ (fun _:Unit=>keyCells x) () X Y row h2 hg hr,rfl⟩) ?assign ?body ?done ?stop
  case assign =>
   rintro lp pre x W K ⟨i0,hpre⟩ hK;have hbn:=Blk.new W 33 #[.string ⟨#[]⟩,.string ⟨#[]⟩,.int .i64 0,.int .i64 0];have HP:=zY hpre;clear hpre
   gi_wp2_with (apply qa6 hbn; rfl; rfl; rfl; rfl; exact qat; rfl; exact qas _; intro w2 hb2 hw2 e2; clear e2)
   have hbel:Below W.heap.size W w2:=hw2.below ((Below.refl _ _).alloc (Nat.le_refl _) _) (Nat.le_refl _) (by simp);have hlt:gl+1<W.heap.size:=Nat.lt_of_lt_of_le (by have:=HSZ.out; omega) i0.size;have hb3:=hbel.mono i0.size;exact hK _ _ (KeepsFrom.of_grownBy (qbo hbel) (fun j e=>by cases e)) hb3 ⟨i0.trans hb3,HP.out⟩ ⟨W.heap.size,hlt,hb2,rfl⟩
  case body =>
   rintro lp pre x a' W hl ⟨r,hr⟩ ⟨i0,hpre⟩ ⟨Bx,hBx,hbx,rfl⟩ _;have HP:=zY hpre;have HN:=zY (HN1.out.next i0);have dn:W.cell? ⟨w.heap.size,0,none⟩=some (.int .i64 now):=HN.out.now.cell 0;clear hpre
   gi_wp2_with (refine qbW hbx rfl rfl rfl hu rfl qat ?_)
   refine ⟨trivial,?_⟩;refine (CallsIn.inRound lp (callsIn_wide.2 (cspent_any x now W))).mono ?_;rintro e w2 ⟨rfl,hb2⟩;have HI:=zY (i0.trans (hb2.mono i0.size));have HN2:=zY (HN.out.next hb2);have HBX:=zY (hbx.below hb2 hbx.lt);have HKF:=zY (show KeepsFrom W1.heap.size W w2 from KeepsFrom.of_grownBy (qbo hb2) (fun j e=>by cases e));have HKP:=zY (show Below W1.heap.size W w2 from hb2.mono i0.size);obtain ⟨sp,hsp⟩:=eX (spentB x now);rw [← hsp];have HSP:=zY hsp;clear hsp hb2 i0 hbx dn HN
   cases sp with
   | false =>
    gi_wp2
    refine ⟨HKF.out,HKP.out,HI.out,fun k hk=>?_⟩
    rcases List.mem_append.1 hk with h | h
    ·exact HP.out k h
    ·rw [List.mem_singleton.1 h,← HSP.out]
   | true =>
    have dk:w2.cell? ⟨Bx,0,none⟩=some (.string x.kid):=HBX.out.cell 0;have k1:=HN2.out.op;have k2:=HN2.out.ok;have hlt:=HLT.out;have hsz:=HSZ.out
    gi_wp2_with (first
     | (refine qdp (cells:=opCells 11 0 x.kid zKey) rfl _ rfl (by kernel_rfl) ?_)
     | (apply qa6 k1; rfl; rfl; rfl; rfl; exact qaP; rfl; exact qaN _ _ _ _; intro w6 hb6 hw6 e6; clear e6; have k26:=hw6.blk k2 (by omega); have HB6:=zY hb6; have HW6:=zY hw6; clear hb6 hw6)
     | (refine qcd (i:=0) (v:=.bool true) k26 rfl rfl rfl rfl qbU (by simp) rfl ?_; intro w7 hb7 hw7 e7; clear e7; have HB7:=zY hb7; have HW7:=zY hw7; clear hb7 hw7))
    refine ⟨HKF.out.trans ((KeepsFrom.of_grownBy HW6.out.grown (fun j e=>by cases e; omega)).trans (KeepsFrom.of_grownBy HW7.out.grown (fun j e=>by cases e; omega))),⟨⟨?_,HB7.out⟩,?_⟩,rfl,pre,x,rfl,HP.out,HSP.out.symm⟩
    ·rw [qdD];exact HW7.out.blk HB6.out (by omega)
    ·have h2:=HN2.out.below;exact HW7.out.below (HW6.out.below h2 (by omega) h2.size) (by omega) (HW6.out.below h2 (by omega) h2.size).size
  case done =>
   rintro D ys W hD rfl ⟨i0,hys⟩ hKD
   have HRN:=zY (show restOp l q now every=(0,0,⟨#[]⟩,false) by
    rw [HRO.out,List.find?_eq_none.2 (fun k hk=>by rw [hys k hk]; simp)])
   have HN:=HN1.out.next i0;have k1:=HN.op;have k2:=HN.ok;have hlt:=HLT.out;have hsz:=HSZ.out;have HNb:=zY HN.below;clear HN hys
   go_wp2_with (first
    | (refine qad (cells:=zOp) k1 rfl rfl rfl rfl qaP rfl (qaN _ _ _ _) ?_; intro w6 hb6 hw6; have k26:=hw6.blk k2 (by omega); have HB6:=zY hb6; have HW6:=zY hw6; clear hb6 hw6)
    | (refine qam (i:=0) (v:=.bool false) k26 rfl rfl rfl rfl qbU (by simp) rfl ?_; intro w7 hb7 hw7; have HB7:=zY hb7; have HW7:=zY hw7; clear hb7 hw7))
   have hK2:=qcG HW6.out k1 hKD;have hK3:=qcG HW7.out k26 hK2;have hs6:=HW6.out.size;have h2:=HNb.out;have hbel:Below w.heap.size w w7:=HW7.out.below (HW6.out.below h2 (by omega) h2.size) (by omega) (HW6.out.below h2 (by omega) h2.size).size;refine ⟨by simp,.inl ⟨_,_,rfl,run_takeDeferred hK3,?_⟩⟩;refine ⟨_,qaV rfl rfl rfl (qa7 (HW7.out.blk HB6.out (by omega)) hK3 _) (qa7 HB7.out hK3 _) huo rfl qaP (qbT _ _ _ (qa7 HB7.out hK3 _)),?_⟩;refine ⟨by rw [HRN.out]; rfl,?_⟩;exact hbel.trans (belowK_b (w:=w) (Nat.le_refl _) w7 D _ _ (by omega) hK3 rfl rfl)
  case stop =>
   rintro D cd pre W hD hSp ⟨⟨⟨i1,i2⟩,i3⟩,rfl,xs,x,rfl,hxs,hx⟩ hKD
   have HRN:=zY (show restOp l q now every=(11,0,x.kid,true) by
    obtain ⟨r,hr⟩:=hSp;rw [HRO.out,← hr,List.append_assoc,List.find?_append,List.find?_eq_none.2 (fun k hk=>by rw [hxs k hk]; simp),Option.none_or,List.singleton_append,List.find?_cons,hx])
   rw [qdD] at i1;have hlt:=HLT.out;have hsz:=HSZ.out
   gi_wp2
   refine ⟨by simp,.inl ⟨_,_,rfl,run_takeDeferred hKD,?_⟩⟩;refine ⟨_,qaV rfl rfl rfl (qa7 i1 hKD _) (qa7 i2 hKD _) huo rfl qaP (qbT _ _ _ (qa7 i2 hKD _)),?_⟩;refine ⟨by rw [HRN.out],?_⟩;exact i3.trans (belowK_b (w:=w) (Nat.le_refl _) W D _ _ (by omega) hKD rfl rfl)
end Go.Proofs.YtcbkaaodmjphdaaGreatDoor
namespace Go.Proofs.YtcbkaaodmjphdaaGreatDoor
set_option linter.unusedSimpArgs false
set_option linter.unusedVariables false
set_option maxRecDepth 100000
set_option maxHeartbeats 4000000
open Go.RowKit
theorem rmake_any (b:List UInt8) (hl:b.length≤1000) (now:Int) (A:Option Addr) (c:Nat) (w:World) (hr:Rd w w.heap.size A (bytesV b)) (hc:b.length≤c) :
  Calls Tryz.prog 16 #[.slice A b.length c,.int .i64 now] w (fun e w'=>e=.returned (.tuple #[.agg (keyCells (makeK b now)),.bool (makeOk b now)])∧Below w.heap.size w w'):=by
 have hu:=Tryz.underlying33;have hus:=Tryz.underlying9;have hub:=Tryz.underlying23;have hu8:=Tryz.underlying5;have hbn:=Blk.new w 33 #[.string ⟨#[]⟩,.string ⟨#[]⟩,.int .i64 0,.int .i64 0];obtain ⟨W0,hW0⟩:∃ W0,W0=w.alloc (.cells #[.string ⟨#[]⟩,.string ⟨#[]⟩,.int .i64 0,.int .i64 0] 33):=⟨_,rfl⟩;rw [← hW0] at hbn;have hb0:Below w.heap.size w W0:=by rw [hW0]; exact (Below.refl _ _).alloc (Nat.le_refl _) _
 have HW0:=zY hW0;have HBW:=zY (Blk.new w 33 #[.string ⟨#[]⟩,.string ⟨#[]⟩,.int .i64 0,.int .i64 0]);have HB00:=zY (show Below w.heap.size w (w.alloc (.cells #[.string ⟨#[]⟩,.string ⟨#[]⟩,.int .i64 0,.int .i64 0] 33)) from (Below.refl _ _).alloc (Nat.le_refl _) _);have HB0:=zY hb0;have HBN:=zY hbn;have HR:=zY (qbI hr hb0);have HR0:=zY hr;have hwo:w.heap.size<W0.heap.size:=by rw [hW0]; simp
 have HWO:=zY hwo;obtain ⟨n,hn⟩:=eX (b.length)
 by_cases h32:b.length=32
 ·have CP:=zY (show ∀ u,Rd u u.heap.size A (bytesV b)→Calls Tryz.prog 27 #[.slice A 32 c] u (BnPost (pubL (keyN b)) u) from fun u h=>rpublic_any b h32 (digS_len b) A c u h (by omega));have hUb:bnV (pubL (keyN b))=bytesV (ptB (keyN b)):=by rw [ptB,bnV_bsN (pubL_dg _)]
  obtain ⟨U,hU⟩:=eX (ptB (keyN b));have lU:U.length=32:=by rw [hU,ptB_len]
  have CN:=zY (show ∀ u A2 c2,Rd u u.heap.size A2 (bytesV U)→32≤c2→Calls Tryz.prog 26 #[.slice A2 32 c2] u (fun e w'=>e=.returned (.string (nameS U))∧Below u.heap.size u w') from fun u A2 c2 h h2=>by
   have:=rname_any U (by omega) A2 c2 u h (by omega) (digS32_len U);rw [lU] at this;exact this)
  rw [h32];have HUBU:=zY (show bnV (pubL (keyN b))=bytesV U by rw [hUb,hU]);have HUB:=zY hUb;have HU:=zY hU;have H32:=zY h32;obtain ⟨SD,hSD⟩:∃ s:ByteArray,s=⟨b.toArray⟩:=⟨_,rfl⟩;have HSD:=zY hSD;obtain ⟨NS,hNS⟩:=eX (nameS U);rw [← hNS] at CN;have HKK:=zY (show mkKey b now=⟨NS,SD,1,now⟩ by rw [mkKey,hNS,hU,hSD]);clear hUb hU lU h32 hn hl hr hc hW0 hb0 hbn hSD hNS hwo;go_enter Tryz.func16,Tryz.ntmps16
  by_cases hlo:now<0
  ·have hd1:decide (now<0)=true:=by simp; omega
   have HOK:=zY (show makeOk b now=false by simp [makeOk,H32.out]; omega);go_wp2_with (refine qad (cells:=keyCells zKey) HBW.out rfl rfl rfl rfl qat rfl (qas _) ?_; intro w3 hb3 hw3; have HB3:=zY hb3; have HW3:=zY hw3; clear hb3 hw3);refine bodyPost_ret (qar (P:=Tryz.prog) rfl rfl HB3.out hu rfl qat) rfl ⟨?_,HW3.out.below HB00.out (Nat.le_refl _) HB00.out.size⟩;rw [makeK,if_neg (by rw [HOK.out]; simp),HOK.out];rfl
  ·by_cases hhi:now > 1099511627776
   ·have hd1:decide (now<0)=false:=by simp; omega
    have hd2:decide (1099511627776<now)=true:=by simp; omega
    have hd3:decide (now > 1099511627776)=true:=by simp; omega
    have HOK:=zY (show makeOk b now=false by simp [makeOk,H32.out]; omega);go_wp2_with (refine qad (cells:=keyCells zKey) HBW.out rfl rfl rfl rfl qat rfl (qas _) ?_; intro w3 hb3 hw3; have HB3:=zY hb3; have HW3:=zY hw3; clear hb3 hw3);refine bodyPost_ret (qar (P:=Tryz.prog) rfl rfl HB3.out hu rfl qat) rfl ⟨?_,HW3.out.below HB00.out (Nat.le_refl _) HB00.out.size⟩;rw [makeK,if_neg (by rw [HOK.out]; simp),HOK.out];rfl
   ·have hd1:decide (now<0)=false:=by simp; omega
    have hd2:decide (1099511627776<now)=false:=by simp; omega
    have hd3:decide (now > 1099511627776)=false:=by simp; omega
    have HOK:=zY (show makeOk b now=true by simp [makeOk,H32.out]; omega);go_wp2_with fail;rw [← HW0.out];have HC0:Below w.heap.size w W0.drew:=HB0.out.drew;have HI0:Blk W0.drew w.heap.size 33 #[.string ⟨#[]⟩,.string ⟨#[]⟩,.int .i64 0,.int .i64 0]:=HBN.out;clear HB0 HBN HR hd1 hd2 hd3
    refine qaD (fun u=>Below w.heap.size w u) (fun | false=>(fun u=>Blk u w.heap.size 33 #[.string ⟨#[]⟩,.string ⟨#[]⟩,.int .i64 0,.int .i64 0]) | true=>(fun _=>True)) (fun | false,i=>i == 7 | true,_=>false)
     [fun z _=>z 0=.slice A 32 c,
      fun z u=>(fun v u=>∃ A2 c2,v=.slice A2 32 c2∧32≤c2∧Rd u u.heap.size A2 (bytesV U)) (z 1) u,
      fun z _=>z 2=.string NS,
      fun z _=>z 3=.slice A 32 c,
      fun z _=>z 4=.string SD,
      fun z _=>z 5=.int .i64 now,
      fun z _=>z 6=.agg (keyCells ⟨NS,SD,1,now⟩),
      fun z u=>Blk u w.heap.size 33 (keyCells ⟨NS,SD,1,now⟩),
      fun z _=>z 8=.bool true]
     [Eq,fun u u'=>Below u.heap.size u u',fun u u'=>Below u.heap.size u u',Eq,Eq,Eq,Eq,fun _ _=>True,Eq]
     (fun i k=>(i == 7 && k == 1)) [(0,some 18),(1,some 19),(2,some 20),(3,some 21),(4,some 22),(5,some 23),(6,some 24),(7,none),(8,some 5)] (by kernel_rfl) (by kernel_rfl) rfl (fun _=>rfl) ?_ ?_ ?_ ?_ ?_ ?_
    ·exact HC0
    ·intro m; cases m; exact HI0; exact trivial
    ·intro m; cases m
     ·refine ⟨?_,.inr (fun _ _ h h0=>h0.below h h0.lt),.inr (fun _ _ h h0=>h0.below h h0.lt),?_,?_,?_,?_,.inl rfl,?_,trivial⟩ <;> exact .inr fun _ _ h h0=>h▸h0
     ·refine ⟨?_,?_,?_,?_,?_,?_,?_,?_,?_,trivial⟩ <;> first | exact .inr fun _ _ h h0=>h▸h0 | exact .inr fun _ _ _ h=>h
    ·refine ⟨⟨.inl rfl,?_,?_,?_,?_,?_,?_,?_,?_,trivial⟩,⟨?_,.inl rfl,?_,?_,?_,?_,?_,?_,?_,trivial⟩,⟨?_,.inr (.inr (.inr (fun _ _ _ _ h ⟨a,b,e,l,o⟩=>⟨a,b,e,l,qbI o h⟩))),.inl rfl,?_,?_,?_,?_,?_,?_,trivial⟩,⟨?_,?_,?_,.inl rfl,?_,?_,?_,?_,?_,trivial⟩,⟨?_,?_,?_,?_,.inl rfl,?_,?_,?_,?_,trivial⟩,⟨?_,?_,?_,?_,?_,.inl rfl,?_,?_,?_,trivial⟩,⟨?_,?_,?_,?_,?_,?_,.inl rfl,?_,?_,trivial⟩,⟨?_,.inr (.inl rfl),?_,?_,?_,?_,?_,.inl rfl,?_,trivial⟩,⟨?_,?_,?_,?_,?_,?_,?_,?_,.inl rfl,trivial⟩,trivial⟩ <;> first | exact .inr (.inr (.inl rfl)) | exact .inr (.inr (.inr fun _ _ _ _ _ h=>h)) | exact .inr (.inr (.inr fun _ _ _ _ h h0=>by cases h; exact h0))
    ·refine ⟨?_,?_,?_,?_,?_,?_,?_,?_,?_,trivial⟩
     ·refine qaf [] (fun _=>rfl) rfl ?_;intro w1 vals hC1 hi0 hf E hE;have hI1:(fun u=>Blk u w.heap.size 33 #[.string ⟨#[]⟩,.string ⟨#[]⟩,.int .i64 0,.int .i64 0]) w1:=hi0 false rfl
      try dsimp only at hI1
      clear hi0;clear hf;simp only [sP] at hE ⊢;go_wp2;exact .mk (hE _ _ rfl hC1 rfl)
     ·refine qaf [(0,some 18)] (fun _=>rfl) rfl ?_;intro w1 vals hC1 hi0 hf E hE;have hI1:(fun u=>Blk u w.heap.size 33 #[.string ⟨#[]⟩,.string ⟨#[]⟩,.int .i64 0,.int .i64 0]) w1:=hi0 false rfl
      try dsimp only at hI1
      clear hi0;have f0:vals 0=_:=hf 0 rfl
      try dsimp only at f0
      clear hf;simp only [sP,f0] at hE ⊢;clear f0;go_wp2_with fail;refine qab (CP.out _ ((HR0.out.below hC1).mono hC1.size)) ?_;rintro e w2 ⟨A2,c2,rfl,hc2,hr2,hb2⟩;rw [HUBU.out] at hr2;go_wp2_with fail;exact .mk (hE _ _ ⟨A2,c2,rfl,hc2,hr2⟩ (hC1.trans (hb2.mono hC1.size)) hb2)
     ·refine qaf [(1,some 19),(1,some 19)] (fun _=>rfl) rfl ?_;intro w1 vals hC1 hi0 hf E hE;have hI1:(fun u=>Blk u w.heap.size 33 #[.string ⟨#[]⟩,.string ⟨#[]⟩,.int .i64 0,.int .i64 0]) w1:=hi0 false rfl
      try dsimp only at hI1
      clear hi0;have f1:(fun v u=>∃ A2 c2,v=.slice A2 32 c2∧32≤c2∧Rd u u.heap.size A2 (bytesV U)) (vals 1) w1:=hf 1 rfl
      try dsimp only at f1
      clear hf;obtain ⟨A2,c2,hx1,hc2,hr2⟩:=f1;simp only [sP,hx1] at hE ⊢;clear hx1;go_wp2_with fail;refine qab (CN.out _ _ _ hr2 hc2) ?_;rintro e w2 ⟨rfl,hb2⟩;go_wp2_with fail;exact .mk (hE _ _ rfl (hC1.trans (hb2.mono hC1.size)) hb2)
     ·refine qaf [] (fun _=>rfl) rfl ?_;intro w1 vals hC1 hi0 hf E hE;have hI1:(fun u=>Blk u w.heap.size 33 #[.string ⟨#[]⟩,.string ⟨#[]⟩,.int .i64 0,.int .i64 0]) w1:=hi0 false rfl
      try dsimp only at hI1
      clear hi0;clear hf;simp only [sP] at hE ⊢;go_wp2;exact .mk (hE _ _ rfl hC1 rfl)
     ·refine qaf [(3,some 21)] (fun _=>rfl) rfl ?_;intro w1 vals hC1 hi0 hf E hE;have hI1:(fun u=>Blk u w.heap.size 33 #[.string ⟨#[]⟩,.string ⟨#[]⟩,.int .i64 0,.int .i64 0]) w1:=hi0 false rfl
      try dsimp only at hI1
      clear hi0;have f3:vals 3=_:=hf 3 rfl
      try dsimp only at f3
      clear hf;simp only [sP,f3] at hE ⊢;clear f3;refine qa2 ((HR0.out.below hC1).mono hC1.size) hub hu8 hus rfl rfl (by rw [H32.out]; rfl) ?_;rw [← HSD.out];go_wp2_with fail;exact .mk (hE _ _ rfl hC1 rfl)
     ·refine qaf [] (fun _=>rfl) rfl ?_;intro w1 vals hC1 hi0 hf E hE;have hI1:(fun u=>Blk u w.heap.size 33 #[.string ⟨#[]⟩,.string ⟨#[]⟩,.int .i64 0,.int .i64 0]) w1:=hi0 false rfl
      try dsimp only at hI1
      clear hi0;clear hf;simp only [sP] at hE ⊢;go_wp2;exact .mk (hE _ _ rfl hC1 rfl)
     ·refine qaf [(2,some 20),(4,some 22),(5,some 23)] (fun _=>rfl) rfl ?_;intro w1 vals hC1 hi0 hf E hE;have hI1:(fun u=>Blk u w.heap.size 33 #[.string ⟨#[]⟩,.string ⟨#[]⟩,.int .i64 0,.int .i64 0]) w1:=hi0 false rfl
      try dsimp only at hI1
      clear hi0;have f2:vals 2=_:=hf 2 rfl;have f4:vals 4=_:=hf 4 rfl;have f5:vals 5=_:=hf 5 rfl
      try dsimp only at f2 f4 f5
      clear hf;simp only [sP,f2,f4,f5] at hE ⊢;clear f2 f4 f5;go_wp2;exact .mk (hE _ _ rfl hC1 rfl)
     ·refine qaf [(6,some 24),(2,some 20),(0,some 18),(1,some 19),(2,some 20),(3,some 21),(4,some 22),(5,some 23),(6,some 24)] (fun _=>rfl) rfl ?_;intro w1 vals hC1 hi0 hf E hE;have hI1:(fun u=>Blk u w.heap.size 33 #[.string ⟨#[]⟩,.string ⟨#[]⟩,.int .i64 0,.int .i64 0]) w1:=hi0 false rfl
      try dsimp only at hI1
      clear hi0;have f0:vals 0=_:=hf 0 rfl;have f1:(fun v u=>∃ A2 c2,v=.slice A2 32 c2∧32≤c2∧Rd u u.heap.size A2 (bytesV U)) (vals 1) w1:=hf 1 rfl;have f2:vals 2=_:=hf 2 rfl;have f3:vals 3=_:=hf 3 rfl;have f4:vals 4=_:=hf 4 rfl;have f5:vals 5=_:=hf 5 rfl;have f6:vals 6=_:=hf 6 rfl
      try dsimp only at f0 f1 f2 f3 f4 f5 f6
      clear hf;simp only [sP,f0,f2,f3,f4,f5,f6] at hE ⊢;clear f0 f2 f3 f4 f5 f6;refine qad hI1 rfl rfl rfl rfl qat rfl (qas _) ?_;intro w3 hb3 hw3;go_wp2_with fail;exact .mk (hE undef _ hb3 (hw3.below hC1 (Nat.le_refl _) hC1.size) trivial)
     ·refine qaf [(7,none),(0,some 18),(1,some 19),(2,some 20),(3,some 21),(4,some 22),(5,some 23),(6,some 24),(7,none)] (fun _=>rfl) rfl ?_;intro w1 vals hC1 hi0 hf E hE;clear hi0;have f0:vals 0=_:=hf 0 rfl;have f2:vals 2=_:=hf 2 rfl;have f3:vals 3=_:=hf 3 rfl;have f4:vals 4=_:=hf 4 rfl;have f5:vals 5=_:=hf 5 rfl;have f6:vals 6=_:=hf 6 rfl;have f7:(fun z u=>Blk u w.heap.size 33 (keyCells ⟨NS,SD,1,now⟩)) vals w1:=hf 7 rfl
      try dsimp only at f0 f2 f3 f4 f5 f6 f7
      clear hf;simp only [sP,f0,f2,f3,f4,f5,f6] at hE ⊢;clear f0 f2 f3 f4 f5 f6;go_wp2;exact .mk (hE _ _ rfl hC1 rfl)
    intro w1 vals hC1 hf;have f0:vals 0=_:=hf 0 (by decide) rfl;have f2:vals 2=_:=hf 2 (by decide) rfl;have f3:vals 3=_:=hf 3 (by decide) rfl;have f4:vals 4=_:=hf 4 (by decide) rfl;have f5:vals 5=_:=hf 5 (by decide) rfl;have f6:vals 6=_:=hf 6 (by decide) rfl;have f7:(fun z u=>Blk u w.heap.size 33 (keyCells ⟨NS,SD,1,now⟩)) vals w1:=hf 7 (by decide) rfl;have f8:vals 8=_:=hf 8 (by decide) rfl
    try dsimp only at f0 f2 f3 f4 f5 f6 f7 f8
    clear hf;simp only [sP,f0,f2,f3,f4,f5,f6,f8];clear f0 f2 f3 f4 f5 f6 f8;generalize vals 1=x1 at *;have HF:=zY hC1;have HB6:=zY f7;clear HC0 HI0 hC1 f7;go_wp2_with fail;refine bodyPost_ret (qar (P:=Tryz.prog) rfl rfl HB6.out hu rfl qat) rfl ⟨?_,HF.out⟩;rw [makeK,if_pos HOK.out,HKK.out,HOK.out];rfl
 ·have h32':¬ (n:Int)=32:=by omega
  have HOK:=zY (show makeOk b now=false by simp [makeOk,h32]);rw [← hn];clear hn hl hr hc hW0 hb0 hbn h32 hwo;go_enter Tryz.func16,Tryz.ntmps16;go_wp2_with (refine qad (cells:=keyCells zKey) HBW.out rfl rfl rfl rfl qat rfl (qas _) ?_; intro w3 hb3 hw3; have HB3:=zY hb3; have HW3:=zY hw3; clear hb3 hw3);refine bodyPost_ret (qar (P:=Tryz.prog) rfl rfl HB3.out hu rfl qat) rfl ⟨?_,HW3.out.below HB00.out (Nat.le_refl _) HB00.out.size⟩;rw [makeK,if_neg (by rw [HOK.out]; simp),HOK.out];rfl
theorem radd17_any (a b:Int) (ha:-9223372036854775808≤a∧a≤9223372036854775807) (hb:-9223372036854775808≤b∧b≤9223372036854775807) (w:World) :
  Calls Tryz.prog 18 #[.int .i64 a,.int .i64 b] w (fun e w'=>e=.returned (.int .i64 (satA a b))∧w'=w):=by
 obtain ⟨r,hr⟩:=eX (satA a b);rw [← hr];have HR:=zY hr;have HA:=zY ha;have HB:=zY hb;clear hr ha hb;go_enter Tryz.func18,Tryz.ntmps18;go_wp2_with fail
 all_goals go_ret
 all_goals refine ⟨?_,rfl⟩
 all_goals rw [HR.out]
 all_goals refine congrArg (fun x=>Ending.returned (.int .i64 x)) ?_
 all_goals have ha:=HA.out
 all_goals have hb:=HB.out
 all_goals unfold satA
 all_goals unfold wrap64 at *
 all_goals (repeat' split)
 all_goals omega
theorem rtime_any (t:Int) (w:World):Calls Tryz.prog 17 #[.int .i64 t] w (fun e w'=>e=.returned (.int .i64 (timeT t))∧w'=w):=by
 obtain ⟨r,hr⟩:=eX (timeT t);rw [← hr];have HR:=zY hr;clear hr;go_enter Tryz.func17,Tryz.ntmps17;go_wp2_with fail
 all_goals go_ret
 all_goals refine ⟨?_,rfl⟩
 all_goals rw [HR.out]
 all_goals refine congrArg (fun x=>Ending.returned (.int .i64 x)) ?_
 all_goals unfold timeT
 all_goals (repeat' split)
 all_goals omega
def InR (n:Int):Prop:=-9223372036854775808≤n∧n≤9223372036854775807
theorem rspent_any (k:KeyD) (hs:InR k.since) (now:Int) (w:World) :
  Calls Tryz.prog 19 #[.agg (keyCells k),.int .i64 now] w (fun e w'=>e=.returned (.bool (spentB k now))∧Below w.heap.size w w'):=by
 have hbn:=Blk.new w 33 (keyCells k);have HB:=zY (below_new w (.cells (keyCells k) 33));have d2:(w.alloc (.cells (keyCells k) 33)).cell? ⟨w.heap.size,2,none⟩=some (.int .i64 k.state):=hbn.cell 2;have d3:(w.alloc (.cells (keyCells k) 33)).cell? ⟨w.heap.size,3,none⟩=some (.int .i64 k.since):=hbn.cell 3;obtain ⟨W0,hW0⟩:=eX (w.alloc (.cells (keyCells k) 33));rw [← hW0] at HB d2 d3;have HW0:=zY hW0;have CA:=zY (fun u:World=>radd17_any k.since 1000 hs (by omega) u);obtain ⟨r,hr⟩:=eX (spentB k now);rw [← hr];have HR:=zY (show r=(decide (k.state=3) && decide (timeT (satA k.since 1000)≤now)) by rw [hr,spentB,timeC_eq _ _ hs (by omega)]);clear hbn hW0 hr hs;go_enter Tryz.func19,Tryz.ntmps19
 go_upto_region 1 with (fail)
 rw [← HW0.out];go_wp2_with fail;refine qab (CA.out _) ?_;rintro e w2 ⟨rfl,rfl⟩;go_wp2_with fail;refine qab (rtime_any _ _) ?_;rintro e w2 ⟨rfl,rfl⟩
 by_cases h3:k.state=3
 ·by_cases ht:timeT (satA k.since 1000)≤now
  ·have hd:decide (timeT (satA k.since 1000)≤now)=true:=by simpa using ht
   go_wp2_with fail;go_ret;exact ⟨by rw [HR.out,h3]; simp [ht],HB.out⟩
  ·have hd:decide (timeT (satA k.since 1000)≤now)=false:=by simpa using ht
   go_wp2_with fail;go_ret;exact ⟨by rw [HR.out,h3]; simp [ht],HB.out⟩
 ·go_wp2_with fail;go_ret;exact ⟨by rw [HR.out]; simp [h3],HB.out⟩
theorem add_pos' (p:Addr) (j:Nat) (h:j≠0):p.add j=⟨p.block,p.off+j,none⟩:=by unfold Addr.add; rw [if_neg h]
def atI (l:List KeyD) (st:Int):Int:=match l.findIdx? (fun k=>decide (k.state=st)) with | some i=>(i:Int) | none=>-1
theorem atI_some {l:List KeyD} {st:Int} {i:Nat} (hi:i<l.length) (h:l[i].state=st) (hb:∀ j,(hj:j<i)→¬ (l[j]'(by omega)).state=st):atI l st=i:=by
 have:l.findIdx? (fun k=>decide (k.state=st))=some i:=by
  rw [List.findIdx?_eq_some_iff_getElem];exact ⟨hi,by simpa using h,fun j hj=>by simpa using hb j hj⟩
 rw [atI,this]
theorem atI_none {l:List KeyD} {st:Int} (hb:∀ j,(hj:j<l.length)→¬ (l[j]).state=st):atI l st=-1:=by
 have:l.findIdx? (fun k=>decide (k.state=st))=none:=by
  rw [List.findIdx?_eq_none_iff];intro x hx;obtain ⟨j,hj,rfl⟩:=List.getElem_of_mem hx
  simpa using hb j hj
 rw [atI,this]
theorem qd6 (l:List KeyD) (hl:l.length≤1000) (st:Int) (A:Option Addr) (c:Nat) (w:World) (hr:Rd w w.heap.size A (keysV l)) :
  Calls Tryz.prog 15 #[.slice A l.length c,.int .i64 st] w (fun e w'=>e=.returned (.int .i64 (atI l st))∧w'=w):=by
 obtain ⟨n,hn⟩:=eX (l.length);have HN:=zY hn;have HR:=zY hr;obtain ⟨r,hr2⟩:=eX (atI l st);have HRR:=zY hr2;rw [← hn] at hl ⊢;rw [← hr2];clear hr hn hr2;go_enter Tryz.func15,Tryz.ntmps15;go_wp2_with fail
 go_loopw [5] (fun i wr=>∃ k:Nat,k≤n∧i=.int .i64 (k:Int)∧wr=w∧(∀ j,(hj:j<l.length)→j<k→¬ (l[j]).state=st)) (fun i _=>n - (intOf i).toNat)
 case atStart=>exact ⟨0,by omega,rfl,rfl,fun j _ h=>by omega⟩
 case round =>
  obtain ⟨k,hk,rfl,rfl,hb⟩:=hrel
  by_cases hlt:k<n
  ·have hlt':(k:Int)<(n:Int):=by omega
   have hkl:k<l.length:=by rw [← HN.out]; exact hlt
   obtain ⟨ad,hA,hadb,hcell⟩:=rd_key HR.out hkl;subst hA;obtain ⟨kk,hkk⟩:=eX (l[k]);rw [← hkk] at hcell;have d2:wr.cell? ⟨(ad.add (k*4)).block,(ad.add (k*4)).off+2,none⟩=some (.int .i64 kk.state):=by rw [← add_pos' _ 2 (by decide),Nat.mul_comm]; exact hcell 2 _ rfl
   have HBB:=zY hb;have HKK:=zY (show l[k]'hkl=kk from hkk.symm);clear hcell hkk hb
   by_cases hst:kk.state=st
   ·have HF:=zY (show r=(k:Int) by rw [HRR.out]; exact atI_some hkl (by rw [HKK.out]; exact hst) (fun j hj=>HBB.out j (by omega) hj));go_wp2_with fail;go_ret;exact ⟨by rw [HF.out]; rfl,rfl⟩
   ·have HST:=zY hst;go_wp2_with fail
    go_roundw
    case rel=>exact ⟨k+1,by omega,by go_num,by simp,fun j hj hjk=>by
     by_cases h:j<k
     ·exact HBB.out j hj h
     ·have e:j=k:=by omega
      subst e;rw [HKK.out];exact HST.out⟩
    case measure=>simp [intOf]; omega
  ·have HF:=zY (show r=-1 by rw [HRR.out]; exact atI_none (fun j hj=>hb j hj (by have:=HN.out; omega)));obtain rfl:k=n:=by omega
   clear hb;go_wp2_with fail;go_ret;exact ⟨by rw [HF.out]; rfl,rfl⟩
theorem qbm {w:World} {ops:Array Oper} {rest:List Oper} {o:Oper} {a:Act} {Q:Exit→Act→World→Prop} {x:Operand} {p:Addr} {k:KeyD} (hr:∀ j u,(keyCells k)[j]?=some u→w.cell? (p.add j)=some u)
  (hgd:o.guard=none) (ho:o.op=.load 33 x) (hx:a.eval x=.pointer (some p))
  (h:wpList Tryz.prog ops Q rest (a.put o.dst (.agg (keyCells k))) w):wpList Tryz.prog ops Q (o :: rest) a w:=by
 refine wpList_plain hgd fun K hK=>?_;have hl:=qcT (P:=Tryz.prog) (w:=w) (ty:=33) (r:=(keyCells k).toList) (fun j u hu=>hr j u (by simpa using hu)) Tryz.underlying33 rfl qat;unfold Oper.wp execOp;simp only [ho,hx,Instr.loadAt,Instr.sureAddr,Sem.run_bind,Sem.run_pure,Result.andThen_ok,hl];exact hK _ _ h
theorem rnext_none (l:List KeyD) (hl:l.length≤1000) (hf:atI l 1=-1) (now every:Int) (b:List UInt8) (hlb:b.length≤1000) (A B:Option Addr) (c cb:Nat) (w:World) (hr:Rd w w.heap.size A (keysV l)) (hb:Rd w w.heap.size B (bytesV b)) (hcb:b.length≤cb) :
  Calls Tryz.prog 6 #[.slice A l.length c,.int .i64 now,.int .i64 every,.slice B b.length cb] w (NextPost (if makeOk b now=true then 9 else 0) 0 ⟨#[]⟩ (makeK b now) (makeOk b now) w):=by
 have hu:=Tryz.underlying33;have huo:=Tryz.underlying38;obtain ⟨W0,hW0⟩:∃ W0,W0=w.alloc (.cells #[.int .i64 0,.int .i64 0,.string ⟨#[]⟩,.int .i64 0,.string ⟨#[]⟩,.string ⟨#[]⟩,.int .i64 0,.slice none 0 0,.string ⟨#[]⟩,.string ⟨#[]⟩,.int .i64 0,.bool false,.string ⟨#[]⟩,.string ⟨#[]⟩,.int .i64 0,.int .i64 0,.string ⟨#[]⟩,.string ⟨#[]⟩,.string ⟨#[]⟩,.int .i64 0,.int .i64 0,.string ⟨#[]⟩,.int .i64 0,.slice none 0 0] 38):=⟨_,rfl⟩;have hb0:Below w.heap.size w W0:=by rw [hW0]; exact (Below.refl _ w).alloc (Nat.le_refl _) _
 have hk1:Blk W0 w.heap.size 38 zOp:=by rw [hW0]; exact Blk.new w 38 zOp
 have HB0:=zY hb0;have HK1:=zY hk1;have HW0:=zY hW0;have CF:=zY (qd6 l hl 1 A c W0 (qbI hr hb0));rw [hf] at CF;obtain ⟨nb,hnb⟩:=eX (b.length);obtain ⟨K,hK⟩:=eX (makeK b now);obtain ⟨okb,hokb⟩:=eX (makeOk b now)
 have CM:=zY (show ∀ u,Below w.heap.size w u→Calls Tryz.prog 16 #[.slice B nb cb,.int .i64 now] u (fun e w'=>e=.returned (.tuple #[.agg (keyCells K),.bool okb])∧Below u.heap.size u w') from fun u h=>by
  rw [hnb,hK,hokb]; exact rmake_any b hlb now B cb u ((hb.below h).mono h.size) hcb)
 rw [← hnb,← hK];have HKZ:=zY (show okb=false→K=zKey from fun h=>by rw [hK,makeK,← hokb,h]; rfl);rw [← hokb];obtain ⟨knd,hknd⟩:∃ k:Int,k=if okb=true then 9 else 0:=⟨_,rfl⟩
 rw [← hknd];have HKND:=zY hknd;clear hb0 hk1 hW0 hr hb hcb hl hlb hf hnb hK hokb hknd;go_enter Tryz.func6,Tryz.ntmps6;go_wp2_with fail;rw [← HW0.out];refine qab CF.out ?_;rintro e w1 ⟨rfl,rfl⟩;clear CF HW0;go_wp2_with fail;refine qab (CM.out _ HB0.out) ?_;rintro e w3 ⟨rfl,hb3⟩;replace HB0:=zY (HB0.out.trans (hb3.mono HB0.out.size));replace HK1:=zY (HK1.out.below hb3 HK1.out.lt);clear hb3 CM;have hbn:=Blk.new w3 33 #[.string ⟨#[]⟩,.string ⟨#[]⟩,.int .i64 0,.int .i64 0]
 cases okb with
 | false =>
  have HKZ':=zY (HKZ.out rfl);clear HKZ
  go_wp2_with (first
   | (refine qad (cells:=keyCells K) hbn rfl rfl rfl rfl qat rfl (qas _) ?_; intro w4 hb4 hw4; have HW4:=zY hw4; clear hb4 hw4; have hbel4:=zY (HW4.out.below ((Below.refl _ _).alloc (Nat.le_refl _) _) (Nat.le_refl _) (by simp):Below w3.heap.size w3 w4); have hk1:=HK1.out.below hbel4.out HK1.out.lt)
   | (refine qad (cells:=zOp) hk1 rfl rfl rfl rfl qaP rfl (qaN _ _ _ _) ?_; intro w5 hb5 hw5; have HB5:=zY hb5; have HW5:=zY hw5; clear hb5 hw5))
  refine bodyPost_ret (qar (P:=Tryz.prog) rfl rfl HB5.out huo rfl qaP) rfl ⟨?_,?_⟩
  ·rw [HKND.out,HKZ'.out];rfl
  ·have h4:=HB0.out.trans (hbel4.out.mono HB0.out.size);exact HW5.out.below h4 (Nat.le_refl _) h4.size
 | true =>
  clear HKZ;obtain ⟨kid,sed,stt,snc⟩:=K
  go_wp2_with (first
   | (refine qad (cells:=keyCells ⟨kid,sed,stt,snc⟩) hbn rfl rfl rfl rfl qat rfl (qas _) ?_; intro w4 hb4 hw4; have HB4:=zY hb4; have HW4:=zY hw4; clear hw4; have hbel4:=zY (HW4.out.below ((Below.refl _ _).alloc (Nat.le_refl _) _) (Nat.le_refl _) (by simp):Below w3.heap.size w3 w4); have hk1:=HK1.out.below hbel4.out HK1.out.lt)
   | (refine qac hb4 rfl rfl rfl hu rfl qat ?_)
   | (refine qa5 (cells:=opCells 9 0 ⟨#[]⟩ ⟨kid,sed,stt,snc⟩) rfl _ rfl (by kernel_rfl) ?_)
   | (refine qad (cells:=opCells 9 0 ⟨#[]⟩ ⟨kid,sed,stt,snc⟩) hk1 rfl rfl rfl rfl qaP rfl (qaN _ _ _ _) ?_; intro w5 hb5 hw5; have HB5:=zY hb5; have HW5:=zY hw5; clear hb5 hw5))
  refine bodyPost_ret (qar (P:=Tryz.prog) rfl rfl HB5.out huo rfl qaP) rfl ⟨?_,?_⟩
  ·rw [HKND.out];rfl
  ·have h4:=HB0.out.trans (hbel4.out.mono HB0.out.size);exact HW5.out.below h4 (Nat.le_refl _) h4.size
theorem rnext_still (l:List KeyD) (hl:l.length≤1000) (i:Nat) (hf:atI l 1=(i:Int)) (hf2:atI l 2=-1) (now every:Int) (nb:Nat) (A B:Option Addr) (c cb:Nat) (w:World) (hr:Rd w w.heap.size A (keysV l)) :
  Calls Tryz.prog 6 #[.slice A l.length c,.int .i64 now,.int .i64 every,.slice B nb cb] w (NextPost 10 now ⟨#[]⟩ zKey true w):=by
 have hu:=Tryz.underlying33;have huo:=Tryz.underlying38;obtain ⟨W0,hW0⟩:∃ W0,W0=w.alloc (.cells #[.int .i64 0,.int .i64 0,.string ⟨#[]⟩,.int .i64 0,.string ⟨#[]⟩,.string ⟨#[]⟩,.int .i64 0,.slice none 0 0,.string ⟨#[]⟩,.string ⟨#[]⟩,.int .i64 0,.bool false,.string ⟨#[]⟩,.string ⟨#[]⟩,.int .i64 0,.int .i64 0,.string ⟨#[]⟩,.string ⟨#[]⟩,.string ⟨#[]⟩,.int .i64 0,.int .i64 0,.string ⟨#[]⟩,.int .i64 0,.slice none 0 0] 38):=⟨_,rfl⟩;have hb0:Below w.heap.size w W0:=by rw [hW0]; exact (Below.refl _ w).alloc (Nat.le_refl _) _
 have hk1:Blk W0 w.heap.size 38 zOp:=by rw [hW0]; exact Blk.new w 38 zOp
 have HB0:=zY hb0;have HK1:=zY hk1;have HW0:=zY hW0;have CF:=zY (qd6 l hl 1 A c W0 (qbI hr hb0));rw [hf] at CF;have CF2:=zY (qd6 l hl 2 A c W0 (qbI hr hb0));rw [hf2] at CF2;have hi0:decide ((i:Int)<0)=false:=by simp
 clear hb0 hk1 hW0 hr hl hf hf2;go_enter Tryz.func6,Tryz.ntmps6;go_wp2_with fail;rw [← HW0.out];refine qab CF.out ?_;rintro e w1 ⟨rfl,rfl⟩;clear CF HW0;go_wp2_with fail;refine qab CF2.out ?_;rintro e w1 ⟨rfl,rfl⟩;clear CF2;have k1:=HK1.out
 go_wp2_with (first
  | (refine qa5 (cells:=opCells 10 now ⟨#[]⟩ zKey) rfl _ rfl (by kernel_rfl) ?_)
  | (refine qad (cells:=opCells 10 now ⟨#[]⟩ zKey) k1 rfl rfl rfl rfl qaP rfl (qaN _ _ _ _) ?_; intro w5 hb5 hw5; have HB5:=zY hb5; have HW5:=zY hw5; clear hb5 hw5))
 refine bodyPost_ret (qar (P:=Tryz.prog) rfl rfl HB5.out huo rfl qaP) rfl ⟨rfl,HW5.out.below HB0.out (Nat.le_refl _) HB0.out.size⟩
theorem rest_find (l:List KeyD) (now:Int):(keysOf l 3).find? (fun k=>spentB k now)=l.find? (fun k=>spentB k now):=by
 rw [keysOf,List.find?_filter]
 congr 1
 funext k
 unfold spentB
 cases decide (k.state=3) <;> simp
theorem rnext_rest (l:List KeyD) (hl:l.length≤1000) (i j:Nat) (hf:atI l 1=(i:Int)) (hf2:atI l 2=(j:Int)) (hjl:j<l.length) (hrg:∀ k ∈ l,InR k.since) (now every:Int) (hev:InR every) (nb:Nat) (A B:Option Addr) (c cb:Nat) (w:World) (hr:Rd w w.heap.size A (keysV l)) :
  Calls Tryz.prog 6 #[.slice A l.length c,.int .i64 now,.int .i64 every,.slice B nb cb] w (NextRest l l[j] now every w):=by
 have hu:=Tryz.underlying33;have huo:=Tryz.underlying38;obtain ⟨W0,hW0⟩:∃ W0,W0=w.alloc (.cells #[.int .i64 0,.int .i64 0,.string ⟨#[]⟩,.int .i64 0,.string ⟨#[]⟩,.string ⟨#[]⟩,.int .i64 0,.slice none 0 0,.string ⟨#[]⟩,.string ⟨#[]⟩,.int .i64 0,.bool false,.string ⟨#[]⟩,.string ⟨#[]⟩,.int .i64 0,.int .i64 0,.string ⟨#[]⟩,.string ⟨#[]⟩,.string ⟨#[]⟩,.int .i64 0,.int .i64 0,.string ⟨#[]⟩,.int .i64 0,.slice none 0 0] 38):=⟨_,rfl⟩;have hb0:Below w.heap.size w W0:=by rw [hW0]; exact (Below.refl _ w).alloc (Nat.le_refl _) _
 have hk1:Blk W0 w.heap.size 38 zOp:=by rw [hW0]; exact Blk.new w 38 zOp
 have HB0:=zY hb0;have HK1:=zY hk1;have HW0:=zY hW0;have CF:=zY (qd6 l hl 1 A c W0 (qbI hr hb0));rw [hf] at CF;have CF2:=zY (qd6 l hl 2 A c W0 (qbI hr hb0));rw [hf2] at CF2;have hi0:decide ((i:Int)<0)=false:=by simp
 have hj0:decide ((j:Int)<0)=false:=by simp
 obtain ⟨n,hn⟩:=eX (l.length);have HN:=zY hn;have hjn:(j:Int)<(n:Int):=by omega
 have hn1000:n≤1000:=by omega
 obtain ⟨ad,hA,hadb,hcell⟩:=rd_key hr hjl;obtain ⟨q,hq⟩:=eX (l[j]);rw [← hq] at hcell ⊢;have hqr:InR q.since:=by rw [hq]; exact hrg _ (List.getElem_mem hjl)
 subst hA;have HR:=zY hr;have HRG:=zY hrg
 have d3:W0.cell? ⟨(ad.add (j*4)).block,(ad.add (j*4)).off+3,none⟩=some (.int .i64 q.since):=by
  rw [← add_pos' _ 3 (by decide),Nat.mul_comm];exact (hb0.cell (p:=(ad.add (4*j)).add 3) (by rw [qaW,qaW]; exact hadb)).trans (hcell 3 _ rfl)
 have CA:=zY (fun u:World=>radd17_any q.since every hqr hev u);obtain ⟨S,hS⟩:=eX (satA q.since every);rw [← hS] at CA;obtain ⟨T,hT⟩:=eX (timeT S);have CT:=zY (fun u:World=>rtime_any S u);rw [← hT] at CT;have HTC:=zY (show timeC q.since every=T by rw [timeC_eq _ _ hqr hev,hT,hS]);rw [← hn] at CF CF2 ⊢;clear hb0 hk1 hW0 hr hl hf hf2 hn hjl hq hqr hcell hadb hS hT hev hrg;go_enter Tryz.func6,Tryz.ntmps6;go_wp2_with fail;rw [← HW0.out];refine qab CF.out ?_;rintro e w1 ⟨rfl,rfl⟩;clear CF HW0;go_wp2_with fail;refine qab CF2.out ?_;rintro e w1 ⟨rfl,rfl⟩;clear CF2;go_wp2_with fail;refine qab (CA.out _) ?_;rintro e w2 ⟨rfl,rfl⟩;go_wp2_with fail;refine qab (CT.out _) ?_;rintro e w2 ⟨rfl,rfl⟩;clear CA CT d3
 by_cases hTn:T≤now
 ·have hdT:decide (T≤now)=true:=by simpa using hTn
  have HRO:=zY (show restOp l q now every=(10,now,⟨#[]⟩,true) by rw [restOp,if_pos (by rw [HTC.out]; exact hTn)]);have k1:=HK1.out;clear HTC hTn
  go_wp2_with (first
   | (refine qa5 (cells:=opCells 10 now ⟨#[]⟩ zKey) rfl _ rfl (by kernel_rfl) ?_)
   | (refine qad (cells:=opCells 10 now ⟨#[]⟩ zKey) k1 rfl rfl rfl rfl qaP rfl (qaN _ _ _ _) ?_; intro w5 hb5 hw5; have HB5:=zY hb5; have HW5:=zY hw5; clear hb5 hw5))
  refine bodyPost_ret (qar (P:=Tryz.prog) rfl rfl HB5.out huo rfl qaP) rfl ⟨by rw [HRO.out]; rfl,HW5.out.below HB0.out (Nat.le_refl _) HB0.out.size⟩
 ·have hdT:decide (T≤now)=false:=by simpa using hTn
  have HRO:=zY (show restOp l q now every=(match l.find? (fun k=>spentB k now) with | some k=>(11,0,k.kid,true) | none=>(0,0,⟨#[]⟩,false)) by rw [restOp,if_neg (by rw [HTC.out]; exact hTn),rest_find]; all_goals cases l.find? (fun k=>spentB k now) <;> rfl);clear HTC hTn;go_wp2_with fail
  go_loopw [13] (fun x wr=>∃ k:Nat,k≤n∧x=.int .i64 (k:Int)∧Below w2.heap.size w2 wr∧(∀ m,(hm:m<l.length)→m<k→spentB l[m] now=false)) (fun x _=>n - (intOf x).toNat)
  case atStart=>exact ⟨0,by omega,rfl,Below.refl _ _,fun m _ h=>by omega⟩
  case round =>
   obtain ⟨k,hk,rfl,hbel,hbf⟩:=hrel;have HBF:=zY hbf;have HBE:=zY hbel;clear hbf hbel
   by_cases hlt:k<n
   ·have hlt':(k:Int)<(n:Int):=by omega
    have hkl:k<l.length:=by rw [← HN.out]; exact hlt
    have hbw:=HB0.out.trans (HBE.out.mono HB0.out.size);obtain ⟨ad',hA',hadb,hcell⟩:=rd_key (HR.out.below hbw) hkl
    injection hA' with hA'
    subst hA';obtain ⟨kk,hkk⟩:=eX (l[k]);rw [← hkk] at hcell
    have hcell':∀ j u,(keyCells kk)[j]?=some u→wr.cell? ((ad.add (k*4)).add j)=some u:=fun j u h=>by
     rw [Nat.mul_comm];exact hcell j u h
    have HKK:=zY (show l[k]'hkl=kk from hkk.symm);have CSP:=zY (fun u:World=>rspent_any kk (by rw [hkk]; exact HRG.out _ (List.getElem_mem hkl)) now u);have HADB:=zY hadb;have HCE:=zY hcell';clear hcell hkk hadb hbw hcell';go_wp2_with (refine qbm (k:=kk) HCE.out rfl rfl rfl ?_);refine qab (CSP.out _) ?_;rintro e w5 ⟨rfl,hb5⟩;have HB5:=zY (HBE.out.trans (hb5.mono HBE.out.size))
    have HDK:=zY (show w5.cell? (ad.add (k*4))=some (.string kk.kid) by
     have h:=HCE.out 0 _ rfl;rw [show (ad.add (k*4)).add 0=ad.add (k*4) from rfl] at h;refine (hb5.cell (p:=ad.add (k*4)) ?_).trans h;rw [qaW];exact Nat.lt_of_lt_of_le HADB.out (HB0.out.trans (HBE.out.mono HB0.out.size)).size)
    clear hb5 CSP;obtain ⟨sp,hsp⟩:=eX (spentB kk now);rw [← hsp];have HSP:=zY hsp;clear hsp
    cases sp with
    | false =>
     go_wp2_with fail
     go_roundw
     case rel=>exact ⟨k+1,by omega,by go_num,HB5.out,fun m hm hmk=>by
      by_cases h:m<k
      ·exact HBF.out m hm h
      ·have e:m=k:=by omega
       subst e;rw [HKK.out,← HSP.out]⟩
     case measure=>simp [intOf]; omega
    | true =>
     have HRN:=zY (show restOp l q now every=(11,0,kk.kid,true) by
      rw [HRO.out,show l.find? (fun k=>spentB k now)=some kk from by
       rw [List.find?_eq_some_iff_getElem];exact ⟨HSP.out.symm,k,hkl,HKK.out,fun m hm=>by rw [HBF.out m (by omega) hm]; rfl⟩])
     have dk:=HDK.out;have k1:=HK1.out.below HB5.out HK1.out.lt
     go_wp2_with (first
      | (refine qa5 (cells:=opCells 11 0 kk.kid zKey) rfl _ rfl (by kernel_rfl) ?_)
      | (refine qad (cells:=opCells 11 0 kk.kid zKey) k1 rfl rfl rfl rfl qaP rfl (qaN _ _ _ _) ?_; intro w6 hb6 hw6; have HB6:=zY hb6; have HW6:=zY hw6; clear hb6 hw6))
     have h5:=HB0.out.trans (HB5.out.mono HB0.out.size);refine bodyPost_ret (qar (P:=Tryz.prog) rfl rfl HB6.out huo rfl qaP) rfl ⟨by rw [HRN.out]; rfl,HW6.out.below h5 (Nat.le_refl _) h5.size⟩
   ·have HRN:=zY (show restOp l q now every=(0,0,⟨#[]⟩,false) by
     rw [HRO.out,List.find?_eq_none.2 (fun x hx=>by
      obtain ⟨m,hm,rfl⟩:=List.getElem_of_mem hx;rw [HBF.out m hm (by have:=HN.out; omega)]
      simp)])
    have hdn:decide ((k:Int)<(n:Int))=false:=by simp; omega
    have k1:=HK1.out.below HBE.out HK1.out.lt;go_wp2_with (refine qad (cells:=zOp) k1 rfl rfl rfl rfl qaP rfl (qaN _ _ _ _) ?_; intro w6 hb6 hw6; have HB6:=zY hb6; have HW6:=zY hw6; clear hb6 hw6);have h5:=HB0.out.trans (HBE.out.mono HB0.out.size);refine bodyPost_ret (qar (P:=Tryz.prog) rfl rfl HB6.out huo rfl qaP) rfl ⟨by rw [HRN.out]; rfl,HW6.out.below h5 (Nat.le_refl _) h5.size⟩
theorem qev (l:List KeyD) (st:Int):firstK l st=l.find? (fun k=>decide (k.state=st)):=by rw [firstK,keysOf,List.head?_filter]
theorem at_none {l:List KeyD} {st:Int} (h:firstK l st=none):atI l st=-1:=by
 rw [qev,List.find?_eq_none] at h;exact atI_none fun j hj hx=>h _ (List.getElem_mem hj) (by simp [hx])
theorem at_first {l:List KeyD} {st:Int} {q:KeyD} (h:firstK l st=some q):∃ i,∃ hi:i<l.length,atI l st=(i:Int)∧l[i]=q:=by
 rw [qev,List.find?_eq_some_iff_getElem] at h;obtain ⟨hq,i,hi,hiq,hb⟩:=h;refine ⟨i,hi,atI_some hi (by rw [hiq]; simpa using hq) (fun j hj hx=>?_),hiq⟩;have:=hb j hj;simp [hx] at this
structure OpS where
 kind:Int
 n:Int
 name:ByteArray
 key:KeyD
 ok:Bool
def nextV (l:List KeyD) (now every:Int) (b:List UInt8):OpS :=
 match firstK l 1,firstK l 2 with
 | none,_=>⟨if makeOk b now=true then 9 else 0,0,⟨#[]⟩,makeK b now,makeOk b now⟩
 | some _,none=>⟨10,now,⟨#[]⟩,zKey,true⟩
 | some _,some q=>⟨(restOp l q now every).1,(restOp l q now every).2.1,(restOp l q now every).2.2.1,zKey,(restOp l q now every).2.2.2⟩
def NextA (l:List KeyD) (now every:Int) (b:List UInt8) (w:World) (e:Ending) (w':World):Prop:=NextPost (nextV l now every b).kind (nextV l now every b).n (nextV l now every b).name (nextV l now every b).key (nextV l now every b).ok w e w'
theorem next_any (l:List KeyD) (hl:l.length≤1000) (now every:Int) (b:List UInt8) (hlb:b.length≤1000) (A B:Option Addr) (c cb:Nat) (w:World) (hr:Rd w w.heap.size A (keysV l)) (hb:Rd w w.heap.size B (bytesV b)) (hcb:b.length≤cb) (hG:Sh.TabG w) :
  Calls Tryz.prog 5 #[.slice A l.length c,.int .i64 now,.int .i64 every,.slice B b.length cb] w (NextA l now every b w):=by
 cases h1:firstK l 1 with
 | none=>refine (next_none l hl h1 now every b hlb A B c cb w hr hb hcb hG).mono fun e w' h=>?_; rw [NextA,nextV,h1]; exact h
 | some p =>
  cases h2:firstK l 2 with
  | none=>refine (next_still l hl p h1 h2 now every b.length A B c cb w hr).mono fun e w' h=>?_; rw [NextA,nextV,h1,h2]; exact h
  | some q=>refine (next_rest l hl p q h1 h2 now every b.length A B c cb w hr).mono fun e w' h=>?_; rw [NextA,nextV,h1,h2]; exact h
theorem rnext_any (l:List KeyD) (hl:l.length≤1000) (hrg:∀ k ∈ l,InR k.since) (now every:Int) (hev:InR every) (b:List UInt8) (hlb:b.length≤1000) (A B:Option Addr) (c cb:Nat) (w:World) (hr:Rd w w.heap.size A (keysV l)) (hb:Rd w w.heap.size B (bytesV b)) (hcb:b.length≤cb) :
  Calls Tryz.prog 6 #[.slice A l.length c,.int .i64 now,.int .i64 every,.slice B b.length cb] w (NextA l now every b w):=by
 cases h1:firstK l 1 with
 | none=>refine (rnext_none l hl (at_none h1) now every b hlb A B c cb w hr hb hcb).mono fun e w' h=>?_; rw [NextA,nextV,h1]; exact h
 | some p =>
  obtain ⟨i,hi,hat,_⟩:=at_first h1
  cases h2:firstK l 2 with
  | none=>refine (rnext_still l hl i hat (at_none h2) now every b.length A B c cb w hr).mono fun e w' h=>?_; rw [NextA,nextV,h1,h2]; exact h
  | some q =>
   obtain ⟨j,hj,hat2,hq⟩:=at_first h2;refine (rnext_rest l hl i j hat hat2 hj hrg now every hev b.length A B c cb w hr).mono fun e w' h=>?_;rw [hq] at h;rw [NextA,nextV,h1,h2]; exact h
def cutS (n:Nat) (s:ByteArray):ByteArray:=if n<s.size then s.extract 0 n else s
def cutK (k:KeyD):KeyD:=⟨cutS 20 k.kid,cutS 32 k.seed,k.state,k.since⟩
def cutsK (l:List KeyD):List KeyD:=(l.take 5).map cutK
theorem sl_keys:SlT Tryz.prog 22 33 4 48:=SlT.mk1 (z:=.agg #[.string ⟨#[]⟩,.string ⟨#[]⟩,.int .i64 0,.int .i64 0]) Tryz.underlying22 (by kernel_rfl) rfl (by decide)
theorem qbq {P:Program} {w0:World} {ys:List Value} {ops:Array Oper} {rest:List Oper} {o:Oper} {a:Act} {Q:Exit→Act→World→Prop} {s x:Operand} {t e:TypeId} {size bytes:Nat} (T:SlT P t e size bytes)
  (hgd:o.guard=none) (ho:o.op=.call { callee:=.builtin .append,args:=#[s,x],argTypes:=#[t,t] })
  {base n:Nat} {v:Value} {xs:List Value} {ad:Nat} (hown:OwnX w0 base e size v n xs) (hs:a.eval s=v) (hx:a.eval x=.slice (some ⟨ad,0,none⟩) 1 1) (had:ad=w0.heap.size) (hm:ys.length=size)
  (hy:∀ u ∈ ys,u.oneCell'=true)
  (h63:n+1≤maxLen) (hbytes:(n+1)*bytes≤140737488355328) (hbase:base≤w0.heap.size)
  (h:∀ A c w',OwnX w' base e size (.slice A (n+1) c) (n+1) (xs++ys)→w0.grownBy w' v.ownBlock→Next w0 v (.slice A (n+1) c)→wpList P ops Q rest (a.put o.dst (.slice A (n+1) c)) w') :
  wpList P ops Q (o :: rest) a (w0.alloc (.cells ys.toArray e)):=by
 subst had
 obtain ⟨A,c,w',hr,h2,h3,h4⟩:=qb8 (ty:=o.type) (c:=1) (Ad:=some ⟨w0.heap.size,0,none⟩) T (hown.alloc (.cells ys.toArray e)) (news:=ys) (m:=1) (by omega) (fun j u hu=>⟨_,rfl,by
  have hadd:(⟨w0.heap.size,0,none⟩:Addr).add j=⟨w0.heap.size,j,none⟩:=by unfold Addr.add; split <;> simp_all
  rw [hadd,cell_of_row _ _ _ _ _ (0,0) (heap_alloc_new w0 _)]
  simpa using hu⟩) hy h63 hbytes (by simp; omega)
 refine qaU (R:=fun v' w1=>v'=.slice A (n+1) c∧w1=w') hgd ho hs hx ⟨_,_,hr,rfl,rfl⟩ ?_;rintro v' w1 ⟨rfl,rfl⟩;exact h _ _ _ h2 ((World.grownBy_alloc w0 _ _).trans h3) (h4.back (by simp))
def CutKPost (l:List KeyD) (w:World) (e:Ending) (w':World):Prop :=
 ∃ A c,e=.returned (.slice A (cutsK l).length c)∧(cutsK l).length≤c∧Rd w' w'.heap.size A (keysV (cutsK l))∧Below w.heap.size w w'
theorem cutsK_step {l:List KeyD} {k:Nat} (h:k<l.length):keysV ((l.take (k+1)).map cutK)=keysV ((l.take k).map cutK)++(keyCells (cutK l[k])).toList:=by
 rw [List.take_succ_eq_append_getElem h,List.map_append];simp [keysV]
theorem cutK_any (l:List KeyD) (A:Option Addr) (c:Nat) (w:World) (hr:Rd w w.heap.size A (keysV l)) :
  Calls Tryz.prog 4 #[.slice A l.length c] w (CutKPost l w):=by
 have hu:=Tryz.underlying33;obtain ⟨n,hn⟩:=eX (l.length);have HN:=zY hn;have HR:=zY hr;rw [← hn];clear hr hn;go_enter Tryz.func4,Tryz.ntmps4;go_wp2_with fail
 go_loopw [3,4] (fun out i wr=>∃ (k:Nat) (A1:Option Addr) (c1:Nat),k≤n∧k≤5∧out=.slice A1 k c1∧i=.int .i64 (k:Int)∧OwnX wr w.heap.size 33 4 (.slice A1 k c1) k (keysV ((l.take k).map cutK))∧Below w.heap.size w wr) (fun _ i _=>5 - (intOf i).toNat)
 case atStart=>exact ⟨0,none,0,by omega,by omega,rfl,rfl,OwnX.nil _ _ _ _,Below.refl _ _⟩
 case round =>
  obtain ⟨k,A1,c1,hk,hk5,rfl,rfl,hown,hbel⟩:=hrel
  by_cases hend:k<n∧k<5
  ·obtain ⟨hlt,hlt5⟩:=hend;have hlt':(k:Int)<(n:Int):=by omega
   have hlt5':(k:Int)<5:=by omega
   have hi0:(0:Int)≤(k:Int):=by omega
   have hd5:decide ((k:Int)<5)=true:=by simp; omega
   have hdn:decide ((k:Int)<(n:Int))=true:=by simp; omega
   have hkl:k<l.length:=by rw [← HN.out]; exact hlt
   obtain ⟨ad,hA,hadb,hcell⟩:=rd_key HR.out hkl;subst hA;obtain ⟨q,hq⟩:=eX (l[k]);rw [← hq] at hcell;have HST:=zY (cutsK_step hkl);rw [← hq] at HST
   have hcell':∀ j u,(keyCells q)[j]?=some u→wr.cell? ((ad.add (k*4)).add j)=some u:=fun j u hu'=>by
    rw [hbel.cell (p:=(ad.add (k*4)).add j) (by rw [qaW,qaW]; exact hadb),Nat.mul_comm];exact hcell j u hu'
   have hWr:=hbel.size;have hne:(Value.slice A1 k c1).ownBlock≠some wr.heap.size:=fun h=>by have:=(hown.lt _ h).2; omega
   have HNE:=zY hne;have HWR:=zY hWr;have hbn:=Blk.new wr 33 #[.string ⟨#[]⟩,.string ⟨#[]⟩,.int .i64 0,.int .i64 0];obtain ⟨X,hX⟩:=eX (keysV ((l.take k).map cutK));rw [← hX] at hown HST;obtain ⟨kid,seed,state,since⟩:=q;have hq':=zY hq;clear hcell hq hX hadb hne hWr
   by_cases h1:32<seed.size
   ·by_cases h2:20<kid.size
    ·have HCK:=zY (show cutK ⟨kid,seed,state,since⟩=⟨kid.extract 0 20,seed.extract 0 32,state,since⟩ by simp only [cutK,cutS]; rw [if_pos h2,if_pos h1]);have i1:(32:Int)<(seed.size:Int):=by omega
     have j1:decide ((32:Int)<(seed.size:Int))=true:=by simp; omega
     have k1:decide ((seed.size:Int) > 32)=true:=by simp; omega
     have l1:32≤seed.size:=by omega
     have i2:(20:Int)<(kid.size:Int):=by omega
     have j2:decide ((20:Int)<(kid.size:Int))=true:=by simp; omega
     have k2:decide ((kid.size:Int) > 20)=true:=by simp; omega
     have l2:20≤kid.size:=by omega
     obtain ⟨S1,hS1⟩:∃ S,seed.extract 0 32=S:=⟨_,rfl⟩;rw [hS1] at HCK;obtain ⟨S2,hS2⟩:∃ S,kid.extract 0 20=S:=⟨_,rfl⟩;rw [hS2] at HCK;clear h1 h2
     go_wp2_with (first
      | (refine qbm (k:=⟨kid,seed,state,since⟩) hcell' rfl rfl rfl ?_)
      | (refine qad (x:=.tmp 5) (cells:=keyCells ⟨kid,seed,state,since⟩) hbn rfl rfl rfl rfl qat rfl (qas _) ?_; intro w2 hbx hw; have hbel:=hw.below (hbel.alloc HWR.out _) HWR.out (Nat.le_trans HWR.out (by simp)); have hown:=hw.own (hown.alloc _) HNE.out; have a0:w2.cell? ⟨wr.heap.size,0,none⟩=some (.string (kid)):=hbx.cell 0; have a1:w2.cell? ⟨wr.heap.size,1,none⟩=some (.string (seed)):=hbx.cell 1; have HSZ:=zY (show w.heap.size≤w2.heap.size from hbel.size); clear hw)
      | (refine qam (g:=wr.heap.size) (i:=1) (v:=.string S1) (cs:=keyCells ⟨kid,seed,state,since⟩) hbx rfl rfl rfl rfl rfl (by simp [keyCells]) rfl ?_; intro w3 hbx hw; have hbel:=hw.below hbel HWR.out HSZ.out; have hown:=hw.own hown HNE.out; have a0:w3.cell? ⟨wr.heap.size,0,none⟩=some (.string (kid)):=hbx.cell 0; have a1:w3.cell? ⟨wr.heap.size,1,none⟩=some (.string (S1)):=hbx.cell 1; replace HSZ:=zY (show w.heap.size≤w3.heap.size from hbel.size); clear hw)
      | (refine qam (g:=wr.heap.size) (i:=0) (v:=.string S2) (cs:=(keyCells ⟨kid,seed,state,since⟩).setIfInBounds 1 (.string S1)) hbx rfl rfl rfl rfl rfl (by simp [keyCells]) rfl ?_; intro w4 hbx hw; have hbel:=hw.below hbel HWR.out HSZ.out; have hown:=hw.own hown HNE.out; have a0:w4.cell? ⟨wr.heap.size,0,none⟩=some (.string (S2)):=hbx.cell 0; have a1:w4.cell? ⟨wr.heap.size,1,none⟩=some (.string (S1)):=hbx.cell 1; replace HSZ:=zY (show w.heap.size≤w4.heap.size from hbel.size); clear hw)
      | (have hbx':Blk w4 wr.heap.size 33 #[.string (S2),.string (S1),.int .i64 state,.int .i64 since]:=hbx; refine qac (x:=.tmp 5) hbx' rfl rfl rfl hu rfl qat ?_)
      | (refine qbq (ys:=[.string (S2),.string (S1),.int .i64 state,.int .i64 since]) sl_keys rfl rfl hown rfl rfl rfl rfl (by simp [Value.oneCell']) (by unfold maxLen; omega) (by omega) HSZ.out ?_; intro A2 c2 w5 hown5 hgr5 hn5))
     have hb5:Below w.heap.size w w5:=hbel.grown hgr5 HSZ.out (fun j hj=>(hown.lt j hj).1);have hown6:OwnX w5 w.heap.size 33 4 (.slice A2 (k+1) c2) (k+1) (keysV ((l.take (k+1)).map cutK)):=by rw [HST.out,HCK.out]; exact hown5
     clear hown5 hown hbel hgr5 hn5
     go_roundw
     case rel=>exact ⟨k+1,A2,c2,by omega,by omega,rfl,by go_num,hown6,hb5⟩
     case measure=>simp [intOf]; omega
    ·have HCK:=zY (show cutK ⟨kid,seed,state,since⟩=⟨kid,seed.extract 0 32,state,since⟩ by simp only [cutK,cutS]; rw [if_neg h2,if_pos h1]);have i1:(32:Int)<(seed.size:Int):=by omega
     have j1:decide ((32:Int)<(seed.size:Int))=true:=by simp; omega
     have k1:decide ((seed.size:Int) > 32)=true:=by simp; omega
     have l1:32≤seed.size:=by omega
     have i2:¬ ((20:Int)<(kid.size:Int)):=by omega
     have j2:decide ((20:Int)<(kid.size:Int))=false:=by simp; omega
     have k2:decide ((kid.size:Int) > 20)=false:=by simp; omega
     obtain ⟨S1,hS1⟩:∃ S,seed.extract 0 32=S:=⟨_,rfl⟩;rw [hS1] at HCK;clear h1 h2
     go_wp2_with (first
      | (refine qbm (k:=⟨kid,seed,state,since⟩) hcell' rfl rfl rfl ?_)
      | (refine qad (x:=.tmp 5) (cells:=keyCells ⟨kid,seed,state,since⟩) hbn rfl rfl rfl rfl qat rfl (qas _) ?_; intro w2 hbx hw; have hbel:=hw.below (hbel.alloc HWR.out _) HWR.out (Nat.le_trans HWR.out (by simp)); have hown:=hw.own (hown.alloc _) HNE.out; have a0:w2.cell? ⟨wr.heap.size,0,none⟩=some (.string (kid)):=hbx.cell 0; have a1:w2.cell? ⟨wr.heap.size,1,none⟩=some (.string (seed)):=hbx.cell 1; have HSZ:=zY (show w.heap.size≤w2.heap.size from hbel.size); clear hw)
      | (refine qam (g:=wr.heap.size) (i:=1) (v:=.string S1) (cs:=keyCells ⟨kid,seed,state,since⟩) hbx rfl rfl rfl rfl rfl (by simp [keyCells]) rfl ?_; intro w3 hbx hw; have hbel:=hw.below hbel HWR.out HSZ.out; have hown:=hw.own hown HNE.out; have a0:w3.cell? ⟨wr.heap.size,0,none⟩=some (.string (kid)):=hbx.cell 0; have a1:w3.cell? ⟨wr.heap.size,1,none⟩=some (.string (S1)):=hbx.cell 1; replace HSZ:=zY (show w.heap.size≤w3.heap.size from hbel.size); clear hw)
      | (have hbx':Blk w3 wr.heap.size 33 #[.string (kid),.string (S1),.int .i64 state,.int .i64 since]:=hbx; refine qac (x:=.tmp 5) hbx' rfl rfl rfl hu rfl qat ?_)
      | (refine qbq (ys:=[.string (kid),.string (S1),.int .i64 state,.int .i64 since]) sl_keys rfl rfl hown rfl rfl rfl rfl (by simp [Value.oneCell']) (by unfold maxLen; omega) (by omega) HSZ.out ?_; intro A2 c2 w5 hown5 hgr5 hn5))
     have hb5:Below w.heap.size w w5:=hbel.grown hgr5 HSZ.out (fun j hj=>(hown.lt j hj).1);have hown6:OwnX w5 w.heap.size 33 4 (.slice A2 (k+1) c2) (k+1) (keysV ((l.take (k+1)).map cutK)):=by rw [HST.out,HCK.out]; exact hown5
     clear hown5 hown hbel hgr5 hn5
     go_roundw
     case rel=>exact ⟨k+1,A2,c2,by omega,by omega,rfl,by go_num,hown6,hb5⟩
     case measure=>simp [intOf]; omega
   ·by_cases h2:20<kid.size
    ·have HCK:=zY (show cutK ⟨kid,seed,state,since⟩=⟨kid.extract 0 20,seed,state,since⟩ by simp only [cutK,cutS]; rw [if_pos h2,if_neg h1]);have i1:¬ ((32:Int)<(seed.size:Int)):=by omega
     have j1:decide ((32:Int)<(seed.size:Int))=false:=by simp; omega
     have k1:decide ((seed.size:Int) > 32)=false:=by simp; omega
     have i2:(20:Int)<(kid.size:Int):=by omega
     have j2:decide ((20:Int)<(kid.size:Int))=true:=by simp; omega
     have k2:decide ((kid.size:Int) > 20)=true:=by simp; omega
     have l2:20≤kid.size:=by omega
     obtain ⟨S2,hS2⟩:∃ S,kid.extract 0 20=S:=⟨_,rfl⟩;rw [hS2] at HCK;clear h1 h2
     go_wp2_with (first
      | (refine qbm (k:=⟨kid,seed,state,since⟩) hcell' rfl rfl rfl ?_)
      | (refine qad (x:=.tmp 5) (cells:=keyCells ⟨kid,seed,state,since⟩) hbn rfl rfl rfl rfl qat rfl (qas _) ?_; intro w2 hbx hw; have hbel:=hw.below (hbel.alloc HWR.out _) HWR.out (Nat.le_trans HWR.out (by simp)); have hown:=hw.own (hown.alloc _) HNE.out; have a0:w2.cell? ⟨wr.heap.size,0,none⟩=some (.string (kid)):=hbx.cell 0; have a1:w2.cell? ⟨wr.heap.size,1,none⟩=some (.string (seed)):=hbx.cell 1; have HSZ:=zY (show w.heap.size≤w2.heap.size from hbel.size); clear hw)
      | (refine qam (g:=wr.heap.size) (i:=0) (v:=.string S2) (cs:=keyCells ⟨kid,seed,state,since⟩) hbx rfl rfl rfl rfl rfl (by simp [keyCells]) rfl ?_; intro w4 hbx hw; have hbel:=hw.below hbel HWR.out HSZ.out; have hown:=hw.own hown HNE.out; have a0:w4.cell? ⟨wr.heap.size,0,none⟩=some (.string (S2)):=hbx.cell 0; have a1:w4.cell? ⟨wr.heap.size,1,none⟩=some (.string (seed)):=hbx.cell 1; replace HSZ:=zY (show w.heap.size≤w4.heap.size from hbel.size); clear hw)
      | (have hbx':Blk w4 wr.heap.size 33 #[.string (S2),.string (seed),.int .i64 state,.int .i64 since]:=hbx; refine qac (x:=.tmp 5) hbx' rfl rfl rfl hu rfl qat ?_)
      | (refine qbq (ys:=[.string (S2),.string (seed),.int .i64 state,.int .i64 since]) sl_keys rfl rfl hown rfl rfl rfl rfl (by simp [Value.oneCell']) (by unfold maxLen; omega) (by omega) HSZ.out ?_; intro A2 c2 w5 hown5 hgr5 hn5))
     have hb5:Below w.heap.size w w5:=hbel.grown hgr5 HSZ.out (fun j hj=>(hown.lt j hj).1);have hown6:OwnX w5 w.heap.size 33 4 (.slice A2 (k+1) c2) (k+1) (keysV ((l.take (k+1)).map cutK)):=by rw [HST.out,HCK.out]; exact hown5
     clear hown5 hown hbel hgr5 hn5
     go_roundw
     case rel=>exact ⟨k+1,A2,c2,by omega,by omega,rfl,by go_num,hown6,hb5⟩
     case measure=>simp [intOf]; omega
    ·have HCK:=zY (show cutK ⟨kid,seed,state,since⟩=⟨kid,seed,state,since⟩ by simp only [cutK,cutS]; rw [if_neg h2,if_neg h1]);have i1:¬ ((32:Int)<(seed.size:Int)):=by omega
     have j1:decide ((32:Int)<(seed.size:Int))=false:=by simp; omega
     have k1:decide ((seed.size:Int) > 32)=false:=by simp; omega
     have i2:¬ ((20:Int)<(kid.size:Int)):=by omega
     have j2:decide ((20:Int)<(kid.size:Int))=false:=by simp; omega
     have k2:decide ((kid.size:Int) > 20)=false:=by simp; omega
     clear h1 h2
     go_wp2_with (first
      | (refine qbm (k:=⟨kid,seed,state,since⟩) hcell' rfl rfl rfl ?_)
      | (refine qad (x:=.tmp 5) (cells:=keyCells ⟨kid,seed,state,since⟩) hbn rfl rfl rfl rfl qat rfl (qas _) ?_; intro w2 hbx hw; have hbel:=hw.below (hbel.alloc HWR.out _) HWR.out (Nat.le_trans HWR.out (by simp)); have hown:=hw.own (hown.alloc _) HNE.out; have a0:w2.cell? ⟨wr.heap.size,0,none⟩=some (.string (kid)):=hbx.cell 0; have a1:w2.cell? ⟨wr.heap.size,1,none⟩=some (.string (seed)):=hbx.cell 1; have HSZ:=zY (show w.heap.size≤w2.heap.size from hbel.size); clear hw)
      | (have hbx':Blk w2 wr.heap.size 33 #[.string (kid),.string (seed),.int .i64 state,.int .i64 since]:=hbx; refine qac (x:=.tmp 5) hbx' rfl rfl rfl hu rfl qat ?_)
      | (refine qbq (ys:=[.string (kid),.string (seed),.int .i64 state,.int .i64 since]) sl_keys rfl rfl hown rfl rfl rfl rfl (by simp [Value.oneCell']) (by unfold maxLen; omega) (by omega) HSZ.out ?_; intro A2 c2 w5 hown5 hgr5 hn5))
     have hb5:Below w.heap.size w w5:=hbel.grown hgr5 HSZ.out (fun j hj=>(hown.lt j hj).1);have hown6:OwnX w5 w.heap.size 33 4 (.slice A2 (k+1) c2) (k+1) (keysV ((l.take (k+1)).map cutK)):=by rw [HST.out,HCK.out]; exact hown5
     clear hown5 hown hbel hgr5 hn5
     go_roundw
     case rel=>exact ⟨k+1,A2,c2,by omega,by omega,rfl,by go_num,hown6,hb5⟩
     case measure=>simp [intOf]; omega
  ·have HL:=zY (show (cutsK l).length=k∧(l.take k).map cutK=cutsK l by
    have hn:=HN.out;rw [cutsK,List.length_map,List.length_take];refine ⟨by omega,?_⟩
    by_cases h:5≤n
    ·rw [show k=5 by omega]
    ·rw [show k=l.length by omega,List.take_length,List.take_of_length_le (by omega)])
   have HW:=zY hown;have HB:=zY hbel;clear hown hbel;have hfin:CutKPost l w (.returned (.slice A1 k c1)) wr:=⟨A1,c1,by rw [HL.out.1],by rw [HL.out.1]; exact HW.out.le_cap,by rw [← HL.out.2]; exact Rd.of_own HW.out (Nat.le_refl _),HB.out⟩;have HFIN:=zY hfin;clear hfin
   by_cases hlt:k<n
   ·obtain rfl:k=5:=by omega
    have g1:(5:Int)<(n:Int):=by omega
    have g2:decide ((5:Int)<(n:Int))=true:=by simp; omega
    clear hend hk hk5 HL HW HB;go_wp2_with fail;go_ret;exact HFIN.out
   ·obtain rfl:k=n:=by omega
    clear hend hk hk5 HL HW HB hlt;go_wp2_with fail;go_ret;exact HFIN.out
theorem eql_key (k:KeyD) (w:World):(binOp .eql 33 (.agg (keyCells k)) (.agg (keyCells k))).run Tryz.prog w=.ok (.bool true) w:=by
 have p0:∀ u:World,(part 9 (keyCells k) 0).run Tryz.prog u=.ok (.string k.kid) u:=fun u=>by kernel_rfl
 have p1:∀ u:World,(part 9 (keyCells k) 1).run Tryz.prog u=.ok (.string k.seed) u:=fun u=>by kernel_rfl
 have p2:∀ u:World,(part 3 (keyCells k) 2).run Tryz.prog u=.ok (.int .i64 k.state) u:=fun u=>by kernel_rfl
 have p3:∀ u:World,(part 3 (keyCells k) 3).run Tryz.prog u=.ok (.int .i64 k.since) u:=fun u=>by kernel_rfl
 have hs:=Tryz.underlying9;have hi:=Tryz.underlying3;have hf:Tryz.prog.fieldsOf 33=#[{ name := "Kid",type:=9,offset:=0,embedded:=false,tag := "",pkgPath := "",byteOffset:=0 },{ name := "Seed",type:=9,offset:=1,embedded:=false,tag := "",pkgPath := "",byteOffset:=16 },{ name := "State",type:=3,offset:=2,embedded:=false,tag := "",pkgPath := "",byteOffset:=32 },{ name := "Since",type:=3,offset:=3,embedded:=false,tag := "",pkgPath := "",byteOffset:=40 }]:=by kernel_rfl
 rw [run_eql_struct,run_equalIn_struct w 9999 _ _ _ (by kernel_rfl) (by kernel_rfl),hf];have s1:∀ (d:Nat) (s:ByteArray),(Op.equalIn (d+1) 9 (.string s) (.string s)).run Tryz.prog w=.ok true w:=fun d s=>by rw [run_equalIn_string w d _ s s hs]; simp
 have s2:∀ (d:Nat) (n:Int),(Op.equalIn (d+1) 3 (.int .i64 n) (.int .i64 n)).run Tryz.prog w=.ok true w:=fun d n=>by rw [run_equalIn_int w d _ _ _ n n hi]; simp
 have e1:=fun s=>s1 9998 s;have e2:=fun n=>s2 9998 n;simp only [Nat.reduceAdd] at e1 e2;simp [Op.eqFields,Sem.run_bind,p0,p1,p2,p3,Result.andThen,e1,e2]
theorem same9_nil (w:World):Calls Tryz.prog 28 #[.slice none 0 0,.slice none 0 0] w (fun e w'=>e=.returned (.bool true)∧w'=w):=by
 go_enter Tryz.func28,Tryz.ntmps28;go_wp2_with fail;refine wp_loop_rounds 1 ?_;rw [rounds_succ];go_wp2_with fail;go_ret;exact ⟨rfl,rfl⟩
def zBun:Array Value:=#[.string ⟨#[]⟩,.int .i64 0,.slice none 0 0]
theorem bsame_nil (w:World):Calls Tryz.prog 21 #[.agg zBun,.agg zBun] w (fun e w'=>e=.returned (.bool true)∧Below w.heap.size w w'):=by
 obtain ⟨W0,hW0⟩:=eX ((w.alloc (.cells zBun 36)).alloc (.cells zBun 36));have hb0:Below w.heap.size w W0:=by rw [hW0]; exact ((Below.refl _ w).alloc (Nat.le_refl _) _).alloc (by simp) _
 have hk1:Blk W0 w.heap.size 36 zBun:=by rw [hW0]; exact (Blk.new _ _ _).alloc _
 have hk2:Blk W0 (w.heap.size+1) 36 zBun:=by
  have:=Blk.new (w.alloc (.cells zBun 36)) 36 zBun;rw [hW0]; simpa using this
 have a0:W0.cell? ⟨w.heap.size,0,none⟩=some (.string ⟨#[]⟩):=hk1.cell 0;have a1:W0.cell? ⟨w.heap.size,1,none⟩=some (.int .i64 0):=hk1.cell 1;have a2:W0.cell? ⟨w.heap.size,2,none⟩=some (.slice none 0 0):=hk1.cell 2;have b0:W0.cell? ⟨w.heap.size+1,0,none⟩=some (.string ⟨#[]⟩):=hk2.cell 0;have b1:W0.cell? ⟨w.heap.size+1,1,none⟩=some (.int .i64 0):=hk2.cell 1;have b2:W0.cell? ⟨w.heap.size+1,2,none⟩=some (.slice none 0 0):=hk2.cell 2;have HW0:=zY hW0;have HB0:=zY hb0;clear hb0 hk1 hk2 hW0;go_enter Tryz.func21,Tryz.ntmps21
 go_upto_region 1 with (fail)
 rw [← HW0.out];go_wp2_with fail;refine wp_loop_rounds 1 ?_;rw [rounds_succ];go_wp2_with fail;go_ret;exact ⟨rfl,HB0.out⟩
def zEnt:Array Value:=#[.int .i64 0,.string ⟨#[]⟩,.string ⟨#[]⟩,.int .i64 0,.slice none 0 0]
def ledV (g:Nat):Array Value:=#[.slice (some ⟨g,0,none⟩) 1 1,.slice none 0 0,.slice none 0 0,.slice none 0 0,.slice none 0 0,.slice none 0 0]
theorem qcO:(Tryz.prog.info? 27).map (·.size)=some 5:=by kernel_rfl
theorem lsame_one (g1 g2:Nat) (w:World) (h1:Blk w g1 27 zEnt) (h2:Blk w g2 27 zEnt):Calls Tryz.prog 20 #[.agg (ledV g1),.agg (ledV g2)] w (fun e w'=>e=.returned (.bool true)∧Below w.heap.size w w'):=by
 have hue:=Tryz.underlying27;obtain ⟨W0,hW0⟩:=eX ((w.alloc (.cells (ledV g1) 63)).alloc (.cells (ledV g2) 63));have hb0:Below w.heap.size w W0:=by rw [hW0]; exact ((Below.refl _ w).alloc (Nat.le_refl _) _).alloc (by simp) _
 have hk1:Blk W0 w.heap.size 63 (ledV g1):=by rw [hW0]; exact (Blk.new _ _ _).alloc _
 have hk2:Blk W0 (w.heap.size+1) 63 (ledV g2):=by
  have:=Blk.new (w.alloc (.cells (ledV g1) 63)) 63 (ledV g2);rw [hW0]; simpa using this
 have he1:=h1.below hb0 h1.lt;have he2:=h2.below hb0 h2.lt
 have LA:=zY (show ∀ u,Below W0.heap.size W0 u→(u.cell? ⟨w.heap.size,0,none⟩=some (.slice (some ⟨g1,0,none⟩) 1 1)∧u.cell? ⟨w.heap.size,1,none⟩=some (.slice none 0 0)∧u.cell? ⟨w.heap.size,2,none⟩=some (.slice none 0 0)∧u.cell? ⟨w.heap.size,3,none⟩=some (.slice none 0 0)∧u.cell? ⟨w.heap.size,4,none⟩=some (.slice none 0 0)∧u.cell? ⟨w.heap.size,5,none⟩=some (.slice none 0 0)) from fun u h=>by
  have hk:=hk1.below h hk1.lt;exact ⟨hk.cell 0,hk.cell 1,hk.cell 2,hk.cell 3,hk.cell 4,hk.cell 5⟩)
 have LB:=zY (show ∀ u,Below W0.heap.size W0 u→(u.cell? ⟨w.heap.size+1,0,none⟩=some (.slice (some ⟨g2,0,none⟩) 1 1)∧u.cell? ⟨w.heap.size+1,1,none⟩=some (.slice none 0 0)∧u.cell? ⟨w.heap.size+1,2,none⟩=some (.slice none 0 0)∧u.cell? ⟨w.heap.size+1,3,none⟩=some (.slice none 0 0)∧u.cell? ⟨w.heap.size+1,4,none⟩=some (.slice none 0 0)∧u.cell? ⟨w.heap.size+1,5,none⟩=some (.slice none 0 0)) from fun u h=>by
  have hk:=hk2.below h hk2.lt;exact ⟨hk.cell 0,hk.cell 1,hk.cell 2,hk.cell 3,hk.cell 4,hk.cell 5⟩)
 have HE1:=zY he1;have HE2:=zY he2;have HW0:=zY hW0;have HB0:=zY hb0;obtain ⟨a0,a1,a2,a3,a4,a5⟩:=LA.out W0 (Below.refl _ _);obtain ⟨b0,b1,b2,b3,b4,b5⟩:=LB.out W0 (Below.refl _ _);clear hb0 hk1 hk2 hW0 he1 he2 h1 h2;go_enter Tryz.func20,Tryz.ntmps20
 go_upto_region 1 with (fail)
 rw [← HW0.out];go_wp2_with fail;refine qab (same9_nil _) ?_;rintro e w1 ⟨rfl,rfl⟩;go_wp2_with fail;refine wp_loop_rounds 2 ?_;rw [rounds_succ];have hn1:=Blk.new w1 27 zEnt;have he1:=HE1.out;have he2:=HE2.out
 go_wp2_with (first
  | (refine qac he1 rfl rfl rfl hue rfl qcO ?_)
  | (refine qad (x:=.tmp 7) (cells:=zEnt) hn1 rfl rfl rfl rfl qcO rfl (by simp [zEnt,Value.oneCell']) ?_; intro w2 hb2 hw2; have hbel2:Below w1.heap.size w1 w2:=hw2.below ((Below.refl _ _).alloc (Nat.le_refl _) _) (Nat.le_refl _) (by simp); obtain ⟨b0,b1,b2,b3,b4,b5⟩:=LB.out w2 hbel2; have hf2:=HE2.out.below hbel2 HE2.out.lt; have hn2:=Blk.new w2 27 zEnt; have HB2:=zY hb2; have HL2:=zY hbel2; clear hb2 hw2 hbel2)
  | (refine qac hf2 rfl rfl rfl hue rfl qcO ?_)
  | (refine qad (x:=.tmp 8) (cells:=zEnt) hn2 rfl rfl rfl rfl qcO rfl (by simp [zEnt,Value.oneCell']) ?_; intro w3 hb3 hw3; have hbel3:Below w2.heap.size w2 w3:=hw3.below ((Below.refl _ _).alloc (Nat.le_refl _) _) (Nat.le_refl _) (by simp); have hx7:=HB2.out.below hbel3 HB2.out.lt; have c0:w3.cell? ⟨w1.heap.size,0,none⟩=some (.int .i64 0):=hx7.cell 0; have c1:w3.cell? ⟨w1.heap.size,1,none⟩=some (.string ⟨#[]⟩):=hx7.cell 1; have c2:w3.cell? ⟨w1.heap.size,2,none⟩=some (.string ⟨#[]⟩):=hx7.cell 2; have c3:w3.cell? ⟨w1.heap.size,3,none⟩=some (.int .i64 0):=hx7.cell 3; have c4:w3.cell? ⟨w1.heap.size,4,none⟩=some (.slice none 0 0):=hx7.cell 4; have e0:w3.cell? ⟨w2.heap.size,0,none⟩=some (.int .i64 0):=hb3.cell 0; have e1:w3.cell? ⟨w2.heap.size,1,none⟩=some (.string ⟨#[]⟩):=hb3.cell 1; have e2:w3.cell? ⟨w2.heap.size,2,none⟩=some (.string ⟨#[]⟩):=hb3.cell 2; have e3:w3.cell? ⟨w2.heap.size,3,none⟩=some (.int .i64 0):=hb3.cell 3; have e4:w3.cell? ⟨w2.heap.size,4,none⟩=some (.slice none 0 0):=hb3.cell 4; have HL3:=zY (HL2.out.trans (hbel3.mono HL2.out.size)); clear hb3 hw3 hbel3 hx7))
 obtain ⟨a0,a1,a2,a3,a4,a5⟩:=LA.out w3 HL3.out;obtain ⟨b0,b1,b2,b3,b4,b5⟩:=LB.out w3 HL3.out;refine qab (same9_nil _) ?_;rintro e w4 ⟨rfl,rfl⟩;go_wp2_with fail;rw [rounds_succ];go_wp2_with fail;refine wp_loop_rounds 1 ?_;rw [rounds_succ];go_wp2_with fail;refine wp_loop_rounds 1 ?_;rw [rounds_succ];go_wp2_with fail;refine wp_loop_rounds 1 ?_;rw [rounds_succ];go_wp2_with fail;refine wp_loop_rounds 1 ?_;rw [rounds_succ];go_wp2_with fail;go_ret;exact ⟨rfl,HB0.out.trans (HL3.out.mono HB0.out.size)⟩
theorem led_zero (g:Nat):Tryz.prog.built 63 [(0,.slice (some ⟨g,0,none⟩) 1 1)]=some (ledV g):=by kernel_rfl
theorem qdG {ops:Array Oper} {rest:List Oper} {o:Oper} {a:Act} {w:World} {Q:Exit→Act→World→Prop} {cells:Array Value} (hg:o.guard=none) (parts:Array (Nat × Operand)) (ho:o.op=.build 63 parts)
  (hf:Tryz.prog.built 63 (parts.map fun (i,x)=>(i,a.eval x)).toList=some cells) (h:wpList Tryz.prog ops Q rest (a.put o.dst (.agg cells)) w):wpList Tryz.prog ops Q (o :: rest) a w:=by
 refine wpList_build hg _ parts ho (by rw [hf]; rfl) ?_;rw [hf];exact h
theorem qef (kind n:Int) (name:ByteArray) (k:KeyD):(((opCells kind n name k).toList.drop 21).take 3).toArray=zBun:=rfl
theorem bun_size:(Tryz.prog.info? 36).map (·.size)=some 3:=by kernel_rfl
theorem zEnt_fold:Array.foldl (fun (cs:Array Value) x=>cs.setIfInBounds x.snd x.fst) #[Value.int IntKind.i64 0,Value.string { data:=#[] },Value.string { data:=#[] },Value.int IntKind.i64 0,Value.slice none 0 0] zEnt.zipIdx 0 zEnt.size=zEnt:=by kernel_rfl
theorem ent_lit:Tryz.prog.builtSlice 27 1 [(0,.agg zEnt)]=some zEnt:=by kernel_rfl
theorem qee (kind n:Int) (name:ByteArray) (k:KeyD):(((opCells kind n name k).toList.drop 3).take 5).toArray=zEnt:=rfl
theorem sameOp_any (kind n:Int) (name:ByteArray) (k:KeyD) (w:World):Calls Tryz.prog 7 #[.agg (opCells kind n name k),.agg (opCells kind n name k)] w (fun e w'=>e=.returned (.bool true)∧Below w.heap.size w w'):=by
 have hue:=Tryz.underlying38;have hubun:=Tryz.underlying36;have huent:=Tryz.underlying27;have husl:=Tryz.underlying58;obtain ⟨W0,hW0⟩:=eX ((w.alloc (.cells (opCells kind n name k) 38)).alloc (.cells (opCells kind n name k) 38));have hb0:Below w.heap.size w W0:=by rw [hW0]; exact ((Below.refl _ w).alloc (Nat.le_refl _) _).alloc (by simp) _
 have hk1:Blk W0 w.heap.size 38 (opCells kind n name k):=by rw [hW0]; exact (Blk.new _ _ _).alloc _
 have hk2:Blk W0 (w.heap.size+1) 38 (opCells kind n name k):=by
  have:=Blk.new (w.alloc (.cells (opCells kind n name k) 38)) 38 (opCells kind n name k);rw [hW0]; simpa using this
 have HK1:=zY hk1;have HK2:=zY hk2;have HW0:=zY hW0;have HB0:=zY hb0;clear hb0 hk1 hk2 hW0;obtain ⟨oc,hoc⟩:=eX (opCells kind n name k);rw [← hoc] at HK1 HK2 HW0 ⊢;have HOC:=zY hoc;clear hoc;go_enter Tryz.func7,Tryz.ntmps7
 go_upto_region 1 with (fail)
 rw [← HW0.out];have hk1:=HK1.out;have hk2:=HK2.out;rw [HOC.out] at hk1 hk2;have hg1:=Blk.new W0 27 zEnt;have hg2:=Blk.new (W0.alloc (.cells zEnt 27)) 27 zEnt
 go_wp2_with (first
  | (refine qan (r:=zEnt) (k:=3) (n:=5) hk1 (by simp [opCells]) (qee _ _ _ _) rfl rfl rfl huent rfl qcO ?_)
  | (refine qan (r:=zEnt) (k:=3) (n:=5) (hk2.alloc _) (by simp [opCells]) (qee _ _ _ _) rfl rfl rfl huent rfl qcO ?_)
  | (refine Great.wpList_buildSliceTo rfl _ _ 1 _ rfl _ rfl _ rfl husl zEnt ent_lit ?_)
  | (refine qdG rfl _ rfl (led_zero _) ?_))
 obtain ⟨W1,hW1⟩:=eX ((W0.alloc (.cells zEnt 27)).alloc (.cells zEnt 27));have hb1:Below W0.heap.size W0 W1:=by rw [hW1]; exact ((Below.refl _ W0).alloc (Nat.le_refl _) _).alloc (by simp) _
 have hg1':Blk W1 W0.heap.size 27 zEnt:=by rw [hW1]; exact hg1.alloc _
 have hg2':Blk W1 (W0.heap.size+1) 27 zEnt:=by rw [hW1]; simpa using hg2
 rw [zEnt_fold];rw [← hW1];refine qab (lsame_one _ _ _ hg1' hg2') ?_;rintro e w2 ⟨rfl,hb2⟩;have hB2:=hb1.trans (hb2.mono hb1.size);have HF2:=zY (HB0.out.trans (hB2.mono HB0.out.size));replace hk1:=hk1.below hB2 HK1.out.lt;replace hk2:=hk2.below hB2 HK2.out.lt;clear hg1 hg2 hg1' hg2' hb1 hb2 hB2 hW1
 go_wp2_with (first
  | (refine qan (r:=zBun) (k:=21) (n:=3) hk1 (by simp [opCells]) (qef _ _ _ _) rfl rfl rfl hubun rfl bun_size ?_)
  | (refine qan (r:=zBun) (k:=21) (n:=3) hk2 (by simp [opCells]) (qef _ _ _ _) rfl rfl rfl hubun rfl bun_size ?_))
 refine qab (bsame_nil _) ?_;rintro e w3 ⟨rfl,hb3⟩;have HF3:=zY (HF2.out.trans (hb3.mono HF2.out.size));replace hk1:=hk1.below hb3 hk1.lt;replace hk2:=hk2.below hb3 hk2.lt;clear hb3;have a0:w3.cell? ⟨w.heap.size,0,none⟩=some (.int .i64 kind):=hk1.cell 0;have a1:w3.cell? ⟨w.heap.size,1,none⟩=some (.int .i64 n):=hk1.cell 1;have a2:w3.cell? ⟨w.heap.size,2,none⟩=some (.string name):=hk1.cell 2;have a8:w3.cell? ⟨w.heap.size,8,none⟩=some (.string ⟨#[]⟩):=hk1.cell 8;have a9:w3.cell? ⟨w.heap.size,9,none⟩=some (.string ⟨#[]⟩):=hk1.cell 9;have a10:w3.cell? ⟨w.heap.size,10,none⟩=some (.int .i64 0):=hk1.cell 10;have a11:w3.cell? ⟨w.heap.size,11,none⟩=some (.bool false):=hk1.cell 11;have a12:w3.cell? ⟨w.heap.size,12,none⟩=some (.string ⟨#[]⟩):=hk1.cell 12;have a13:w3.cell? ⟨w.heap.size,13,none⟩=some (.string ⟨#[]⟩):=hk1.cell 13;have a14:w3.cell? ⟨w.heap.size,14,none⟩=some (.int .i64 0):=hk1.cell 14;have a15:w3.cell? ⟨w.heap.size,15,none⟩=some (.int .i64 0):=hk1.cell 15;have a16:w3.cell? ⟨w.heap.size,16,none⟩=some (.string ⟨#[]⟩):=hk1.cell 16;have a17:w3.cell? ⟨w.heap.size,17,none⟩=some (.string k.kid):=hk1.cell 17;have a18:w3.cell? ⟨w.heap.size,18,none⟩=some (.string k.seed):=hk1.cell 18;have a19:w3.cell? ⟨w.heap.size,19,none⟩=some (.int .i64 k.state):=hk1.cell 19;have a20:w3.cell? ⟨w.heap.size,20,none⟩=some (.int .i64 k.since):=hk1.cell 20;have b0:w3.cell? ⟨w.heap.size+1,0,none⟩=some (.int .i64 kind):=hk2.cell 0;have b1:w3.cell? ⟨w.heap.size+1,1,none⟩=some (.int .i64 n):=hk2.cell 1;have b2:w3.cell? ⟨w.heap.size+1,2,none⟩=some (.string name):=hk2.cell 2;have b8:w3.cell? ⟨w.heap.size+1,8,none⟩=some (.string ⟨#[]⟩):=hk2.cell 8;have b9:w3.cell? ⟨w.heap.size+1,9,none⟩=some (.string ⟨#[]⟩):=hk2.cell 9;have b10:w3.cell? ⟨w.heap.size+1,10,none⟩=some (.int .i64 0):=hk2.cell 10;have b11:w3.cell? ⟨w.heap.size+1,11,none⟩=some (.bool false):=hk2.cell 11;have b12:w3.cell? ⟨w.heap.size+1,12,none⟩=some (.string ⟨#[]⟩):=hk2.cell 12;have b13:w3.cell? ⟨w.heap.size+1,13,none⟩=some (.string ⟨#[]⟩):=hk2.cell 13;have b14:w3.cell? ⟨w.heap.size+1,14,none⟩=some (.int .i64 0):=hk2.cell 14;have b15:w3.cell? ⟨w.heap.size+1,15,none⟩=some (.int .i64 0):=hk2.cell 15;have b16:w3.cell? ⟨w.heap.size+1,16,none⟩=some (.string ⟨#[]⟩):=hk2.cell 16;have b17:w3.cell? ⟨w.heap.size+1,17,none⟩=some (.string k.kid):=hk2.cell 17;have b18:w3.cell? ⟨w.heap.size+1,18,none⟩=some (.string k.seed):=hk2.cell 18;have b19:w3.cell? ⟨w.heap.size+1,19,none⟩=some (.int .i64 k.state):=hk2.cell 19;have b20:w3.cell? ⟨w.heap.size+1,20,none⟩=some (.int .i64 k.since):=hk2.cell 20;have heqk:∀ u:World,(binOp .eql 33 (.agg #[.string k.kid,.string k.seed,.int .i64 k.state,.int .i64 k.since]) (.agg #[.string k.kid,.string k.seed,.int .i64 k.state,.int .i64 k.since])).run Tryz.prog u=.ok (.bool true) u:=fun u=>by exact eql_key k u
 have heqj:∀ u:World,(binOp .eql 29 (.agg #[.string ⟨#[]⟩,.string ⟨#[]⟩,.int .i64 0,.bool false]) (.agg #[.string ⟨#[]⟩,.string ⟨#[]⟩,.int .i64 0,.bool false])).run Tryz.prog u=.ok (.bool true) u:=fun u=>by kernel_rfl
 have heqn:∀ u:World,(binOp .eql 31 (.agg #[.string ⟨#[]⟩,.string ⟨#[]⟩,.int .i64 0,.int .i64 0,.string ⟨#[]⟩]) (.agg #[.string ⟨#[]⟩,.string ⟨#[]⟩,.int .i64 0,.int .i64 0,.string ⟨#[]⟩])).run Tryz.prog u=.ok (.bool true) u:=fun u=>by kernel_rfl
 go_wp2_with fail;go_ret;exact ⟨rfl,HF3.out⟩
def zSeed:List UInt8:=List.replicate 32 0
theorem zSeed_ok:makeOk zSeed 3=true:=by rw [makeOk,zSeed,List.length_replicate]; decide
theorem opCells_key (kind n:Int) (name:ByteArray) (k:KeyD):(((opCells kind n name k).toList.drop 17).take 4).toArray=keyCells k:=rfl
theorem klives_any (w:World) (hG:Sh.TabG w):Calls Tryz.prog 8 #[] w (fun e w'=>e=.returned (.bool true)∧Below w.heap.size w w'):=by
 have hu:=Tryz.underlying33;have huo:=Tryz.underlying38;have hmk:∀ u:World,(Instr.makeSlice 23 (.int .i64 32) (.int .i64 32)).run Tryz.prog u=.ok (.slice (some ⟨u.heap.size,0,none⟩) 32 32) (u.alloc (.cells (bytesV zSeed).toArray 5)):=fun _=>by kernel_rfl
 have hb0:Below w.heap.size w (w.alloc (.cells (bytesV zSeed).toArray 5)):=(Below.refl _ _).alloc (Nat.le_refl _) _;have hk0:=Blk.new w 5 (bytesV zSeed).toArray;obtain ⟨W0,hW0⟩:=eX (w.alloc (.cells (bytesV zSeed).toArray 5));rw [← hW0] at hb0 hk0;obtain ⟨K,hK⟩:=eX (mkKey zSeed 3)
 have C1:=zY (show Calls Tryz.prog 5 #[.slice none 0 0,.int .i64 3,.int .i64 10,.slice (some ⟨w.heap.size,0,none⟩) 32 32] W0 (NextPost 9 0 ⟨#[]⟩ K true W0) from by
  have h:=next_none [] (by decide) rfl 3 10 zSeed (by decide) none (some ⟨w.heap.size,0,none⟩) 0 32 W0 (Rd.nil _ _ _) (Rd.of_blk hk0 hk0.lt) (by decide) (hG.below hb0 hG.size);rw [zSeed_ok,makeK,if_pos zSeed_ok,← hK] at h;exact h)
 have hks:K.state=1:=by rw [hK]; rfl
 have hkn:K.since=3:=by rw [hK]; rfl
 have C2:=zY (show ∀ u g,Blk u g 33 (keyCells K)→Calls Tryz.prog 5 #[.slice (some ⟨g,0,none⟩) 1 1,.int .i64 4,.int .i64 10,.slice none 0 0] u (NextPost 10 4 ⟨#[]⟩ zKey true u) from fun u g h =>
  next_still [K] (by simp) K (by simp [firstK,keysOf,hks]) (by simp [firstK,keysOf,hks]) 4 10 0 (some ⟨g,0,none⟩) none 1 0 u (Rd.of_blk (t:=33) (by simpa [keysV] using h) h.lt))
 have HB0:=zY hb0;have HW0:=zY hW0;obtain ⟨kid,sed,stt,snc⟩:=K;simp only at hks hkn;subst hks hkn;clear hb0 hk0 hW0 hG hK;go_enter Tryz.func8,Tryz.ntmps8;go_wp2_with fail;rw [← HW0.out];refine qab C1.out ?_;rintro e w1 ⟨rfl,hb1⟩;replace HB0:=zY (HB0.out.trans (hb1.mono HB0.out.size));clear C1 hb1 hmk HW0;have hbn:=Blk.new w1 38 zOp
 go_wp2_with (first
  | (refine qad (cells:=opCells 9 0 ⟨#[]⟩ ⟨kid,sed,1,3⟩) hbn rfl rfl rfl rfl qaP rfl (qaN _ _ _ _) ?_; intro w2 hb2 hw2; have HB2:=zY hb2; have HW2:=zY hw2; clear hw2)
  | (refine qan (r:=#[.string kid,.string sed,.int .i64 1,.int .i64 3]) (k:=17) (n:=4) hb2 (by simp [opCells]) (opCells_key _ _ _ _) rfl rfl rfl hu rfl qat ?_))
 have hk2:=Blk.new w2 33 #[.string kid,.string sed,.int .i64 1,.int .i64 3];refine qab (C2.out _ _ hk2) ?_;rintro e w3 ⟨rfl,hb3⟩;have h2:Below w.heap.size w w2:=HW2.out.below (HB0.out.trans ((Below.refl w1.heap.size w1).alloc (Nat.le_refl _) _ |>.mono HB0.out.size)) HB0.out.size (Nat.le_trans HB0.out.size (by simp));have h2':Below w2.heap.size w2 w3:=(((Below.refl w2.heap.size w2).alloc (Nat.le_refl _) _).trans (hb3.mono (by simp)));have HB3:=zY (h2.trans (h2'.mono h2.size));have HO3:=zY (HB2.out.below h2' HB2.out.lt);clear C2 hb3 h2 h2' hk2 HB2 HW2 hb2 hbn HB0;have hbn:=Blk.new w3 38 zOp;go_wp2_with (refine qad (cells:=opCells 10 4 ⟨#[]⟩ zKey) hbn rfl rfl rfl rfl qaP rfl (qaN _ _ _ _) ?_; intro w4 hb4 hw4; have hbel:Below w3.heap.size w3 w4:=hw4.below ((Below.refl _ _).alloc (Nat.le_refl _) _) (Nat.le_refl _) (by simp); have HF:=zY (HB3.out.trans (hbel.mono HB3.out.size)); have ho:=HO3.out.below hbel HO3.out.lt; have a0:w4.cell? ⟨w1.heap.size,0,none⟩=some (.int .i64 9):=ho.cell 0; have a20:w4.cell? ⟨w1.heap.size,20,none⟩=some (.int .i64 3):=ho.cell 20; have b0:w4.cell? ⟨w3.heap.size,0,none⟩=some (.int .i64 10):=hb4.cell 0; have b1:w4.cell? ⟨w3.heap.size,1,none⟩=some (.int .i64 4):=hb4.cell 1; clear hw4 hb4 hbel ho);go_ret;exact ⟨rfl,HF.out⟩
theorem keysNext_any (l:List KeyD) (hrg:∀ k ∈ l,InR k.since) (now every:Int) (hev:InR every) (b:List UInt8) (A B:Option Addr) (c cb:Nat) (w:World) (hr:Rd w w.heap.size A (keysV l)) (rb:Rd w w.heap.size B (bytesV b)) (hcb:b.length≤cb) (hcm:cb≤9223372036854775807) (hG:Sh.TabG w) :
  Calls Tryz.prog 3 #[.slice A l.length c,.int .i64 now,.int .i64 every,.slice B b.length cb] w (fun e w'=>e=.returned (.bool true)∧Below w.heap.size w w'):=by
 have hu:=Tryz.underlying38;obtain ⟨n,hn⟩:=eX (b.length);obtain ⟨p,hp⟩:=eX (b.take 40);obtain ⟨np,hnp⟩:=eX (p.length);have hnp2:np=min 40 n:=by rw [hnp,hp,List.length_take,hn]
 have lp:p.length≤200:=by rw [← hnp]; omega
 have hpc:p.length≤cb:=by rw [← hnp]; omega
 have rp0:Rd w w.heap.size B (bytesV p):=by rw [hp,bytesV,List.map_take]; exact qcu rb 40
 obtain ⟨L,hL⟩:=eX (cutsK l);obtain ⟨V,hV⟩:=eX (nextV L now every p);have hLl:L.length≤1000:=by rw [hL,cutsK,List.length_map,List.length_take]; omega
 have hLr:∀ k ∈ L,InR k.since:=by
  rw [hL,cutsK];intro k hk;obtain ⟨k0,hk0,rfl⟩:=List.mem_map.1 hk;exact hrg k0 (List.mem_of_mem_take hk0)
 obtain ⟨nl,hnl⟩:=eX (L.length)
 have CC:=zY (show Calls Tryz.prog 4 #[.slice A l.length c] w (fun e w'=>∃ A1 c1,e=.returned (.slice A1 nl c1)∧Rd w' w'.heap.size A1 (keysV L)∧Below w.heap.size w w') from
  (cutK_any l A c w hr).mono fun e w' ⟨A1,c1,h1,_,h3,h4⟩=>⟨A1,c1,by rw [h1,hnl,hL],by rw [hL]; exact h3,h4⟩)
 have CN:=zY (show ∀ u A1 c1,Below w.heap.size w u→Rd u u.heap.size A1 (keysV L)→Calls Tryz.prog 5 #[.slice A1 nl c1,.int .i64 now,.int .i64 every,.slice B np cb] u (NextPost V.kind V.n V.name V.key V.ok u) from fun u A1 c1 h h1=>by
  rw [hnp,hnl,hV]; exact next_any L hLl now every p (by omega) A1 B c1 cb u h1 ((rp0.below h).mono h.size) hpc (hG.below h hG.size))
 have CR:=zY (show ∀ u A1 c1,Below w.heap.size w u→Rd u u.heap.size A1 (keysV L)→Calls Tryz.prog 6 #[.slice A1 nl c1,.int .i64 now,.int .i64 every,.slice B np cb] u (NextPost V.kind V.n V.name V.key V.ok u) from fun u A1 c1 h h1=>by
  rw [hnp,hnl,hV]; exact rnext_any L hLl hLr now every hev p (by omega) A1 B c1 cb u h1 ((rp0.below h).mono h.size) hpc)
 have CS:=zY (show ∀ u,Calls Tryz.prog 7 #[.agg (opCells V.kind V.n V.name V.key),.agg (opCells V.kind V.n V.name V.key)] u (fun e w'=>e=.returned (.bool true)∧Below u.heap.size u w') from fun u=>sameOp_any _ _ _ _ u);have CL:=zY (show ∀ u,Below w.heap.size w u→Calls Tryz.prog 8 #[] u (fun e w'=>e=.returned (.bool true)∧Below u.heap.size u w') from fun u h=>klives_any u (hG.below h hG.size));obtain ⟨kind,vn,name,key,ok⟩:=V;simp only at CN CR CS;obtain ⟨oc,hoc⟩:=eX (opCells kind vn name key);have hone:oc.all (·.oneCell')=true:=by rw [hoc]; exact qaN _ _ _ _
 have HONE:=zY hone;have CN2:=zY (show ∀ u A1 c1,Below w.heap.size w u→Rd u u.heap.size A1 (keysV L)→Calls Tryz.prog 5 #[.slice A1 nl c1,.int .i64 now,.int .i64 every,.slice B np cb] u (fun e w'=>e=.returned (.tuple #[.agg oc,.bool ok])∧Below u.heap.size u w') from by rw [hoc]; exact CN.out);have CR2:=zY (show ∀ u A1 c1,Below w.heap.size w u→Rd u u.heap.size A1 (keysV L)→Calls Tryz.prog 6 #[.slice A1 nl c1,.int .i64 now,.int .i64 every,.slice B np cb] u (fun e w'=>e=.returned (.tuple #[.agg oc,.bool ok])∧Below u.heap.size u w') from by rw [hoc]; exact CR.out);rw [← hoc] at CS;have hocs:oc.size=24:=by rw [hoc]; rfl
 have HOCS:=zY hocs;rw [← hn];rw [← hn] at hcb;clear hn hp hnp lp hpc rp0 rb hG hoc hV hL hLl hLr hnl hrg hev hr CN CR hone hocs;have hn63:(n:Int)≤9223372036854775807:=by omega
 have hca40:40<n→(40:Int)≤(cb:Int):=fun h=>by omega
 clear hcm hcb;go_enter Tryz.func3,Tryz.ntmps3;go_wp2_with fail;refine qab CC.out ?_;rintro e w1 ⟨A1,c1,rfl,hr1,hb1⟩;have HR1:=zY hr1;have HB1:=zY hb1;clear hr1 hb1 CC
 go_upto_if 18 with (fail)
 go_cut [3] (fun s wx=>s=.slice B np cb∧w1=wx)
 case first =>
  by_cases h40:40<n
  ·have h40':(40:Int)<n:=by omega
   have hc40:=hca40 h40;obtain rfl:np=40:=by omega
   clear hca40 h40 hnp2;go_wp2_with fail
   go_meet
   exact ⟨rfl,rfl⟩
  ·have h40':¬ (40:Int)<n:=by omega
   obtain rfl:np=n:=by omega
   clear hca40 h40 hnp2;go_wp2_with fail
   go_meet
   exact ⟨rfl,rfl⟩
 case rest =>
 obtain ⟨rfl,rfl⟩:=hcut;clear hnp2 hca40;go_wp2_with fail;refine qab (CN2.out _ _ _ HB1.out HR1.out) ?_;rintro e w2 ⟨rfl,hb2⟩;replace HR1:=zY (qbI HR1.out hb2);replace HB1:=zY (HB1.out.trans (hb2.mono HB1.out.size));clear hb2 CN2;have hbn:=Blk.new w2 38 zOp;go_wp2_with (refine qad (cells:=oc) hbn rfl rfl rfl rfl (by rw [HOCS.out]; exact qaP) (by rw [HOCS.out]; rfl) HONE.out ?_; intro w3 hb3 hw3; have HB3:=zY hb3; have HW3:=zY hw3; clear hb3 hw3);have hbel3:Below w2.heap.size w2 w3:=HW3.out.below ((Below.refl _ _).alloc (Nat.le_refl _) _) (Nat.le_refl _) (by simp);replace HB1:=zY (HB1.out.trans (hbel3.mono HB1.out.size));replace HR1:=zY (qbI HR1.out hbel3);clear hbel3 HW3 hbn;refine qab (CR2.out _ _ _ HB1.out HR1.out) ?_;rintro e w4 ⟨rfl,hb4⟩;replace HB1:=zY (HB1.out.trans (hb4.mono HB1.out.size));replace HB3:=zY (HB3.out.below hb4 HB3.out.lt);clear hb4 CR2 HR1;have hbn:=Blk.new w4 38 zOp
 go_wp2_with (first
  | (refine qad (x:=.tmp 11) (cells:=oc) hbn rfl rfl rfl rfl (by rw [HOCS.out]; exact qaP) (by rw [HOCS.out]; rfl) HONE.out ?_; intro w5 hb5 hw5; have HW5:=zY hw5; clear hw5; have hbel5:=zY (HW5.out.below ((Below.refl _ _).alloc (Nat.le_refl _) _) (Nat.le_refl _) (by simp)); have hb3':=HB3.out.below hbel5.out HB3.out.lt)
  | (refine qac (x:=.tmp 9) hb3' rfl rfl rfl hu rfl (by rw [HOCS.out]; exact qaP) ?_)
  | (refine qac (x:=.tmp 11) hb5 rfl rfl rfl hu rfl (by rw [HOCS.out]; exact qaP) ?_))
 have h5:=zY (HB1.out.trans (hbel5.out.mono HB1.out.size));refine qab (CS.out _) ?_;rintro e w6 ⟨rfl,hb6⟩;have h6:=zY (h5.out.trans (hb6.mono h5.out.size));clear hb6 hb3' hb5;go_wp2_with fail;refine qab (CL.out _ h6.out) ?_;rintro e w7 ⟨rfl,hb7⟩;have HF:=zY (h6.out.trans (hb7.mono h6.out.size));clear hb7;go_wp2_with fail;go_ret;exact ⟨rfl,HF.out⟩
end Go.Proofs.YtcbkaaodmjphdaaGreatDoor
namespace Go.Proofs.YtcbkaaodmjphdaaGreatDoor
set_option linter.unusedSimpArgs false
set_option linter.unusedVariables false
set_option maxRecDepth 100000
set_option maxHeartbeats 4000000
open Go.ChangeShapes Go.WideShapes Go.ChangeAt Go.RowKit Go.Joins
theorem qer {n:Int} (h:(Lit.int .i64 n).wf=true):InR n:=by
 rw [Lit.wf,Bool.and_eq_true,decide_eq_true_iff,decide_eq_true_iff,show IntKind.i64.min=-9223372036854775808 by decide,show IntKind.i64.max=9223372036854775807 by decide] at h;exact h
theorem keysV_len (l:List KeyD):(keysV l).length=4*l.length:=by
 induction l with
 | nil=>rfl
 | cons k r ih =>
  rw [keysV,List.flatMap_cons,List.length_append];have:(List.flatMap (fun k=>(keyCells k).toList) r).length=4*r.length:=ih;rw [this];simp [keyCells];omega
section
variable {H:Type} {enc:TypeId × Value→H} {w:World} {base:Nat} {spare:Nat→Bool} {held:Bool}
theorem open_key {fuel:Nat} {cs:List Value} {x:DataW H × List MemPlace} (h:DataW.trod enc Tryz.prog w base spare held fuel 33 cs=some x) (hl:cs.length=4) :
  ∃ k:KeyD,cs=(keyCells k).toList∧InR k.since∧InR k.state:=by
 obtain ⟨xs,n,_,hx,_,hlen,hf⟩:=DataW.trod_struct Tryz.underlying33 h
 match xs,hlen,cs,hl with
 | [y0,y1,y2,y3],_,[v0,v1,v2,v3],_ =>
  have c0:Tryz.prog.cellsOf 9=1:=by kernel_rfl
  have c2:Tryz.prog.cellsOf 3=1:=by kernel_rfl
  have g0:=hf 0 _ rfl;have g1:=hf 1 _ rfl;have g2:=hf 2 _ rfl;have g3:=hf 3 _ rfl;simp [c0,c2] at g0 g1 g2 g3;obtain ⟨s0,e0,-,-⟩:=DataW.trod_string Tryz.underlying9 g0;obtain ⟨s1,e1,-,-⟩:=DataW.trod_string Tryz.underlying9 g1;obtain ⟨n2,e2,-,w2⟩:=DataW.trod_int Tryz.underlying3 g2;obtain ⟨n3,e3,-,w3⟩:=DataW.trod_int Tryz.underlying3 g3
  injection e0 with e0
  injection e1 with e1
  injection e2 with e2
  injection e3 with e3
  subst e0 e1 e2 e3;exact ⟨⟨s0,s1,n2,n3⟩,rfl,qer w3,qer w2⟩
theorem open_keys {fuel:Nat} {cs:List Value} {x:DataW H × List MemPlace} (h:DataW.trod enc Tryz.prog w base spare held fuel 22 cs=some x) :
  ∃ (A:Option Addr) (c:Nat) (l:List KeyD),cs=[.slice A l.length c]∧l.length≤c∧l.length≤maxLen∧Rd w w.heap.size A (keysV l)∧∀ k ∈ l,InR k.since:=by
 have c4:Tryz.prog.cellsOf 33=4:=by kernel_rfl
 rcases Deep.open_slice Tryz.underlying22 h with ⟨rfl,_⟩ | ⟨a,len,cap,m,n,D,Pl,rfl,hb,hl,hm,hmm,rfl,hx⟩
 ·exact ⟨none,0,[],rfl,Nat.le_refl _,Nat.zero_le _,Rd.nil _ _ _,fun k hk=>by cases hk⟩
 ·have hlm:len≤m:=by rw [hmm]; split <;> omega
  rw [c4] at hx
  obtain ⟨f,hf⟩:=Deep.choose_lt (α:=ByteArray × ByteArray × Int × Int) (n:=m) (p:=fun i q=>w.cells? base (a.add (i*4)) 4=some (keyCells ⟨q.1,q.2.1,q.2.2.1,q.2.2.2⟩).toList∧InR q.2.2.2) (fun i hi=>by
   obtain ⟨cs',h1,h2⟩:=hx i hi;obtain ⟨_,hlen,_⟩:=World.cells?_some h1;obtain ⟨k,rfl,hk,_⟩:=open_key h2 hlen;exact ⟨(k.kid,k.seed,k.state,k.since),h1,hk⟩)
  let F:Nat→KeyD:=fun i=>⟨(f i).1,(f i).2.1,(f i).2.2.1,(f i).2.2.2⟩
  refine ⟨some a,cap,(List.range len).map F,by simp,by simpa using hl,by simp; omega,fun i u hu=>?_,fun k hk=>?_⟩
  ·have hi:i<4*len:=by
    have:=(List.getElem?_eq_some_iff.1 hu).1;rw [keysV_len] at this
    simpa using this
   have hq:i/4<len:=by omega
   have hk:=(hf (i/4) (by omega)).1;obtain ⟨_,hlen,hcell⟩:=World.cells?_some hk;have hc:=hcell (i%4) (by omega);obtain ⟨v,hv⟩:∃ v,(keyCells (F (i/4)))[i%4]?=some v:=⟨_,Array.getElem?_eq_getElem (by rw [show (keyCells (F (i/4))).size=4 from rfl]; omega)⟩;have hkv:=qdR ((List.range len).map F) (i/4) (by simpa using hq) (i%4) v (by rw [List.getElem_map,List.getElem_range]; exact hv);rw [show 4*(i/4)+i%4=i by omega] at hkv;rw [hkv] at hu
   injection hu with hu
   subst hu;rw [Deep.add_add,show i/4*4+i%4=i by omega] at hc
   have hc':w.cell? (a.add i)=some v:=by
    rw [hc,Array.getElem?_toList];exact hv
   refine ⟨a,rfl,?_,hc'⟩;have:=World.block_lt_of_cell? w _ hc'
   rwa [qaW] at this
  ·obtain ⟨i,hi,rfl⟩:=List.mem_map.1 hk;exact (hf i (by have:=List.mem_range.1 hi; omega)).2
theorem open_keys_arg {r:Reach} {b0:Nat} {v:Value} {d:DataW H} {p:List MemPlace} (hv:Value.okWide Tryz.prog w r b0 22 v) (h:DataW.Trod enc Tryz.prog w base spare held 22 v d p) :
  ∃ (l:List KeyD) (A:Option Addr) (c:Nat),v=.slice A l.length c∧Rd w w.heap.size A (keysV l)∧∀ k ∈ l,InR k.since:=by
 obtain ⟨a1,len,cap,rfl⟩:=okWide_slice Tryz.underlying22 hv;obtain ⟨fuel,hf⟩:=h;obtain ⟨A,c,l,e,_,_,hr,hk⟩:=open_keys hf;simp [Value.cells] at e;obtain ⟨rfl,rfl,rfl⟩:=e;exact ⟨l,_,_,rfl,hr,hk⟩
end
end Go.Proofs.YtcbkaaodmjphdaaGreatDoor
namespace Go.Proofs.YtcbkaaodmjphdaaGreatDoor.keysNext
set_option linter.unusedSimpArgs false
set_option linter.unusedVariables false
open Go.ChangeShapes Go.WideShapes Go.ChangeAt Go.RowKit Go.Joins Sh
set_option maxRecDepth 100000 in
theorem lifted (os:Os) (started:os.Started) (H:Type) (enc:TypeId × Value→H) :
  ReturnsInHanded {} Tryz.checked os 3 .any (fun w args=>(Rows.keysNextSpec.pre enc Tryz.prog Tryz.f3 [] false w args∧laidMetH Tryz.prog laidL w)∧sizedMet enc Tryz.prog Tryz.f3 (OpenSpec.ofChange Rows.keysNextSpec) false w args)
   (Rows.keysNextSpec.post enc Tryz.prog Tryz.f3 false true false false):=by
 refine returnsInHanded_of_change_and (C:=Tryz.checked) (X:=fun w _=>laidMetH Tryz.prog laidL w) (fun _ _ _ hh h=>h.of_heap hh) own started (by kernel_rfl) Tryz.func3
  (ChangeSpec.witness_shaped (enc:=enc) (C:=Tryz.checked) (os:=os) (X:=fun w _=>laidMetH Tryz.prog laidL w) false (World.doorLaid Tryz.prog 400 os) #[.slice none 0 0,.int .i64 0,.int .i64 0,.slice none 0 0] 8 rfl (World.shaped_of_RefB (by kernel_rfl) (by kernel_rfl)) (by kernel_rfl) (by kernel_rfl) (by kernel_rfl) (door_met os _)) ?_
 intro W base args ds gs before hval0 hW _ _ hL _;have hval:∀ (j:Nat) t v,Tryz.f3.params[j]?=some t→args[j]?=some v→Value.okWide Tryz.prog W .any base t v:=hval0;have hW':=hW;obtain ⟨p,q,hA0,hV,rfl,hfz,hnd⟩:=hW;have hA:DataW.TrodAll enc Tryz.prog W 0 (fun _=>true) true Tryz.f3.params.toList args.toList ds p:=hA0;rw [Tryz.params3] at hA hval;have hG:=tab_of_laid hL;obtain ⟨v0,v1,v2,v3,y0,y1,y2,y3,p0,p1,p2,p3,rfl,rfl,rfl,h0,h1,h2,h3⟩:=trodAll_four hA;obtain ⟨rfl,rfl⟩:=trodVars_none hV;have h0k:=h0;have h3k:=h3;obtain ⟨l,A,c,rfl,hr,hrg⟩:=open_keys_arg (hval 0 22 v0 rfl rfl) h0;obtain ⟨n1,rfl,rfl,rfl,hw1⟩:=open_int Tryz.underlying3 (hval 1 3 v1 rfl rfl) h1;obtain ⟨n2,rfl,rfl,rfl,hw2⟩:=open_int Tryz.underlying3 (hval 2 3 v2 rfl rfl) h2;obtain ⟨l1,A1,c1,rfl,rm1,qm1,okm1⟩:=open_bytes_cap (hval 3 23 v3 rfl rfl) h3;clear hA0 hval0;simp only [List.append_nil] at hW';refine (keysNext_any l hrg n1 n2 (qer hw2) l1 A A1 c c1 W hr rm1 qm1 okm1 hG).mono fun e W' ⟨he,hb⟩=>?_;subst he;have hlt0:∀ x ∈ p0,x.block<W.heap.size:=fun x hx=>hW'.lt x (by simp [hx]);have hlt3:∀ x ∈ p3,x.block<W.heap.size:=fun x hx=>hW'.lt x (by simp [hx])
 exact ⟨_,rfl,post_of_below (pa:=p0++p3) (pv:=[]) (by simpa using hW') (fun _ _ _=>trodAll_mk1 (shut_bool Tryz.underlying4 _))
  (fun sp hsp=>by
   have h:=trodAll_mk4 (stays laidOut (by kernel_rfl) (of_decide_eq_true (by kernel_rfl)) h0k hb hlt0 (fun x hx=>hsp x (by simp [hx]))) (shut_int Tryz.underlying3 hw1) (shut_int Tryz.underlying3 hw2)
    (stays laidOut (by kernel_rfl) (of_decide_eq_true (by kernel_rfl)) h3k hb hlt3 (fun x hx=>hsp x (by simp [hx])))
   simp only [List.nil_append] at h
   exact h)
  (fun _ _=>by rfl) (by simp) hb (ok_one (by kernel_rfl) rfl (okWide_bool_mk Tryz.underlying4 _))⟩
theorem row_holds:Rows.KeysNextSaid :=
 OpenClaim.holds_of_wide 3 Tryz.f3 rfl rfl rfl rfl rfl rfl rfl ⟨rfl,rfl,rfl,rfl,rfl⟩ rfl rfl rfl rfl rfl (by kernel_rfl) Tryz.func3 (by kernel_rfl)
  (of_decide_eq_true (by kernel_rfl)) (by unfold Func.isWrapper; first | (rw [if_pos (by decide +kernel)]; kernel_rfl) | (rw [if_neg (by decide +kernel)]; exact ⟨rfl,rfl⟩))
  (fun os started H enc _=>lifted os started H enc)
theorem holds:Rows.KeysNextCardSaid :=
 Claim7.holds_tied_plain_at .later [] [.data] true (true, "0a14b84a8469a56d708c0e747c7eccf4dc36af1cf25f5e1ca49cced2b6b16f70") false
  row_holds (fun _ h=>by cases h) (by kernel_rfl) (fun _ h=>by cases h) keysNext_row_tie rfl ⟨rfl,rfl⟩ (by kernel_rfl) rfl
  (fun f fn hf hfn=>by
   obtain rfl:f=3:=Option.some.inj ((show Tryz.prog.funcNamed "brevet/brevetlaw19.KeysNext" = some 3 by kernel_rfl).symm.trans hf) |>.symm;obtain rfl:fn=Tryz.f3:=(Option.some.inj (Tryz.func3.symm.trans hfn)).symm
   exact ⟨by kernel_rfl,fun j t ht=>by
    rw [Tryz.params3] at ht;have hm:t ∈ [22,3,3,23]:=by simpa using Array.mem_of_getElem? ht
    have hall:([22,3,3,23].all fun u=>!Tryz.prog.wantsStandIn u)=true:=by kernel_rfl
    exact (show Tryz.prog.wantsStandIn t=false by simpa using List.all_eq_true.1 hall t hm)⟩)
  (by kernel_rfl)
#print axioms holds
end Go.Proofs.YtcbkaaodmjphdaaGreatDoor.keysNext
