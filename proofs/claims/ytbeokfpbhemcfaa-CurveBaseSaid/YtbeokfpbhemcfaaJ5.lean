/-
  Joined texts: SumP.
-/
import Derived.Test.YtbeokfpbhemcfaaJ4
/-
  Walk: the sum of two points.
-/
namespace Go.Proofs.Ytbeokfpbhemcfaa
set_option linter.unusedSimpArgs false
set_option linter.unusedVariables false
open Go.RowKit

set_option maxRecDepth 100000 in
set_option maxHeartbeats 8000000 in
theorem sum_any (p q : Pt4) (tw : E5) (w : World) (hkp : p.Ok) (hkq : q.Ok) (hkw : tw.Ok) : Calls Try.prog 33 #[.agg (ptV p), .agg (ptV q), .agg (eV tw)] w (PtPost (sumP p q tw) w) := by
  have hu := Try.underlying26
  have hp := Try.underlying28
  have KP := Lib.hid hkp
  have KQ := Lib.hid hkq
  have KW := Lib.hid hkw
  obtain ⟨w0, hw0⟩ : ∃ w0, w0 = (((w.alloc (.cells (ptV p) 28)).alloc (.cells (ptV q) 28)).alloc (.cells (eV tw) 26)).alloc (.cells (ptV zP) 28) := ⟨_, rfl⟩
  have hst : Cs [.box w.heap.size 28 (ptV p), .box (w.heap.size + 1) 28 (ptV q), .box (w.heap.size + 1 + 1) 26 (eV tw), .box (w.heap.size + 1 + 1 + 1) 28 (ptV zP)] w w0 := by
    rw [hw0]
    exact ⟨⟨(((Blk.new _ _ _).alloc _).alloc _).alloc _, ((Blk.newAt (by simp)).alloc _).alloc _, (Blk.newAt (by simp)).alloc _, Blk.newAt (by simp), trivial⟩, (((below_new _ _).alloc (by simp) _).alloc (by simp; try omega) _).alloc (by simp; try omega) _⟩
  have HLR := Lib.hid (show w.heap.size ≤ w.heap.size + 1 + 1 + 1 by omega)
  clear hkp hkq hkw
  have HW := Lib.hid hw0
  have HST0 := Lib.hid hst
  clear hw0 hst
  go_enter Try.func33, Try.ntmps33
  go_wp2_with fail
  show Code.wp Try.prog _ _ _ ((((w.alloc (.cells (ptV p) _)).alloc (.cells (ptV q) _)).alloc (.cells (eV tw) _)).alloc (.cells (ptV zP) _))
  rw [← HW.out]
  generalize w.heap.size + 1 + 1 + 1 = r at *
  generalize w.heap.size + 1 + 1 = gw at *
  generalize w.heap.size + 1 = gq at *
  generalize hgp : w.heap.size = gp at HST0 ⊢
  clear HW hgp
  have HC0 : Below w0.heap.size w0 w0.drew := (Below.refl _ _).drew
  refine wp_region_list (fun u => Below w0.heap.size w0 u) (fun | false => (fun _ => True) | true => (fun _ => True)) (fun | false, _ => false | true, _ => false)
    [fun z _ => z 0 = .pointer (some ⟨gp, 5, none⟩),
     fun z _ => z 1 = .agg (eV (p.y)),
     fun z _ => z 2 = .pointer (some ⟨gp, 0, none⟩),
     fun z _ => z 3 = .agg (eV (p.x)),
     fun z _ => z 4 = .agg (eV (subE (p.y) (p.x))),
     fun z _ => z 5 = .pointer (some ⟨gq, 5, none⟩),
     fun z _ => z 6 = .agg (eV (q.y)),
     fun z _ => z 7 = .pointer (some ⟨gq, 0, none⟩),
     fun z _ => z 8 = .agg (eV (q.x)),
     fun z _ => z 9 = .agg (eV (subE (q.y) (q.x))),
     fun z _ => z 10 = .agg (eV (mulE (subE (p.y) (p.x)) (subE (q.y) (q.x)))),
     fun z u => (NewBox w0.heap.size 26 (eV zE)) (z 11) u,
     fun z u => NewBox w0.heap.size 26 (eV (mulE (subE (p.y) (p.x)) (subE (q.y) (q.x)))) (z 11) u]
    [Eq, Eq, Eq, Eq, fun u u' => Below u.heap.size u u', Eq, Eq, Eq, Eq, fun u u' => Below u.heap.size u u', fun u u' => Below u.heap.size u u', fun u u' => Below u.heap.size u u', fun _ _ => True]
    (fun i k => (i == 12 && k == 11)) [(0, some 15), (1, some 16), (2, some 17), (3, some 18), (4, some 19), (5, some 20), (6, some 21), (7, some 22), (8, some 23), (9, some 24), (10, some 25), (11, some 7), (12, none)] (by kernel_rfl) (by kernel_rfl) rfl (fun _ => rfl) ?_ ?_ ?_ ?_ ?_ ?_
  · exact HC0
  · intro m; cases m; exact trivial; exact trivial
  · intro m; cases m
    · exact ⟨.inr (fun _ _ h h0 => h ▸ h0), .inr (fun _ _ h h0 => h ▸ h0), .inr (fun _ _ h h0 => h ▸ h0), .inr (fun _ _ h h0 => h ▸ h0), .inr (fun _ _ _ h => h), .inr (fun _ _ h h0 => h ▸ h0), .inr (fun _ _ h h0 => h ▸ h0), .inr (fun _ _ h h0 => h ▸ h0), .inr (fun _ _ h h0 => h ▸ h0), .inr (fun _ _ _ h => h), .inr (fun _ _ _ h => h), .inr (fun _ _ _ h => h), .inr (fun _ _ _ h => h), trivial⟩
    · exact ⟨.inr (fun _ _ h h0 => h ▸ h0), .inr (fun _ _ h h0 => h ▸ h0), .inr (fun _ _ h h0 => h ▸ h0), .inr (fun _ _ h h0 => h ▸ h0), .inr (fun _ _ _ h => h), .inr (fun _ _ h h0 => h ▸ h0), .inr (fun _ _ h h0 => h ▸ h0), .inr (fun _ _ h h0 => h ▸ h0), .inr (fun _ _ h h0 => h ▸ h0), .inr (fun _ _ _ h => h), .inr (fun _ _ _ h => h), .inr (fun _ _ _ h => h), .inr (fun _ _ _ h => h), trivial⟩
  · exact ⟨⟨.inl rfl, .inr (.inr (.inl rfl)), .inr (.inr (.inr (fun _ _ _ _ _ h => h))), .inr (.inr (.inr (fun _ _ _ _ _ h => h))), .inr (.inr (.inl rfl)), .inr (.inr (.inr (fun _ _ _ _ _ h => h))), .inr (.inr (.inr (fun _ _ _ _ _ h => h))), .inr (.inr (.inr (fun _ _ _ _ _ h => h))), .inr (.inr (.inr (fun _ _ _ _ _ h => h))), .inr (.inr (.inl rfl)), .inr (.inr (.inl rfl)), .inr (.inr (.inr (fun _ _ _ _ h h0 => by cases h; exact h0))), .inr (.inr (.inl rfl)), trivial⟩,
      ⟨.inr (.inr (.inr (fun _ _ _ _ _ h => h))), .inl rfl, .inr (.inr (.inr (fun _ _ _ _ _ h => h))), .inr (.inr (.inr (fun _ _ _ _ _ h => h))), .inr (.inr (.inl rfl)), .inr (.inr (.inr (fun _ _ _ _ _ h => h))), .inr (.inr (.inr (fun _ _ _ _ _ h => h))), .inr (.inr (.inr (fun _ _ _ _ _ h => h))), .inr (.inr (.inr (fun _ _ _ _ _ h => h))), .inr (.inr (.inl rfl)), .inr (.inr (.inl rfl)), .inr (.inr (.inr (fun _ _ _ _ h h0 => by cases h; exact h0))), .inr (.inr (.inl rfl)), trivial⟩,
      ⟨.inr (.inr (.inr (fun _ _ _ _ _ h => h))), .inr (.inr (.inr (fun _ _ _ _ _ h => h))), .inl rfl, .inr (.inr (.inl rfl)), .inr (.inr (.inl rfl)), .inr (.inr (.inr (fun _ _ _ _ _ h => h))), .inr (.inr (.inr (fun _ _ _ _ _ h => h))), .inr (.inr (.inr (fun _ _ _ _ _ h => h))), .inr (.inr (.inr (fun _ _ _ _ _ h => h))), .inr (.inr (.inl rfl)), .inr (.inr (.inl rfl)), .inr (.inr (.inr (fun _ _ _ _ h h0 => by cases h; exact h0))), .inr (.inr (.inl rfl)), trivial⟩,
      ⟨.inr (.inr (.inr (fun _ _ _ _ _ h => h))), .inr (.inr (.inr (fun _ _ _ _ _ h => h))), .inr (.inr (.inr (fun _ _ _ _ _ h => h))), .inl rfl, .inr (.inr (.inl rfl)), .inr (.inr (.inr (fun _ _ _ _ _ h => h))), .inr (.inr (.inr (fun _ _ _ _ _ h => h))), .inr (.inr (.inr (fun _ _ _ _ _ h => h))), .inr (.inr (.inr (fun _ _ _ _ _ h => h))), .inr (.inr (.inl rfl)), .inr (.inr (.inl rfl)), .inr (.inr (.inr (fun _ _ _ _ h h0 => by cases h; exact h0))), .inr (.inr (.inl rfl)), trivial⟩,
      ⟨.inr (.inr (.inr (fun _ _ _ _ _ h => h))), .inr (.inr (.inr (fun _ _ _ _ _ h => h))), .inr (.inr (.inr (fun _ _ _ _ _ h => h))), .inr (.inr (.inr (fun _ _ _ _ _ h => h))), .inl rfl, .inr (.inr (.inr (fun _ _ _ _ _ h => h))), .inr (.inr (.inr (fun _ _ _ _ _ h => h))), .inr (.inr (.inr (fun _ _ _ _ _ h => h))), .inr (.inr (.inr (fun _ _ _ _ _ h => h))), .inr (.inr (.inl rfl)), .inr (.inr (.inl rfl)), .inr (.inr (.inr (fun _ _ _ _ h h0 => h0.next h))), .inr (.inr (.inl rfl)), trivial⟩,
      ⟨.inr (.inr (.inr (fun _ _ _ _ _ h => h))), .inr (.inr (.inr (fun _ _ _ _ _ h => h))), .inr (.inr (.inr (fun _ _ _ _ _ h => h))), .inr (.inr (.inr (fun _ _ _ _ _ h => h))), .inr (.inr (.inr (fun _ _ _ _ _ h => h))), .inl rfl, .inr (.inr (.inl rfl)), .inr (.inr (.inr (fun _ _ _ _ _ h => h))), .inr (.inr (.inr (fun _ _ _ _ _ h => h))), .inr (.inr (.inl rfl)), .inr (.inr (.inl rfl)), .inr (.inr (.inr (fun _ _ _ _ h h0 => by cases h; exact h0))), .inr (.inr (.inl rfl)), trivial⟩,
      ⟨.inr (.inr (.inr (fun _ _ _ _ _ h => h))), .inr (.inr (.inr (fun _ _ _ _ _ h => h))), .inr (.inr (.inr (fun _ _ _ _ _ h => h))), .inr (.inr (.inr (fun _ _ _ _ _ h => h))), .inr (.inr (.inr (fun _ _ _ _ _ h => h))), .inr (.inr (.inr (fun _ _ _ _ _ h => h))), .inl rfl, .inr (.inr (.inr (fun _ _ _ _ _ h => h))), .inr (.inr (.inr (fun _ _ _ _ _ h => h))), .inr (.inr (.inl rfl)), .inr (.inr (.inl rfl)), .inr (.inr (.inr (fun _ _ _ _ h h0 => by cases h; exact h0))), .inr (.inr (.inl rfl)), trivial⟩,
      ⟨.inr (.inr (.inr (fun _ _ _ _ _ h => h))), .inr (.inr (.inr (fun _ _ _ _ _ h => h))), .inr (.inr (.inr (fun _ _ _ _ _ h => h))), .inr (.inr (.inr (fun _ _ _ _ _ h => h))), .inr (.inr (.inr (fun _ _ _ _ _ h => h))), .inr (.inr (.inr (fun _ _ _ _ _ h => h))), .inr (.inr (.inr (fun _ _ _ _ _ h => h))), .inl rfl, .inr (.inr (.inl rfl)), .inr (.inr (.inl rfl)), .inr (.inr (.inl rfl)), .inr (.inr (.inr (fun _ _ _ _ h h0 => by cases h; exact h0))), .inr (.inr (.inl rfl)), trivial⟩,
      ⟨.inr (.inr (.inr (fun _ _ _ _ _ h => h))), .inr (.inr (.inr (fun _ _ _ _ _ h => h))), .inr (.inr (.inr (fun _ _ _ _ _ h => h))), .inr (.inr (.inr (fun _ _ _ _ _ h => h))), .inr (.inr (.inr (fun _ _ _ _ _ h => h))), .inr (.inr (.inr (fun _ _ _ _ _ h => h))), .inr (.inr (.inr (fun _ _ _ _ _ h => h))), .inr (.inr (.inr (fun _ _ _ _ _ h => h))), .inl rfl, .inr (.inr (.inl rfl)), .inr (.inr (.inl rfl)), .inr (.inr (.inr (fun _ _ _ _ h h0 => by cases h; exact h0))), .inr (.inr (.inl rfl)), trivial⟩,
      ⟨.inr (.inr (.inr (fun _ _ _ _ _ h => h))), .inr (.inr (.inr (fun _ _ _ _ _ h => h))), .inr (.inr (.inr (fun _ _ _ _ _ h => h))), .inr (.inr (.inr (fun _ _ _ _ _ h => h))), .inr (.inr (.inr (fun _ _ _ _ _ h => h))), .inr (.inr (.inr (fun _ _ _ _ _ h => h))), .inr (.inr (.inr (fun _ _ _ _ _ h => h))), .inr (.inr (.inr (fun _ _ _ _ _ h => h))), .inr (.inr (.inr (fun _ _ _ _ _ h => h))), .inl rfl, .inr (.inr (.inl rfl)), .inr (.inr (.inr (fun _ _ _ _ h h0 => h0.next h))), .inr (.inr (.inl rfl)), trivial⟩,
      ⟨.inr (.inr (.inr (fun _ _ _ _ _ h => h))), .inr (.inr (.inr (fun _ _ _ _ _ h => h))), .inr (.inr (.inr (fun _ _ _ _ _ h => h))), .inr (.inr (.inr (fun _ _ _ _ _ h => h))), .inr (.inr (.inr (fun _ _ _ _ _ h => h))), .inr (.inr (.inr (fun _ _ _ _ _ h => h))), .inr (.inr (.inr (fun _ _ _ _ _ h => h))), .inr (.inr (.inr (fun _ _ _ _ _ h => h))), .inr (.inr (.inr (fun _ _ _ _ _ h => h))), .inr (.inr (.inr (fun _ _ _ _ _ h => h))), .inl rfl, .inr (.inr (.inr (fun _ _ _ _ h h0 => h0.next h))), .inr (.inr (.inl rfl)), trivial⟩,
      ⟨.inr (.inr (.inr (fun _ _ _ _ _ h => h))), .inr (.inr (.inr (fun _ _ _ _ _ h => h))), .inr (.inr (.inr (fun _ _ _ _ _ h => h))), .inr (.inr (.inr (fun _ _ _ _ _ h => h))), .inr (.inr (.inr (fun _ _ _ _ _ h => h))), .inr (.inr (.inr (fun _ _ _ _ _ h => h))), .inr (.inr (.inr (fun _ _ _ _ _ h => h))), .inr (.inr (.inr (fun _ _ _ _ _ h => h))), .inr (.inr (.inr (fun _ _ _ _ _ h => h))), .inr (.inr (.inr (fun _ _ _ _ _ h => h))), .inr (.inr (.inr (fun _ _ _ _ _ h => h))), .inl rfl, .inr (.inr (.inl rfl)), trivial⟩,
      ⟨.inr (.inr (.inr (fun _ _ _ _ _ h => h))), .inr (.inr (.inr (fun _ _ _ _ _ h => h))), .inr (.inr (.inr (fun _ _ _ _ _ h => h))), .inr (.inr (.inr (fun _ _ _ _ _ h => h))), .inr (.inr (.inr (fun _ _ _ _ _ h => h))), .inr (.inr (.inr (fun _ _ _ _ _ h => h))), .inr (.inr (.inr (fun _ _ _ _ _ h => h))), .inr (.inr (.inr (fun _ _ _ _ _ h => h))), .inr (.inr (.inr (fun _ _ _ _ _ h => h))), .inr (.inr (.inr (fun _ _ _ _ _ h => h))), .inr (.inr (.inr (fun _ _ _ _ _ h => h))), .inr (.inl rfl), .inl rfl, trivial⟩, trivial⟩
  · refine ⟨?_, ?_, ?_, ?_, ?_, ?_, ?_, ?_, ?_, ?_, ?_, ?_, ?_, trivial⟩
    · -- 0: Op.fieldAddr 28 (Operand.tmp 3) 1
      refine step_plain [] (fun _ => rfl) rfl ?_
      intro w1 vals hC1 hi0 hf E hE
      clear hi0
      clear hf
      simp only [puts, act_put, act_put_none, List.setIfInBounds_toArray, List.set_cons_zero, List.set_cons_succ] at hE ⊢
      go_wp2
      exact .mk (hE _ _ rfl hC1 rfl)
    · -- 1: Op.load 26 (Operand.tmp 15)
      refine step_plain [(0, some 15)] (fun _ => rfl) rfl ?_
      intro w1 vals hC1 hi0 hf E hE
      clear hi0
      have f0 : vals 0 = .pointer (some ⟨gp, 5, none⟩) := hf 0 rfl
      try dsimp only at f0
      clear hf
      have hs := HST0.out.next hC1
      simp only [puts, act_put, act_put_none, List.setIfInBounds_toArray, List.set_cons_zero, List.set_cons_succ, f0] at hE ⊢
      clear f0
      refine wpList_get_part (n := 5) (r := eV (p.y)) (hs.1.1) (by rw [ptV_size]; decide) rfl rfl rfl rfl hu rfl elem_size ?_
      go_wp2_with fail
      exact .mk (hE _ _ rfl hC1 rfl)
    · -- 2: Op.fieldAddr 28 (Operand.tmp 3) 0
      refine step_plain [] (fun _ => rfl) rfl ?_
      intro w1 vals hC1 hi0 hf E hE
      clear hi0
      clear hf
      simp only [puts, act_put, act_put_none, List.setIfInBounds_toArray, List.set_cons_zero, List.set_cons_succ] at hE ⊢
      go_wp2
      exact .mk (hE _ _ rfl hC1 rfl)
    · -- 3: Op.load 26 (Operand.tmp 17)
      refine step_plain [(2, some 17)] (fun _ => rfl) rfl ?_
      intro w1 vals hC1 hi0 hf E hE
      clear hi0
      have f2 : vals 2 = .pointer (some ⟨gp, 0, none⟩) := hf 2 rfl
      try dsimp only at f2
      clear hf
      have hs := HST0.out.next hC1
      simp only [puts, act_put, act_put_none, List.setIfInBounds_toArray, List.set_cons_zero, List.set_cons_succ, f2] at hE ⊢
      clear f2
      refine wpList_get_part (n := 5) (r := eV (p.x)) (hs.1.1) (by rw [ptV_size]; decide) rfl rfl rfl rfl hu rfl elem_size ?_
      go_wp2_with fail
      exact .mk (hE _ _ rfl hC1 rfl)
    · -- 4: Op.call { callee := Callee.value (Operand.func 48), args := #[Operand.tmp 16, Operand.tmp 18], argTypes := #[2
      refine step_plain [(1, some 16), (3, some 18)] (fun _ => rfl) rfl ?_
      intro w1 vals hC1 hi0 hf E hE
      clear hi0
      have f1 : vals 1 = .agg (eV (p.y)) := hf 1 rfl
      have f3 : vals 3 = .agg (eV (p.x)) := hf 3 rfl
      try dsimp only at f1 f3
      clear hf
      simp only [puts, act_put, act_put_none, List.setIfInBounds_toArray, List.set_cons_zero, List.set_cons_succ, f1, f3] at hE ⊢
      clear f1 f3
      go_wp2_with fail
      refine calls_then (sub_c _ _ _ (KP.out.y) (KP.out.x)) ?_
      rintro e w2 ⟨rfl, hb2⟩
      go_wp2_with fail
      exact .mk (hE _ _ rfl (hC1.trans (hb2.mono hC1.size)) hb2)
    · -- 5: Op.fieldAddr 28 (Operand.tmp 4) 1
      refine step_plain [] (fun _ => rfl) rfl ?_
      intro w1 vals hC1 hi0 hf E hE
      clear hi0
      clear hf
      simp only [puts, act_put, act_put_none, List.setIfInBounds_toArray, List.set_cons_zero, List.set_cons_succ] at hE ⊢
      go_wp2
      exact .mk (hE _ _ rfl hC1 rfl)
    · -- 6: Op.load 26 (Operand.tmp 20)
      refine step_plain [(5, some 20)] (fun _ => rfl) rfl ?_
      intro w1 vals hC1 hi0 hf E hE
      clear hi0
      have f5 : vals 5 = .pointer (some ⟨gq, 5, none⟩) := hf 5 rfl
      try dsimp only at f5
      clear hf
      have hs := HST0.out.next hC1
      simp only [puts, act_put, act_put_none, List.setIfInBounds_toArray, List.set_cons_zero, List.set_cons_succ, f5] at hE ⊢
      clear f5
      refine wpList_get_part (n := 5) (r := eV (q.y)) (hs.1.2.1) (by rw [ptV_size]; decide) rfl rfl rfl rfl hu rfl elem_size ?_
      go_wp2_with fail
      exact .mk (hE _ _ rfl hC1 rfl)
    · -- 7: Op.fieldAddr 28 (Operand.tmp 4) 0
      refine step_plain [] (fun _ => rfl) rfl ?_
      intro w1 vals hC1 hi0 hf E hE
      clear hi0
      clear hf
      simp only [puts, act_put, act_put_none, List.setIfInBounds_toArray, List.set_cons_zero, List.set_cons_succ] at hE ⊢
      go_wp2
      exact .mk (hE _ _ rfl hC1 rfl)
    · -- 8: Op.load 26 (Operand.tmp 22)
      refine step_plain [(7, some 22)] (fun _ => rfl) rfl ?_
      intro w1 vals hC1 hi0 hf E hE
      clear hi0
      have f7 : vals 7 = .pointer (some ⟨gq, 0, none⟩) := hf 7 rfl
      try dsimp only at f7
      clear hf
      have hs := HST0.out.next hC1
      simp only [puts, act_put, act_put_none, List.setIfInBounds_toArray, List.set_cons_zero, List.set_cons_succ, f7] at hE ⊢
      clear f7
      refine wpList_get_part (n := 5) (r := eV (q.x)) (hs.1.2.1) (by rw [ptV_size]; decide) rfl rfl rfl rfl hu rfl elem_size ?_
      go_wp2_with fail
      exact .mk (hE _ _ rfl hC1 rfl)
    · -- 9: Op.call { callee := Callee.value (Operand.func 48), args := #[Operand.tmp 21, Operand.tmp 23], argTypes := #[2
      refine step_plain [(6, some 21), (8, some 23), (4, some 19)] (fun _ => rfl) rfl ?_
      intro w1 vals hC1 hi0 hf E hE
      clear hi0
      have f4 : vals 4 = .agg (eV (subE (p.y) (p.x))) := hf 4 rfl
      have f6 : vals 6 = .agg (eV (q.y)) := hf 6 rfl
      have f8 : vals 8 = .agg (eV (q.x)) := hf 8 rfl
      try dsimp only at f4 f6 f8
      clear hf
      simp only [puts, act_put, act_put_none, List.setIfInBounds_toArray, List.set_cons_zero, List.set_cons_succ, f4, f6, f8] at hE ⊢
      clear f4 f6 f8
      go_wp2_with fail
      refine calls_then (sub_c _ _ _ (KQ.out.y) (KQ.out.x)) ?_
      rintro e w2 ⟨rfl, hb2⟩
      go_wp2_with fail
      exact .mk (hE _ _ rfl (hC1.trans (hb2.mono hC1.size)) hb2)
    · -- 10: Op.call { callee := Callee.value (Operand.func 38), args := #[Operand.tmp 19, Operand.tmp 24], argTypes := #[2
      refine step_plain [(4, some 19), (9, some 24), (9, some 24)] (fun _ => rfl) rfl ?_
      intro w1 vals hC1 hi0 hf E hE
      clear hi0
      have f4 : vals 4 = .agg (eV (subE (p.y) (p.x))) := hf 4 rfl
      have f9 : vals 9 = .agg (eV (subE (q.y) (q.x))) := hf 9 rfl
      try dsimp only at f4 f9
      clear hf
      simp only [puts, act_put, act_put_none, List.setIfInBounds_toArray, List.set_cons_zero, List.set_cons_succ, f4, f9] at hE ⊢
      clear f4 f9
      go_wp2_with fail
      refine calls_then (mul_c _ _ _ (sub_ok (KP.out.y) (KP.out.x)) (sub_ok (KQ.out.y) (KQ.out.x))) ?_
      rintro e w2 ⟨rfl, hb2⟩
      go_wp2_with fail
      exact .mk (hE _ _ rfl (hC1.trans (hb2.mono hC1.size)) hb2)
    · -- 11: Op.alloc 26
      refine step_plain [] (fun _ => rfl) rfl ?_
      intro w1 vals hC1 hi0 hf E hE
      clear hi0
      clear hf
      simp only [puts, act_put, act_put_none, List.setIfInBounds_toArray, List.set_cons_zero, List.set_cons_succ] at hE ⊢
      go_wp2
      exact .mk (hE _ _ (NewBox.of hC1.size) (hC1.alloc hC1.size _) (below_new _ _))
    · -- 12: Op.store 26 (Operand.tmp 7) (Operand.tmp 25)
      refine step_plain [(11, some 7), (10, some 25), (10, some 25), (0, some 15), (1, some 16), (2, some 17), (3, some 18), (4, some 19), (5, some 20), (6, some 21), (7, some 22), (8, some 23), (9, some 24), (10, some 25), (11, some 7)] (fun _ => rfl) rfl ?_
      intro w1 vals hC1 hi0 hf E hE
      clear hi0
      have f0 : vals 0 = .pointer (some ⟨gp, 5, none⟩) := hf 0 rfl
      have f1 : vals 1 = .agg (eV (p.y)) := hf 1 rfl
      have f2 : vals 2 = .pointer (some ⟨gp, 0, none⟩) := hf 2 rfl
      have f3 : vals 3 = .agg (eV (p.x)) := hf 3 rfl
      have f4 : vals 4 = .agg (eV (subE (p.y) (p.x))) := hf 4 rfl
      have f5 : vals 5 = .pointer (some ⟨gq, 5, none⟩) := hf 5 rfl
      have f6 : vals 6 = .agg (eV (q.y)) := hf 6 rfl
      have f7 : vals 7 = .pointer (some ⟨gq, 0, none⟩) := hf 7 rfl
      have f8 : vals 8 = .agg (eV (q.x)) := hf 8 rfl
      have f9 : vals 9 = .agg (eV (subE (q.y) (q.x))) := hf 9 rfl
      have f10 : vals 10 = .agg (eV (mulE (subE (p.y) (p.x)) (subE (q.y) (q.x)))) := hf 10 rfl
      have f11 : (NewBox w0.heap.size 26 (eV zE)) (vals 11) w1 := hf 11 rfl
      try dsimp only at f0 f1 f2 f3 f4 f5 f6 f7 f8 f9 f10 f11
      clear hf
      obtain ⟨o, hx, ho, hblk⟩ := f11
      have hx' := hx
      simp only [puts, act_put, act_put_none, List.setIfInBounds_toArray, List.set_cons_zero, List.set_cons_succ, f0, f1, f2, f3, f4, f5, f6, f7, f8, f9, f10, hx] at hE ⊢
      clear f0 f1 f2 f3 f4 f5 f6 f7 f8 f9 f10
      clear hx
      refine wpList_put_box (cells := eV (mulE (subE (p.y) (p.x)) (subE (q.y) (q.x)))) hblk rfl rfl rfl rfl elem_size rfl (by simp [eV, ptV, wV, limbs, Value.oneCell']) ?_
      intro w2 hb2 hw2
      go_wp2_with fail
      exact .mk (hE undef _ ⟨o, hx', ho, hb2⟩ (hw2.below hC1 ho hC1.size) trivial)
  intro w1 vals hC1 hf
  have f0 : vals 0 = .pointer (some ⟨gp, 5, none⟩) := hf 0 (by decide) rfl
  have f1 : vals 1 = .agg (eV (p.y)) := hf 1 (by decide) rfl
  have f2 : vals 2 = .pointer (some ⟨gp, 0, none⟩) := hf 2 (by decide) rfl
  have f3 : vals 3 = .agg (eV (p.x)) := hf 3 (by decide) rfl
  have f4 : vals 4 = .agg (eV (subE (p.y) (p.x))) := hf 4 (by decide) rfl
  have f5 : vals 5 = .pointer (some ⟨gq, 5, none⟩) := hf 5 (by decide) rfl
  have f6 : vals 6 = .agg (eV (q.y)) := hf 6 (by decide) rfl
  have f7 : vals 7 = .pointer (some ⟨gq, 0, none⟩) := hf 7 (by decide) rfl
  have f8 : vals 8 = .agg (eV (q.x)) := hf 8 (by decide) rfl
  have f9 : vals 9 = .agg (eV (subE (q.y) (q.x))) := hf 9 (by decide) rfl
  have f10 : vals 10 = .agg (eV (mulE (subE (p.y) (p.x)) (subE (q.y) (q.x)))) := hf 10 (by decide) rfl
  have f12 : (fun z u => NewBox w0.heap.size 26 (eV (mulE (subE (p.y) (p.x)) (subE (q.y) (q.x)))) (z 11) u) vals w1 := hf 12 (by decide) rfl
  try dsimp only at f0 f1 f2 f3 f4 f5 f6 f7 f8 f9 f10 f12
  clear hf
  simp only [puts, act_put, act_put_none, List.setIfInBounds_toArray, List.set_cons_zero, List.set_cons_succ, f0, f1, f2, f3, f4, f5, f6, f7, f8, f9, f10]
  clear f0 f1 f2 f3 f4 f5 f6 f7 f8 f9 f10
  generalize vals 11 = x11 at *
  obtain ⟨o1, rfl, hlo1, hblk1⟩ := f12
  obtain ⟨a, ha⟩ : ∃ x, x = mulE (subE (p.y) (p.x)) (subE (q.y) (q.x)) := ⟨_, rfl⟩
  rw [← ha] at hblk1
  have Ka := Lib.hid (show a.Ok by rw [ha]; exact mul_ok (sub_ok (KP.out.y) (KP.out.x)) (sub_ok (KQ.out.y) (KQ.out.x)))
  have Ea := Lib.hid ha
  have HST1 := Lib.hid (show Cs (.box o1 26 (eV a) :: [.box gp 28 (ptV p), .box gq 28 (ptV q), .box gw 26 (eV tw), .box r 28 (ptV zP)]) w w1 from ⟨⟨hblk1, (HST0.out.next hC1).1⟩, (HST0.out.next hC1).2⟩)
  clear hC1 HC0 HST0 hblk1 hlo1 ha
  obtain ⟨v1, rfl⟩ : ∃ x, x = w1 := ⟨_, rfl⟩
  go_wp2_with fail
  have HC0 : Below v1.heap.size v1 v1.drew := (Below.refl _ _).drew
  refine wp_region_list (fun u => Below v1.heap.size v1 u) (fun | false => (fun _ => True) | true => (fun _ => True)) (fun | false, _ => false | true, _ => false)
    [fun z _ => z 0 = .pointer (some ⟨gp, 5, none⟩),
     fun z _ => z 1 = .agg (eV (p.y)),
     fun z _ => z 2 = .pointer (some ⟨gp, 0, none⟩),
     fun z _ => z 3 = .agg (eV (p.x)),
     fun z _ => z 4 = .agg (eV (addE (p.y) (p.x))),
     fun z _ => z 5 = .pointer (some ⟨gq, 5, none⟩),
     fun z _ => z 6 = .agg (eV (q.y)),
     fun z _ => z 7 = .pointer (some ⟨gq, 0, none⟩),
     fun z _ => z 8 = .agg (eV (q.x)),
     fun z _ => z 9 = .agg (eV (addE (q.y) (q.x))),
     fun z _ => z 10 = .agg (eV (mulE (addE (p.y) (p.x)) (addE (q.y) (q.x)))),
     fun z u => (NewBox v1.heap.size 26 (eV zE)) (z 11) u,
     fun z u => NewBox v1.heap.size 26 (eV (mulE (addE (p.y) (p.x)) (addE (q.y) (q.x)))) (z 11) u]
    [Eq, Eq, Eq, Eq, fun u u' => Below u.heap.size u u', Eq, Eq, Eq, Eq, fun u u' => Below u.heap.size u u', fun u u' => Below u.heap.size u u', fun u u' => Below u.heap.size u u', fun _ _ => True]
    (fun i k => (i == 12 && k == 11)) [(0, some 26), (1, some 27), (2, some 28), (3, some 29), (4, some 30), (5, some 31), (6, some 32), (7, some 33), (8, some 34), (9, some 35), (10, some 36), (11, some 8), (12, none)] (by kernel_rfl) (by kernel_rfl) rfl (fun _ => rfl) ?_ ?_ ?_ ?_ ?_ ?_
  · exact HC0
  · intro m; cases m; exact trivial; exact trivial
  · intro m; cases m
    · exact ⟨.inr (fun _ _ h h0 => h ▸ h0), .inr (fun _ _ h h0 => h ▸ h0), .inr (fun _ _ h h0 => h ▸ h0), .inr (fun _ _ h h0 => h ▸ h0), .inr (fun _ _ _ h => h), .inr (fun _ _ h h0 => h ▸ h0), .inr (fun _ _ h h0 => h ▸ h0), .inr (fun _ _ h h0 => h ▸ h0), .inr (fun _ _ h h0 => h ▸ h0), .inr (fun _ _ _ h => h), .inr (fun _ _ _ h => h), .inr (fun _ _ _ h => h), .inr (fun _ _ _ h => h), trivial⟩
    · exact ⟨.inr (fun _ _ h h0 => h ▸ h0), .inr (fun _ _ h h0 => h ▸ h0), .inr (fun _ _ h h0 => h ▸ h0), .inr (fun _ _ h h0 => h ▸ h0), .inr (fun _ _ _ h => h), .inr (fun _ _ h h0 => h ▸ h0), .inr (fun _ _ h h0 => h ▸ h0), .inr (fun _ _ h h0 => h ▸ h0), .inr (fun _ _ h h0 => h ▸ h0), .inr (fun _ _ _ h => h), .inr (fun _ _ _ h => h), .inr (fun _ _ _ h => h), .inr (fun _ _ _ h => h), trivial⟩
  · exact ⟨⟨.inl rfl, .inr (.inr (.inl rfl)), .inr (.inr (.inr (fun _ _ _ _ _ h => h))), .inr (.inr (.inr (fun _ _ _ _ _ h => h))), .inr (.inr (.inl rfl)), .inr (.inr (.inr (fun _ _ _ _ _ h => h))), .inr (.inr (.inr (fun _ _ _ _ _ h => h))), .inr (.inr (.inr (fun _ _ _ _ _ h => h))), .inr (.inr (.inr (fun _ _ _ _ _ h => h))), .inr (.inr (.inl rfl)), .inr (.inr (.inl rfl)), .inr (.inr (.inr (fun _ _ _ _ h h0 => by cases h; exact h0))), .inr (.inr (.inl rfl)), trivial⟩,
      ⟨.inr (.inr (.inr (fun _ _ _ _ _ h => h))), .inl rfl, .inr (.inr (.inr (fun _ _ _ _ _ h => h))), .inr (.inr (.inr (fun _ _ _ _ _ h => h))), .inr (.inr (.inl rfl)), .inr (.inr (.inr (fun _ _ _ _ _ h => h))), .inr (.inr (.inr (fun _ _ _ _ _ h => h))), .inr (.inr (.inr (fun _ _ _ _ _ h => h))), .inr (.inr (.inr (fun _ _ _ _ _ h => h))), .inr (.inr (.inl rfl)), .inr (.inr (.inl rfl)), .inr (.inr (.inr (fun _ _ _ _ h h0 => by cases h; exact h0))), .inr (.inr (.inl rfl)), trivial⟩,
      ⟨.inr (.inr (.inr (fun _ _ _ _ _ h => h))), .inr (.inr (.inr (fun _ _ _ _ _ h => h))), .inl rfl, .inr (.inr (.inl rfl)), .inr (.inr (.inl rfl)), .inr (.inr (.inr (fun _ _ _ _ _ h => h))), .inr (.inr (.inr (fun _ _ _ _ _ h => h))), .inr (.inr (.inr (fun _ _ _ _ _ h => h))), .inr (.inr (.inr (fun _ _ _ _ _ h => h))), .inr (.inr (.inl rfl)), .inr (.inr (.inl rfl)), .inr (.inr (.inr (fun _ _ _ _ h h0 => by cases h; exact h0))), .inr (.inr (.inl rfl)), trivial⟩,
      ⟨.inr (.inr (.inr (fun _ _ _ _ _ h => h))), .inr (.inr (.inr (fun _ _ _ _ _ h => h))), .inr (.inr (.inr (fun _ _ _ _ _ h => h))), .inl rfl, .inr (.inr (.inl rfl)), .inr (.inr (.inr (fun _ _ _ _ _ h => h))), .inr (.inr (.inr (fun _ _ _ _ _ h => h))), .inr (.inr (.inr (fun _ _ _ _ _ h => h))), .inr (.inr (.inr (fun _ _ _ _ _ h => h))), .inr (.inr (.inl rfl)), .inr (.inr (.inl rfl)), .inr (.inr (.inr (fun _ _ _ _ h h0 => by cases h; exact h0))), .inr (.inr (.inl rfl)), trivial⟩,
      ⟨.inr (.inr (.inr (fun _ _ _ _ _ h => h))), .inr (.inr (.inr (fun _ _ _ _ _ h => h))), .inr (.inr (.inr (fun _ _ _ _ _ h => h))), .inr (.inr (.inr (fun _ _ _ _ _ h => h))), .inl rfl, .inr (.inr (.inr (fun _ _ _ _ _ h => h))), .inr (.inr (.inr (fun _ _ _ _ _ h => h))), .inr (.inr (.inr (fun _ _ _ _ _ h => h))), .inr (.inr (.inr (fun _ _ _ _ _ h => h))), .inr (.inr (.inl rfl)), .inr (.inr (.inl rfl)), .inr (.inr (.inr (fun _ _ _ _ h h0 => h0.next h))), .inr (.inr (.inl rfl)), trivial⟩,
      ⟨.inr (.inr (.inr (fun _ _ _ _ _ h => h))), .inr (.inr (.inr (fun _ _ _ _ _ h => h))), .inr (.inr (.inr (fun _ _ _ _ _ h => h))), .inr (.inr (.inr (fun _ _ _ _ _ h => h))), .inr (.inr (.inr (fun _ _ _ _ _ h => h))), .inl rfl, .inr (.inr (.inl rfl)), .inr (.inr (.inr (fun _ _ _ _ _ h => h))), .inr (.inr (.inr (fun _ _ _ _ _ h => h))), .inr (.inr (.inl rfl)), .inr (.inr (.inl rfl)), .inr (.inr (.inr (fun _ _ _ _ h h0 => by cases h; exact h0))), .inr (.inr (.inl rfl)), trivial⟩,
      ⟨.inr (.inr (.inr (fun _ _ _ _ _ h => h))), .inr (.inr (.inr (fun _ _ _ _ _ h => h))), .inr (.inr (.inr (fun _ _ _ _ _ h => h))), .inr (.inr (.inr (fun _ _ _ _ _ h => h))), .inr (.inr (.inr (fun _ _ _ _ _ h => h))), .inr (.inr (.inr (fun _ _ _ _ _ h => h))), .inl rfl, .inr (.inr (.inr (fun _ _ _ _ _ h => h))), .inr (.inr (.inr (fun _ _ _ _ _ h => h))), .inr (.inr (.inl rfl)), .inr (.inr (.inl rfl)), .inr (.inr (.inr (fun _ _ _ _ h h0 => by cases h; exact h0))), .inr (.inr (.inl rfl)), trivial⟩,
      ⟨.inr (.inr (.inr (fun _ _ _ _ _ h => h))), .inr (.inr (.inr (fun _ _ _ _ _ h => h))), .inr (.inr (.inr (fun _ _ _ _ _ h => h))), .inr (.inr (.inr (fun _ _ _ _ _ h => h))), .inr (.inr (.inr (fun _ _ _ _ _ h => h))), .inr (.inr (.inr (fun _ _ _ _ _ h => h))), .inr (.inr (.inr (fun _ _ _ _ _ h => h))), .inl rfl, .inr (.inr (.inl rfl)), .inr (.inr (.inl rfl)), .inr (.inr (.inl rfl)), .inr (.inr (.inr (fun _ _ _ _ h h0 => by cases h; exact h0))), .inr (.inr (.inl rfl)), trivial⟩,
      ⟨.inr (.inr (.inr (fun _ _ _ _ _ h => h))), .inr (.inr (.inr (fun _ _ _ _ _ h => h))), .inr (.inr (.inr (fun _ _ _ _ _ h => h))), .inr (.inr (.inr (fun _ _ _ _ _ h => h))), .inr (.inr (.inr (fun _ _ _ _ _ h => h))), .inr (.inr (.inr (fun _ _ _ _ _ h => h))), .inr (.inr (.inr (fun _ _ _ _ _ h => h))), .inr (.inr (.inr (fun _ _ _ _ _ h => h))), .inl rfl, .inr (.inr (.inl rfl)), .inr (.inr (.inl rfl)), .inr (.inr (.inr (fun _ _ _ _ h h0 => by cases h; exact h0))), .inr (.inr (.inl rfl)), trivial⟩,
      ⟨.inr (.inr (.inr (fun _ _ _ _ _ h => h))), .inr (.inr (.inr (fun _ _ _ _ _ h => h))), .inr (.inr (.inr (fun _ _ _ _ _ h => h))), .inr (.inr (.inr (fun _ _ _ _ _ h => h))), .inr (.inr (.inr (fun _ _ _ _ _ h => h))), .inr (.inr (.inr (fun _ _ _ _ _ h => h))), .inr (.inr (.inr (fun _ _ _ _ _ h => h))), .inr (.inr (.inr (fun _ _ _ _ _ h => h))), .inr (.inr (.inr (fun _ _ _ _ _ h => h))), .inl rfl, .inr (.inr (.inl rfl)), .inr (.inr (.inr (fun _ _ _ _ h h0 => h0.next h))), .inr (.inr (.inl rfl)), trivial⟩,
      ⟨.inr (.inr (.inr (fun _ _ _ _ _ h => h))), .inr (.inr (.inr (fun _ _ _ _ _ h => h))), .inr (.inr (.inr (fun _ _ _ _ _ h => h))), .inr (.inr (.inr (fun _ _ _ _ _ h => h))), .inr (.inr (.inr (fun _ _ _ _ _ h => h))), .inr (.inr (.inr (fun _ _ _ _ _ h => h))), .inr (.inr (.inr (fun _ _ _ _ _ h => h))), .inr (.inr (.inr (fun _ _ _ _ _ h => h))), .inr (.inr (.inr (fun _ _ _ _ _ h => h))), .inr (.inr (.inr (fun _ _ _ _ _ h => h))), .inl rfl, .inr (.inr (.inr (fun _ _ _ _ h h0 => h0.next h))), .inr (.inr (.inl rfl)), trivial⟩,
      ⟨.inr (.inr (.inr (fun _ _ _ _ _ h => h))), .inr (.inr (.inr (fun _ _ _ _ _ h => h))), .inr (.inr (.inr (fun _ _ _ _ _ h => h))), .inr (.inr (.inr (fun _ _ _ _ _ h => h))), .inr (.inr (.inr (fun _ _ _ _ _ h => h))), .inr (.inr (.inr (fun _ _ _ _ _ h => h))), .inr (.inr (.inr (fun _ _ _ _ _ h => h))), .inr (.inr (.inr (fun _ _ _ _ _ h => h))), .inr (.inr (.inr (fun _ _ _ _ _ h => h))), .inr (.inr (.inr (fun _ _ _ _ _ h => h))), .inr (.inr (.inr (fun _ _ _ _ _ h => h))), .inl rfl, .inr (.inr (.inl rfl)), trivial⟩,
      ⟨.inr (.inr (.inr (fun _ _ _ _ _ h => h))), .inr (.inr (.inr (fun _ _ _ _ _ h => h))), .inr (.inr (.inr (fun _ _ _ _ _ h => h))), .inr (.inr (.inr (fun _ _ _ _ _ h => h))), .inr (.inr (.inr (fun _ _ _ _ _ h => h))), .inr (.inr (.inr (fun _ _ _ _ _ h => h))), .inr (.inr (.inr (fun _ _ _ _ _ h => h))), .inr (.inr (.inr (fun _ _ _ _ _ h => h))), .inr (.inr (.inr (fun _ _ _ _ _ h => h))), .inr (.inr (.inr (fun _ _ _ _ _ h => h))), .inr (.inr (.inr (fun _ _ _ _ _ h => h))), .inr (.inl rfl), .inl rfl, trivial⟩, trivial⟩
  · refine ⟨?_, ?_, ?_, ?_, ?_, ?_, ?_, ?_, ?_, ?_, ?_, ?_, ?_, trivial⟩
    · -- 0: Op.fieldAddr 28 (Operand.tmp 3) 1
      refine step_plain [] (fun _ => rfl) rfl ?_
      intro w1 vals hC1 hi0 hf E hE
      clear hi0
      clear hf
      simp only [puts, act_put, act_put_none, List.setIfInBounds_toArray, List.set_cons_zero, List.set_cons_succ] at hE ⊢
      go_wp2
      exact .mk (hE _ _ rfl hC1 rfl)
    · -- 1: Op.load 26 (Operand.tmp 26)
      refine step_plain [(0, some 26)] (fun _ => rfl) rfl ?_
      intro w1 vals hC1 hi0 hf E hE
      clear hi0
      have f0 : vals 0 = .pointer (some ⟨gp, 5, none⟩) := hf 0 rfl
      try dsimp only at f0
      clear hf
      have hs := HST1.out.next hC1
      simp only [puts, act_put, act_put_none, List.setIfInBounds_toArray, List.set_cons_zero, List.set_cons_succ, f0] at hE ⊢
      clear f0
      refine wpList_get_part (n := 5) (r := eV (p.y)) (hs.1.2.1) (by rw [ptV_size]; decide) rfl rfl rfl rfl hu rfl elem_size ?_
      go_wp2_with fail
      exact .mk (hE _ _ rfl hC1 rfl)
    · -- 2: Op.fieldAddr 28 (Operand.tmp 3) 0
      refine step_plain [] (fun _ => rfl) rfl ?_
      intro w1 vals hC1 hi0 hf E hE
      clear hi0
      clear hf
      simp only [puts, act_put, act_put_none, List.setIfInBounds_toArray, List.set_cons_zero, List.set_cons_succ] at hE ⊢
      go_wp2
      exact .mk (hE _ _ rfl hC1 rfl)
    · -- 3: Op.load 26 (Operand.tmp 28)
      refine step_plain [(2, some 28)] (fun _ => rfl) rfl ?_
      intro w1 vals hC1 hi0 hf E hE
      clear hi0
      have f2 : vals 2 = .pointer (some ⟨gp, 0, none⟩) := hf 2 rfl
      try dsimp only at f2
      clear hf
      have hs := HST1.out.next hC1
      simp only [puts, act_put, act_put_none, List.setIfInBounds_toArray, List.set_cons_zero, List.set_cons_succ, f2] at hE ⊢
      clear f2
      refine wpList_get_part (n := 5) (r := eV (p.x)) (hs.1.2.1) (by rw [ptV_size]; decide) rfl rfl rfl rfl hu rfl elem_size ?_
      go_wp2_with fail
      exact .mk (hE _ _ rfl hC1 rfl)
    · -- 4: Op.call { callee := Callee.value (Operand.func 32), args := #[Operand.tmp 27, Operand.tmp 29], argTypes := #[2
      refine step_plain [(1, some 27), (3, some 29)] (fun _ => rfl) rfl ?_
      intro w1 vals hC1 hi0 hf E hE
      clear hi0
      have f1 : vals 1 = .agg (eV (p.y)) := hf 1 rfl
      have f3 : vals 3 = .agg (eV (p.x)) := hf 3 rfl
      try dsimp only at f1 f3
      clear hf
      simp only [puts, act_put, act_put_none, List.setIfInBounds_toArray, List.set_cons_zero, List.set_cons_succ, f1, f3] at hE ⊢
      clear f1 f3
      go_wp2_with fail
      refine calls_then (add_c _ _ _ (KP.out.y) (KP.out.x)) ?_
      rintro e w2 ⟨rfl, hb2⟩
      go_wp2_with fail
      exact .mk (hE _ _ rfl (hC1.trans (hb2.mono hC1.size)) hb2)
    · -- 5: Op.fieldAddr 28 (Operand.tmp 4) 1
      refine step_plain [] (fun _ => rfl) rfl ?_
      intro w1 vals hC1 hi0 hf E hE
      clear hi0
      clear hf
      simp only [puts, act_put, act_put_none, List.setIfInBounds_toArray, List.set_cons_zero, List.set_cons_succ] at hE ⊢
      go_wp2
      exact .mk (hE _ _ rfl hC1 rfl)
    · -- 6: Op.load 26 (Operand.tmp 31)
      refine step_plain [(5, some 31)] (fun _ => rfl) rfl ?_
      intro w1 vals hC1 hi0 hf E hE
      clear hi0
      have f5 : vals 5 = .pointer (some ⟨gq, 5, none⟩) := hf 5 rfl
      try dsimp only at f5
      clear hf
      have hs := HST1.out.next hC1
      simp only [puts, act_put, act_put_none, List.setIfInBounds_toArray, List.set_cons_zero, List.set_cons_succ, f5] at hE ⊢
      clear f5
      refine wpList_get_part (n := 5) (r := eV (q.y)) (hs.1.2.2.1) (by rw [ptV_size]; decide) rfl rfl rfl rfl hu rfl elem_size ?_
      go_wp2_with fail
      exact .mk (hE _ _ rfl hC1 rfl)
    · -- 7: Op.fieldAddr 28 (Operand.tmp 4) 0
      refine step_plain [] (fun _ => rfl) rfl ?_
      intro w1 vals hC1 hi0 hf E hE
      clear hi0
      clear hf
      simp only [puts, act_put, act_put_none, List.setIfInBounds_toArray, List.set_cons_zero, List.set_cons_succ] at hE ⊢
      go_wp2
      exact .mk (hE _ _ rfl hC1 rfl)
    · -- 8: Op.load 26 (Operand.tmp 33)
      refine step_plain [(7, some 33)] (fun _ => rfl) rfl ?_
      intro w1 vals hC1 hi0 hf E hE
      clear hi0
      have f7 : vals 7 = .pointer (some ⟨gq, 0, none⟩) := hf 7 rfl
      try dsimp only at f7
      clear hf
      have hs := HST1.out.next hC1
      simp only [puts, act_put, act_put_none, List.setIfInBounds_toArray, List.set_cons_zero, List.set_cons_succ, f7] at hE ⊢
      clear f7
      refine wpList_get_part (n := 5) (r := eV (q.x)) (hs.1.2.2.1) (by rw [ptV_size]; decide) rfl rfl rfl rfl hu rfl elem_size ?_
      go_wp2_with fail
      exact .mk (hE _ _ rfl hC1 rfl)
    · -- 9: Op.call { callee := Callee.value (Operand.func 32), args := #[Operand.tmp 32, Operand.tmp 34], argTypes := #[2
      refine step_plain [(6, some 32), (8, some 34), (4, some 30)] (fun _ => rfl) rfl ?_
      intro w1 vals hC1 hi0 hf E hE
      clear hi0
      have f4 : vals 4 = .agg (eV (addE (p.y) (p.x))) := hf 4 rfl
      have f6 : vals 6 = .agg (eV (q.y)) := hf 6 rfl
      have f8 : vals 8 = .agg (eV (q.x)) := hf 8 rfl
      try dsimp only at f4 f6 f8
      clear hf
      simp only [puts, act_put, act_put_none, List.setIfInBounds_toArray, List.set_cons_zero, List.set_cons_succ, f4, f6, f8] at hE ⊢
      clear f4 f6 f8
      go_wp2_with fail
      refine calls_then (add_c _ _ _ (KQ.out.y) (KQ.out.x)) ?_
      rintro e w2 ⟨rfl, hb2⟩
      go_wp2_with fail
      exact .mk (hE _ _ rfl (hC1.trans (hb2.mono hC1.size)) hb2)
    · -- 10: Op.call { callee := Callee.value (Operand.func 38), args := #[Operand.tmp 30, Operand.tmp 35], argTypes := #[2
      refine step_plain [(4, some 30), (9, some 35), (9, some 35)] (fun _ => rfl) rfl ?_
      intro w1 vals hC1 hi0 hf E hE
      clear hi0
      have f4 : vals 4 = .agg (eV (addE (p.y) (p.x))) := hf 4 rfl
      have f9 : vals 9 = .agg (eV (addE (q.y) (q.x))) := hf 9 rfl
      try dsimp only at f4 f9
      clear hf
      simp only [puts, act_put, act_put_none, List.setIfInBounds_toArray, List.set_cons_zero, List.set_cons_succ, f4, f9] at hE ⊢
      clear f4 f9
      go_wp2_with fail
      refine calls_then (mul_c _ _ _ (add_ok (KP.out.y) (KP.out.x)) (add_ok (KQ.out.y) (KQ.out.x))) ?_
      rintro e w2 ⟨rfl, hb2⟩
      go_wp2_with fail
      exact .mk (hE _ _ rfl (hC1.trans (hb2.mono hC1.size)) hb2)
    · -- 11: Op.alloc 26
      refine step_plain [] (fun _ => rfl) rfl ?_
      intro w1 vals hC1 hi0 hf E hE
      clear hi0
      clear hf
      simp only [puts, act_put, act_put_none, List.setIfInBounds_toArray, List.set_cons_zero, List.set_cons_succ] at hE ⊢
      go_wp2
      exact .mk (hE _ _ (NewBox.of hC1.size) (hC1.alloc hC1.size _) (below_new _ _))
    · -- 12: Op.store 26 (Operand.tmp 8) (Operand.tmp 36)
      refine step_plain [(11, some 8), (10, some 36), (10, some 36), (0, some 26), (1, some 27), (2, some 28), (3, some 29), (4, some 30), (5, some 31), (6, some 32), (7, some 33), (8, some 34), (9, some 35), (10, some 36), (11, some 8)] (fun _ => rfl) rfl ?_
      intro w1 vals hC1 hi0 hf E hE
      clear hi0
      have f0 : vals 0 = .pointer (some ⟨gp, 5, none⟩) := hf 0 rfl
      have f1 : vals 1 = .agg (eV (p.y)) := hf 1 rfl
      have f2 : vals 2 = .pointer (some ⟨gp, 0, none⟩) := hf 2 rfl
      have f3 : vals 3 = .agg (eV (p.x)) := hf 3 rfl
      have f4 : vals 4 = .agg (eV (addE (p.y) (p.x))) := hf 4 rfl
      have f5 : vals 5 = .pointer (some ⟨gq, 5, none⟩) := hf 5 rfl
      have f6 : vals 6 = .agg (eV (q.y)) := hf 6 rfl
      have f7 : vals 7 = .pointer (some ⟨gq, 0, none⟩) := hf 7 rfl
      have f8 : vals 8 = .agg (eV (q.x)) := hf 8 rfl
      have f9 : vals 9 = .agg (eV (addE (q.y) (q.x))) := hf 9 rfl
      have f10 : vals 10 = .agg (eV (mulE (addE (p.y) (p.x)) (addE (q.y) (q.x)))) := hf 10 rfl
      have f11 : (NewBox v1.heap.size 26 (eV zE)) (vals 11) w1 := hf 11 rfl
      try dsimp only at f0 f1 f2 f3 f4 f5 f6 f7 f8 f9 f10 f11
      clear hf
      obtain ⟨o, hx, ho, hblk⟩ := f11
      have hx' := hx
      simp only [puts, act_put, act_put_none, List.setIfInBounds_toArray, List.set_cons_zero, List.set_cons_succ, f0, f1, f2, f3, f4, f5, f6, f7, f8, f9, f10, hx] at hE ⊢
      clear f0 f1 f2 f3 f4 f5 f6 f7 f8 f9 f10
      clear hx
      refine wpList_put_box (cells := eV (mulE (addE (p.y) (p.x)) (addE (q.y) (q.x)))) hblk rfl rfl rfl rfl elem_size rfl (by simp [eV, ptV, wV, limbs, Value.oneCell']) ?_
      intro w2 hb2 hw2
      go_wp2_with fail
      exact .mk (hE undef _ ⟨o, hx', ho, hb2⟩ (hw2.below hC1 ho hC1.size) trivial)
  intro w1 vals hC1 hf
  have f0 : vals 0 = .pointer (some ⟨gp, 5, none⟩) := hf 0 (by decide) rfl
  have f1 : vals 1 = .agg (eV (p.y)) := hf 1 (by decide) rfl
  have f2 : vals 2 = .pointer (some ⟨gp, 0, none⟩) := hf 2 (by decide) rfl
  have f3 : vals 3 = .agg (eV (p.x)) := hf 3 (by decide) rfl
  have f4 : vals 4 = .agg (eV (addE (p.y) (p.x))) := hf 4 (by decide) rfl
  have f5 : vals 5 = .pointer (some ⟨gq, 5, none⟩) := hf 5 (by decide) rfl
  have f6 : vals 6 = .agg (eV (q.y)) := hf 6 (by decide) rfl
  have f7 : vals 7 = .pointer (some ⟨gq, 0, none⟩) := hf 7 (by decide) rfl
  have f8 : vals 8 = .agg (eV (q.x)) := hf 8 (by decide) rfl
  have f9 : vals 9 = .agg (eV (addE (q.y) (q.x))) := hf 9 (by decide) rfl
  have f10 : vals 10 = .agg (eV (mulE (addE (p.y) (p.x)) (addE (q.y) (q.x)))) := hf 10 (by decide) rfl
  have f12 : (fun z u => NewBox v1.heap.size 26 (eV (mulE (addE (p.y) (p.x)) (addE (q.y) (q.x)))) (z 11) u) vals w1 := hf 12 (by decide) rfl
  try dsimp only at f0 f1 f2 f3 f4 f5 f6 f7 f8 f9 f10 f12
  clear hf
  simp only [puts, act_put, act_put_none, List.setIfInBounds_toArray, List.set_cons_zero, List.set_cons_succ, f0, f1, f2, f3, f4, f5, f6, f7, f8, f9, f10]
  clear f0 f1 f2 f3 f4 f5 f6 f7 f8 f9 f10
  generalize vals 11 = x11 at *
  obtain ⟨o2, rfl, hlo2, hblk2⟩ := f12
  obtain ⟨b, hb⟩ : ∃ x, x = mulE (addE (p.y) (p.x)) (addE (q.y) (q.x)) := ⟨_, rfl⟩
  rw [← hb] at hblk2
  have Kb := Lib.hid (show b.Ok by rw [hb]; exact mul_ok (add_ok (KP.out.y) (KP.out.x)) (add_ok (KQ.out.y) (KQ.out.x)))
  have Eb := Lib.hid hb
  have HST2 := Lib.hid (show Cs (.box o2 26 (eV b) :: [.box o1 26 (eV a), .box gp 28 (ptV p), .box gq 28 (ptV q), .box gw 26 (eV tw), .box r 28 (ptV zP)]) w w1 from ⟨⟨hblk2, (HST1.out.next hC1).1⟩, (HST1.out.next hC1).2⟩)
  clear hC1 HC0 HST1 hblk2 hlo2 hb
  obtain ⟨v2, rfl⟩ : ∃ x, x = w1 := ⟨_, rfl⟩
  go_wp2_with fail
  have HC0 : Below v2.heap.size v2 v2.drew := (Below.refl _ _).drew
  refine wp_region_list (fun u => Below v2.heap.size v2 u) (fun | false => (fun _ => True) | true => (fun _ => True)) (fun | false, _ => false | true, _ => false)
    [fun z _ => z 0 = .pointer (some ⟨gp, 15, none⟩),
     fun z _ => z 1 = .agg (eV (p.t)),
     fun z _ => z 2 = .agg (eV (tw)),
     fun z _ => z 3 = .agg (eV (mulE (p.t) (tw))),
     fun z _ => z 4 = .pointer (some ⟨gq, 15, none⟩),
     fun z _ => z 5 = .agg (eV (q.t)),
     fun z _ => z 6 = .agg (eV (mulE (mulE (p.t) (tw)) (q.t))),
     fun z u => (NewBox v2.heap.size 26 (eV zE)) (z 7) u,
     fun z u => NewBox v2.heap.size 26 (eV (mulE (mulE (p.t) (tw)) (q.t))) (z 7) u]
    [Eq, Eq, Eq, fun u u' => Below u.heap.size u u', Eq, Eq, fun u u' => Below u.heap.size u u', fun u u' => Below u.heap.size u u', fun _ _ => True]
    (fun i k => (i == 8 && k == 7)) [(0, some 37), (1, some 38), (2, some 39), (3, some 40), (4, some 41), (5, some 42), (6, some 43), (7, some 9), (8, none)] (by kernel_rfl) (by kernel_rfl) rfl (fun _ => rfl) ?_ ?_ ?_ ?_ ?_ ?_
  · exact HC0
  · intro m; cases m; exact trivial; exact trivial
  · intro m; cases m
    · exact ⟨.inr (fun _ _ h h0 => h ▸ h0), .inr (fun _ _ h h0 => h ▸ h0), .inr (fun _ _ h h0 => h ▸ h0), .inr (fun _ _ _ h => h), .inr (fun _ _ h h0 => h ▸ h0), .inr (fun _ _ h h0 => h ▸ h0), .inr (fun _ _ _ h => h), .inr (fun _ _ _ h => h), .inr (fun _ _ _ h => h), trivial⟩
    · exact ⟨.inr (fun _ _ h h0 => h ▸ h0), .inr (fun _ _ h h0 => h ▸ h0), .inr (fun _ _ h h0 => h ▸ h0), .inr (fun _ _ _ h => h), .inr (fun _ _ h h0 => h ▸ h0), .inr (fun _ _ h h0 => h ▸ h0), .inr (fun _ _ _ h => h), .inr (fun _ _ _ h => h), .inr (fun _ _ _ h => h), trivial⟩
  · exact ⟨⟨.inl rfl, .inr (.inr (.inl rfl)), .inr (.inr (.inr (fun _ _ _ _ _ h => h))), .inr (.inr (.inl rfl)), .inr (.inr (.inr (fun _ _ _ _ _ h => h))), .inr (.inr (.inr (fun _ _ _ _ _ h => h))), .inr (.inr (.inl rfl)), .inr (.inr (.inr (fun _ _ _ _ h h0 => by cases h; exact h0))), .inr (.inr (.inl rfl)), trivial⟩,
      ⟨.inr (.inr (.inr (fun _ _ _ _ _ h => h))), .inl rfl, .inr (.inr (.inr (fun _ _ _ _ _ h => h))), .inr (.inr (.inl rfl)), .inr (.inr (.inr (fun _ _ _ _ _ h => h))), .inr (.inr (.inr (fun _ _ _ _ _ h => h))), .inr (.inr (.inl rfl)), .inr (.inr (.inr (fun _ _ _ _ h h0 => by cases h; exact h0))), .inr (.inr (.inl rfl)), trivial⟩,
      ⟨.inr (.inr (.inr (fun _ _ _ _ _ h => h))), .inr (.inr (.inr (fun _ _ _ _ _ h => h))), .inl rfl, .inr (.inr (.inl rfl)), .inr (.inr (.inr (fun _ _ _ _ _ h => h))), .inr (.inr (.inr (fun _ _ _ _ _ h => h))), .inr (.inr (.inl rfl)), .inr (.inr (.inr (fun _ _ _ _ h h0 => by cases h; exact h0))), .inr (.inr (.inl rfl)), trivial⟩,
      ⟨.inr (.inr (.inr (fun _ _ _ _ _ h => h))), .inr (.inr (.inr (fun _ _ _ _ _ h => h))), .inr (.inr (.inr (fun _ _ _ _ _ h => h))), .inl rfl, .inr (.inr (.inr (fun _ _ _ _ _ h => h))), .inr (.inr (.inr (fun _ _ _ _ _ h => h))), .inr (.inr (.inl rfl)), .inr (.inr (.inr (fun _ _ _ _ h h0 => h0.next h))), .inr (.inr (.inl rfl)), trivial⟩,
      ⟨.inr (.inr (.inr (fun _ _ _ _ _ h => h))), .inr (.inr (.inr (fun _ _ _ _ _ h => h))), .inr (.inr (.inr (fun _ _ _ _ _ h => h))), .inr (.inr (.inr (fun _ _ _ _ _ h => h))), .inl rfl, .inr (.inr (.inl rfl)), .inr (.inr (.inl rfl)), .inr (.inr (.inr (fun _ _ _ _ h h0 => by cases h; exact h0))), .inr (.inr (.inl rfl)), trivial⟩,
      ⟨.inr (.inr (.inr (fun _ _ _ _ _ h => h))), .inr (.inr (.inr (fun _ _ _ _ _ h => h))), .inr (.inr (.inr (fun _ _ _ _ _ h => h))), .inr (.inr (.inr (fun _ _ _ _ _ h => h))), .inr (.inr (.inr (fun _ _ _ _ _ h => h))), .inl rfl, .inr (.inr (.inl rfl)), .inr (.inr (.inr (fun _ _ _ _ h h0 => by cases h; exact h0))), .inr (.inr (.inl rfl)), trivial⟩,
      ⟨.inr (.inr (.inr (fun _ _ _ _ _ h => h))), .inr (.inr (.inr (fun _ _ _ _ _ h => h))), .inr (.inr (.inr (fun _ _ _ _ _ h => h))), .inr (.inr (.inr (fun _ _ _ _ _ h => h))), .inr (.inr (.inr (fun _ _ _ _ _ h => h))), .inr (.inr (.inr (fun _ _ _ _ _ h => h))), .inl rfl, .inr (.inr (.inr (fun _ _ _ _ h h0 => h0.next h))), .inr (.inr (.inl rfl)), trivial⟩,
      ⟨.inr (.inr (.inr (fun _ _ _ _ _ h => h))), .inr (.inr (.inr (fun _ _ _ _ _ h => h))), .inr (.inr (.inr (fun _ _ _ _ _ h => h))), .inr (.inr (.inr (fun _ _ _ _ _ h => h))), .inr (.inr (.inr (fun _ _ _ _ _ h => h))), .inr (.inr (.inr (fun _ _ _ _ _ h => h))), .inr (.inr (.inr (fun _ _ _ _ _ h => h))), .inl rfl, .inr (.inr (.inl rfl)), trivial⟩,
      ⟨.inr (.inr (.inr (fun _ _ _ _ _ h => h))), .inr (.inr (.inr (fun _ _ _ _ _ h => h))), .inr (.inr (.inr (fun _ _ _ _ _ h => h))), .inr (.inr (.inr (fun _ _ _ _ _ h => h))), .inr (.inr (.inr (fun _ _ _ _ _ h => h))), .inr (.inr (.inr (fun _ _ _ _ _ h => h))), .inr (.inr (.inr (fun _ _ _ _ _ h => h))), .inr (.inl rfl), .inl rfl, trivial⟩, trivial⟩
  · refine ⟨?_, ?_, ?_, ?_, ?_, ?_, ?_, ?_, ?_, trivial⟩
    · -- 0: Op.fieldAddr 28 (Operand.tmp 3) 3
      refine step_plain [] (fun _ => rfl) rfl ?_
      intro w1 vals hC1 hi0 hf E hE
      clear hi0
      clear hf
      simp only [puts, act_put, act_put_none, List.setIfInBounds_toArray, List.set_cons_zero, List.set_cons_succ] at hE ⊢
      go_wp2
      exact .mk (hE _ _ rfl hC1 rfl)
    · -- 1: Op.load 26 (Operand.tmp 37)
      refine step_plain [(0, some 37)] (fun _ => rfl) rfl ?_
      intro w1 vals hC1 hi0 hf E hE
      clear hi0
      have f0 : vals 0 = .pointer (some ⟨gp, 15, none⟩) := hf 0 rfl
      try dsimp only at f0
      clear hf
      have hs := HST2.out.next hC1
      simp only [puts, act_put, act_put_none, List.setIfInBounds_toArray, List.set_cons_zero, List.set_cons_succ, f0] at hE ⊢
      clear f0
      refine wpList_get_part (n := 5) (r := eV (p.t)) (hs.1.2.2.1) (by rw [ptV_size]; decide) rfl rfl rfl rfl hu rfl elem_size ?_
      go_wp2_with fail
      exact .mk (hE _ _ rfl hC1 rfl)
    · -- 2: Op.load 26 (Operand.tmp 5)
      refine step_plain [] (fun _ => rfl) rfl ?_
      intro w1 vals hC1 hi0 hf E hE
      clear hi0
      clear hf
      have hs := HST2.out.next hC1
      simp only [puts, act_put, act_put_none, List.setIfInBounds_toArray, List.set_cons_zero, List.set_cons_succ] at hE ⊢
      refine wpList_get_box (hs.1.2.2.2.2.1) rfl rfl rfl hu rfl elem_size ?_
      go_wp2_with fail
      exact .mk (hE _ _ rfl hC1 rfl)
    · -- 3: Op.call { callee := Callee.value (Operand.func 38), args := #[Operand.tmp 38, Operand.tmp 39], argTypes := #[2
      refine step_plain [(1, some 38), (2, some 39)] (fun _ => rfl) rfl ?_
      intro w1 vals hC1 hi0 hf E hE
      clear hi0
      have f1 : vals 1 = .agg (eV (p.t)) := hf 1 rfl
      have f2 : vals 2 = .agg (eV (tw)) := hf 2 rfl
      try dsimp only at f1 f2
      clear hf
      simp only [puts, act_put, act_put_none, List.setIfInBounds_toArray, List.set_cons_zero, List.set_cons_succ, f1, f2] at hE ⊢
      clear f1 f2
      go_wp2_with fail
      refine calls_then (mul_c _ _ _ (KP.out.t) (KW.out)) ?_
      rintro e w2 ⟨rfl, hb2⟩
      go_wp2_with fail
      exact .mk (hE _ _ rfl (hC1.trans (hb2.mono hC1.size)) hb2)
    · -- 4: Op.fieldAddr 28 (Operand.tmp 4) 3
      refine step_plain [] (fun _ => rfl) rfl ?_
      intro w1 vals hC1 hi0 hf E hE
      clear hi0
      clear hf
      simp only [puts, act_put, act_put_none, List.setIfInBounds_toArray, List.set_cons_zero, List.set_cons_succ] at hE ⊢
      go_wp2
      exact .mk (hE _ _ rfl hC1 rfl)
    · -- 5: Op.load 26 (Operand.tmp 41)
      refine step_plain [(4, some 41)] (fun _ => rfl) rfl ?_
      intro w1 vals hC1 hi0 hf E hE
      clear hi0
      have f4 : vals 4 = .pointer (some ⟨gq, 15, none⟩) := hf 4 rfl
      try dsimp only at f4
      clear hf
      have hs := HST2.out.next hC1
      simp only [puts, act_put, act_put_none, List.setIfInBounds_toArray, List.set_cons_zero, List.set_cons_succ, f4] at hE ⊢
      clear f4
      refine wpList_get_part (n := 5) (r := eV (q.t)) (hs.1.2.2.2.1) (by rw [ptV_size]; decide) rfl rfl rfl rfl hu rfl elem_size ?_
      go_wp2_with fail
      exact .mk (hE _ _ rfl hC1 rfl)
    · -- 6: Op.call { callee := Callee.value (Operand.func 38), args := #[Operand.tmp 40, Operand.tmp 42], argTypes := #[2
      refine step_plain [(3, some 40), (5, some 42), (3, some 40)] (fun _ => rfl) rfl ?_
      intro w1 vals hC1 hi0 hf E hE
      clear hi0
      have f3 : vals 3 = .agg (eV (mulE (p.t) (tw))) := hf 3 rfl
      have f5 : vals 5 = .agg (eV (q.t)) := hf 5 rfl
      try dsimp only at f3 f5
      clear hf
      simp only [puts, act_put, act_put_none, List.setIfInBounds_toArray, List.set_cons_zero, List.set_cons_succ, f3, f5] at hE ⊢
      clear f3 f5
      go_wp2_with fail
      refine calls_then (mul_c _ _ _ (mul_ok (KP.out.t) (KW.out)) (KQ.out.t)) ?_
      rintro e w2 ⟨rfl, hb2⟩
      go_wp2_with fail
      exact .mk (hE _ _ rfl (hC1.trans (hb2.mono hC1.size)) hb2)
    · -- 7: Op.alloc 26
      refine step_plain [] (fun _ => rfl) rfl ?_
      intro w1 vals hC1 hi0 hf E hE
      clear hi0
      clear hf
      simp only [puts, act_put, act_put_none, List.setIfInBounds_toArray, List.set_cons_zero, List.set_cons_succ] at hE ⊢
      go_wp2
      exact .mk (hE _ _ (NewBox.of hC1.size) (hC1.alloc hC1.size _) (below_new _ _))
    · -- 8: Op.store 26 (Operand.tmp 9) (Operand.tmp 43)
      refine step_plain [(7, some 9), (6, some 43), (6, some 43), (0, some 37), (1, some 38), (2, some 39), (3, some 40), (4, some 41), (5, some 42), (6, some 43), (7, some 9)] (fun _ => rfl) rfl ?_
      intro w1 vals hC1 hi0 hf E hE
      clear hi0
      have f0 : vals 0 = .pointer (some ⟨gp, 15, none⟩) := hf 0 rfl
      have f1 : vals 1 = .agg (eV (p.t)) := hf 1 rfl
      have f2 : vals 2 = .agg (eV (tw)) := hf 2 rfl
      have f3 : vals 3 = .agg (eV (mulE (p.t) (tw))) := hf 3 rfl
      have f4 : vals 4 = .pointer (some ⟨gq, 15, none⟩) := hf 4 rfl
      have f5 : vals 5 = .agg (eV (q.t)) := hf 5 rfl
      have f6 : vals 6 = .agg (eV (mulE (mulE (p.t) (tw)) (q.t))) := hf 6 rfl
      have f7 : (NewBox v2.heap.size 26 (eV zE)) (vals 7) w1 := hf 7 rfl
      try dsimp only at f0 f1 f2 f3 f4 f5 f6 f7
      clear hf
      obtain ⟨o, hx, ho, hblk⟩ := f7
      have hx' := hx
      simp only [puts, act_put, act_put_none, List.setIfInBounds_toArray, List.set_cons_zero, List.set_cons_succ, f0, f1, f2, f3, f4, f5, f6, hx] at hE ⊢
      clear f0 f1 f2 f3 f4 f5 f6
      clear hx
      refine wpList_put_box (cells := eV (mulE (mulE (p.t) (tw)) (q.t))) hblk rfl rfl rfl rfl elem_size rfl (by simp [eV, ptV, wV, limbs, Value.oneCell']) ?_
      intro w2 hb2 hw2
      go_wp2_with fail
      exact .mk (hE undef _ ⟨o, hx', ho, hb2⟩ (hw2.below hC1 ho hC1.size) trivial)
  intro w1 vals hC1 hf
  have f0 : vals 0 = .pointer (some ⟨gp, 15, none⟩) := hf 0 (by decide) rfl
  have f1 : vals 1 = .agg (eV (p.t)) := hf 1 (by decide) rfl
  have f2 : vals 2 = .agg (eV (tw)) := hf 2 (by decide) rfl
  have f3 : vals 3 = .agg (eV (mulE (p.t) (tw))) := hf 3 (by decide) rfl
  have f4 : vals 4 = .pointer (some ⟨gq, 15, none⟩) := hf 4 (by decide) rfl
  have f5 : vals 5 = .agg (eV (q.t)) := hf 5 (by decide) rfl
  have f6 : vals 6 = .agg (eV (mulE (mulE (p.t) (tw)) (q.t))) := hf 6 (by decide) rfl
  have f8 : (fun z u => NewBox v2.heap.size 26 (eV (mulE (mulE (p.t) (tw)) (q.t))) (z 7) u) vals w1 := hf 8 (by decide) rfl
  try dsimp only at f0 f1 f2 f3 f4 f5 f6 f8
  clear hf
  simp only [puts, act_put, act_put_none, List.setIfInBounds_toArray, List.set_cons_zero, List.set_cons_succ, f0, f1, f2, f3, f4, f5, f6]
  clear f0 f1 f2 f3 f4 f5 f6
  generalize vals 7 = x7 at *
  obtain ⟨o3, rfl, hlo3, hblk3⟩ := f8
  obtain ⟨c, hc⟩ : ∃ x, x = mulE (mulE (p.t) (tw)) (q.t) := ⟨_, rfl⟩
  rw [← hc] at hblk3
  have Kc := Lib.hid (show c.Ok by rw [hc]; exact mul_ok (mul_ok (KP.out.t) (KW.out)) (KQ.out.t))
  have Ec := Lib.hid hc
  have HST3 := Lib.hid (show Cs (.box o3 26 (eV c) :: [.box o2 26 (eV b), .box o1 26 (eV a), .box gp 28 (ptV p), .box gq 28 (ptV q), .box gw 26 (eV tw), .box r 28 (ptV zP)]) w w1 from ⟨⟨hblk3, (HST2.out.next hC1).1⟩, (HST2.out.next hC1).2⟩)
  clear hC1 HC0 HST2 hblk3 hlo3 hc
  obtain ⟨v3, rfl⟩ : ∃ x, x = w1 := ⟨_, rfl⟩
  go_wp2_with (first
    | (refine wpList_get_part (x := .tmp 44) (n := 5) (r := eV p.z) (HST3.out.1.2.2.2.1) (by rw [ptV_size]; decide) rfl rfl rfl rfl hu rfl elem_size ?_)
    | (refine wpList_get_part (x := .tmp 46) (n := 5) (r := eV q.z) (HST3.out.1.2.2.2.2.1) (by rw [ptV_size]; decide) rfl rfl rfl rfl hu rfl elem_size ?_))
  refine calls_then (mul_c p.z q.z _ KP.out.z KQ.out.z) ?_
  rintro e w2 ⟨rfl, hb2⟩
  obtain ⟨zz, hz⟩ : ∃ x, x = mulE p.z q.z := ⟨_, rfl⟩
  rw [← hz]
  have Kz := Lib.hid (show zz.Ok by rw [hz]; exact mul_ok KP.out.z KQ.out.z)
  have Ez := Lib.hid hz
  have HX := Lib.hid (HST3.out.next hb2)
  clear hz hb2 HST3
  go_wp2_with (refine wpList_put_box (x := .tmp 10) (cells := eV zz) (Blk.new _ _ _) rfl rfl rfl rfl elem_size rfl (by simp [eV, ptV, wV, limbs, Value.oneCell']) ?_; intro v9 hb9 hw9; have HST9 := Lib.hid (show Cs (.box w2.heap.size 26 (eV zz) :: [.box o3 26 (eV c), .box o2 26 (eV b), .box o1 26 (eV a), .box gp 28 (ptV p), .box gq 28 (ptV q), .box gw 26 (eV tw), .box r 28 (ptV zP)]) w v9 from ⟨⟨hb9, (HX.out.next (box_low hw9)).1⟩, (HX.out.next (box_low hw9)).2⟩); clear hb9 hw9 HX)
  generalize w2.heap.size = oz at *
  have HC0 : C2 v9 6 7 (fun _ => undef) v9.drew := C2.init (Below.refl _ _).drew
  refine wp_region_listV (C2 v9 6 7) (fun | false => (fun _ => True) | true => (fun _ => True)) (fun | false, _ => false | true, _ => false)
    [fun z _ => z 0 = .agg (eV (b)),
     fun z _ => z 1 = .agg (eV (a)),
     fun z _ => z 2 = .agg (eV (subE (b) (a))),
     fun z _ => z 3 = .agg (eV (b)),
     fun z _ => z 4 = .agg (eV (a)),
     fun z _ => z 5 = .agg (eV (addE (b) (a))),
     fun z u => (NewBox v9.heap.size 26 (eV zE)) (z 6) u,
     fun z u => (NewBox v9.heap.size 26 (eV zE)) (z 7) u,
     fun z u => NewBox v9.heap.size 26 (eV (subE (b) (a))) (z 6) u ∧ NewBox v9.heap.size 26 (eV zE) (z 7) u,
     fun z u => NewBox v9.heap.size 26 (eV (subE (b) (a))) (z 6) u ∧ NewBox v9.heap.size 26 (eV (addE (b) (a))) (z 7) u]
    [Eq, Eq, fun u u' => Below u.heap.size u u', Eq, Eq, fun u u' => Below u.heap.size u u', fun u u' => Below u.heap.size u u', fun u u' => Below u.heap.size u u', fun _ _ => True, fun _ _ => True]
    (fun i k => (i == 8 && k == 6) || (i == 8 && k == 7) || (i == 9 && k == 6) || (i == 9 && k == 7) || (i == 9 && k == 8)) [(0, some 49), (1, some 50), (2, some 51), (3, some 52), (4, some 53), (5, some 54), (6, some 11), (7, some 12), (8, none), (9, none)] (by kernel_rfl) (by kernel_rfl) rfl (fun _ => rfl) ?_ ?_ ?_ ?_ ?_ ?_
  · exact HC0
  · intro m; cases m; exact trivial; exact trivial
  · intro m; cases m
    · exact ⟨.inr (fun _ _ h h0 => h ▸ h0), .inr (fun _ _ h h0 => h ▸ h0), .inr (fun _ _ _ h => h), .inr (fun _ _ h h0 => h ▸ h0), .inr (fun _ _ h h0 => h ▸ h0), .inr (fun _ _ _ h => h), .inr (fun _ _ _ h => h), .inr (fun _ _ _ h => h), .inr (fun _ _ _ h => h), .inr (fun _ _ _ h => h), trivial⟩
    · exact ⟨.inr (fun _ _ h h0 => h ▸ h0), .inr (fun _ _ h h0 => h ▸ h0), .inr (fun _ _ _ h => h), .inr (fun _ _ h h0 => h ▸ h0), .inr (fun _ _ h h0 => h ▸ h0), .inr (fun _ _ _ h => h), .inr (fun _ _ _ h => h), .inr (fun _ _ _ h => h), .inr (fun _ _ _ h => h), .inr (fun _ _ _ h => h), trivial⟩
  · exact ⟨⟨.inl rfl, .inr (.inr (.inr (fun _ _ _ _ _ h => h))), .inr (.inr (.inl rfl)), .inr (.inr (.inr (fun _ _ _ _ _ h => h))), .inr (.inr (.inr (fun _ _ _ _ _ h => h))), .inr (.inr (.inl rfl)), .inr (.inr (.inr (fun _ _ _ _ h h0 => by cases h; exact h0))), .inr (.inr (.inr (fun _ _ _ _ h h0 => by cases h; exact h0))), .inr (.inr (.inl rfl)), .inr (.inr (.inl rfl)), trivial⟩,
      ⟨.inr (.inr (.inr (fun _ _ _ _ _ h => h))), .inl rfl, .inr (.inr (.inl rfl)), .inr (.inr (.inr (fun _ _ _ _ _ h => h))), .inr (.inr (.inr (fun _ _ _ _ _ h => h))), .inr (.inr (.inl rfl)), .inr (.inr (.inr (fun _ _ _ _ h h0 => by cases h; exact h0))), .inr (.inr (.inr (fun _ _ _ _ h h0 => by cases h; exact h0))), .inr (.inr (.inl rfl)), .inr (.inr (.inl rfl)), trivial⟩,
      ⟨.inr (.inr (.inr (fun _ _ _ _ _ h => h))), .inr (.inr (.inr (fun _ _ _ _ _ h => h))), .inl rfl, .inr (.inr (.inr (fun _ _ _ _ _ h => h))), .inr (.inr (.inr (fun _ _ _ _ _ h => h))), .inr (.inr (.inl rfl)), .inr (.inr (.inr (fun _ _ _ _ h h0 => h0.next h))), .inr (.inr (.inr (fun _ _ _ _ h h0 => h0.next h))), .inr (.inr (.inl rfl)), .inr (.inr (.inl rfl)), trivial⟩,
      ⟨.inr (.inr (.inr (fun _ _ _ _ _ h => h))), .inr (.inr (.inr (fun _ _ _ _ _ h => h))), .inr (.inr (.inr (fun _ _ _ _ _ h => h))), .inl rfl, .inr (.inr (.inr (fun _ _ _ _ _ h => h))), .inr (.inr (.inl rfl)), .inr (.inr (.inr (fun _ _ _ _ h h0 => by cases h; exact h0))), .inr (.inr (.inr (fun _ _ _ _ h h0 => by cases h; exact h0))), .inr (.inr (.inl rfl)), .inr (.inr (.inl rfl)), trivial⟩,
      ⟨.inr (.inr (.inr (fun _ _ _ _ _ h => h))), .inr (.inr (.inr (fun _ _ _ _ _ h => h))), .inr (.inr (.inr (fun _ _ _ _ _ h => h))), .inr (.inr (.inr (fun _ _ _ _ _ h => h))), .inl rfl, .inr (.inr (.inl rfl)), .inr (.inr (.inr (fun _ _ _ _ h h0 => by cases h; exact h0))), .inr (.inr (.inr (fun _ _ _ _ h h0 => by cases h; exact h0))), .inr (.inr (.inl rfl)), .inr (.inr (.inl rfl)), trivial⟩,
      ⟨.inr (.inr (.inr (fun _ _ _ _ _ h => h))), .inr (.inr (.inr (fun _ _ _ _ _ h => h))), .inr (.inr (.inr (fun _ _ _ _ _ h => h))), .inr (.inr (.inr (fun _ _ _ _ _ h => h))), .inr (.inr (.inr (fun _ _ _ _ _ h => h))), .inl rfl, .inr (.inr (.inr (fun _ _ _ _ h h0 => h0.next h))), .inr (.inr (.inr (fun _ _ _ _ h h0 => h0.next h))), .inr (.inr (.inl rfl)), .inr (.inr (.inl rfl)), trivial⟩,
      ⟨.inr (.inr (.inr (fun _ _ _ _ _ h => h))), .inr (.inr (.inr (fun _ _ _ _ _ h => h))), .inr (.inr (.inr (fun _ _ _ _ _ h => h))), .inr (.inr (.inr (fun _ _ _ _ _ h => h))), .inr (.inr (.inr (fun _ _ _ _ _ h => h))), .inr (.inr (.inr (fun _ _ _ _ _ h => h))), .inl rfl, .inr (.inr (.inr (fun _ _ _ _ h h0 => h0.next h))), .inr (.inr (.inl rfl)), .inr (.inr (.inl rfl)), trivial⟩,
      ⟨.inr (.inr (.inr (fun _ _ _ _ _ h => h))), .inr (.inr (.inr (fun _ _ _ _ _ h => h))), .inr (.inr (.inr (fun _ _ _ _ _ h => h))), .inr (.inr (.inr (fun _ _ _ _ _ h => h))), .inr (.inr (.inr (fun _ _ _ _ _ h => h))), .inr (.inr (.inr (fun _ _ _ _ _ h => h))), .inr (.inr (.inr (fun _ _ _ _ h h0 => h0.next h))), .inl rfl, .inr (.inr (.inl rfl)), .inr (.inr (.inl rfl)), trivial⟩,
      ⟨.inr (.inr (.inr (fun _ _ _ _ _ h => h))), .inr (.inr (.inr (fun _ _ _ _ _ h => h))), .inr (.inr (.inr (fun _ _ _ _ _ h => h))), .inr (.inr (.inr (fun _ _ _ _ _ h => h))), .inr (.inr (.inr (fun _ _ _ _ _ h => h))), .inr (.inr (.inr (fun _ _ _ _ _ h => h))), .inr (.inl rfl), .inr (.inl rfl), .inl rfl, .inr (.inr (.inl rfl)), trivial⟩,
      ⟨.inr (.inr (.inr (fun _ _ _ _ _ h => h))), .inr (.inr (.inr (fun _ _ _ _ _ h => h))), .inr (.inr (.inr (fun _ _ _ _ _ h => h))), .inr (.inr (.inr (fun _ _ _ _ _ h => h))), .inr (.inr (.inr (fun _ _ _ _ _ h => h))), .inr (.inr (.inr (fun _ _ _ _ _ h => h))), .inr (.inl rfl), .inr (.inl rfl), .inr (.inl rfl), .inl rfl, trivial⟩, trivial⟩
  · refine ⟨?_, ?_, ?_, ?_, ?_, ?_, ?_, ?_, ?_, ?_, trivial⟩
    · -- 0: Op.load 26 (Operand.tmp 8)
      refine step_plainV [] (fun _ => rfl) rfl ?_
      intro w1 vals hC1 hi0 hf E hE
      clear hi0
      clear hf
      have hs := HST9.out.next hC1.bel
      simp only [puts, act_put, act_put_none, List.setIfInBounds_toArray, List.set_cons_zero, List.set_cons_succ] at hE ⊢
      refine wpList_get_box (hs.1.2.2.1) rfl rfl rfl hu rfl elem_size ?_
      go_wp2_with fail
      exact .mk (hE _ _ rfl (hC1.same (by decide) (by decide)) rfl)
    · -- 1: Op.load 26 (Operand.tmp 7)
      refine step_plainV [] (fun _ => rfl) rfl ?_
      intro w1 vals hC1 hi0 hf E hE
      clear hi0
      clear hf
      have hs := HST9.out.next hC1.bel
      simp only [puts, act_put, act_put_none, List.setIfInBounds_toArray, List.set_cons_zero, List.set_cons_succ] at hE ⊢
      refine wpList_get_box (hs.1.2.2.2.1) rfl rfl rfl hu rfl elem_size ?_
      go_wp2_with fail
      exact .mk (hE _ _ rfl (hC1.same (by decide) (by decide)) rfl)
    · -- 2: Op.call { callee := Callee.value (Operand.func 48), args := #[Operand.tmp 49, Operand.tmp 50], argTypes := #[2
      refine step_plainV [(0, some 49), (1, some 50)] (fun _ => rfl) rfl ?_
      intro w1 vals hC1 hi0 hf E hE
      clear hi0
      have f0 : vals 0 = .agg (eV (b)) := hf 0 rfl
      have f1 : vals 1 = .agg (eV (a)) := hf 1 rfl
      try dsimp only at f0 f1
      clear hf
      simp only [puts, act_put, act_put_none, List.setIfInBounds_toArray, List.set_cons_zero, List.set_cons_succ, f0, f1] at hE ⊢
      clear f0 f1
      go_wp2_with fail
      refine calls_then (sub_c _ _ _ (Kb.out) (Ka.out)) ?_
      rintro e w2 ⟨rfl, hb2⟩
      go_wp2_with fail
      exact .mk (hE _ _ rfl (hC1.other (by decide) (by decide) (hC1.bel.trans (hb2.mono hC1.bel.size)) hb2.size) hb2)
    · -- 3: Op.load 26 (Operand.tmp 8)
      refine step_plainV [] (fun _ => rfl) rfl ?_
      intro w1 vals hC1 hi0 hf E hE
      clear hi0
      clear hf
      have hs := HST9.out.next hC1.bel
      simp only [puts, act_put, act_put_none, List.setIfInBounds_toArray, List.set_cons_zero, List.set_cons_succ] at hE ⊢
      refine wpList_get_box (hs.1.2.2.1) rfl rfl rfl hu rfl elem_size ?_
      go_wp2_with fail
      exact .mk (hE _ _ rfl (hC1.same (by decide) (by decide)) rfl)
    · -- 4: Op.load 26 (Operand.tmp 7)
      refine step_plainV [] (fun _ => rfl) rfl ?_
      intro w1 vals hC1 hi0 hf E hE
      clear hi0
      clear hf
      have hs := HST9.out.next hC1.bel
      simp only [puts, act_put, act_put_none, List.setIfInBounds_toArray, List.set_cons_zero, List.set_cons_succ] at hE ⊢
      refine wpList_get_box (hs.1.2.2.2.1) rfl rfl rfl hu rfl elem_size ?_
      go_wp2_with fail
      exact .mk (hE _ _ rfl (hC1.same (by decide) (by decide)) rfl)
    · -- 5: Op.call { callee := Callee.value (Operand.func 32), args := #[Operand.tmp 52, Operand.tmp 53], argTypes := #[2
      refine step_plainV [(3, some 52), (4, some 53), (2, some 51)] (fun _ => rfl) rfl ?_
      intro w1 vals hC1 hi0 hf E hE
      clear hi0
      have f2 : vals 2 = .agg (eV (subE (b) (a))) := hf 2 rfl
      have f3 : vals 3 = .agg (eV (b)) := hf 3 rfl
      have f4 : vals 4 = .agg (eV (a)) := hf 4 rfl
      try dsimp only at f2 f3 f4
      clear hf
      simp only [puts, act_put, act_put_none, List.setIfInBounds_toArray, List.set_cons_zero, List.set_cons_succ, f2, f3, f4] at hE ⊢
      clear f2 f3 f4
      go_wp2_with fail
      refine calls_then (add_c _ _ _ (Kb.out) (Ka.out)) ?_
      rintro e w2 ⟨rfl, hb2⟩
      go_wp2_with fail
      exact .mk (hE _ _ rfl (hC1.other (by decide) (by decide) (hC1.bel.trans (hb2.mono hC1.bel.size)) hb2.size) hb2)
    · -- 6: Op.alloc 26
      refine step_plainV [] (fun _ => rfl) rfl ?_
      intro w1 vals hC1 hi0 hf E hE
      clear hi0
      clear hf
      simp only [puts, act_put, act_put_none, List.setIfInBounds_toArray, List.set_cons_zero, List.set_cons_succ] at hE ⊢
      go_wp2
      exact .mk (hE _ _ (NewBox.of hC1.bel.size) (hC1.setI (by decide) (hC1.bel.alloc hC1.bel.size _) (by simp)) (below_new _ _))
    · -- 7: Op.alloc 26
      refine step_plainV [] (fun _ => rfl) rfl ?_
      intro w1 vals hC1 hi0 hf E hE
      clear hi0
      clear hf
      simp only [puts, act_put, act_put_none, List.setIfInBounds_toArray, List.set_cons_zero, List.set_cons_succ] at hE ⊢
      go_wp2
      exact .mk (hE _ _ (NewBox.of hC1.bel.size) (hC1.setJ (by decide) (hC1.bel.alloc hC1.bel.size _) (by simp)) (below_new _ _))
    · -- 8: Op.store 26 (Operand.tmp 11) (Operand.tmp 51)
      refine step_plainV [(6, some 11), (2, some 51), (5, some 54), (0, some 49), (1, some 50), (2, some 51), (6, some 11), (7, some 12)] (fun _ => rfl) rfl ?_
      intro w1 vals hC1 hi0 hf E hE
      clear hi0
      have f0 : vals 0 = .agg (eV (b)) := hf 0 rfl
      have f1 : vals 1 = .agg (eV (a)) := hf 1 rfl
      have f2 : vals 2 = .agg (eV (subE (b) (a))) := hf 2 rfl
      have f5 : vals 5 = .agg (eV (addE (b) (a))) := hf 5 rfl
      have f6 : (NewBox v9.heap.size 26 (eV zE)) (vals 6) w1 := hf 6 rfl
      have f7 : (NewBox v9.heap.size 26 (eV zE)) (vals 7) w1 := hf 7 rfl
      try dsimp only at f0 f1 f2 f5 f6 f7
      clear hf
      obtain ⟨o, hx, ho, hblk⟩ := f6
      obtain ⟨o7, hx7, ho7, hblk7⟩ := f7
      have hne := hC1.apart hx hx7
      have hx' := hx
      have hx7' := hx7
      simp only [puts, act_put, act_put_none, List.setIfInBounds_toArray, List.set_cons_zero, List.set_cons_succ, f0, f1, f2, f5, hx, hx7] at hE ⊢
      clear f0 f1 f2 f5
      clear hx hx7
      refine wpList_put_box (cells := eV (subE (b) (a))) hblk rfl rfl rfl rfl elem_size rfl (by simp [eV, ptV, wV, limbs, Value.oneCell']) ?_
      intro w2 hb2 hw2
      go_wp2_with fail
      exact .mk (hE undef _ ⟨⟨o, hx', ho, hb2⟩, ⟨o7, hx7', ho7, hw2.blk hblk7 (Ne.symm hne)⟩⟩ (hC1.other (by decide) (by decide) (hw2.below hC1.bel ho hC1.bel.size) (Nat.le_of_eq hw2.size.symm)) trivial)
    · -- 9: Op.store 26 (Operand.tmp 12) (Operand.tmp 54)
      refine step_plainV [(7, some 12), (5, some 54), (8, none), (0, some 49), (1, some 50), (2, some 51), (3, some 52), (4, some 53), (5, some 54), (6, some 11), (7, some 12), (8, none)] (fun _ => rfl) rfl ?_
      intro w1 vals hC1 hi0 hf E hE
      clear hi0
      have f0 : vals 0 = .agg (eV (b)) := hf 0 rfl
      have f1 : vals 1 = .agg (eV (a)) := hf 1 rfl
      have f2 : vals 2 = .agg (eV (subE (b) (a))) := hf 2 rfl
      have f3 : vals 3 = .agg (eV (b)) := hf 3 rfl
      have f4 : vals 4 = .agg (eV (a)) := hf 4 rfl
      have f5 : vals 5 = .agg (eV (addE (b) (a))) := hf 5 rfl
      have f8 : (fun z u => NewBox v9.heap.size 26 (eV (subE (b) (a))) (z 6) u ∧ NewBox v9.heap.size 26 (eV zE) (z 7) u) vals w1 := hf 8 rfl
      try dsimp only at f0 f1 f2 f3 f4 f5 f8
      clear hf
      obtain ⟨⟨o, hx, ho, hblk⟩, ⟨o7, hx7, ho7, hblk7⟩⟩ := f8
      have hne := hC1.apart hx hx7
      have hx' := hx
      have hx7' := hx7
      simp only [puts, act_put, act_put_none, List.setIfInBounds_toArray, List.set_cons_zero, List.set_cons_succ, f0, f1, f2, f3, f4, f5, hx, hx7] at hE ⊢
      clear f0 f1 f2 f3 f4 f5
      clear hx hx7
      refine wpList_put_box (cells := eV (addE (b) (a))) hblk7 rfl rfl rfl rfl elem_size rfl (by simp [eV, ptV, wV, limbs, Value.oneCell']) ?_
      intro w2 hb2 hw2
      go_wp2_with fail
      exact .mk (hE undef _ ⟨⟨o, hx', ho, hw2.blk hblk hne⟩, ⟨o7, hx7', ho7, hb2⟩⟩ (hC1.other (by decide) (by decide) (hw2.below hC1.bel ho7 hC1.bel.size) (Nat.le_of_eq hw2.size.symm)) trivial)
  intro w1 vals hC1 hf
  have f0 : vals 0 = .agg (eV (b)) := hf 0 (by decide) rfl
  have f1 : vals 1 = .agg (eV (a)) := hf 1 (by decide) rfl
  have f2 : vals 2 = .agg (eV (subE (b) (a))) := hf 2 (by decide) rfl
  have f3 : vals 3 = .agg (eV (b)) := hf 3 (by decide) rfl
  have f4 : vals 4 = .agg (eV (a)) := hf 4 (by decide) rfl
  have f5 : vals 5 = .agg (eV (addE (b) (a))) := hf 5 (by decide) rfl
  have f9 : (fun z u => NewBox v9.heap.size 26 (eV (subE (b) (a))) (z 6) u ∧ NewBox v9.heap.size 26 (eV (addE (b) (a))) (z 7) u) vals w1 := hf 9 (by decide) rfl
  try dsimp only at f0 f1 f2 f3 f4 f5 f9
  clear hf
  simp only [puts, act_put, act_put_none, List.setIfInBounds_toArray, List.set_cons_zero, List.set_cons_succ, f0, f1, f2, f3, f4, f5]
  clear f0 f1 f2 f3 f4 f5
  generalize vals 6 = x6 at *
  generalize vals 7 = x7 at *
  obtain ⟨⟨o4a, rfl, hlo4a, hblk4a⟩, ⟨o4b, rfl, hlo4b, hblk4b⟩⟩ := f9
  obtain ⟨e, he⟩ : ∃ x, x = subE (b) (a) := ⟨_, rfl⟩
  rw [← he] at hblk4a
  have Ke := Lib.hid (show e.Ok by rw [he]; exact sub_ok (Kb.out) (Ka.out))
  have Ee := Lib.hid he
  obtain ⟨h, hh⟩ : ∃ x, x = addE (b) (a) := ⟨_, rfl⟩
  rw [← hh] at hblk4b
  have Kh := Lib.hid (show h.Ok by rw [hh]; exact add_ok (Kb.out) (Ka.out))
  have Eh := Lib.hid hh
  have HST4 := Lib.hid (show Cs (.box o4a 26 (eV e) :: .box o4b 26 (eV h) :: [.box oz 26 (eV zz), .box o3 26 (eV c), .box o2 26 (eV b), .box o1 26 (eV a), .box gp 28 (ptV p), .box gq 28 (ptV q), .box gw 26 (eV tw), .box r 28 (ptV zP)]) w w1 from ⟨⟨hblk4a, hblk4b, (HST9.out.next hC1.bel).1⟩, (HST9.out.next hC1.bel).2⟩)
  clear hC1 HC0 HST9 hblk4a hblk4b hlo4a hlo4b he hh
  obtain ⟨v4, rfl⟩ : ∃ x, x = w1 := ⟨_, rfl⟩
  go_wp2_with fail
  have HC0 : C2 v4 10 11 (fun _ => undef) v4.drew := C2.init (Below.refl _ _).drew
  refine wp_region_listV (C2 v4 10 11) (fun | false => (fun _ => True) | true => (fun _ => True)) (fun | false, _ => false | true, _ => false)
    [fun z _ => z 0 = .agg (eV (zz)),
     fun z _ => z 1 = .agg (eV (zz)),
     fun z _ => z 2 = .agg (eV (addE (zz) (zz))),
     fun z _ => z 3 = .agg (eV (c)),
     fun z _ => z 4 = .agg (eV (subE (addE (zz) (zz)) (c))),
     fun z _ => z 5 = .agg (eV (zz)),
     fun z _ => z 6 = .agg (eV (zz)),
     fun z _ => z 7 = .agg (eV (addE (zz) (zz))),
     fun z _ => z 8 = .agg (eV (c)),
     fun z _ => z 9 = .agg (eV (addE (addE (zz) (zz)) (c))),
     fun z u => (NewBox v4.heap.size 26 (eV zE)) (z 10) u,
     fun z u => (NewBox v4.heap.size 26 (eV zE)) (z 11) u,
     fun z u => NewBox v4.heap.size 26 (eV (subE (addE (zz) (zz)) (c))) (z 10) u ∧ NewBox v4.heap.size 26 (eV zE) (z 11) u,
     fun z u => NewBox v4.heap.size 26 (eV (subE (addE (zz) (zz)) (c))) (z 10) u ∧ NewBox v4.heap.size 26 (eV (addE (addE (zz) (zz)) (c))) (z 11) u]
    [Eq, Eq, fun u u' => Below u.heap.size u u', Eq, fun u u' => Below u.heap.size u u', Eq, Eq, fun u u' => Below u.heap.size u u', Eq, fun u u' => Below u.heap.size u u', fun u u' => Below u.heap.size u u', fun u u' => Below u.heap.size u u', fun _ _ => True, fun _ _ => True]
    (fun i k => (i == 12 && k == 10) || (i == 12 && k == 11) || (i == 13 && k == 10) || (i == 13 && k == 11) || (i == 13 && k == 12)) [(0, some 55), (1, some 56), (2, some 57), (3, some 58), (4, some 59), (5, some 60), (6, some 61), (7, some 62), (8, some 63), (9, some 64), (10, some 13), (11, some 14), (12, none), (13, none)] (by kernel_rfl) (by kernel_rfl) rfl (fun _ => rfl) ?_ ?_ ?_ ?_ ?_ ?_
  · exact HC0
  · intro m; cases m; exact trivial; exact trivial
  · intro m; cases m
    · exact ⟨.inr (fun _ _ h h0 => h ▸ h0), .inr (fun _ _ h h0 => h ▸ h0), .inr (fun _ _ _ h => h), .inr (fun _ _ h h0 => h ▸ h0), .inr (fun _ _ _ h => h), .inr (fun _ _ h h0 => h ▸ h0), .inr (fun _ _ h h0 => h ▸ h0), .inr (fun _ _ _ h => h), .inr (fun _ _ h h0 => h ▸ h0), .inr (fun _ _ _ h => h), .inr (fun _ _ _ h => h), .inr (fun _ _ _ h => h), .inr (fun _ _ _ h => h), .inr (fun _ _ _ h => h), trivial⟩
    · exact ⟨.inr (fun _ _ h h0 => h ▸ h0), .inr (fun _ _ h h0 => h ▸ h0), .inr (fun _ _ _ h => h), .inr (fun _ _ h h0 => h ▸ h0), .inr (fun _ _ _ h => h), .inr (fun _ _ h h0 => h ▸ h0), .inr (fun _ _ h h0 => h ▸ h0), .inr (fun _ _ _ h => h), .inr (fun _ _ h h0 => h ▸ h0), .inr (fun _ _ _ h => h), .inr (fun _ _ _ h => h), .inr (fun _ _ _ h => h), .inr (fun _ _ _ h => h), .inr (fun _ _ _ h => h), trivial⟩
  · exact ⟨⟨.inl rfl, .inr (.inr (.inr (fun _ _ _ _ _ h => h))), .inr (.inr (.inl rfl)), .inr (.inr (.inr (fun _ _ _ _ _ h => h))), .inr (.inr (.inl rfl)), .inr (.inr (.inr (fun _ _ _ _ _ h => h))), .inr (.inr (.inr (fun _ _ _ _ _ h => h))), .inr (.inr (.inl rfl)), .inr (.inr (.inr (fun _ _ _ _ _ h => h))), .inr (.inr (.inr (fun _ _ _ _ _ h => h))), .inr (.inr (.inr (fun _ _ _ _ h h0 => by cases h; exact h0))), .inr (.inr (.inr (fun _ _ _ _ h h0 => by cases h; exact h0))), .inr (.inr (.inl rfl)), .inr (.inr (.inl rfl)), trivial⟩,
      ⟨.inr (.inr (.inr (fun _ _ _ _ _ h => h))), .inl rfl, .inr (.inr (.inl rfl)), .inr (.inr (.inr (fun _ _ _ _ _ h => h))), .inr (.inr (.inl rfl)), .inr (.inr (.inr (fun _ _ _ _ _ h => h))), .inr (.inr (.inr (fun _ _ _ _ _ h => h))), .inr (.inr (.inl rfl)), .inr (.inr (.inr (fun _ _ _ _ _ h => h))), .inr (.inr (.inr (fun _ _ _ _ _ h => h))), .inr (.inr (.inr (fun _ _ _ _ h h0 => by cases h; exact h0))), .inr (.inr (.inr (fun _ _ _ _ h h0 => by cases h; exact h0))), .inr (.inr (.inl rfl)), .inr (.inr (.inl rfl)), trivial⟩,
      ⟨.inr (.inr (.inr (fun _ _ _ _ _ h => h))), .inr (.inr (.inr (fun _ _ _ _ _ h => h))), .inl rfl, .inr (.inr (.inr (fun _ _ _ _ _ h => h))), .inr (.inr (.inl rfl)), .inr (.inr (.inr (fun _ _ _ _ _ h => h))), .inr (.inr (.inr (fun _ _ _ _ _ h => h))), .inr (.inr (.inl rfl)), .inr (.inr (.inr (fun _ _ _ _ _ h => h))), .inr (.inr (.inl rfl)), .inr (.inr (.inr (fun _ _ _ _ h h0 => h0.next h))), .inr (.inr (.inr (fun _ _ _ _ h h0 => h0.next h))), .inr (.inr (.inl rfl)), .inr (.inr (.inl rfl)), trivial⟩,
      ⟨.inr (.inr (.inr (fun _ _ _ _ _ h => h))), .inr (.inr (.inr (fun _ _ _ _ _ h => h))), .inr (.inr (.inr (fun _ _ _ _ _ h => h))), .inl rfl, .inr (.inr (.inl rfl)), .inr (.inr (.inr (fun _ _ _ _ _ h => h))), .inr (.inr (.inr (fun _ _ _ _ _ h => h))), .inr (.inr (.inl rfl)), .inr (.inr (.inr (fun _ _ _ _ _ h => h))), .inr (.inr (.inl rfl)), .inr (.inr (.inr (fun _ _ _ _ h h0 => by cases h; exact h0))), .inr (.inr (.inr (fun _ _ _ _ h h0 => by cases h; exact h0))), .inr (.inr (.inl rfl)), .inr (.inr (.inl rfl)), trivial⟩,
      ⟨.inr (.inr (.inr (fun _ _ _ _ _ h => h))), .inr (.inr (.inr (fun _ _ _ _ _ h => h))), .inr (.inr (.inr (fun _ _ _ _ _ h => h))), .inr (.inr (.inr (fun _ _ _ _ _ h => h))), .inl rfl, .inr (.inr (.inr (fun _ _ _ _ _ h => h))), .inr (.inr (.inr (fun _ _ _ _ _ h => h))), .inr (.inr (.inl rfl)), .inr (.inr (.inr (fun _ _ _ _ _ h => h))), .inr (.inr (.inl rfl)), .inr (.inr (.inr (fun _ _ _ _ h h0 => h0.next h))), .inr (.inr (.inr (fun _ _ _ _ h h0 => h0.next h))), .inr (.inr (.inl rfl)), .inr (.inr (.inl rfl)), trivial⟩,
      ⟨.inr (.inr (.inr (fun _ _ _ _ _ h => h))), .inr (.inr (.inr (fun _ _ _ _ _ h => h))), .inr (.inr (.inr (fun _ _ _ _ _ h => h))), .inr (.inr (.inr (fun _ _ _ _ _ h => h))), .inr (.inr (.inr (fun _ _ _ _ _ h => h))), .inl rfl, .inr (.inr (.inr (fun _ _ _ _ _ h => h))), .inr (.inr (.inl rfl)), .inr (.inr (.inr (fun _ _ _ _ _ h => h))), .inr (.inr (.inl rfl)), .inr (.inr (.inr (fun _ _ _ _ h h0 => by cases h; exact h0))), .inr (.inr (.inr (fun _ _ _ _ h h0 => by cases h; exact h0))), .inr (.inr (.inl rfl)), .inr (.inr (.inl rfl)), trivial⟩,
      ⟨.inr (.inr (.inr (fun _ _ _ _ _ h => h))), .inr (.inr (.inr (fun _ _ _ _ _ h => h))), .inr (.inr (.inr (fun _ _ _ _ _ h => h))), .inr (.inr (.inr (fun _ _ _ _ _ h => h))), .inr (.inr (.inr (fun _ _ _ _ _ h => h))), .inr (.inr (.inr (fun _ _ _ _ _ h => h))), .inl rfl, .inr (.inr (.inl rfl)), .inr (.inr (.inr (fun _ _ _ _ _ h => h))), .inr (.inr (.inl rfl)), .inr (.inr (.inr (fun _ _ _ _ h h0 => by cases h; exact h0))), .inr (.inr (.inr (fun _ _ _ _ h h0 => by cases h; exact h0))), .inr (.inr (.inl rfl)), .inr (.inr (.inl rfl)), trivial⟩,
      ⟨.inr (.inr (.inr (fun _ _ _ _ _ h => h))), .inr (.inr (.inr (fun _ _ _ _ _ h => h))), .inr (.inr (.inr (fun _ _ _ _ _ h => h))), .inr (.inr (.inr (fun _ _ _ _ _ h => h))), .inr (.inr (.inr (fun _ _ _ _ _ h => h))), .inr (.inr (.inr (fun _ _ _ _ _ h => h))), .inr (.inr (.inr (fun _ _ _ _ _ h => h))), .inl rfl, .inr (.inr (.inr (fun _ _ _ _ _ h => h))), .inr (.inr (.inl rfl)), .inr (.inr (.inr (fun _ _ _ _ h h0 => h0.next h))), .inr (.inr (.inr (fun _ _ _ _ h h0 => h0.next h))), .inr (.inr (.inl rfl)), .inr (.inr (.inl rfl)), trivial⟩,
      ⟨.inr (.inr (.inr (fun _ _ _ _ _ h => h))), .inr (.inr (.inr (fun _ _ _ _ _ h => h))), .inr (.inr (.inr (fun _ _ _ _ _ h => h))), .inr (.inr (.inr (fun _ _ _ _ _ h => h))), .inr (.inr (.inr (fun _ _ _ _ _ h => h))), .inr (.inr (.inr (fun _ _ _ _ _ h => h))), .inr (.inr (.inr (fun _ _ _ _ _ h => h))), .inr (.inr (.inr (fun _ _ _ _ _ h => h))), .inl rfl, .inr (.inr (.inl rfl)), .inr (.inr (.inr (fun _ _ _ _ h h0 => by cases h; exact h0))), .inr (.inr (.inr (fun _ _ _ _ h h0 => by cases h; exact h0))), .inr (.inr (.inl rfl)), .inr (.inr (.inl rfl)), trivial⟩,
      ⟨.inr (.inr (.inr (fun _ _ _ _ _ h => h))), .inr (.inr (.inr (fun _ _ _ _ _ h => h))), .inr (.inr (.inr (fun _ _ _ _ _ h => h))), .inr (.inr (.inr (fun _ _ _ _ _ h => h))), .inr (.inr (.inr (fun _ _ _ _ _ h => h))), .inr (.inr (.inr (fun _ _ _ _ _ h => h))), .inr (.inr (.inr (fun _ _ _ _ _ h => h))), .inr (.inr (.inr (fun _ _ _ _ _ h => h))), .inr (.inr (.inr (fun _ _ _ _ _ h => h))), .inl rfl, .inr (.inr (.inr (fun _ _ _ _ h h0 => h0.next h))), .inr (.inr (.inr (fun _ _ _ _ h h0 => h0.next h))), .inr (.inr (.inl rfl)), .inr (.inr (.inl rfl)), trivial⟩,
      ⟨.inr (.inr (.inr (fun _ _ _ _ _ h => h))), .inr (.inr (.inr (fun _ _ _ _ _ h => h))), .inr (.inr (.inr (fun _ _ _ _ _ h => h))), .inr (.inr (.inr (fun _ _ _ _ _ h => h))), .inr (.inr (.inr (fun _ _ _ _ _ h => h))), .inr (.inr (.inr (fun _ _ _ _ _ h => h))), .inr (.inr (.inr (fun _ _ _ _ _ h => h))), .inr (.inr (.inr (fun _ _ _ _ _ h => h))), .inr (.inr (.inr (fun _ _ _ _ _ h => h))), .inr (.inr (.inr (fun _ _ _ _ _ h => h))), .inl rfl, .inr (.inr (.inr (fun _ _ _ _ h h0 => h0.next h))), .inr (.inr (.inl rfl)), .inr (.inr (.inl rfl)), trivial⟩,
      ⟨.inr (.inr (.inr (fun _ _ _ _ _ h => h))), .inr (.inr (.inr (fun _ _ _ _ _ h => h))), .inr (.inr (.inr (fun _ _ _ _ _ h => h))), .inr (.inr (.inr (fun _ _ _ _ _ h => h))), .inr (.inr (.inr (fun _ _ _ _ _ h => h))), .inr (.inr (.inr (fun _ _ _ _ _ h => h))), .inr (.inr (.inr (fun _ _ _ _ _ h => h))), .inr (.inr (.inr (fun _ _ _ _ _ h => h))), .inr (.inr (.inr (fun _ _ _ _ _ h => h))), .inr (.inr (.inr (fun _ _ _ _ _ h => h))), .inr (.inr (.inr (fun _ _ _ _ h h0 => h0.next h))), .inl rfl, .inr (.inr (.inl rfl)), .inr (.inr (.inl rfl)), trivial⟩,
      ⟨.inr (.inr (.inr (fun _ _ _ _ _ h => h))), .inr (.inr (.inr (fun _ _ _ _ _ h => h))), .inr (.inr (.inr (fun _ _ _ _ _ h => h))), .inr (.inr (.inr (fun _ _ _ _ _ h => h))), .inr (.inr (.inr (fun _ _ _ _ _ h => h))), .inr (.inr (.inr (fun _ _ _ _ _ h => h))), .inr (.inr (.inr (fun _ _ _ _ _ h => h))), .inr (.inr (.inr (fun _ _ _ _ _ h => h))), .inr (.inr (.inr (fun _ _ _ _ _ h => h))), .inr (.inr (.inr (fun _ _ _ _ _ h => h))), .inr (.inl rfl), .inr (.inl rfl), .inl rfl, .inr (.inr (.inl rfl)), trivial⟩,
      ⟨.inr (.inr (.inr (fun _ _ _ _ _ h => h))), .inr (.inr (.inr (fun _ _ _ _ _ h => h))), .inr (.inr (.inr (fun _ _ _ _ _ h => h))), .inr (.inr (.inr (fun _ _ _ _ _ h => h))), .inr (.inr (.inr (fun _ _ _ _ _ h => h))), .inr (.inr (.inr (fun _ _ _ _ _ h => h))), .inr (.inr (.inr (fun _ _ _ _ _ h => h))), .inr (.inr (.inr (fun _ _ _ _ _ h => h))), .inr (.inr (.inr (fun _ _ _ _ _ h => h))), .inr (.inr (.inr (fun _ _ _ _ _ h => h))), .inr (.inl rfl), .inr (.inl rfl), .inr (.inl rfl), .inl rfl, trivial⟩, trivial⟩
  · refine ⟨?_, ?_, ?_, ?_, ?_, ?_, ?_, ?_, ?_, ?_, ?_, ?_, ?_, ?_, trivial⟩
    · -- 0: Op.load 26 (Operand.tmp 10)
      refine step_plainV [] (fun _ => rfl) rfl ?_
      intro w1 vals hC1 hi0 hf E hE
      clear hi0
      clear hf
      have hs := HST4.out.next hC1.bel
      simp only [puts, act_put, act_put_none, List.setIfInBounds_toArray, List.set_cons_zero, List.set_cons_succ] at hE ⊢
      refine wpList_get_box (hs.1.2.2.1) rfl rfl rfl hu rfl elem_size ?_
      go_wp2_with fail
      exact .mk (hE _ _ rfl (hC1.same (by decide) (by decide)) rfl)
    · -- 1: Op.load 26 (Operand.tmp 10)
      refine step_plainV [] (fun _ => rfl) rfl ?_
      intro w1 vals hC1 hi0 hf E hE
      clear hi0
      clear hf
      have hs := HST4.out.next hC1.bel
      simp only [puts, act_put, act_put_none, List.setIfInBounds_toArray, List.set_cons_zero, List.set_cons_succ] at hE ⊢
      refine wpList_get_box (hs.1.2.2.1) rfl rfl rfl hu rfl elem_size ?_
      go_wp2_with fail
      exact .mk (hE _ _ rfl (hC1.same (by decide) (by decide)) rfl)
    · -- 2: Op.call { callee := Callee.value (Operand.func 32), args := #[Operand.tmp 55, Operand.tmp 56], argTypes := #[2
      refine step_plainV [(0, some 55), (1, some 56)] (fun _ => rfl) rfl ?_
      intro w1 vals hC1 hi0 hf E hE
      clear hi0
      have f0 : vals 0 = .agg (eV (zz)) := hf 0 rfl
      have f1 : vals 1 = .agg (eV (zz)) := hf 1 rfl
      try dsimp only at f0 f1
      clear hf
      simp only [puts, act_put, act_put_none, List.setIfInBounds_toArray, List.set_cons_zero, List.set_cons_succ, f0, f1] at hE ⊢
      clear f0 f1
      go_wp2_with fail
      refine calls_then (add_c _ _ _ (Kz.out) (Kz.out)) ?_
      rintro e w2 ⟨rfl, hb2⟩
      go_wp2_with fail
      exact .mk (hE _ _ rfl (hC1.other (by decide) (by decide) (hC1.bel.trans (hb2.mono hC1.bel.size)) hb2.size) hb2)
    · -- 3: Op.load 26 (Operand.tmp 9)
      refine step_plainV [] (fun _ => rfl) rfl ?_
      intro w1 vals hC1 hi0 hf E hE
      clear hi0
      clear hf
      have hs := HST4.out.next hC1.bel
      simp only [puts, act_put, act_put_none, List.setIfInBounds_toArray, List.set_cons_zero, List.set_cons_succ] at hE ⊢
      refine wpList_get_box (hs.1.2.2.2.1) rfl rfl rfl hu rfl elem_size ?_
      go_wp2_with fail
      exact .mk (hE _ _ rfl (hC1.same (by decide) (by decide)) rfl)
    · -- 4: Op.call { callee := Callee.value (Operand.func 48), args := #[Operand.tmp 57, Operand.tmp 58], argTypes := #[2
      refine step_plainV [(2, some 57), (3, some 58), (2, some 57)] (fun _ => rfl) rfl ?_
      intro w1 vals hC1 hi0 hf E hE
      clear hi0
      have f2 : vals 2 = .agg (eV (addE (zz) (zz))) := hf 2 rfl
      have f3 : vals 3 = .agg (eV (c)) := hf 3 rfl
      try dsimp only at f2 f3
      clear hf
      simp only [puts, act_put, act_put_none, List.setIfInBounds_toArray, List.set_cons_zero, List.set_cons_succ, f2, f3] at hE ⊢
      clear f2 f3
      go_wp2_with fail
      refine calls_then (sub_c _ _ _ (add_ok (Kz.out) (Kz.out)) (Kc.out)) ?_
      rintro e w2 ⟨rfl, hb2⟩
      go_wp2_with fail
      exact .mk (hE _ _ rfl (hC1.other (by decide) (by decide) (hC1.bel.trans (hb2.mono hC1.bel.size)) hb2.size) hb2)
    · -- 5: Op.load 26 (Operand.tmp 10)
      refine step_plainV [] (fun _ => rfl) rfl ?_
      intro w1 vals hC1 hi0 hf E hE
      clear hi0
      clear hf
      have hs := HST4.out.next hC1.bel
      simp only [puts, act_put, act_put_none, List.setIfInBounds_toArray, List.set_cons_zero, List.set_cons_succ] at hE ⊢
      refine wpList_get_box (hs.1.2.2.1) rfl rfl rfl hu rfl elem_size ?_
      go_wp2_with fail
      exact .mk (hE _ _ rfl (hC1.same (by decide) (by decide)) rfl)
    · -- 6: Op.load 26 (Operand.tmp 10)
      refine step_plainV [] (fun _ => rfl) rfl ?_
      intro w1 vals hC1 hi0 hf E hE
      clear hi0
      clear hf
      have hs := HST4.out.next hC1.bel
      simp only [puts, act_put, act_put_none, List.setIfInBounds_toArray, List.set_cons_zero, List.set_cons_succ] at hE ⊢
      refine wpList_get_box (hs.1.2.2.1) rfl rfl rfl hu rfl elem_size ?_
      go_wp2_with fail
      exact .mk (hE _ _ rfl (hC1.same (by decide) (by decide)) rfl)
    · -- 7: Op.call { callee := Callee.value (Operand.func 32), args := #[Operand.tmp 60, Operand.tmp 61], argTypes := #[2
      refine step_plainV [(5, some 60), (6, some 61), (4, some 59)] (fun _ => rfl) rfl ?_
      intro w1 vals hC1 hi0 hf E hE
      clear hi0
      have f4 : vals 4 = .agg (eV (subE (addE (zz) (zz)) (c))) := hf 4 rfl
      have f5 : vals 5 = .agg (eV (zz)) := hf 5 rfl
      have f6 : vals 6 = .agg (eV (zz)) := hf 6 rfl
      try dsimp only at f4 f5 f6
      clear hf
      simp only [puts, act_put, act_put_none, List.setIfInBounds_toArray, List.set_cons_zero, List.set_cons_succ, f4, f5, f6] at hE ⊢
      clear f4 f5 f6
      go_wp2_with fail
      refine calls_then (add_c _ _ _ (Kz.out) (Kz.out)) ?_
      rintro e w2 ⟨rfl, hb2⟩
      go_wp2_with fail
      exact .mk (hE _ _ rfl (hC1.other (by decide) (by decide) (hC1.bel.trans (hb2.mono hC1.bel.size)) hb2.size) hb2)
    · -- 8: Op.load 26 (Operand.tmp 9)
      refine step_plainV [] (fun _ => rfl) rfl ?_
      intro w1 vals hC1 hi0 hf E hE
      clear hi0
      clear hf
      have hs := HST4.out.next hC1.bel
      simp only [puts, act_put, act_put_none, List.setIfInBounds_toArray, List.set_cons_zero, List.set_cons_succ] at hE ⊢
      refine wpList_get_box (hs.1.2.2.2.1) rfl rfl rfl hu rfl elem_size ?_
      go_wp2_with fail
      exact .mk (hE _ _ rfl (hC1.same (by decide) (by decide)) rfl)
    · -- 9: Op.call { callee := Callee.value (Operand.func 32), args := #[Operand.tmp 62, Operand.tmp 63], argTypes := #[2
      refine step_plainV [(7, some 62), (8, some 63), (7, some 62)] (fun _ => rfl) rfl ?_
      intro w1 vals hC1 hi0 hf E hE
      clear hi0
      have f7 : vals 7 = .agg (eV (addE (zz) (zz))) := hf 7 rfl
      have f8 : vals 8 = .agg (eV (c)) := hf 8 rfl
      try dsimp only at f7 f8
      clear hf
      simp only [puts, act_put, act_put_none, List.setIfInBounds_toArray, List.set_cons_zero, List.set_cons_succ, f7, f8] at hE ⊢
      clear f7 f8
      go_wp2_with fail
      refine calls_then (add_c _ _ _ (add_ok (Kz.out) (Kz.out)) (Kc.out)) ?_
      rintro e w2 ⟨rfl, hb2⟩
      go_wp2_with fail
      exact .mk (hE _ _ rfl (hC1.other (by decide) (by decide) (hC1.bel.trans (hb2.mono hC1.bel.size)) hb2.size) hb2)
    · -- 10: Op.alloc 26
      refine step_plainV [] (fun _ => rfl) rfl ?_
      intro w1 vals hC1 hi0 hf E hE
      clear hi0
      clear hf
      simp only [puts, act_put, act_put_none, List.setIfInBounds_toArray, List.set_cons_zero, List.set_cons_succ] at hE ⊢
      go_wp2
      exact .mk (hE _ _ (NewBox.of hC1.bel.size) (hC1.setI (by decide) (hC1.bel.alloc hC1.bel.size _) (by simp)) (below_new _ _))
    · -- 11: Op.alloc 26
      refine step_plainV [] (fun _ => rfl) rfl ?_
      intro w1 vals hC1 hi0 hf E hE
      clear hi0
      clear hf
      simp only [puts, act_put, act_put_none, List.setIfInBounds_toArray, List.set_cons_zero, List.set_cons_succ] at hE ⊢
      go_wp2
      exact .mk (hE _ _ (NewBox.of hC1.bel.size) (hC1.setJ (by decide) (hC1.bel.alloc hC1.bel.size _) (by simp)) (below_new _ _))
    · -- 12: Op.store 26 (Operand.tmp 13) (Operand.tmp 59)
      refine step_plainV [(10, some 13), (4, some 59), (9, some 64), (0, some 55), (1, some 56), (2, some 57), (3, some 58), (4, some 59), (10, some 13), (11, some 14)] (fun _ => rfl) rfl ?_
      intro w1 vals hC1 hi0 hf E hE
      clear hi0
      have f0 : vals 0 = .agg (eV (zz)) := hf 0 rfl
      have f1 : vals 1 = .agg (eV (zz)) := hf 1 rfl
      have f2 : vals 2 = .agg (eV (addE (zz) (zz))) := hf 2 rfl
      have f3 : vals 3 = .agg (eV (c)) := hf 3 rfl
      have f4 : vals 4 = .agg (eV (subE (addE (zz) (zz)) (c))) := hf 4 rfl
      have f9 : vals 9 = .agg (eV (addE (addE (zz) (zz)) (c))) := hf 9 rfl
      have f10 : (NewBox v4.heap.size 26 (eV zE)) (vals 10) w1 := hf 10 rfl
      have f11 : (NewBox v4.heap.size 26 (eV zE)) (vals 11) w1 := hf 11 rfl
      try dsimp only at f0 f1 f2 f3 f4 f9 f10 f11
      clear hf
      obtain ⟨o, hx, ho, hblk⟩ := f10
      obtain ⟨o7, hx7, ho7, hblk7⟩ := f11
      have hne := hC1.apart hx hx7
      have hx' := hx
      have hx7' := hx7
      simp only [puts, act_put, act_put_none, List.setIfInBounds_toArray, List.set_cons_zero, List.set_cons_succ, f0, f1, f2, f3, f4, f9, hx, hx7] at hE ⊢
      clear f0 f1 f2 f3 f4 f9
      clear hx hx7
      refine wpList_put_box (cells := eV (subE (addE (zz) (zz)) (c))) hblk rfl rfl rfl rfl elem_size rfl (by simp [eV, ptV, wV, limbs, Value.oneCell']) ?_
      intro w2 hb2 hw2
      go_wp2_with fail
      exact .mk (hE undef _ ⟨⟨o, hx', ho, hb2⟩, ⟨o7, hx7', ho7, hw2.blk hblk7 (Ne.symm hne)⟩⟩ (hC1.other (by decide) (by decide) (hw2.below hC1.bel ho hC1.bel.size) (Nat.le_of_eq hw2.size.symm)) trivial)
    · -- 13: Op.store 26 (Operand.tmp 14) (Operand.tmp 64)
      refine step_plainV [(11, some 14), (9, some 64), (12, none), (0, some 55), (1, some 56), (2, some 57), (3, some 58), (4, some 59), (5, some 60), (6, some 61), (7, some 62), (8, some 63), (9, some 64), (10, some 13), (11, some 14), (12, none)] (fun _ => rfl) rfl ?_
      intro w1 vals hC1 hi0 hf E hE
      clear hi0
      have f0 : vals 0 = .agg (eV (zz)) := hf 0 rfl
      have f1 : vals 1 = .agg (eV (zz)) := hf 1 rfl
      have f2 : vals 2 = .agg (eV (addE (zz) (zz))) := hf 2 rfl
      have f3 : vals 3 = .agg (eV (c)) := hf 3 rfl
      have f4 : vals 4 = .agg (eV (subE (addE (zz) (zz)) (c))) := hf 4 rfl
      have f5 : vals 5 = .agg (eV (zz)) := hf 5 rfl
      have f6 : vals 6 = .agg (eV (zz)) := hf 6 rfl
      have f7 : vals 7 = .agg (eV (addE (zz) (zz))) := hf 7 rfl
      have f8 : vals 8 = .agg (eV (c)) := hf 8 rfl
      have f9 : vals 9 = .agg (eV (addE (addE (zz) (zz)) (c))) := hf 9 rfl
      have f12 : (fun z u => NewBox v4.heap.size 26 (eV (subE (addE (zz) (zz)) (c))) (z 10) u ∧ NewBox v4.heap.size 26 (eV zE) (z 11) u) vals w1 := hf 12 rfl
      try dsimp only at f0 f1 f2 f3 f4 f5 f6 f7 f8 f9 f12
      clear hf
      obtain ⟨⟨o, hx, ho, hblk⟩, ⟨o7, hx7, ho7, hblk7⟩⟩ := f12
      have hne := hC1.apart hx hx7
      have hx' := hx
      have hx7' := hx7
      simp only [puts, act_put, act_put_none, List.setIfInBounds_toArray, List.set_cons_zero, List.set_cons_succ, f0, f1, f2, f3, f4, f5, f6, f7, f8, f9, hx, hx7] at hE ⊢
      clear f0 f1 f2 f3 f4 f5 f6 f7 f8 f9
      clear hx hx7
      refine wpList_put_box (cells := eV (addE (addE (zz) (zz)) (c))) hblk7 rfl rfl rfl rfl elem_size rfl (by simp [eV, ptV, wV, limbs, Value.oneCell']) ?_
      intro w2 hb2 hw2
      go_wp2_with fail
      exact .mk (hE undef _ ⟨⟨o, hx', ho, hw2.blk hblk hne⟩, ⟨o7, hx7', ho7, hb2⟩⟩ (hC1.other (by decide) (by decide) (hw2.below hC1.bel ho7 hC1.bel.size) (Nat.le_of_eq hw2.size.symm)) trivial)
  intro w1 vals hC1 hf
  have f0 : vals 0 = .agg (eV (zz)) := hf 0 (by decide) rfl
  have f1 : vals 1 = .agg (eV (zz)) := hf 1 (by decide) rfl
  have f2 : vals 2 = .agg (eV (addE (zz) (zz))) := hf 2 (by decide) rfl
  have f3 : vals 3 = .agg (eV (c)) := hf 3 (by decide) rfl
  have f4 : vals 4 = .agg (eV (subE (addE (zz) (zz)) (c))) := hf 4 (by decide) rfl
  have f5 : vals 5 = .agg (eV (zz)) := hf 5 (by decide) rfl
  have f6 : vals 6 = .agg (eV (zz)) := hf 6 (by decide) rfl
  have f7 : vals 7 = .agg (eV (addE (zz) (zz))) := hf 7 (by decide) rfl
  have f8 : vals 8 = .agg (eV (c)) := hf 8 (by decide) rfl
  have f9 : vals 9 = .agg (eV (addE (addE (zz) (zz)) (c))) := hf 9 (by decide) rfl
  have f13 : (fun z u => NewBox v4.heap.size 26 (eV (subE (addE (zz) (zz)) (c))) (z 10) u ∧ NewBox v4.heap.size 26 (eV (addE (addE (zz) (zz)) (c))) (z 11) u) vals w1 := hf 13 (by decide) rfl
  try dsimp only at f0 f1 f2 f3 f4 f5 f6 f7 f8 f9 f13
  clear hf
  simp only [puts, act_put, act_put_none, List.setIfInBounds_toArray, List.set_cons_zero, List.set_cons_succ, f0, f1, f2, f3, f4, f5, f6, f7, f8, f9]
  clear f0 f1 f2 f3 f4 f5 f6 f7 f8 f9
  generalize vals 10 = x10 at *
  generalize vals 11 = x11 at *
  obtain ⟨⟨o5a, rfl, hlo5a, hblk5a⟩, ⟨o5b, rfl, hlo5b, hblk5b⟩⟩ := f13
  obtain ⟨f, hf⟩ : ∃ x, x = subE (addE (zz) (zz)) (c) := ⟨_, rfl⟩
  rw [← hf] at hblk5a
  have Kf := Lib.hid (show f.Ok by rw [hf]; exact sub_ok (add_ok (Kz.out) (Kz.out)) (Kc.out))
  have Ef := Lib.hid hf
  obtain ⟨g, hg⟩ : ∃ x, x = addE (addE (zz) (zz)) (c) := ⟨_, rfl⟩
  rw [← hg] at hblk5b
  have Kg := Lib.hid (show g.Ok by rw [hg]; exact add_ok (add_ok (Kz.out) (Kz.out)) (Kc.out))
  have Eg := Lib.hid hg
  have HST5 := Lib.hid (show Cs (.box o5a 26 (eV f) :: .box o5b 26 (eV g) :: [.box o4a 26 (eV e), .box o4b 26 (eV h), .box oz 26 (eV zz), .box o3 26 (eV c), .box o2 26 (eV b), .box o1 26 (eV a), .box gp 28 (ptV p), .box gq 28 (ptV q), .box gw 26 (eV tw), .box r 28 (ptV zP)]) w w1 from ⟨⟨hblk5a, hblk5b, (HST4.out.next hC1.bel).1⟩, (HST4.out.next hC1.bel).2⟩)
  clear hC1 HC0 HST4 hblk5a hblk5b hlo5a hlo5b hf hg
  obtain ⟨v5, rfl⟩ : ∃ x, x = w1 := ⟨_, rfl⟩
  go_wp2_with fail
  have HC0 := HST5.out.drew
  clear HST5
  refine wp_region_det (fun u => Cs [.box o5a 26 (eV f), .box o5b 26 (eV g), .box o4a 26 (eV e), .box o4b 26 (eV h), .box oz 26 (eV zz), .box o3 26 (eV c), .box o2 26 (eV b), .box o1 26 (eV a), .box gp 28 (ptV p), .box gq 28 (ptV q), .box gw 26 (eV tw), .box r 28 (ptV zP)] w u) (fun u => Blk u r 28 (ptV (⟨mulE (e) (f), mulE (g) (h), mulE (f) (g), mulE (e) (h)⟩)) ∧ Below w.heap.size w u) [(0, some 65), (1, some 66), (2, some 67), (3, some 68), (4, some 69), (5, some 70), (6, some 71), (7, some 72), (8, some 73), (9, some 74), (10, some 75), (11, some 76), (12, some 77), (13, none)] (by kernel_rfl) (by kernel_rfl) (by decide) (by kernel_rfl) (fun _ => rfl) HC0 ?_
  apply DetL.next
  · -- 0: Op.load 26 (Operand.tmp 11)
    apply detStep_plain []
    exact fun _ => rfl
    rfl
    rintro vals - w1 hC1 E hE
    have hs := hC1
    simp only [puts, act_put, act_put_none, List.setIfInBounds_toArray, List.set_cons_zero, List.set_cons_succ] at hE ⊢
    refine wpList_get_box (hs.1.2.2.1) rfl rfl rfl hu rfl elem_size ?_
    go_wp2_with fail
    exact .mk (hE _ hC1)
  apply DetL.next
  · -- 1: Op.load 26 (Operand.tmp 13)
    apply detStep_plain []
    exact fun _ => rfl
    rfl
    rintro vals ⟨-, -⟩ w1 hC1 E hE
    have hs := hC1
    simp only [puts, act_put, act_put_none, List.setIfInBounds_toArray, List.set_cons_zero, List.set_cons_succ] at hE ⊢
    refine wpList_get_box (hs.1.1) rfl rfl rfl hu rfl elem_size ?_
    go_wp2_with fail
    exact .mk (hE _ hC1)
  apply DetL.next
  · -- 2: Op.call { callee := Callee.value (Operand.func 38), args := #[Operand.tmp 65, Operand.tmp 66], argTypes := #[2
    apply detStep_plain [(0, some 65), (1, some 66)]
    exact fun _ => rfl
    rfl
    rintro vals ⟨⟨-, f0⟩, f1⟩ w1 hC1 E hE
    simp only [puts, act_put, act_put_none, List.setIfInBounds_toArray, List.set_cons_zero, List.set_cons_succ, f0, f1] at hE ⊢
    clear f0 f1
    go_wp2_with fail
    refine calls_then (mul_c _ _ _ (Ke.out) (Kf.out)) ?_
    rintro e w2 ⟨rfl, hb2⟩
    go_wp2_with fail
    exact .mk (hE _ (hC1.next hb2))
  apply DetL.next
  · -- 3: Op.load 26 (Operand.tmp 14)
    apply detStep_plain []
    exact fun _ => rfl
    rfl
    rintro vals ⟨⟨⟨-, -⟩, -⟩, -⟩ w1 hC1 E hE
    have hs := hC1
    simp only [puts, act_put, act_put_none, List.setIfInBounds_toArray, List.set_cons_zero, List.set_cons_succ] at hE ⊢
    refine wpList_get_box (hs.1.2.1) rfl rfl rfl hu rfl elem_size ?_
    go_wp2_with fail
    exact .mk (hE _ hC1)
  apply DetL.next
  · -- 4: Op.load 26 (Operand.tmp 12)
    apply detStep_plain []
    exact fun _ => rfl
    rfl
    rintro vals ⟨⟨⟨⟨-, -⟩, -⟩, -⟩, -⟩ w1 hC1 E hE
    have hs := hC1
    simp only [puts, act_put, act_put_none, List.setIfInBounds_toArray, List.set_cons_zero, List.set_cons_succ] at hE ⊢
    refine wpList_get_box (hs.1.2.2.2.1) rfl rfl rfl hu rfl elem_size ?_
    go_wp2_with fail
    exact .mk (hE _ hC1)
  apply DetL.next
  · -- 5: Op.call { callee := Callee.value (Operand.func 38), args := #[Operand.tmp 68, Operand.tmp 69], argTypes := #[2
    apply detStep_plain [(3, some 68), (4, some 69), (2, some 67)]
    exact fun _ => rfl
    rfl
    rintro vals ⟨⟨⟨⟨⟨-, -⟩, -⟩, f2⟩, f3⟩, f4⟩ w1 hC1 E hE
    simp only [puts, act_put, act_put_none, List.setIfInBounds_toArray, List.set_cons_zero, List.set_cons_succ, f2, f3, f4] at hE ⊢
    clear f2 f3 f4
    go_wp2_with fail
    refine calls_then (mul_c _ _ _ (Kg.out) (Kh.out)) ?_
    rintro e w2 ⟨rfl, hb2⟩
    go_wp2_with fail
    exact .mk (hE _ (hC1.next hb2))
  apply DetL.next
  · -- 6: Op.load 26 (Operand.tmp 13)
    apply detStep_plain []
    exact fun _ => rfl
    rfl
    rintro vals ⟨⟨⟨⟨⟨⟨-, -⟩, -⟩, -⟩, -⟩, -⟩, -⟩ w1 hC1 E hE
    have hs := hC1
    simp only [puts, act_put, act_put_none, List.setIfInBounds_toArray, List.set_cons_zero, List.set_cons_succ] at hE ⊢
    refine wpList_get_box (hs.1.1) rfl rfl rfl hu rfl elem_size ?_
    go_wp2_with fail
    exact .mk (hE _ hC1)
  apply DetL.next
  · -- 7: Op.load 26 (Operand.tmp 14)
    apply detStep_plain []
    exact fun _ => rfl
    rfl
    rintro vals ⟨⟨⟨⟨⟨⟨⟨-, -⟩, -⟩, -⟩, -⟩, -⟩, -⟩, -⟩ w1 hC1 E hE
    have hs := hC1
    simp only [puts, act_put, act_put_none, List.setIfInBounds_toArray, List.set_cons_zero, List.set_cons_succ] at hE ⊢
    refine wpList_get_box (hs.1.2.1) rfl rfl rfl hu rfl elem_size ?_
    go_wp2_with fail
    exact .mk (hE _ hC1)
  apply DetL.next
  · -- 8: Op.call { callee := Callee.value (Operand.func 38), args := #[Operand.tmp 71, Operand.tmp 72], argTypes := #[2
    apply detStep_plain [(6, some 71), (7, some 72), (5, some 70)]
    exact fun _ => rfl
    rfl
    rintro vals ⟨⟨⟨⟨⟨⟨⟨⟨-, -⟩, -⟩, -⟩, -⟩, -⟩, f5⟩, f6⟩, f7⟩ w1 hC1 E hE
    simp only [puts, act_put, act_put_none, List.setIfInBounds_toArray, List.set_cons_zero, List.set_cons_succ, f5, f6, f7] at hE ⊢
    clear f5 f6 f7
    go_wp2_with fail
    refine calls_then (mul_c _ _ _ (Kf.out) (Kg.out)) ?_
    rintro e w2 ⟨rfl, hb2⟩
    go_wp2_with fail
    exact .mk (hE _ (hC1.next hb2))
  apply DetL.next
  · -- 9: Op.load 26 (Operand.tmp 11)
    apply detStep_plain []
    exact fun _ => rfl
    rfl
    rintro vals ⟨⟨⟨⟨⟨⟨⟨⟨⟨-, -⟩, -⟩, -⟩, -⟩, -⟩, -⟩, -⟩, -⟩, -⟩ w1 hC1 E hE
    have hs := hC1
    simp only [puts, act_put, act_put_none, List.setIfInBounds_toArray, List.set_cons_zero, List.set_cons_succ] at hE ⊢
    refine wpList_get_box (hs.1.2.2.1) rfl rfl rfl hu rfl elem_size ?_
    go_wp2_with fail
    exact .mk (hE _ hC1)
  apply DetL.next
  · -- 10: Op.load 26 (Operand.tmp 12)
    apply detStep_plain []
    exact fun _ => rfl
    rfl
    rintro vals ⟨⟨⟨⟨⟨⟨⟨⟨⟨⟨-, -⟩, -⟩, -⟩, -⟩, -⟩, -⟩, -⟩, -⟩, -⟩, -⟩ w1 hC1 E hE
    have hs := hC1
    simp only [puts, act_put, act_put_none, List.setIfInBounds_toArray, List.set_cons_zero, List.set_cons_succ] at hE ⊢
    refine wpList_get_box (hs.1.2.2.2.1) rfl rfl rfl hu rfl elem_size ?_
    go_wp2_with fail
    exact .mk (hE _ hC1)
  apply DetL.next
  · -- 11: Op.call { callee := Callee.value (Operand.func 38), args := #[Operand.tmp 74, Operand.tmp 75], argTypes := #[2
    apply detStep_plain [(9, some 74), (10, some 75), (8, some 73)]
    exact fun _ => rfl
    rfl
    rintro vals ⟨⟨⟨⟨⟨⟨⟨⟨⟨⟨⟨-, -⟩, -⟩, -⟩, -⟩, -⟩, -⟩, -⟩, -⟩, f8⟩, f9⟩, f10⟩ w1 hC1 E hE
    simp only [puts, act_put, act_put_none, List.setIfInBounds_toArray, List.set_cons_zero, List.set_cons_succ, f8, f9, f10] at hE ⊢
    clear f8 f9 f10
    go_wp2_with fail
    refine calls_then (mul_c _ _ _ (Ke.out) (Kh.out)) ?_
    rintro e w2 ⟨rfl, hb2⟩
    go_wp2_with fail
    exact .mk (hE _ (hC1.next hb2))
  apply DetL.next
  · -- 12: Op.build 28 #[(0, Operand.tmp 67), (1, Operand.tmp 70), (2, Operand.tmp 73), (3, Operand.tmp 76)]
    apply detStep_plain [(2, some 67), (5, some 70), (8, some 73), (11, some 76)]
    exact fun _ => rfl
    rfl
    rintro vals ⟨⟨⟨⟨⟨⟨⟨⟨⟨⟨⟨⟨-, -⟩, -⟩, f2⟩, -⟩, -⟩, f5⟩, -⟩, -⟩, f8⟩, -⟩, -⟩, f11⟩ w1 hC1 E hE
    simp only [puts, act_put, act_put_none, List.setIfInBounds_toArray, List.set_cons_zero, List.set_cons_succ, f2, f5, f8, f11] at hE ⊢
    clear f2 f5 f8 f11
    refine wpList_build_pt (mulE (e) (f)) (mulE (g) (h)) (mulE (f) (g)) (mulE (e) (h)) rfl rfl rfl rfl rfl rfl ?_
    go_wp2_with fail
    exact .mk (hE _ hC1)
  apply DetL.last (v := undef)
  · -- 13: Op.store 28 (Operand.tmp 6) (Operand.tmp 77)
    apply detStep_plain [(12, some 77), (11, some 76), (0, some 65), (1, some 66), (2, some 67), (3, some 68), (4, some 69), (5, some 70), (6, some 71), (7, some 72), (8, some 73), (9, some 74), (10, some 75), (11, some 76), (12, some 77)]
    exact fun _ => rfl
    rfl
    rintro vals ⟨⟨⟨⟨⟨⟨⟨⟨⟨⟨⟨⟨⟨-, f0⟩, f1⟩, f2⟩, f3⟩, f4⟩, f5⟩, f6⟩, f7⟩, f8⟩, f9⟩, f10⟩, f11⟩, f12⟩ w1 hC1 E hE
    have hlr := HLR.out
    simp only [puts, act_put, act_put_none, List.setIfInBounds_toArray, List.set_cons_zero, List.set_cons_succ, f0, f1, f2, f3, f4, f5, f6, f7, f8, f9, f10, f11, f12] at hE ⊢
    clear f0 f1 f2 f3 f4 f5 f6 f7 f8 f9 f10 f11 f12
    refine wpList_put_box (cells := ptV (⟨mulE (e) (f), mulE (g) (h), mulE (f) (g), mulE (e) (h)⟩)) (hC1.1.2.2.2.2.2.2.2.2.2.2.2.1) rfl rfl rfl rfl point_size rfl (by simp [eV, ptV, wV, limbs, Value.oneCell']) ?_
    intro w6 hb6 hw6
    go_wp2_with fail
    exact .mk (hE _ ⟨hb6, hw6.below hC1.2 hlr hC1.2.size⟩)
  rintro vals ⟨⟨⟨⟨⟨⟨⟨⟨⟨⟨⟨⟨⟨⟨-, f0⟩, f1⟩, f2⟩, f3⟩, f4⟩, f5⟩, f6⟩, f7⟩, f8⟩, f9⟩, f10⟩, f11⟩, f12⟩, f13⟩ w1 hC1
  simp only [puts, act_put, act_put_none, List.setIfInBounds_toArray, List.set_cons_zero, List.set_cons_succ, f0, f1, f2, f3, f4, f5, f6, f7, f8, f9, f10, f11, f12, f13]
  clear f0 f1 f2 f3 f4 f5 f6 f7 f8 f9 f10 f11 f12 f13
  clear HC0
  go_wp2_with fail
  refine bodyPost_ret (results_box (P := Try.prog) rfl rfl hC1.1 hp rfl point_size) rfl ⟨?_, hC1.2⟩
  rw [Ef.out, Eg.out, Ee.out, Eh.out, Ez.out, Ea.out, Eb.out, Ec.out]
  rfl
end Go.Proofs.Ytbeokfpbhemcfaa
