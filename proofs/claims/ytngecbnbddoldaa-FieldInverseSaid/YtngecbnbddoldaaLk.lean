/-
  Walk: the law's like.
-/
import Derived.Test.YtngecbnbddoldaaRl
namespace Go.Proofs.Ytngecbnbddoldaa
set_option linter.unusedSimpArgs false
set_option linter.unusedVariables false
open Go.RowKit

/-- a slice that reads, anywhere -/
def RdV (n : Nat) (xs : List Value) (v : Value) (u : World) : Prop := ∃ A c, v = .slice A n c ∧ n ≤ c ∧ Rd u u.heap.size A xs
theorem RdV.next {n : Nat} {xs : List Value} {v : Value} {u u' : World} (h : RdV n xs v u) (hb : Below u.heap.size u u') : RdV n xs v u' := by
  obtain ⟨A, c, h1, h2, h3⟩ := h
  exact ⟨A, c, h1, h2, (h3.below hb).mono hb.size⟩
theorem RdV.of_own {n : Nat} {xs : List Value} {A : Option Addr} {c base : Nat} {e : TypeId} {u : World} (h : OwnX u base e 1 (.slice A n c) n xs) : RdV n xs (.slice A n c) u :=
  ⟨A, c, rfl, h.le_cap, Rd.of_own h (Nat.le_refl _)⟩
theorem RdV.of_bytes {N o : Nat} {u : World} (h : Blk u o 5 (bnV (byN N)).toArray) : RdV 32 (bytesV (byB N)) (.slice (some ⟨o, 0, none⟩) 32 32) u := by
  rw [bnV_byB] at h
  exact ⟨_, 32, rfl, Nat.le_refl _, Rd.of_blk h h.lt⟩
theorem refB_length (l : List Nat) : (refB l).length = 32 := by simp [refB]
theorem len_eq {α : Type} {l : List α} {n : Nat} (h : l.length = n) (A : Option Addr) (c : Nat) : Value.slice A n c = .slice A l.length c := by rw [h]
set_option maxRecDepth 100000 in
set_option maxHeartbeats 2000000 in
theorem like_any (x : E5) (hx : x.Lt 18446744073709551616) (l : List Nat) (hd : Dg l) (A : Option Addr) (c : Nat) (w : World) (hr : Rd w w.heap.size A (dV l)) (hc : l.length ≤ c) (hl : l.length ≤ 1000000) :
    Calls Try.prog 9 #[.agg (eV x), .slice A l.length c] w (fun e w' => e = .returned (.bool (byB (leastE x).val == refB l)) ∧ Below w.heap.size w w') := by
  have hu := Try.underlying26
  obtain ⟨n, hn⟩ : ∃ n, n = l.length := ⟨_, rfl⟩
  rw [← hn]
  have hb0 := Blk.new w 26 (eV x)
  have hbel0 : Below w.heap.size w (w.alloc (.cells (eV x) 26)) := below_new w _
  have HX := Lib.hid hx
  have HD := Lib.hid hd
  have HR := Lib.hid hr
  have HN := Lib.hid hn
  have HCC := Lib.hid hc
  have HL := Lib.hid hl
  have HB0 := Lib.hid hb0
  have HBEL0 := Lib.hid hbel0
  clear hx hd hr hn hc hl hb0 hbel0
  obtain ⟨Y, hY⟩ : ∃ Y, Y = byB (leastE x).val := ⟨_, rfl⟩
  obtain ⟨Z, hZ⟩ : ∃ Z, Z = refB l := ⟨_, rfl⟩
  have hYl : Y.length = 32 := by rw [hY, byB_length]
  have hZl : Z.length = 32 := by rw [hZ, refB_length]
  rw [← hY, ← hZ]
  have HY := Lib.hid hY
  have HZ := Lib.hid hZ
  have HYL := Lib.hid hYl
  have HZL := Lib.hid hZl
  clear hY hZ hYl hZl
  go_enter Try.func9, Try.ntmps9
  go_wp2_with fail
  generalize hw : w.alloc (.cells (eV x) 26) = w0 at HB0 HBEL0 ⊢
  generalize hg : w.heap.size = g at HB0 HBEL0 HR ⊢
  have HHG := Lib.hid hg
  clear hw hg
  have HC0 : Blk w0.drew g 26 (eV x) ∧ Below g w w0.drew ∧ g ≤ w0.drew.heap.size := ⟨HB0.out, HBEL0.out.drew, Nat.le_of_lt HB0.out.lt⟩
  refine wp_region_list (fun u => Blk u g 26 (eV x) ∧ Below g w u ∧ g ≤ u.heap.size) (fun | false => (fun _ => True) | true => (fun _ => True)) (fun | false, _ => false | true, _ => false)
    [fun z _ => z 0 = .agg (eV x),
     fun z u => (RdV 32 (bytesV Y)) (z 1) u,
     fun z _ => z 2 = .string ⟨Y.toArray⟩,
     fun z _ => z 3 = .slice A n c,
     fun z u => (RdV 32 (bytesV Z)) (z 4) u,
     fun z _ => z 5 = .string ⟨Z.toArray⟩,
     fun z _ => z 6 = .bool (Y == Z),
     fun z _ => z 7 = .bool (Y == Z)]
    [Eq, fun u u' => Below u.heap.size u u', Eq, Eq, fun u u' => Below u.heap.size u u', Eq, Eq, Eq]
    (fun _ _ => false) [(0, some 5), (1, some 6), (2, some 7), (3, some 8), (4, some 9), (5, some 10), (6, some 11), (7, some 4)] (by kernel_rfl) (by kernel_rfl) rfl (fun _ => rfl) ?_ ?_ ?_ ?_ ?_ ?_
  · exact HC0
  · intro m; cases m; exact trivial; exact trivial
  · intro m; cases m
    · exact ⟨.inr (fun _ _ h h0 => h ▸ h0), .inr (fun _ _ _ h => h), .inr (fun _ _ h h0 => h ▸ h0), .inr (fun _ _ h h0 => h ▸ h0), .inr (fun _ _ _ h => h), .inr (fun _ _ h h0 => h ▸ h0), .inr (fun _ _ h h0 => h ▸ h0), .inr (fun _ _ h h0 => h ▸ h0), trivial⟩
    · exact ⟨.inr (fun _ _ h h0 => h ▸ h0), .inr (fun _ _ _ h => h), .inr (fun _ _ h h0 => h ▸ h0), .inr (fun _ _ h h0 => h ▸ h0), .inr (fun _ _ _ h => h), .inr (fun _ _ h h0 => h ▸ h0), .inr (fun _ _ h h0 => h ▸ h0), .inr (fun _ _ h h0 => h ▸ h0), trivial⟩
  · exact ⟨⟨.inl rfl, .inr (.inr (.inl rfl)), .inr (.inr (.inl rfl)), .inr (.inr (.inr (fun _ _ _ _ _ h => h))), .inr (.inr (.inl rfl)), .inr (.inr (.inl rfl)), .inr (.inr (.inl rfl)), .inr (.inr (.inl rfl)), trivial⟩,
      ⟨.inr (.inr (.inr (fun _ _ _ _ _ h => h))), .inl rfl, .inr (.inr (.inl rfl)), .inr (.inr (.inr (fun _ _ _ _ _ h => h))), .inr (.inr (.inl rfl)), .inr (.inr (.inl rfl)), .inr (.inr (.inl rfl)), .inr (.inr (.inl rfl)), trivial⟩,
      ⟨.inr (.inr (.inr (fun _ _ _ _ _ h => h))), .inr (.inr (.inr (fun _ _ _ _ h h0 => by cases h; exact h0))), .inl rfl, .inr (.inr (.inr (fun _ _ _ _ _ h => h))), .inr (.inr (.inr (fun _ _ _ _ h h0 => by cases h; exact h0))), .inr (.inr (.inr (fun _ _ _ _ _ h => h))), .inr (.inr (.inl rfl)), .inr (.inr (.inl rfl)), trivial⟩,
      ⟨.inr (.inr (.inr (fun _ _ _ _ _ h => h))), .inr (.inr (.inr (fun _ _ _ _ h h0 => by cases h; exact h0))), .inr (.inr (.inr (fun _ _ _ _ _ h => h))), .inl rfl, .inr (.inr (.inl rfl)), .inr (.inr (.inl rfl)), .inr (.inr (.inl rfl)), .inr (.inr (.inl rfl)), trivial⟩,
      ⟨.inr (.inr (.inr (fun _ _ _ _ _ h => h))), .inr (.inr (.inr (fun _ _ _ _ h h0 => h0.next h))), .inr (.inr (.inr (fun _ _ _ _ _ h => h))), .inr (.inr (.inr (fun _ _ _ _ _ h => h))), .inl rfl, .inr (.inr (.inl rfl)), .inr (.inr (.inl rfl)), .inr (.inr (.inl rfl)), trivial⟩,
      ⟨.inr (.inr (.inr (fun _ _ _ _ _ h => h))), .inr (.inr (.inr (fun _ _ _ _ h h0 => by cases h; exact h0))), .inr (.inr (.inr (fun _ _ _ _ _ h => h))), .inr (.inr (.inr (fun _ _ _ _ _ h => h))), .inr (.inr (.inr (fun _ _ _ _ h h0 => by cases h; exact h0))), .inl rfl, .inr (.inr (.inl rfl)), .inr (.inr (.inl rfl)), trivial⟩,
      ⟨.inr (.inr (.inr (fun _ _ _ _ _ h => h))), .inr (.inr (.inr (fun _ _ _ _ h h0 => by cases h; exact h0))), .inr (.inr (.inr (fun _ _ _ _ _ h => h))), .inr (.inr (.inr (fun _ _ _ _ _ h => h))), .inr (.inr (.inr (fun _ _ _ _ h h0 => by cases h; exact h0))), .inr (.inr (.inr (fun _ _ _ _ _ h => h))), .inl rfl, .inr (.inr (.inl rfl)), trivial⟩,
      ⟨.inr (.inr (.inr (fun _ _ _ _ _ h => h))), .inr (.inr (.inr (fun _ _ _ _ h h0 => by cases h; exact h0))), .inr (.inr (.inr (fun _ _ _ _ _ h => h))), .inr (.inr (.inr (fun _ _ _ _ _ h => h))), .inr (.inr (.inr (fun _ _ _ _ h h0 => by cases h; exact h0))), .inr (.inr (.inr (fun _ _ _ _ _ h => h))), .inr (.inr (.inr (fun _ _ _ _ _ h => h))), .inl rfl, trivial⟩, trivial⟩
  · refine ⟨?_, ?_, ?_, ?_, ?_, ?_, ?_, ?_, trivial⟩
    · -- 0: Op.load 26 (Operand.tmp 2)
      refine step_plain [] (fun _ => rfl) rfl ?_
      intro w1 vals hC1 hi0 hf E hE
      clear hi0
      clear hf
      simp only [puts, act_put, act_put_none, List.setIfInBounds_toArray, List.set_cons_zero, List.set_cons_succ] at hE ⊢
      refine wpList_get_box hC1.1 rfl rfl rfl hu rfl elem_size ?_
      go_wp2_with fail
      exact .mk (hE _ _ rfl hC1 rfl)
    · -- 1: Op.call { callee := Callee.value (Operand.func 18), args := #[Operand.tmp 5], argTypes := #[26] }
      refine step_plain [(0, some 5)] (fun _ => rfl) rfl ?_
      intro w1 vals hC1 hi0 hf E hE
      clear hi0
      have f0 : vals 0 = .agg (eV x) := hf 0 rfl
      try dsimp only at f0
      clear hf
      simp only [puts, act_put, act_put_none, List.setIfInBounds_toArray, List.set_cons_zero, List.set_cons_succ, f0] at hE ⊢
      clear f0
      go_wp2_with fail
      refine calls_then (bytes_any x _ HX.out) ?_
      rintro e w2 ⟨o2, rfl, hlo, hblk, hb2⟩
      have hrv := RdV.of_bytes hblk
      rw [← HY.out] at hrv
      go_wp2_with fail
      exact .mk (hE _ _ hrv ⟨hC1.1.below hb2 hC1.1.lt, hC1.2.1.trans (hb2.mono hC1.2.2), Nat.le_trans hC1.2.2 hb2.size⟩ hb2)
    · -- 2: Op.convert 33 9 (Operand.tmp 6)
      refine step_plain [(1, some 6)] (fun _ => rfl) rfl ?_
      intro w1 vals hC1 hi0 hf E hE
      clear hi0
      have f1 : (RdV 32 (bytesV Y)) (vals 1) w1 := hf 1 rfl
      try dsimp only at f1
      clear hf
      obtain ⟨A2, c2, hx2, hc2, hrd⟩ := f1
      simp only [puts, act_put, act_put_none, List.setIfInBounds_toArray, List.set_cons_zero, List.set_cons_succ, hx2] at hE ⊢
      clear hx2
      refine wpList_str_of (l := Y) hrd Try.underlying33 Try.underlying5 Try.underlying9 rfl rfl (len_eq HYL.out _ _) ?_
      go_wp2_with fail
      exact .mk (hE _ _ rfl hC1 rfl)
    · -- 3: Op.move (Operand.tmp 1)
      refine step_plain [] (fun _ => rfl) rfl ?_
      intro w1 vals hC1 hi0 hf E hE
      clear hi0
      clear hf
      simp only [puts, act_put, act_put_none, List.setIfInBounds_toArray, List.set_cons_zero, List.set_cons_succ] at hE ⊢
      go_wp2
      exact .mk (hE _ _ rfl hC1 rfl)
    · -- 4: Op.call { callee := Callee.value (Operand.func 24), args := #[Operand.tmp 8], argTypes := #[28] }
      refine step_plain [(3, some 8), (1, some 6)] (fun _ => rfl) rfl ?_
      intro w1 vals hC1 hi0 hf E hE
      clear hi0
      have f1 : (RdV 32 (bytesV Y)) (vals 1) w1 := hf 1 rfl
      have f3 : vals 3 = .slice A n c := hf 3 rfl
      try dsimp only at f1 f3
      clear hf
      have hrd := (HR.out.below hC1.2.1).mono hC1.2.2
      simp only [puts, act_put, act_put_none, List.setIfInBounds_toArray, List.set_cons_zero, List.set_cons_succ, f3] at hE ⊢
      clear f3
      go_wp2_with fail
      have hcall := rbytes_any l HD.out A c w1 hrd (by have := HCC.out; have := HN.out; omega) (by have := HL.out; have := HN.out; omega)
      rw [← HN.out] at hcall
      refine calls_then hcall ?_
      rintro e w2 ⟨A2, c2, rfl, hown, hb2⟩
      rw [← HZ.out] at hown
      have hrv := RdV.of_own hown
      go_wp2_with fail
      exact .mk (hE _ _ hrv ⟨hC1.1.below hb2 hC1.1.lt, hC1.2.1.trans (hb2.mono hC1.2.2), Nat.le_trans hC1.2.2 hb2.size⟩ hb2)
    · -- 5: Op.convert 33 9 (Operand.tmp 9)
      refine step_plain [(4, some 9)] (fun _ => rfl) rfl ?_
      intro w1 vals hC1 hi0 hf E hE
      clear hi0
      have f4 : (RdV 32 (bytesV Z)) (vals 4) w1 := hf 4 rfl
      try dsimp only at f4
      clear hf
      obtain ⟨A2, c2, hx2, hc2, hrd⟩ := f4
      simp only [puts, act_put, act_put_none, List.setIfInBounds_toArray, List.set_cons_zero, List.set_cons_succ, hx2] at hE ⊢
      clear hx2
      refine wpList_str_of (l := Z) hrd Try.underlying33 Try.underlying5 Try.underlying9 rfl rfl (len_eq HZL.out _ _) ?_
      go_wp2_with fail
      exact .mk (hE _ _ rfl hC1 rfl)
    · -- 6: Op.binOp BinOp.eql 9 (Operand.tmp 7) (Operand.tmp 10) 9
      refine step_plain [(2, some 7), (5, some 10)] (fun _ => rfl) rfl ?_
      intro w1 vals hC1 hi0 hf E hE
      clear hi0
      have f2 : vals 2 = .string ⟨Y.toArray⟩ := hf 2 rfl
      have f5 : vals 5 = .string ⟨Z.toArray⟩ := hf 5 rfl
      try dsimp only at f2 f5
      clear hf
      simp only [puts, act_put, act_put_none, List.setIfInBounds_toArray, List.set_cons_zero, List.set_cons_succ, f2, f5] at hE ⊢
      clear f2 f5
      go_wp2
      exact .mk (hE _ _ rfl hC1 rfl)
    · -- 7: Op.assign (Operand.tmp 11)
      refine step_plain [(6, some 11), (4, some 9), (0, some 5), (1, some 6), (2, some 7), (3, some 8), (4, some 9), (5, some 10), (6, some 11)] (fun _ => rfl) rfl ?_
      intro w1 vals hC1 hi0 hf E hE
      clear hi0
      have f0 : vals 0 = .agg (eV x) := hf 0 rfl
      have f1 : (RdV 32 (bytesV Y)) (vals 1) w1 := hf 1 rfl
      have f2 : vals 2 = .string ⟨Y.toArray⟩ := hf 2 rfl
      have f3 : vals 3 = .slice A n c := hf 3 rfl
      have f4 : (RdV 32 (bytesV Z)) (vals 4) w1 := hf 4 rfl
      have f5 : vals 5 = .string ⟨Z.toArray⟩ := hf 5 rfl
      have f6 : vals 6 = .bool (Y == Z) := hf 6 rfl
      try dsimp only at f0 f1 f2 f3 f4 f5 f6
      clear hf
      simp only [puts, act_put, act_put_none, List.setIfInBounds_toArray, List.set_cons_zero, List.set_cons_succ, f0, f2, f3, f5, f6] at hE ⊢
      clear f0 f2 f3 f5 f6
      go_wp2
      exact .mk (hE _ _ rfl hC1 rfl)
  intro w1 vals hC1 hf
  have f0 : vals 0 = .agg (eV x) := hf 0 (by decide) rfl
  have f1 : (RdV 32 (bytesV Y)) (vals 1) w1 := hf 1 (by decide) rfl
  have f2 : vals 2 = .string ⟨Y.toArray⟩ := hf 2 (by decide) rfl
  have f3 : vals 3 = .slice A n c := hf 3 (by decide) rfl
  have f4 : (RdV 32 (bytesV Z)) (vals 4) w1 := hf 4 (by decide) rfl
  have f5 : vals 5 = .string ⟨Z.toArray⟩ := hf 5 (by decide) rfl
  have f6 : vals 6 = .bool (Y == Z) := hf 6 (by decide) rfl
  have f7 : vals 7 = .bool (Y == Z) := hf 7 (by decide) rfl
  try dsimp only at f0 f1 f2 f3 f4 f5 f6 f7
  clear hf
  simp only [puts, act_put, act_put_none, List.setIfInBounds_toArray, List.set_cons_zero, List.set_cons_succ, f0, f2, f3, f5, f6, f7]
  clear f0 f2 f3 f5 f6 f7
  generalize vals 1 = x1 at *
  generalize vals 4 = x4 at *
  go_wp2_with fail
  go_ret
  exact ⟨rfl, by rw [HHG.out]; exact hC1.2.1⟩
end Go.Proofs.Ytngecbnbddoldaa
