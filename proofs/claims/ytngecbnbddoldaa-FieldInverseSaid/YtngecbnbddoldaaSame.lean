/-
  Walks: the reference's Same; contracts for the law FieldSums.
-/
import Derived.Test.YtngecbnbddoldaaIntW
namespace Go.Proofs.Ytngecbnbddoldaa
set_option linter.unusedSimpArgs false
set_option linter.unusedVariables false
open Go.RowKit

set_option maxRecDepth 100000 in
set_option maxHeartbeats 2000000 in
theorem same_any (a b : List Nat) (ha : Dg a) (hb : Dg b) (hla : a.length = 32) (hlb : b.length = 32) (A B : Option Addr) (c d : Nat) (w : World) (hra : Rd w w.heap.size A (dV a)) (hrb : Rd w w.heap.size B (dV b)) (hc : 32 ≤ c) (hd : 32 ≤ d) :
    Calls Try.prog 32 #[.slice A 32 c, .slice B 32 d] w (BoolPost (refB a == refB b) w) := by
  obtain ⟨Y, hY⟩ : ∃ Y, Y = refB a := ⟨_, rfl⟩
  obtain ⟨Z, hZ⟩ : ∃ Z, Z = refB b := ⟨_, rfl⟩
  have hYl : Y.length = 32 := by rw [hY, refB_length]
  have hZl : Z.length = 32 := by rw [hZ, refB_length]
  have cY : ∀ u, Below w.heap.size w u → Calls Try.prog 24 #[.slice A 32 c] u (OwnPost 5 32 (bytesV Y) u) := fun u hu => by
    have h := rbytes_any a ha A c u ((hra.below hu).mono hu.size) (by omega) (by omega)
    rw [hla, ← hY] at h; exact h
  have cZ : ∀ u, Below w.heap.size w u → Calls Try.prog 24 #[.slice B 32 d] u (OwnPost 5 32 (bytesV Z) u) := fun u hu => by
    have h := rbytes_any b hb B d u ((hrb.below hu).mono hu.size) (by omega) (by omega)
    rw [hlb, ← hZ] at h; exact h
  rw [← hY, ← hZ]
  have CY := Lib.hid cY
  have CZ := Lib.hid cZ
  have HYL := Lib.hid hYl
  have HZL := Lib.hid hZl
  clear hra hrb ha hb hla hlb hc hd hY hZ hYl hZl cY cZ
  go_enter Try.func32, Try.ntmps32
  go_wp2_with fail
  have HC0 : Below w.heap.size w w.drew := (Below.refl _ _).drew
  refine wp_region_list (fun u => Below w.heap.size w u) (fun | false => (fun _ => True) | true => (fun _ => True)) (fun | false, _ => false | true, _ => false)
    [fun z _ => z 0 = .slice A 32 c,
     fun z u => (RdV 32 (bytesV Y)) (z 1) u,
     fun z _ => z 2 = .string ⟨Y.toArray⟩,
     fun z _ => z 3 = .slice B 32 d,
     fun z u => (RdV 32 (bytesV Z)) (z 4) u,
     fun z _ => z 5 = .string ⟨Z.toArray⟩,
     fun z _ => z 6 = .bool (Y == Z),
     fun z _ => z 7 = .bool (Y == Z)]
    [Eq, fun u u' => Below u.heap.size u u', Eq, Eq, fun u u' => Below u.heap.size u u', Eq, Eq, Eq]
    (fun _ _ => false) [(0, some 5), (1, some 6), (2, some 7), (3, some 8), (4, some 9), (5, some 10), (6, some 11), (7, some 4)] (by kernel_rfl) (by kernel_rfl) rfl (fun _ => rfl) ?_ ?_ ?_ ?_ ?_ ?_
  · exact HC0
  · intro m; cases m; exact trivial; exact trivial
  · intro m; cases m
    · exact ⟨.inr (fun _ _ h h0 => h ▸ h0), .inr (fun _ _ _ h => h), .inr (fun _ _ h h0 => h ▸ h0), .inr (fun _ _ h h0 => h ▸ h0), .inr (fun _ _ _ h => h), .inr (fun _ _ h h0 => h ▸ h0), .inr (fun _ _ h h0 => h ▸ h0), .inr (fun _ _ h h0 => h ▸ h0), trivial⟩
    · exact ⟨.inr (fun _ _ h h0 => h ▸ h0), .inr (fun _ _ _ h => h), .inr (fun _ _ h h0 => h ▸ h0), .inr (fun _ _ h h0 => h ▸ h0), .inr (fun _ _ _ h => h), .inr (fun _ _ h h0 => h ▸ h0), .inr (fun _ _ h h0 => h ▸ h0), .inr (fun _ _ h h0 => h ▸ h0), trivial⟩
  · exact ⟨⟨.inl rfl, .inr (.inr (.inl rfl)), .inr (.inr (.inl rfl)), .inr (.inr (.inr (fun _ _ _ _ _ h => h))), .inr (.inr (.inl rfl)), .inr (.inr (.inl rfl)), .inr (.inr (.inl rfl)), .inr (.inr (.inl rfl)), trivial⟩,
      ⟨.inr (.inr (.inr (fun _ _ _ _ _ h => h))), .inl rfl, .inr (.inr (.inl rfl)), .inr (.inr (.inr (fun _ _ _ _ _ h => h))), .inr (.inr (.inl rfl)), .inr (.inr (.inl rfl)), .inr (.inr (.inl rfl)), .inr (.inr (.inl rfl)), trivial⟩,
      ⟨.inr (.inr (.inr (fun _ _ _ _ _ h => h))), .inr (.inr (.inr (fun _ _ _ _ h h0 => by cases h; exact h0))), .inl rfl, .inr (.inr (.inr (fun _ _ _ _ _ h => h))), .inr (.inr (.inr (fun _ _ _ _ h h0 => by cases h; exact h0))), .inr (.inr (.inr (fun _ _ _ _ _ h => h))), .inr (.inr (.inl rfl)), .inr (.inr (.inl rfl)), trivial⟩,
      ⟨.inr (.inr (.inr (fun _ _ _ _ _ h => h))), .inr (.inr (.inr (fun _ _ _ _ h h0 => by cases h; exact h0))), .inr (.inr (.inr (fun _ _ _ _ _ h => h))), .inl rfl, .inr (.inr (.inl rfl)), .inr (.inr (.inl rfl)), .inr (.inr (.inl rfl)), .inr (.inr (.inl rfl)), trivial⟩,
      ⟨.inr (.inr (.inr (fun _ _ _ _ _ h => h))), .inr (.inr (.inr (fun _ _ _ _ h h0 => h0.next h))), .inr (.inr (.inr (fun _ _ _ _ _ h => h))), .inr (.inr (.inr (fun _ _ _ _ _ h => h))), .inl rfl, .inr (.inr (.inl rfl)), .inr (.inr (.inl rfl)), .inr (.inr (.inl rfl)), trivial⟩,
      ⟨.inr (.inr (.inr (fun _ _ _ _ _ h => h))), .inr (.inr (.inr (fun _ _ _ _ h h0 => by cases h; exact h0))), .inr (.inr (.inr (fun _ _ _ _ _ h => h))), .inr (.inr (.inr (fun _ _ _ _ _ h => h))), .inr (.inr (.inr (fun _ _ _ _ h h0 => by cases h; exact h0))), .inl rfl, .inr (.inr (.inl rfl)), .inr (.inr (.inl rfl)), trivial⟩,
      ⟨.inr (.inr (.inr (fun _ _ _ _ _ h => h))), .inr (.inr (.inr (fun _ _ _ _ h h0 => by cases h; exact h0))), .inr (.inr (.inr (fun _ _ _ _ _ h => h))), .inr (.inr (.inr (fun _ _ _ _ _ h => h))), .inr (.inr (.inr (fun _ _ _ _ h h0 => by cases h; exact h0))), .inr (.inr (.inr (fun _ _ _ _ _ h => h))), .inl rfl, .inr (.inr (.inl rfl)), trivial⟩,
      ⟨.inr (.inr (.inr (fun _ _ _ _ _ h => h))), .inr (.inr (.inr (fun _ _ _ _ h h0 => by cases h; exact h0))), .inr (.inr (.inr (fun _ _ _ _ _ h => h))), .inr (.inr (.inr (fun _ _ _ _ _ h => h))), .inr (.inr (.inr (fun _ _ _ _ h h0 => by cases h; exact h0))), .inr (.inr (.inr (fun _ _ _ _ _ h => h))), .inr (.inr (.inr (fun _ _ _ _ _ h => h))), .inl rfl, trivial⟩, trivial⟩
  · refine ⟨?_, ?_, ?_, ?_, ?_, ?_, ?_, ?_, trivial⟩
    · -- 0: Op.move (Operand.tmp 0)
      refine step_plain [] (fun _ => rfl) rfl ?_
      intro w1 vals hC1 hi0 hf E hE
      clear hi0
      clear hf
      simp only [puts, act_put, act_put_none, List.setIfInBounds_toArray, List.set_cons_zero, List.set_cons_succ] at hE ⊢
      go_wp2
      exact .mk (hE _ _ rfl hC1 rfl)
    · -- 1: Op.call { callee := Callee.value (Operand.func 24), args := #[Operand.tmp 5], argTypes := #[28] }
      refine step_plain [(0, some 5)] (fun _ => rfl) rfl ?_
      intro w1 vals hC1 hi0 hf E hE
      clear hi0
      have f0 : vals 0 = .slice A 32 c := hf 0 rfl
      try dsimp only at f0
      clear hf
      simp only [puts, act_put, act_put_none, List.setIfInBounds_toArray, List.set_cons_zero, List.set_cons_succ, f0] at hE ⊢
      clear f0
      go_wp2_with fail
      refine calls_then (CY.out _ hC1) ?_
      rintro e w2 ⟨A2, c2, rfl, hown, hb2⟩
      have hrv := RdV.of_own hown
      go_wp2_with fail
      exact .mk (hE _ _ hrv (hC1.trans (hb2.mono hC1.size)) hb2)
    · -- 2: Op.convert 33 9 (Operand.tmp 6)
      refine step_plain [(1, some 6)] (fun _ => rfl) rfl ?_
      intro w1 vals hC1 hi0 hf E hE
      clear hi0
      have f1 : (RdV 32 (bytesV Y)) (vals 1) w1 := hf 1 rfl
      try dsimp only at f1
      clear hf
      obtain ⟨A2, c2, hx2, hc2, hrd⟩ := f1
      simp only [puts, act_put, act_put_none, List.setIfInBounds_toArray, List.set_cons_zero, List.set_cons_succ, hx2] at hE ⊢
      clear hx2
      refine wpList_str_of (l := Y) hrd Try.underlying33 Try.underlying5 Try.underlying9 rfl rfl (len_eq HYL.out _ _) ?_
      go_wp2_with fail
      exact .mk (hE _ _ rfl hC1 rfl)
    · -- 3: Op.move (Operand.tmp 1)
      refine step_plain [] (fun _ => rfl) rfl ?_
      intro w1 vals hC1 hi0 hf E hE
      clear hi0
      clear hf
      simp only [puts, act_put, act_put_none, List.setIfInBounds_toArray, List.set_cons_zero, List.set_cons_succ] at hE ⊢
      go_wp2
      exact .mk (hE _ _ rfl hC1 rfl)
    · -- 4: Op.call { callee := Callee.value (Operand.func 24), args := #[Operand.tmp 8], argTypes := #[28] }
      refine step_plain [(3, some 8), (1, some 6)] (fun _ => rfl) rfl ?_
      intro w1 vals hC1 hi0 hf E hE
      clear hi0
      have f1 : (RdV 32 (bytesV Y)) (vals 1) w1 := hf 1 rfl
      have f3 : vals 3 = .slice B 32 d := hf 3 rfl
      try dsimp only at f1 f3
      clear hf
      simp only [puts, act_put, act_put_none, List.setIfInBounds_toArray, List.set_cons_zero, List.set_cons_succ, f3] at hE ⊢
      clear f3
      go_wp2_with fail
      refine calls_then (CZ.out _ hC1) ?_
      rintro e w2 ⟨A2, c2, rfl, hown, hb2⟩
      have hrv := RdV.of_own hown
      go_wp2_with fail
      exact .mk (hE _ _ hrv (hC1.trans (hb2.mono hC1.size)) hb2)
    · -- 5: Op.convert 33 9 (Operand.tmp 9)
      refine step_plain [(4, some 9)] (fun _ => rfl) rfl ?_
      intro w1 vals hC1 hi0 hf E hE
      clear hi0
      have f4 : (RdV 32 (bytesV Z)) (vals 4) w1 := hf 4 rfl
      try dsimp only at f4
      clear hf
      obtain ⟨A2, c2, hx2, hc2, hrd⟩ := f4
      simp only [puts, act_put, act_put_none, List.setIfInBounds_toArray, List.set_cons_zero, List.set_cons_succ, hx2] at hE ⊢
      clear hx2
      refine wpList_str_of (l := Z) hrd Try.underlying33 Try.underlying5 Try.underlying9 rfl rfl (len_eq HZL.out _ _) ?_
      go_wp2_with fail
      exact .mk (hE _ _ rfl hC1 rfl)
    · -- 6: Op.binOp BinOp.eql 9 (Operand.tmp 7) (Operand.tmp 10) 9
      refine step_plain [(2, some 7), (5, some 10)] (fun _ => rfl) rfl ?_
      intro w1 vals hC1 hi0 hf E hE
      clear hi0
      have f2 : vals 2 = .string ⟨Y.toArray⟩ := hf 2 rfl
      have f5 : vals 5 = .string ⟨Z.toArray⟩ := hf 5 rfl
      try dsimp only at f2 f5
      clear hf
      simp only [puts, act_put, act_put_none, List.setIfInBounds_toArray, List.set_cons_zero, List.set_cons_succ, f2, f5] at hE ⊢
      clear f2 f5
      go_wp2
      exact .mk (hE _ _ rfl hC1 rfl)
    · -- 7: Op.assign (Operand.tmp 11)
      refine step_plain [(6, some 11), (4, some 9), (0, some 5), (1, some 6), (2, some 7), (3, some 8), (4, some 9), (5, some 10), (6, some 11)] (fun _ => rfl) rfl ?_
      intro w1 vals hC1 hi0 hf E hE
      clear hi0
      have f0 : vals 0 = .slice A 32 c := hf 0 rfl
      have f1 : (RdV 32 (bytesV Y)) (vals 1) w1 := hf 1 rfl
      have f2 : vals 2 = .string ⟨Y.toArray⟩ := hf 2 rfl
      have f3 : vals 3 = .slice B 32 d := hf 3 rfl
      have f4 : (RdV 32 (bytesV Z)) (vals 4) w1 := hf 4 rfl
      have f5 : vals 5 = .string ⟨Z.toArray⟩ := hf 5 rfl
      have f6 : vals 6 = .bool (Y == Z) := hf 6 rfl
      try dsimp only at f0 f1 f2 f3 f4 f5 f6
      clear hf
      simp only [puts, act_put, act_put_none, List.setIfInBounds_toArray, List.set_cons_zero, List.set_cons_succ, f0, f2, f3, f5, f6] at hE ⊢
      clear f0 f2 f3 f5 f6
      go_wp2
      exact .mk (hE _ _ rfl hC1 rfl)
  intro w1 vals hC1 hf
  have f0 : vals 0 = .slice A 32 c := hf 0 (by decide) rfl
  have f1 : (RdV 32 (bytesV Y)) (vals 1) w1 := hf 1 (by decide) rfl
  have f2 : vals 2 = .string ⟨Y.toArray⟩ := hf 2 (by decide) rfl
  have f3 : vals 3 = .slice B 32 d := hf 3 (by decide) rfl
  have f4 : (RdV 32 (bytesV Z)) (vals 4) w1 := hf 4 (by decide) rfl
  have f5 : vals 5 = .string ⟨Z.toArray⟩ := hf 5 (by decide) rfl
  have f6 : vals 6 = .bool (Y == Z) := hf 6 (by decide) rfl
  have f7 : vals 7 = .bool (Y == Z) := hf 7 (by decide) rfl
  try dsimp only at f0 f1 f2 f3 f4 f5 f6 f7
  clear hf
  simp only [puts, act_put, act_put_none, List.setIfInBounds_toArray, List.set_cons_zero, List.set_cons_succ, f0, f2, f3, f5, f6, f7]
  clear f0 f2 f3 f5 f6 f7
  generalize vals 1 = x1 at *
  generalize vals 4 = x4 at *
  clear HC0 f1 f4
  go_wp2_with fail
  go_ret
  exact ⟨rfl, hC1⟩
/-- an element's digits -/
def dgE (x : E5) : List Nat := digN 32 (x.val % PN)
theorem dgE_dg (x : E5) : Dg (dgE x) := digN_dg _ _
theorem dgE_length (x : E5) : (dgE x).length = 32 := digN_length _ _
theorem dgE_val (x : E5) : leV (dgE x) = x.val % PN := digN_val _ _ (mod_lt_big _)
theorem dgE_lt (x : E5) : leV (dgE x) < PN := by rw [dgE_val]; exact Nat.mod_lt _ (by decide)
theorem sm_mod (x : E5) : Sm x.val (leV (dgE x)) := by rw [dgE_val]; exact (Nat.mod_mod _ _).symm
section
variable {x y : E5} {A B : Option Addr} {c d : Nat} {u : World}
theorem sum_add (hr : Rd u u.heap.size A (dV (dgE x))) (hs : Rd u u.heap.size B (dV (dgE y))) : Calls Try.prog 30 #[.slice A 32 c, .slice B 32 d] u (DigPost (dgE (addE x y)) u) := by
  have h := radd_any (dgE x) (dgE y) (dgE_dg x) (dgE_dg y) A B c d u hr hs (by rw [dgE_length]; decide) (by rw [dgE_length]; decide)
  have e : (leV (dgE x) + leV (dgE y)) % PN = (addE x y).val % PN := (((sm_mod x).symm.add (sm_mod y).symm).trans (sm_add x y).symm)
  rw [dgE_length, dgE_length, e] at h
  exact h
theorem sum_mul (hr : Rd u u.heap.size A (dV (dgE x))) (hs : Rd u u.heap.size B (dV (dgE y))) : Calls Try.prog 31 #[.slice A 32 c, .slice B 32 d] u (DigPost (dgE (mulE x y)) u) := by
  have h := rmul_any (dgE x) (dgE y) (dgE_dg x) (dgE_dg y) A B c d u hr hs (by rw [dgE_length]; decide) (by rw [dgE_length]; decide)
  have e : leV (dgE x) * leV (dgE y) % PN = (mulE x y).val % PN := (((sm_mod x).symm.mul (sm_mod y).symm).trans (sm_mul x y).symm)
  rw [dgE_length, dgE_length, e] at h
  exact h
theorem sum_sub (hy : y.Ok) (hr : Rd u u.heap.size A (dV (dgE x))) (hs : Rd u u.heap.size B (dV (dgE y))) : Calls Try.prog 29 #[.slice A 32 c, .slice B 32 d] u (DigPost (dgE (subE x y)) u) := by
  have hlt := dgE_lt y
  have h := rsub_any (dgE x) (dgE y) (dgE_dg x) (dgE_dg y) (by omega) A B c d u hr hs (by rw [dgE_length]; decide) (by rw [dgE_length]; decide)
  have e : Sm (leV (dgE x) + PN - leV (dgE y)) (subE x y).val := by
    refine Sm.back (c := leV (dgE y)) ?_
    rw [show leV (dgE x) + PN - leV (dgE y) + leV (dgE y) = leV (dgE x) + PN by omega]
    refine Sm.trans (b := leV (dgE x)) (Nat.add_mod_right _ _) ?_
    exact (sm_mod x).symm.trans ((sm_sub hy).symm.trans ((Sm.refl _).add (sm_mod y)))
  rw [dgE_length, dgE_length, show (leV (dgE x) + PN - leV (dgE y)) % PN = (subE x y).val % PN from e] at h
  exact h
theorem sum_like (hx : x.Ok) (hr : Rd u u.heap.size A (dV (dgE x))) (hc : 32 ≤ c) : Calls Try.prog 9 #[.agg (eV x), .slice A 32 c] u (BoolPost true u) := by
  have h := like_any x hx.big (dgE x) (dgE_dg x) A c u hr (by rw [dgE_length]; exact hc) (by rw [dgE_length]; decide)
  rw [show (byB (leastE x).val == refB (dgE x)) = true from like_yes hx rfl, dgE_length] at h
  exact h
theorem sum_same (hx : x.Ok) (hy : y.Ok) (hr : Rd u u.heap.size A (dV (dgE x))) (hs : Rd u u.heap.size B (dV (dgE y))) (hc : 32 ≤ c) (hd : 32 ≤ d) : Calls Try.prog 32 #[.slice A 32 c, .slice B 32 d] u (BoolPost (eqB x y) u) := by
  have h := same_any (dgE x) (dgE y) (dgE_dg x) (dgE_dg y) (dgE_length x) (dgE_length y) A B c d u hr hs hc hd
  have e : (refB (dgE x) == refB (dgE y)) = eqB x y := by
    rw [eqB, eqE hx.big hy.big, dgE, dgE, refB_dig, refB_dig, Bool.eq_iff_iff, beq_iff_eq, decide_eq_true_iff]
    constructor
    · intro h
      have h2 := congrArg (fun l => leV (digs l)) h
      rw [digs_byB, digs_byB, leV_byN _ (mod_lt_big _), leV_byN _ (mod_lt_big _)] at h2
      exact h2
    · intro h; rw [h]
  rw [e] at h
  exact h
end
theorem dgE_head (x : E5) : (dgE x).getD 0 0 % 2 = x.val % PN % 2 := by
  have h := leV_at (dgE x) (dgE_dg x) 0
  rw [dgE_val, Nat.pow_zero, Nat.div_one] at h
  rw [← h]
  omega
theorem odd_c (x : E5) (hx : x.Ok) (u : World) : Calls Try.prog 33 #[.agg (eV x)] u (BoolPost (decide (x.val % PN % 2 = 1)) u) := by
  have h := odd_any x u hx.big
  have e : (leastE x).a % 2 = x.val % PN % 2 := by
    rw [← least_val hx.big]
    simp only [E5.val]
    omega
  rw [e] at h
  exact h
theorem ofE_dig (l : List UInt8) : dgE (ofE l) = padD l := by
  have h : (ofE l).val % PN = numB l := by
    rw [ofE, ofN_val, Nat.mod_eq_of_lt (a := numB l) (Nat.lt_trans (numB_lt l) (by decide)), Nat.mod_eq_of_lt (Nat.lt_trans (numB_lt l) (by decide))]
  rw [dgE, h]
  exact (digN_eq (padD_dg l) (padD_length l) (padD_val l)).symm
theorem zero_dig : digN 32 (0 % PN) = dgE zE := rfl
end Go.Proofs.Ytngecbnbddoldaa
