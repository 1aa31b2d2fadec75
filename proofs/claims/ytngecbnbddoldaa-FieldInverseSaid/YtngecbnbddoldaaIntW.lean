/-
  Walk: the law FieldInts.
-/
import Derived.Test.YtngecbnbddoldaaRi
import Derived.Test.YtngecbnbddoldaaReadW
namespace Go.Proofs.Ytngecbnbddoldaa
set_option linter.unusedSimpArgs false
set_option linter.unusedVariables false
open Go.RowKit

theorem refB_dig (V : Nat) : refB (digN 32 V) = byB V := by
  rw [refB, byB, byN_dig]
  apply List.ext_getElem?
  intro j
  by_cases hj : j < 32
  · rw [List.getElem?_map, List.getElem?_map, List.getElem?_range hj, List.getElem?_eq_getElem (by rw [digN_length]; exact hj)]
    simp [List.getD_eq_getElem?_getD, List.getElem?_eq_getElem (show j < (digN 32 V).length by rw [digN_length]; exact hj)]
  · rw [List.getElem?_eq_none (by simp; omega), List.getElem?_eq_none (by simp [digN_length]; omega)]
/-- an element's bytes are those of its digits -/
theorem like_yes {x : E5} (hx : x.Ok) {V : Nat} (h : x.val % PN = V % PN) : (byB (leastE x).val == refB (digN 32 (V % PN))) = true := by
  rw [least_val hx.big, h, refB_dig, beq_self_eq_true]
theorem intE_neg {m : Nat} (hm : m ≤ 9223372036854775808) : (subE zE (natE m)).val % PN = (PN - m % PN) % PN := by
  have h := sub_val (x := zE) (y := natE m) (natE_ok hm)
  rw [natE_val, show zE.val = 0 from rfl] at h
  obtain ⟨v, hv⟩ : ∃ v, v = (subE zE (natE m)).val := ⟨_, rfl⟩
  rw [← hv] at h ⊢
  simp only [PN] at *
  omega
theorem zero_int : eqB zE (intE 0) = true := eqB_true zE_ok (intE_ok (by decide) (by decide)) (by rw [show intE 0 = natE 0 from intE_nat 0, natE_val]; rfl)
theorem mod_lt_big (N : Nat) : N % PN < 256 ^ 32 := Nat.lt_trans (Nat.mod_lt _ (by decide)) (by decide)
/-- what the law asks of a number -/
theorem int_parts (n : Int) (h1 : -9223372036854775808 ≤ n) (h2 : n < 9223372036854775808) : ∃ V, (intE n).val % PN = V % PN ∧ ∀ w, Calls Try.prog 11 #[.int .i64 n] w (DigPost (digN 32 (V % PN)) w) := by
  by_cases hn : n < 0
  · obtain ⟨m, rfl⟩ : ∃ m : Nat, n = -(m : Int) := ⟨n.natAbs, by omega⟩
    refine ⟨PN - m % PN, ?_, fun w => rint_neg m (by omega) (by omega) w⟩
    have e : intE (-(m : Int)) = subE zE (natE m) := by
      unfold intE
      rw [if_pos hn, Int.natAbs_neg, Int.natAbs_natCast]
    rw [e]
    exact intE_neg (by omega)
  · obtain ⟨m, rfl⟩ : ∃ m : Nat, n = (m : Int) := ⟨n.natAbs, by omega⟩
    refine ⟨m, by rw [intE_nat, natE_val], fun w => rint_nat m (by omega) w⟩
set_option maxRecDepth 100000 in
set_option maxHeartbeats 2000000 in
theorem ints_any (n : Int) (w : World) (hwf : (Lit.int .i64 n).wf = true) :
    Calls Try.prog 3 #[.int .i64 n] w (BoolPost true w) := by
  obtain ⟨h1, h2⟩ : -9223372036854775808 ≤ n ∧ n < 9223372036854775808 := by
    rw [Lit.wf, Bool.and_eq_true, decide_eq_true_iff, decide_eq_true_iff, show IntKind.i64.min = -9223372036854775808 by decide, show IntKind.i64.max = 9223372036854775807 by decide] at hwf
    omega
  obtain ⟨V, hV, hcall⟩ := int_parts n h1 h2
  obtain ⟨X, hX⟩ : ∃ X, X = intE n := ⟨_, rfl⟩
  have hok : X.Ok := by rw [hX]; exact intE_ok h1 h2
  have hlk : ∀ u A c, Rd u u.heap.size A (dV (digN 32 (V % PN))) → 32 ≤ c → Calls Try.prog 9 #[.agg (eV X), .slice A 32 c] u (BoolPost true u) := fun u A c hr hc => by
    have h := like_any X hok.big (digN 32 (V % PN)) (digN_dg _ _) A c u hr (by rw [digN_length]; exact hc) (by rw [digN_length]; decide)
    rw [like_yes hok (by rw [hX]; exact hV), digN_length] at h
    exact h
  have hci : ∀ u, Calls Try.prog 10 #[.int .i64 n] u (ElemPost X u) := fun u => by rw [hX]; exact int_any n h1 h2 u
  have hc0 : ∀ u, Calls Try.prog 10 #[.int .i64 0] u (ElemPost (intE 0) u) := fun u => int_any 0 (by decide) (by decide) u
  have CR := Lib.hid hcall
  have CL := Lib.hid hlk
  have CI := Lib.hid hci
  have C0 := Lib.hid hc0
  have HZ := Lib.hid (equal_t zE (intE 0) · zE_ok (intE_ok (by decide) (by decide)) zero_int)
  clear hwf h1 h2 hcall hlk hci hc0 hX hok hV
  go_enter Try.func3, Try.ntmps3
  go_wp2_with fail
  refine calls_then (CI.out _) ?_
  rintro e w1 ⟨rfl, hb1⟩
  have HB1 := Lib.hid hb1
  clear hb1
  go_wp2_with fail
  refine calls_then (CR.out _) ?_
  rintro e w2 ⟨A2, c2, rfl, hc2, hr2, hb2⟩
  rw [digN_length] at hc2
  rw [digN_length]
  have HB2 := Lib.hid (HB1.out.trans (hb2.mono HB1.out.size))
  have HL2 := Lib.hid (CL.out w2 A2 c2 hr2 hc2)
  clear hc2 hr2 hb2
  go_wp2_with fail
  refine calls_then HL2.out ?_
  rintro e w3 ⟨rfl, hb3⟩
  have HB3 := Lib.hid (HB2.out.trans (hb3.mono HB2.out.size))
  clear hb3
  go_wp2_with fail
  refine calls_then (C0.out _) ?_
  rintro e w4 ⟨rfl, hb4⟩
  have HB4 := Lib.hid (HB3.out.trans (hb4.mono HB3.out.size))
  clear hb4
  go_wp2_with fail
  refine calls_then (HZ.out _) ?_
  rintro e w5 ⟨rfl, hb5⟩
  have HB5 := Lib.hid (HB4.out.trans (hb5.mono HB4.out.size))
  clear hb5
  go_wp2_with fail
  refine calls_then (lives_any _) ?_
  rintro e w6 ⟨rfl, hb6⟩
  have HB6 := Lib.hid (HB5.out.trans (hb6.mono HB5.out.size))
  clear hb6
  go_wp2_with fail
  go_ret
  exact ⟨rfl, HB6.out⟩
end Go.Proofs.Ytngecbnbddoldaa
