/-
  Plain: powers modulo p, reckoned.
-/
import Derived.Test.YtbeokfpbhemcfaaDig
namespace Go.Proofs.Ytbeokfpbhemcfaa
set_option linter.unusedSimpArgs false
set_option linter.unusedVariables false
open Go.RowKit

/-- x to the power of a number of digits, modulo m -/
def pm (m x : Nat) : List Nat → Nat
  | [] => 1 % m
  | d :: r => (x ^ d % m) * ((pm m x r) ^ 256 % m) % m
theorem pm_eq (m x : Nat) : ∀ l, pm m x l = x ^ leV l % m
  | [] => by rw [pm, leV, Nat.pow_zero]
  | d :: r => by
    rw [pm, pm_eq m x r, leV, Nat.pow_add, Nat.pow_mul', ← Nat.pow_mod, ← Nat.mul_mod]
theorem invL_val : leV invL = PN - 2 := by decide
theorem invL_dg : Dg invL := by unfold Dg invL; decide
theorem invL_length : invL.length = 32 := by decide
theorem invE_ok {x : E5} (hx : x.Ok) : (invE x).Ok := pwL_ok hx _ _
theorem invE_val (x : E5) : (invE x).val % PN = x.val ^ (PN - 2) % PN := by
  have h := pwL_val x invL invL_dg 32 (by decide)
  rw [show invL.length - 32 = 0 by decide, List.drop_zero, invL_val] at h
  exact h
theorem two_inv : 2 ^ (PN - 2) % PN * 2 % PN = 1 := by
  have h := pm_eq PN 2 invL
  rw [invL_val] at h
  rw [← h]
  decide
def oneE : E5 := mulE (invE (intE 2)) (intE 2)
theorem intE_nat (n : Nat) : intE (n : Int) = natE n := by
  unfold intE
  rw [if_neg (by omega), Int.natAbs_natCast]
theorem oneE_val : oneE.val % PN = 1 := by
  have e : intE 2 = natE 2 := intE_nat 2
  rw [oneE, mul_val, e, Nat.mul_mod, invE_val, natE_val, ← Nat.mul_mod]
  have h := two_inv
  rw [Nat.mod_mul_mod] at h
  exact h
theorem oneE_ok : oneE.Ok := mul_ok (invE_ok (intE_ok (by decide) (by decide))) (intE_ok (by decide) (by decide))
theorem limbs_inj {x y : E5} (h : limbs x = limbs y) : x = y := by
  obtain ⟨a1, b1, c1, d1, e1⟩ := x
  obtain ⟨a2, b2, c2, d2, e2⟩ := y
  simp only [limbs, List.cons.injEq] at h
  obtain ⟨rfl, rfl, rfl, rfl, rfl, _⟩ := h
  rfl
theorem eqE {x y : E5} (hx : x.Lt 18446744073709551616) (hy : y.Lt 18446744073709551616) : (limbs (leastE x) == limbs (leastE y)) = decide (x.val % PN = y.val % PN) := by
  rw [Bool.eq_iff_iff, beq_iff_eq, decide_eq_true_iff, ← least_val hx, ← least_val hy]
  exact ⟨fun h => by rw [limbs_inj h], fun h => by rw [least_inj (least_lt x) (least_lt y) h]⟩
theorem oneE_one : (limbs (leastE oneE) == limbs (leastE (intE 1))) = true := by
  rw [eqE oneE_ok.big (intE_ok (by decide) (by decide)).big, oneE_val, show intE 1 = natE 1 from intE_nat 1, natE_val]
  decide
theorem oneE_zero : (limbs (leastE oneE) == limbs (leastE (intE 0))) = false := by
  rw [eqE oneE_ok.big (intE_ok (by decide) (by decide)).big, oneE_val, show intE 0 = natE 0 from intE_nat 0, natE_val]
  decide
theorem minus_val : (leastE (intE (-1))).val = PN - 1 := by decide
end Go.Proofs.Ytbeokfpbhemcfaa
