/-
  Plain: the same modulo p; whether two elements are the same.
-/
import Derived.Test.YtbeokfpbhemcfaaPm
namespace Go.Proofs.Ytbeokfpbhemcfaa
set_option linter.unusedSimpArgs false
set_option linter.unusedVariables false
open Go.RowKit

def eqB (x y : E5) : Bool := limbs (leastE x) == limbs (leastE y)
theorem eqB_true {x y : E5} (hx : x.Ok) (hy : y.Ok) (h : x.val % PN = y.val % PN) : eqB x y = true := by
  rw [eqB, eqE hx.big hy.big]; exact decide_eq_true h
/-- the same modulo p -/
def Sm (a b : Nat) : Prop := a % PN = b % PN
theorem Sm.refl (a : Nat) : Sm a a := rfl
theorem Sm.symm {a b : Nat} (h : Sm a b) : Sm b a := Eq.symm h
theorem Sm.trans {a b c : Nat} (h : Sm a b) (k : Sm b c) : Sm a c := Eq.trans h k
theorem Sm.add {a b c d : Nat} (h : Sm a b) (k : Sm c d) : Sm (a + c) (b + d) := by
  unfold Sm at *
  rw [Nat.add_mod, h, k, ← Nat.add_mod]
theorem Sm.mul {a b c d : Nat} (h : Sm a b) (k : Sm c d) : Sm (a * c) (b * d) := by
  unfold Sm at *
  rw [Nat.mul_mod, h, k, ← Nat.mul_mod]
theorem Sm.of {a b : Nat} (h : a = b) : Sm a b := by rw [h]; exact Sm.refl _
theorem Sm.back {a b c : Nat} (h : Sm (a + c) (b + c)) : Sm a b := by
  unfold Sm at *
  simp only [PN] at *
  omega
theorem sm_add (x y : E5) : Sm (addE x y).val (x.val + y.val) := add_val x y
theorem sm_mul (x y : E5) : Sm (mulE x y).val (x.val * y.val) := mul_val x y
theorem sm_sub {x y : E5} (hy : y.Ok) : Sm ((subE x y).val + y.val) x.val := sub_val hy
end Go.Proofs.Ytbeokfpbhemcfaa
