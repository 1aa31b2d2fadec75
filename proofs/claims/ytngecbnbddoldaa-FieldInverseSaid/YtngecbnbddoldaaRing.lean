/-
  Plain: the ring's laws, of elements.
-/
import Derived.Test.YtngecbnbddoldaaLv
namespace Go.Proofs.Ytngecbnbddoldaa
set_option linter.unusedSimpArgs false
set_option linter.unusedVariables false
open Go.RowKit

def eqB (x y : E5) : Bool := limbs (leastE x) == limbs (leastE y)
theorem eqB_true {x y : E5} (hx : x.Ok) (hy : y.Ok) (h : x.val % PN = y.val % PN) : eqB x y = true := by
  rw [eqB, eqE hx.big hy.big]; exact decide_eq_true h
/-- the same modulo p -/
def Sm (a b : Nat) : Prop := a % PN = b % PN
theorem Sm.refl (a : Nat) : Sm a a := rfl
theorem Sm.symm {a b : Nat} (h : Sm a b) : Sm b a := Eq.symm h
theorem Sm.trans {a b c : Nat} (h : Sm a b) (k : Sm b c) : Sm a c := Eq.trans h k
theorem Sm.add {a b c d : Nat} (h : Sm a b) (k : Sm c d) : Sm (a + c) (b + d) := by
  unfold Sm at *
  rw [Nat.add_mod, h, k, ← Nat.add_mod]
theorem Sm.mul {a b c d : Nat} (h : Sm a b) (k : Sm c d) : Sm (a * c) (b * d) := by
  unfold Sm at *
  rw [Nat.mul_mod, h, k, ← Nat.mul_mod]
theorem Sm.of {a b : Nat} (h : a = b) : Sm a b := by rw [h]; exact Sm.refl _
theorem Sm.back {a b c : Nat} (h : Sm (a + c) (b + c)) : Sm a b := by
  unfold Sm at *
  simp only [PN] at *
  omega
theorem sm_add (x y : E5) : Sm (addE x y).val (x.val + y.val) := add_val x y
theorem sm_mul (x y : E5) : Sm (mulE x y).val (x.val * y.val) := mul_val x y
theorem sm_sub {x y : E5} (hy : y.Ok) : Sm ((subE x y).val + y.val) x.val := sub_val hy
section
variable {x y z : E5} (hx : x.Ok) (hy : y.Ok) (hz : z.Ok)
include hx hy hz
theorem ring1 : eqB (mulE (addE x y) z) (addE (mulE x z) (mulE y z)) = true := by
  refine eqB_true (mul_ok (add_ok hx hy) hz) (add_ok (mul_ok hx hz) (mul_ok hy hz)) ?_
  have h1 : Sm (mulE (addE x y) z).val ((x.val + y.val) * z.val) := (sm_mul _ _).trans ((sm_add x y).mul (Sm.refl _))
  have h2 : Sm (addE (mulE x z) (mulE y z)).val (x.val * z.val + y.val * z.val) := (sm_add _ _).trans ((sm_mul x z).add (sm_mul y z))
  exact h1.trans ((Sm.of (Nat.add_mul _ _ _)).trans h2.symm)
theorem ring2 : eqB (mulE (mulE x y) z) (mulE x (mulE y z)) = true := by
  refine eqB_true (mul_ok (mul_ok hx hy) hz) (mul_ok hx (mul_ok hy hz)) ?_
  have h1 : Sm (mulE (mulE x y) z).val (x.val * y.val * z.val) := (sm_mul _ _).trans ((sm_mul x y).mul (Sm.refl _))
  have h2 : Sm (mulE x (mulE y z)).val (x.val * (y.val * z.val)) := (sm_mul _ _).trans ((Sm.refl _).mul (sm_mul y z))
  exact h1.trans ((Sm.of (Nat.mul_assoc _ _ _)).trans h2.symm)
theorem ring4 : eqB (addE (addE x y) z) (addE x (addE y z)) = true := by
  refine eqB_true (add_ok (add_ok hx hy) hz) (add_ok hx (add_ok hy hz)) ?_
  have h1 : Sm (addE (addE x y) z).val (x.val + y.val + z.val) := (sm_add _ _).trans ((sm_add x y).add (Sm.refl _))
  have h2 : Sm (addE x (addE y z)).val (x.val + (y.val + z.val)) := (sm_add _ _).trans ((Sm.refl _).add (sm_add y z))
  exact h1.trans ((Sm.of (Nat.add_assoc _ _ _)).trans h2.symm)
omit hz
theorem ring3 : eqB (mulE x y) (mulE y x) = true := by
  refine eqB_true (mul_ok hx hy) (mul_ok hy hx) ?_
  exact (sm_mul x y).trans ((Sm.of (Nat.mul_comm _ _)).trans (sm_mul y x).symm)
theorem ring5 : eqB (addE (subE x y) y) x = true := by
  refine eqB_true (add_ok (sub_ok hx hy) hy) hx ?_
  exact (sm_add _ _).trans (sm_sub hy)
theorem ring6 : eqB (mulE (subE x y) (addE x y)) (subE (mulE x x) (mulE y y)) = true := by
  refine eqB_true (mul_ok (sub_ok hx hy) (add_ok hx hy)) (sub_ok (mul_ok hx hx) (mul_ok hy hy)) ?_
  obtain ⟨d, hd⟩ : ∃ d, d = (subE x y).val := ⟨_, rfl⟩
  have hs : Sm (d + y.val) x.val := by rw [hd]; exact sm_sub hy
  have h1 : Sm (mulE (subE x y) (addE x y)).val (d * (x.val + y.val)) := by rw [hd]; exact (sm_mul _ _).trans ((Sm.refl _).mul (sm_add x y))
  have h2 : Sm ((subE (mulE x x) (mulE y y)).val + (mulE y y).val) (x.val * x.val) := (sm_sub (mul_ok hy hy)).trans (sm_mul x x)
  refine Sm.back (c := (mulE y y).val) ?_
  refine Sm.trans (b := d * (d + y.val + y.val) + y.val * y.val) ?_ ?_
  · exact (h1.trans ((Sm.refl _).mul (hs.symm.add (Sm.refl _)))).add (sm_mul y y)
  · refine Sm.trans ?_ h2.symm
    refine Sm.trans (b := (d + y.val) * (d + y.val)) (Sm.of ?_) (hs.mul hs)
    grind
end
end Go.Proofs.Ytngecbnbddoldaa
