/-
  Plain: numbers modulo 2^255 - 19 as five limbs of 51 bits.
-/
import Derived.Test.YtbeokfpbhemcfaaBase
namespace Go.Proofs.Ytbeokfpbhemcfaa
set_option linter.unusedSimpArgs false
set_option linter.unusedVariables false
open Go.RowKit

structure E5 where
  a : Nat
  b : Nat
  c : Nat
  d : Nat
  e : Nat
def PN : Nat := 57896044618658097711785492504343953926634992332820282019728792003956564819949
def E5.val (x : E5) : Nat := x.a + x.b * 2251799813685248 + x.c * 5070602400912917605986812821504 + x.d * 11417981541647679048466287755595961091061972992 + x.e * 25711008708143844408671393477458601640355247900524685364822016
structure E5.Lt (x : E5) (m : Nat) : Prop where
  a : x.a < m
  b : x.b < m
  c : x.c < m
  d : x.d < m
  e : x.e < m
theorem E5.Lt.mono {x : E5} {m n : Nat} (h : x.Lt m) (hm : m ≤ n) : x.Lt n := ⟨Nat.lt_of_lt_of_le h.a hm, Nat.lt_of_lt_of_le h.b hm, Nat.lt_of_lt_of_le h.c hm, Nat.lt_of_lt_of_le h.d hm, Nat.lt_of_lt_of_le h.e hm⟩
def carryE (x : E5) : E5 := ⟨x.a % 2251799813685248 + x.e / 2251799813685248 * 19, x.b % 2251799813685248 + x.a / 2251799813685248, x.c % 2251799813685248 + x.b / 2251799813685248, x.d % 2251799813685248 + x.c / 2251799813685248, x.e % 2251799813685248 + x.d / 2251799813685248⟩
theorem carry_val (x : E5) : (carryE x).val + x.e / 2251799813685248 * PN = x.val := by
  simp only [carryE, E5.val, PN]
  omega
theorem carry_mod (x : E5) : (carryE x).val % PN = x.val % PN := by
  rw [← carry_val x, Nat.add_mul_mod_self_right]
theorem carry_lt {x : E5} (h : x.Lt 18446744073709551616) : (carryE x).Lt 2251799813947392 := by
  obtain ⟨h1, h2, h3, h4, h5⟩ := h
  constructor <;> simp only [carryE] <;> omega
theorem carry_lt2 {x : E5} (h : x.Lt 2251799813947392) : (carryE x).a < 2251799813685267 ∧ (carryE x).b < 2251799813685249 ∧ (carryE x).c < 2251799813685249 ∧ (carryE x).d < 2251799813685249 ∧ (carryE x).e < 2251799813685249 := by
  obtain ⟨h1, h2, h3, h4, h5⟩ := h
  simp only [carryE]
  refine ⟨?_, ?_, ?_, ?_, ?_⟩ <;> omega
/-- what is above p: 0 or 1 -/
def overP (x : E5) : Nat := (x.e + (x.d + (x.c + (x.b + (x.a + 19) / 2251799813685248) / 2251799813685248) / 2251799813685248) / 2251799813685248) / 2251799813685248
def leastQ (x : E5) (q : Nat) : E5 :=
  let a := x.a + 19 * q
  let b := x.b + a / 2251799813685248
  let c := x.c + b / 2251799813685248
  let d := x.d + c / 2251799813685248
  let e := x.e + d / 2251799813685248
  ⟨a % 2251799813685248, b % 2251799813685248, c % 2251799813685248, d % 2251799813685248, e % 2251799813685248⟩
def leastE (x : E5) : E5 := leastQ (carryE (carryE x)) (overP (carryE (carryE x)))
theorem overP_eq (x : E5) : overP x = (x.val + 19) / 57896044618658097711785492504343953926634992332820282019728792003956564819968 := by
  simp only [overP, E5.val]
  omega
theorem leastQ_lt (x : E5) (q : Nat) : (leastQ x q).Lt 2251799813685248 := by
  constructor <;> exact Nat.mod_lt _ (by decide)
theorem leastQ_val (x : E5) (q : Nat) : (leastQ x q).val = (x.val + 19 * q) % 57896044618658097711785492504343953926634992332820282019728792003956564819968 := by
  simp only [leastQ, E5.val]
  omega
theorem least_lt (x : E5) : (leastE x).Lt 2251799813685248 := leastQ_lt _ _
theorem least_val {x : E5} (h : x.Lt 18446744073709551616) : (leastE x).val = x.val % PN := by
  obtain ⟨h1, h2, h3, h4, h5⟩ := carry_lt2 (carry_lt h)
  have hm : (carryE (carryE x)).val % PN = x.val % PN := by rw [carry_mod, carry_mod]
  rw [← hm, leastE, leastQ_val, overP_eq]
  generalize carryE (carryE x) = y at *
  have hv : y.val < 2 * PN := by
    simp only [E5.val, PN]
    omega
  generalize y.val = v at *
  by_cases hp : v < PN
  · have hq : (v + 19) / 57896044618658097711785492504343953926634992332820282019728792003956564819968 = 0 := Nat.div_eq_of_lt (by simp only [PN] at hp; omega)
    rw [hq, Nat.mod_eq_of_lt hp, Nat.mod_eq_of_lt (by simp only [PN] at hp; omega)]
    omega
  · have hq : (v + 19) / 57896044618658097711785492504343953926634992332820282019728792003956564819968 = 1 := by simp only [PN] at hp hv; omega
    have e : v % PN = v - PN := by rw [Nat.mod_eq_sub_mod (by omega), Nat.mod_eq_of_lt (by omega)]
    rw [hq, e]
    simp only [PN] at hp hv ⊢
    omega
/-- two elements are the same number just if their least forms are the same -/
theorem least_inj {x y : E5} (hx : x.Lt 2251799813685248) (hy : y.Lt 2251799813685248) (h : x.val = y.val) : x = y := by
  obtain ⟨a1, b1, c1, d1, e1⟩ := x
  obtain ⟨a2, b2, c2, d2, e2⟩ := y
  obtain ⟨h1, h2, h3, h4, h5⟩ := hx
  obtain ⟨k1, k2, k3, k4, k5⟩ := hy
  simp only [E5.val] at *
  have e0 : a1 = a2 := by omega
  subst e0
  have e0 : b1 = b2 := by omega
  subst e0
  have e0 : c1 = c2 := by omega
  subst e0
  have e0 : d1 = d2 := by omega
  subst e0
  have e0 : e1 = e2 := by omega
  subst e0
  rfl
def addE (x y : E5) : E5 := carryE ⟨x.a + y.a, x.b + y.b, x.c + y.c, x.d + y.d, x.e + y.e⟩
def subE (x y : E5) : E5 :=
  let z := carryE y
  carryE ⟨x.a + (4503599627370458 - z.a), x.b + (4503599627370494 - z.b), x.c + (4503599627370494 - z.c), x.d + (4503599627370494 - z.d), x.e + (4503599627370494 - z.e)⟩
/-- limbs that are hardly above their bits -/
abbrev E5.Ok (x : E5) : Prop := x.Lt 4503599627370496
theorem carry_ok {x : E5} (h : x.Lt 18446744073709551616) : (carryE x).Ok := (carry_lt h).mono (by decide)
theorem E5.Ok.big {x : E5} (h : x.Ok) : x.Lt 18446744073709551616 := E5.Lt.mono h (by decide)
theorem add_ok {x y : E5} (hx : x.Ok) (hy : y.Ok) : (addE x y).Ok := by
  obtain ⟨h1, h2, h3, h4, h5⟩ := hx
  obtain ⟨k1, k2, k3, k4, k5⟩ := hy
  exact carry_ok ⟨by dsimp only; omega, by dsimp only; omega, by dsimp only; omega, by dsimp only; omega, by dsimp only; omega⟩
theorem add_val (x y : E5) : (addE x y).val % PN = (x.val + y.val) % PN := by
  rw [addE, carry_mod]
  congr 1
  simp only [E5.val]
  omega
theorem sub_ok {x y : E5} (hx : x.Ok) (hy : y.Ok) : (subE x y).Ok := by
  obtain ⟨h1, h2, h3, h4, h5⟩ := hx
  exact carry_ok ⟨by dsimp only; omega, by dsimp only; omega, by dsimp only; omega, by dsimp only; omega, by dsimp only; omega⟩
theorem sub_val {x y : E5} (hy : y.Ok) : ((subE x y).val + y.val) % PN = x.val % PN := by
  obtain ⟨h1, h2, h3, h4, h5⟩ := carry_lt hy.big
  have hz := carry_val y
  have e : (subE x y).val % PN = (⟨x.a + (4503599627370458 - (carryE y).a), x.b + (4503599627370494 - (carryE y).b), x.c + (4503599627370494 - (carryE y).c), x.d + (4503599627370494 - (carryE y).d), x.e + (4503599627370494 - (carryE y).e)⟩ : E5).val % PN := carry_mod _
  rw [Nat.add_mod, e, ← Nat.add_mod, ← hz]
  generalize carryE y = z at *
  generalize y.e / 2251799813685248 = k at *
  have e2 : (⟨x.a + (4503599627370458 - z.a), x.b + (4503599627370494 - z.b), x.c + (4503599627370494 - z.c), x.d + (4503599627370494 - z.d), x.e + (4503599627370494 - z.e)⟩ : E5).val + z.val = x.val + 2 * PN := by
    simp only [E5.val, PN]
    omega
  rw [← Nat.add_assoc, e2, Nat.add_mul_mod_self_right, Nat.mul_comm, Nat.add_mul_mod_self_left]
/-- the sums of a product, what is above 2^255 counted 19 times -/
def mulR (x y : E5) : E5 :=
  ⟨x.a * y.a + (x.b * 19) * y.e + (x.c * 19) * y.d + (x.d * 19) * y.c + (x.e * 19) * y.b,
   x.a * y.b + x.b * y.a + (x.c * 19) * y.e + (x.d * 19) * y.d + (x.e * 19) * y.c,
   x.a * y.c + x.b * y.b + x.c * y.a + (x.d * 19) * y.e + (x.e * 19) * y.d,
   x.a * y.d + x.b * y.c + x.c * y.b + x.d * y.a + (x.e * 19) * y.e,
   x.a * y.e + x.b * y.d + x.c * y.c + x.d * y.b + x.e * y.a⟩
def mulE (x y : E5) : E5 := carryE (carryE (mulR x y))
theorem mulR_poly (a b c d e p q r s t C : Nat) :
    (a + b*C + c*(C*C) + d*(C*C*C) + e*(C*C*C*C)) * (p + q*C + r*(C*C) + s*(C*C*C) + t*(C*C*C*C)) + 19 * ((b*t+c*s+d*r+e*q) + (c*t+d*s+e*r)*C + (d*t+e*s)*(C*C) + e*t*(C*C*C)) =
    (a*p + (b*19)*t + (c*19)*s + (d*19)*r + (e*19)*q) + (a*q + b*p + (c*19)*t + (d*19)*s + (e*19)*r)*C + (a*r + b*q + c*p + (d*19)*t + (e*19)*s)*(C*C) + (a*s + b*r + c*q + d*p + (e*19)*t)*(C*C*C) + (a*t + b*s + c*r + d*q + e*p)*(C*C*C*C)
    + (C*C*C*C*C) * ((b*t+c*s+d*r+e*q) + (c*t+d*s+e*r)*C + (d*t+e*s)*(C*C) + e*t*(C*C*C)) := by grind
theorem mulR_val (x y : E5) : (mulR x y).val % PN = (x.val * y.val) % PN := by
  have h := mulR_poly x.a x.b x.c x.d x.e y.a y.b y.c y.d y.e 2251799813685248
  generalize hk : (x.b * y.e + x.c * y.d + x.d * y.c + x.e * y.b) + (x.c * y.e + x.d * y.d + x.e * y.c) * 2251799813685248 + (x.d * y.e + x.e * y.d) * (2251799813685248 * 2251799813685248) + x.e * y.e * (2251799813685248 * 2251799813685248 * 2251799813685248) = k at h
  have e1 : x.val * y.val + 19 * k = (mulR x y).val + (PN + 19) * k := h
  have e2 : x.val * y.val = (mulR x y).val + PN * k := by
    rw [Nat.add_mul] at e1; omega
  rw [e2, Nat.add_mul_mod_self_left]
theorem mul_val (x y : E5) : (mulE x y).val % PN = (x.val * y.val) % PN := by rw [mulE, carry_mod, carry_mod, mulR_val]
theorem mul_lt' {a b m n : Nat} (ha : a < m) (hb : b < n) : a * b ≤ (m - 1) * (n - 1) := Nat.mul_le_mul (by omega) (by omega)
/-- the sums of a product stay below 2^111; the highest below 2^107 -/
theorem mulR_lt {x y : E5} (hx : x.Ok) (hy : y.Ok) : (mulR x y).Lt 2596148429267413814265248164610048 ∧ (mulR x y).e < 162259276829213363391578010288128 := by
  obtain ⟨h1, h2, h3, h4, h5⟩ := hx
  obtain ⟨k1, k2, k3, k4, k5⟩ := hy
  have m : ∀ {a b : Nat}, a < 4503599627370496 → b < 4503599627370496 → a * b ≤ 20282409603651661416747996545025 := fun ha hb => Nat.le_trans (mul_lt' ha hb) (by decide)
  have n : ∀ {a b : Nat}, a < 4503599627370496 → b < 4503599627370496 → (a * 19) * b ≤ 385365782469381566918211934355475 := fun {a b} ha hb => by
    have := m ha hb
    rw [Nat.mul_right_comm]; omega
  have a1 := m h1 k1; have a2 := n h2 k5; have a3 := n h3 k4; have a4 := n h4 k3; have a5 := n h5 k2
  have b1 := m h1 k2; have b2 := m h2 k1; have b3 := n h3 k5; have b4 := n h4 k4; have b5 := n h5 k3
  have c1 := m h1 k3; have c2 := m h2 k2; have c3 := m h3 k1; have c4 := n h4 k5; have c5 := n h5 k4
  have d1 := m h1 k4; have d2 := m h2 k3; have d3 := m h3 k2; have d4 := m h4 k1; have d5 := n h5 k5
  have e1 := m h1 k5; have e2 := m h2 k4; have e3 := m h3 k3; have e4 := m h4 k2; have e5 := m h5 k1
  refine ⟨⟨?_, ?_, ?_, ?_, ?_⟩, ?_⟩ <;> simp only [mulR] <;> omega
theorem mul_big {x y : E5} (hx : x.Ok) (hy : y.Ok) : (carryE (mulR x y)).Lt 18446744073709551616 := by
  obtain ⟨⟨h1, h2, h3, h4, h5⟩, h6⟩ := mulR_lt hx hy
  generalize mulR x y = r at *
  constructor <;> simp only [carryE] <;> omega
theorem mul_ok {x y : E5} (hx : x.Ok) (hy : y.Ok) : (mulE x y).Ok := carry_ok (mul_big hx hy)
end Go.Proofs.Ytbeokfpbhemcfaa
