/-
  Joined texts: Fld Fw Fa Fs Fl Fm Mw Ml.
-/
import Derived.Test.YtbeokfpbhemcfaaProg
import Derived.BigQuiet
import Derived.Deep.QuietTactic
import Derived.IntWalk
import Derived.Shelf.Bits.Mul64
import Derived.Shelf.Spec.BitsCarry
import Derived.Test.YtbeokfpbhemcfaaJ1
/-
  Plain: numbers modulo 2^255 - 19 as five limbs of 51 bits.
-/
namespace Go.Proofs.Ytbeokfpbhemcfaa
set_option linter.unusedSimpArgs false
set_option linter.unusedVariables false
open Go.RowKit

structure E5 where
  a : Nat
  b : Nat
  c : Nat
  d : Nat
  e : Nat
def PN : Nat := 57896044618658097711785492504343953926634992332820282019728792003956564819949
def E5.val (x : E5) : Nat := x.a + x.b * 2251799813685248 + x.c * 5070602400912917605986812821504 + x.d * 11417981541647679048466287755595961091061972992 + x.e * 25711008708143844408671393477458601640355247900524685364822016
structure E5.Lt (x : E5) (m : Nat) : Prop where
  a : x.a < m
  b : x.b < m
  c : x.c < m
  d : x.d < m
  e : x.e < m
theorem E5.Lt.mono {x : E5} {m n : Nat} (h : x.Lt m) (hm : m ≤ n) : x.Lt n := ⟨Nat.lt_of_lt_of_le h.a hm, Nat.lt_of_lt_of_le h.b hm, Nat.lt_of_lt_of_le h.c hm, Nat.lt_of_lt_of_le h.d hm, Nat.lt_of_lt_of_le h.e hm⟩
def carryE (x : E5) : E5 := ⟨x.a % 2251799813685248 + x.e / 2251799813685248 * 19, x.b % 2251799813685248 + x.a / 2251799813685248, x.c % 2251799813685248 + x.b / 2251799813685248, x.d % 2251799813685248 + x.c / 2251799813685248, x.e % 2251799813685248 + x.d / 2251799813685248⟩
theorem carry_val (x : E5) : (carryE x).val + x.e / 2251799813685248 * PN = x.val := by
  simp only [carryE, E5.val, PN]
  omega
theorem carry_mod (x : E5) : (carryE x).val % PN = x.val % PN := by
  rw [← carry_val x, Nat.add_mul_mod_self_right]
theorem carry_lt {x : E5} (h : x.Lt 18446744073709551616) : (carryE x).Lt 2251799813947392 := by
  obtain ⟨h1, h2, h3, h4, h5⟩ := h
  constructor <;> simp only [carryE] <;> omega
theorem carry_lt2 {x : E5} (h : x.Lt 2251799813947392) : (carryE x).a < 2251799813685267 ∧ (carryE x).b < 2251799813685249 ∧ (carryE x).c < 2251799813685249 ∧ (carryE x).d < 2251799813685249 ∧ (carryE x).e < 2251799813685249 := by
  obtain ⟨h1, h2, h3, h4, h5⟩ := h
  simp only [carryE]
  refine ⟨?_, ?_, ?_, ?_, ?_⟩ <;> omega
/-- what is above p: 0 or 1 -/
def overP (x : E5) : Nat := (x.e + (x.d + (x.c + (x.b + (x.a + 19) / 2251799813685248) / 2251799813685248) / 2251799813685248) / 2251799813685248) / 2251799813685248
def leastQ (x : E5) (q : Nat) : E5 :=
  let a := x.a + 19 * q
  let b := x.b + a / 2251799813685248
  let c := x.c + b / 2251799813685248
  let d := x.d + c / 2251799813685248
  let e := x.e + d / 2251799813685248
  ⟨a % 2251799813685248, b % 2251799813685248, c % 2251799813685248, d % 2251799813685248, e % 2251799813685248⟩
def leastE (x : E5) : E5 := leastQ (carryE (carryE x)) (overP (carryE (carryE x)))
theorem overP_eq (x : E5) : overP x = (x.val + 19) / 57896044618658097711785492504343953926634992332820282019728792003956564819968 := by
  simp only [overP, E5.val]
  omega
theorem leastQ_lt (x : E5) (q : Nat) : (leastQ x q).Lt 2251799813685248 := by
  constructor <;> exact Nat.mod_lt _ (by decide)
theorem leastQ_val (x : E5) (q : Nat) : (leastQ x q).val = (x.val + 19 * q) % 57896044618658097711785492504343953926634992332820282019728792003956564819968 := by
  simp only [leastQ, E5.val]
  omega
theorem least_lt (x : E5) : (leastE x).Lt 2251799813685248 := leastQ_lt _ _
theorem least_val {x : E5} (h : x.Lt 18446744073709551616) : (leastE x).val = x.val % PN := by
  obtain ⟨h1, h2, h3, h4, h5⟩ := carry_lt2 (carry_lt h)
  have hm : (carryE (carryE x)).val % PN = x.val % PN := by rw [carry_mod, carry_mod]
  rw [← hm, leastE, leastQ_val, overP_eq]
  generalize carryE (carryE x) = y at *
  have hv : y.val < 2 * PN := by
    simp only [E5.val, PN]
    omega
  generalize y.val = v at *
  by_cases hp : v < PN
  · have hq : (v + 19) / 57896044618658097711785492504343953926634992332820282019728792003956564819968 = 0 := Nat.div_eq_of_lt (by simp only [PN] at hp; omega)
    rw [hq, Nat.mod_eq_of_lt hp, Nat.mod_eq_of_lt (by simp only [PN] at hp; omega)]
    omega
  · have hq : (v + 19) / 57896044618658097711785492504343953926634992332820282019728792003956564819968 = 1 := by simp only [PN] at hp hv; omega
    have e : v % PN = v - PN := by rw [Nat.mod_eq_sub_mod (by omega), Nat.mod_eq_of_lt (by omega)]
    rw [hq, e]
    simp only [PN] at hp hv ⊢
    omega
/-- two elements are the same number just if their least forms are the same -/
theorem least_inj {x y : E5} (hx : x.Lt 2251799813685248) (hy : y.Lt 2251799813685248) (h : x.val = y.val) : x = y := by
  obtain ⟨a1, b1, c1, d1, e1⟩ := x
  obtain ⟨a2, b2, c2, d2, e2⟩ := y
  obtain ⟨h1, h2, h3, h4, h5⟩ := hx
  obtain ⟨k1, k2, k3, k4, k5⟩ := hy
  simp only [E5.val] at *
  have e0 : a1 = a2 := by omega
  subst e0
  have e0 : b1 = b2 := by omega
  subst e0
  have e0 : c1 = c2 := by omega
  subst e0
  have e0 : d1 = d2 := by omega
  subst e0
  have e0 : e1 = e2 := by omega
  subst e0
  rfl
def addE (x y : E5) : E5 := carryE ⟨x.a + y.a, x.b + y.b, x.c + y.c, x.d + y.d, x.e + y.e⟩
def subE (x y : E5) : E5 :=
  let z := carryE y
  carryE ⟨x.a + (4503599627370458 - z.a), x.b + (4503599627370494 - z.b), x.c + (4503599627370494 - z.c), x.d + (4503599627370494 - z.d), x.e + (4503599627370494 - z.e)⟩
/-- limbs that are hardly above their bits -/
abbrev E5.Ok (x : E5) : Prop := x.Lt 4503599627370496
theorem carry_ok {x : E5} (h : x.Lt 18446744073709551616) : (carryE x).Ok := (carry_lt h).mono (by decide)
theorem E5.Ok.big {x : E5} (h : x.Ok) : x.Lt 18446744073709551616 := E5.Lt.mono h (by decide)
theorem add_ok {x y : E5} (hx : x.Ok) (hy : y.Ok) : (addE x y).Ok := by
  obtain ⟨h1, h2, h3, h4, h5⟩ := hx
  obtain ⟨k1, k2, k3, k4, k5⟩ := hy
  exact carry_ok ⟨by dsimp only; omega, by dsimp only; omega, by dsimp only; omega, by dsimp only; omega, by dsimp only; omega⟩
theorem add_val (x y : E5) : (addE x y).val % PN = (x.val + y.val) % PN := by
  rw [addE, carry_mod]
  congr 1
  simp only [E5.val]
  omega
theorem sub_ok {x y : E5} (hx : x.Ok) (hy : y.Ok) : (subE x y).Ok := by
  obtain ⟨h1, h2, h3, h4, h5⟩ := hx
  exact carry_ok ⟨by dsimp only; omega, by dsimp only; omega, by dsimp only; omega, by dsimp only; omega, by dsimp only; omega⟩
theorem sub_val {x y : E5} (hy : y.Ok) : ((subE x y).val + y.val) % PN = x.val % PN := by
  obtain ⟨h1, h2, h3, h4, h5⟩ := carry_lt hy.big
  have hz := carry_val y
  have e : (subE x y).val % PN = (⟨x.a + (4503599627370458 - (carryE y).a), x.b + (4503599627370494 - (carryE y).b), x.c + (4503599627370494 - (carryE y).c), x.d + (4503599627370494 - (carryE y).d), x.e + (4503599627370494 - (carryE y).e)⟩ : E5).val % PN := carry_mod _
  rw [Nat.add_mod, e, ← Nat.add_mod, ← hz]
  generalize carryE y = z at *
  generalize y.e / 2251799813685248 = k at *
  have e2 : (⟨x.a + (4503599627370458 - z.a), x.b + (4503599627370494 - z.b), x.c + (4503599627370494 - z.c), x.d + (4503599627370494 - z.d), x.e + (4503599627370494 - z.e)⟩ : E5).val + z.val = x.val + 2 * PN := by
    simp only [E5.val, PN]
    omega
  rw [← Nat.add_assoc, e2, Nat.add_mul_mod_self_right, Nat.mul_comm, Nat.add_mul_mod_self_left]
/-- the sums of a product, what is above 2^255 counted 19 times -/
def mulR (x y : E5) : E5 :=
  ⟨x.a * y.a + (x.b * 19) * y.e + (x.c * 19) * y.d + (x.d * 19) * y.c + (x.e * 19) * y.b,
   x.a * y.b + x.b * y.a + (x.c * 19) * y.e + (x.d * 19) * y.d + (x.e * 19) * y.c,
   x.a * y.c + x.b * y.b + x.c * y.a + (x.d * 19) * y.e + (x.e * 19) * y.d,
   x.a * y.d + x.b * y.c + x.c * y.b + x.d * y.a + (x.e * 19) * y.e,
   x.a * y.e + x.b * y.d + x.c * y.c + x.d * y.b + x.e * y.a⟩
def mulE (x y : E5) : E5 := carryE (carryE (mulR x y))
theorem mulR_poly (a b c d e p q r s t C : Nat) :
    (a + b*C + c*(C*C) + d*(C*C*C) + e*(C*C*C*C)) * (p + q*C + r*(C*C) + s*(C*C*C) + t*(C*C*C*C)) + 19 * ((b*t+c*s+d*r+e*q) + (c*t+d*s+e*r)*C + (d*t+e*s)*(C*C) + e*t*(C*C*C)) =
    (a*p + (b*19)*t + (c*19)*s + (d*19)*r + (e*19)*q) + (a*q + b*p + (c*19)*t + (d*19)*s + (e*19)*r)*C + (a*r + b*q + c*p + (d*19)*t + (e*19)*s)*(C*C) + (a*s + b*r + c*q + d*p + (e*19)*t)*(C*C*C) + (a*t + b*s + c*r + d*q + e*p)*(C*C*C*C)
    + (C*C*C*C*C) * ((b*t+c*s+d*r+e*q) + (c*t+d*s+e*r)*C + (d*t+e*s)*(C*C) + e*t*(C*C*C)) := by grind
theorem mulR_val (x y : E5) : (mulR x y).val % PN = (x.val * y.val) % PN := by
  have h := mulR_poly x.a x.b x.c x.d x.e y.a y.b y.c y.d y.e 2251799813685248
  generalize hk : (x.b * y.e + x.c * y.d + x.d * y.c + x.e * y.b) + (x.c * y.e + x.d * y.d + x.e * y.c) * 2251799813685248 + (x.d * y.e + x.e * y.d) * (2251799813685248 * 2251799813685248) + x.e * y.e * (2251799813685248 * 2251799813685248 * 2251799813685248) = k at h
  have e1 : x.val * y.val + 19 * k = (mulR x y).val + (PN + 19) * k := h
  have e2 : x.val * y.val = (mulR x y).val + PN * k := by
    rw [Nat.add_mul] at e1; omega
  rw [e2, Nat.add_mul_mod_self_left]
theorem mul_val (x y : E5) : (mulE x y).val % PN = (x.val * y.val) % PN := by rw [mulE, carry_mod, carry_mod, mulR_val]
theorem mul_lt' {a b m n : Nat} (ha : a < m) (hb : b < n) : a * b ≤ (m - 1) * (n - 1) := Nat.mul_le_mul (by omega) (by omega)
/-- the sums of a product stay below 2^111; the highest below 2^107 -/
theorem mulR_lt {x y : E5} (hx : x.Ok) (hy : y.Ok) : (mulR x y).Lt 2596148429267413814265248164610048 ∧ (mulR x y).e < 162259276829213363391578010288128 := by
  obtain ⟨h1, h2, h3, h4, h5⟩ := hx
  obtain ⟨k1, k2, k3, k4, k5⟩ := hy
  have m : ∀ {a b : Nat}, a < 4503599627370496 → b < 4503599627370496 → a * b ≤ 20282409603651661416747996545025 := fun ha hb => Nat.le_trans (mul_lt' ha hb) (by decide)
  have n : ∀ {a b : Nat}, a < 4503599627370496 → b < 4503599627370496 → (a * 19) * b ≤ 385365782469381566918211934355475 := fun {a b} ha hb => by
    have := m ha hb
    rw [Nat.mul_right_comm]; omega
  have a1 := m h1 k1; have a2 := n h2 k5; have a3 := n h3 k4; have a4 := n h4 k3; have a5 := n h5 k2
  have b1 := m h1 k2; have b2 := m h2 k1; have b3 := n h3 k5; have b4 := n h4 k4; have b5 := n h5 k3
  have c1 := m h1 k3; have c2 := m h2 k2; have c3 := m h3 k1; have c4 := n h4 k5; have c5 := n h5 k4
  have d1 := m h1 k4; have d2 := m h2 k3; have d3 := m h3 k2; have d4 := m h4 k1; have d5 := n h5 k5
  have e1 := m h1 k5; have e2 := m h2 k4; have e3 := m h3 k3; have e4 := m h4 k2; have e5 := m h5 k1
  refine ⟨⟨?_, ?_, ?_, ?_, ?_⟩, ?_⟩ <;> simp only [mulR] <;> omega
theorem mul_big {x y : E5} (hx : x.Ok) (hy : y.Ok) : (carryE (mulR x y)).Lt 18446744073709551616 := by
  obtain ⟨⟨h1, h2, h3, h4, h5⟩, h6⟩ := mulR_lt hx hy
  generalize mulR x y = r at *
  constructor <;> simp only [carryE] <;> omega
theorem mul_ok {x y : E5} (hx : x.Ok) (hy : y.Ok) : (mulE x y).Ok := carry_ok (mul_big hx hy)
end Go.Proofs.Ytbeokfpbhemcfaa
/-
  Walks: the field's carried.
-/
namespace Go.Proofs.Ytbeokfpbhemcfaa
set_option linter.unusedSimpArgs false
set_option linter.unusedVariables false
open Go.RowKit

theorem below_new (w : World) (o : Obj) : Below w.heap.size w (w.alloc o) := (Below.refl _ _).alloc (Nat.le_refl _) _
theorem elem_size : (Try.prog.info? 26).map (·.size) = some 5 := by kernel_rfl
theorem five_size : (Try.prog.info? 24).map (·.size) = some 5 := by kernel_rfl
theorem one64 : (Try.prog.info? 23).map (·.size) = some 1 := by kernel_rfl
def limbs (x : E5) : List Nat := [x.a, x.b, x.c, x.d, x.e]
def wV (l : List Nat) : Array Value := (l.map fun n : Nat => Value.int .u64 (n : Int)).toArray
def eV (x : E5) : Array Value := wV (limbs x)
/-- the first so many of the one, the others of the other -/
def mixV (x y : E5) (k : Nat) : Array Value := wV ((limbs x).take k ++ (limbs y).drop k)
theorem mixV_zero (x y : E5) : mixV x y 0 = eV y := rfl
theorem mixV_end (x y : E5) : mixV x y 5 = eV x := rfl
theorem eV_size (x : E5) : (eV x).size = 5 := rfl
theorem mixV_size (x y : E5) (k : Nat) (h : k ≤ 5) : (mixV x y k).size = 5 := by
  match k, h with
  | 0, _ => rfl
  | 1, _ => rfl
  | 2, _ => rfl
  | 3, _ => rfl
  | 4, _ => rfl
  | 5, _ => rfl
theorem eV_at (x : E5) (k : Nat) (h : k < 5) : (eV x)[k]? = some (.int .u64 (((limbs x).getD k 0 : Nat) : Int)) := by
  match k, h with
  | 0, _ => rfl
  | 1, _ => rfl
  | 2, _ => rfl
  | 3, _ => rfl
  | 4, _ => rfl
theorem mixV_at (x y : E5) (k : Nat) (h : k < 5) : (mixV x y k)[k]? = some (.int .u64 (((limbs y).getD k 0 : Nat) : Int)) := by
  match k, h with
  | 0, _ => rfl
  | 1, _ => rfl
  | 2, _ => rfl
  | 3, _ => rfl
  | 4, _ => rfl
theorem mixV_set (x y : E5) (k : Nat) (h : k < 5) : (mixV x y k).setIfInBounds k (.int .u64 (((limbs x).getD k 0 : Nat) : Int)) = mixV x y (k + 1) := by
  match k, h with
  | 0, _ => rfl
  | 1, _ => rfl
  | 2, _ => rfl
  | 3, _ => rfl
  | 4, _ => rfl
theorem limb_lt {x : E5} {m : Nat} (h : x.Lt m) (hm : 0 < m) (k : Nat) : (limbs x).getD k 0 < m := by
  match k with
  | 0 => exact h.a
  | 1 => exact h.b
  | 2 => exact h.c
  | 3 => exact h.d
  | 4 => exact h.e
  | k + 5 => exact hm
def zE : E5 := ⟨0, 0, 0, 0, 0⟩
/-- what is above each limb -/
def highE (x : E5) : E5 := ⟨x.a / 2251799813685248, x.b / 2251799813685248, x.c / 2251799813685248, x.d / 2251799813685248, x.e / 2251799813685248⟩
theorem highE_at (x : E5) (k : Nat) (h : k < 5) : (limbs (highE x)).getD k 0 = (limbs x).getD k 0 / 2251799813685248 := by
  match k, h with
  | 0, _ => rfl
  | 1, _ => rfl
  | 2, _ => rfl
  | 3, _ => rfl
  | 4, _ => rfl
theorem carryE_at (x : E5) (k : Nat) (h : k < 5) : (limbs (carryE x)).getD k 0 = (limbs x).getD k 0 % 2251799813685248 + (if k = 0 then (limbs (highE x)).getD 4 0 * 19 else (limbs (highE x)).getD (k - 1) 0) := by
  match k, h with
  | 0, _ => rfl
  | 1, _ => rfl
  | 2, _ => rfl
  | 3, _ => rfl
  | 4, _ => rfl
/-- an element that came in, the result's place, an array of five -/
structure F3 (w0 : World) (g r h : Nat) (x z y : Array Value) (u : World) : Prop where
  bel : Below w0.heap.size w0 u
  x : Blk u g 26 x
  z : Blk u r 26 z
  y : Blk u h 24 y
  lg : w0.heap.size ≤ g
  lr : w0.heap.size ≤ r
  lh : w0.heap.size ≤ h
  gh : g ≠ h
  gr : g ≠ r
  rh : r ≠ h
theorem F3.putX {w0 u u' : World} {g r h : Nat} {x z y x' : Array Value} (k : F3 w0 g r h x z y u) (hw : Wrote g u u') (hb : Blk u' g 26 x') : F3 w0 g r h x' z y u' :=
  ⟨hw.below k.bel k.lg k.bel.size, hb, hw.blk k.z (Ne.symm k.gr), hw.blk k.y (Ne.symm k.gh), k.lg, k.lr, k.lh, k.gh, k.gr, k.rh⟩
theorem F3.putY {w0 u u' : World} {g r h : Nat} {x z y y' : Array Value} (k : F3 w0 g r h x z y u) (hw : Wrote h u u') (hb : Blk u' h 24 y') : F3 w0 g r h x z y' u' :=
  ⟨hw.below k.bel k.lh k.bel.size, hw.blk k.x k.gh, hw.blk k.z k.rh, hb, k.lg, k.lr, k.lh, k.gh, k.gr, k.rh⟩
theorem mask51 (l : Nat) (h : l < 18446744073709551616) : bits .and .u64 (l : Int) 2251799813685247 = ((l % 2251799813685248 : Nat) : Int) := by
  have h1 := and64 l 2251799813685247 h (by decide)
  rw [show ((2251799813685247 : Nat) : Int) = 2251799813685247 from rfl] at h1
  rw [h1]
  congr 1
  exact Nat.and_two_pow_sub_one_eq_mod l 51
theorem mask_sum (l v : Nat) (h : l < 18446744073709551616) (hv : v < 18444492273895866368) : IntKind.u64.wrap (bits .and .u64 (l : Int) 2251799813685247 + (v : Int)) = ((l % 2251799813685248 + v : Nat) : Int) := by
  rw [mask51 l h, IntKind.wrap_u64]; omega
theorem mask_sum19 (l v : Nat) (h : l < 18446744073709551616) (hv : v < 900000000000000000) : IntKind.u64.wrap (bits .and .u64 (l : Int) 2251799813685247 + (v : Int) * 19) = ((l % 2251799813685248 + v * 19 : Nat) : Int) := by
  rw [mask51 l h, IntKind.wrap_u64]; omega
def ElemPost (x : E5) (w : World) (e : Ending) (w' : World) : Prop := e = .returned (.agg (eV x)) ∧ Below w.heap.size w w'
theorem Blk.newAt {w : World} {n : Nat} {t : TypeId} {cs : Array Value} (h : w.heap.size = n) : Blk (w.alloc (.cells cs t)) n t cs := h ▸ Blk.new w t cs
set_option maxRecDepth 100000 in
set_option maxHeartbeats 2000000 in
theorem carried_any (x : E5) (w : World) (hx : x.Lt 18446744073709551616) : Calls Try.prog 56 #[.agg (eV x)] w (ElemPost (carryE x) w) := by
  have hu := Try.underlying26
  have hu5 := Try.underlying24
  have hst0 : F3 w w.heap.size (w.heap.size + 1) (w.heap.size + 1 + 1) (eV x) (eV zE) (mixV (highE x) zE 0) (((w.alloc (.cells (eV x) 26)).alloc (.cells (eV zE) 26)).alloc (.cells (eV zE) 24)) :=
    ⟨((below_new _ _).alloc (by simp) _).alloc (by simp; try omega) _, ((Blk.new _ _ _).alloc _).alloc _, (Blk.newAt (by simp)).alloc _, Blk.newAt (by simp), Nat.le_refl _, by omega, by omega, by omega, by omega, by omega⟩
  have HX := Lib.hid hx
  have HST0 := Lib.hid hst0
  clear hx
  go_enter Try.func56, Try.ntmps56
  go_wp2_with (refine wpList_get_part (x := .tmp 8) (n := 5) (r := eV x) hst0.x (by rw [eV_size]; decide) rfl rfl rfl rfl hu5 rfl five_size ?_)
  clear hst0
  generalize hc : w.heap.size + 1 + 1 = c at *
  generalize hr : w.heap.size + 1 = r at *
  generalize hg : w.heap.size = g at *
  have HC := Lib.hid hc
  have HR := Lib.hid hr
  have HG := Lib.hid hg
  clear hc hr hg
  go_loopw [10] (fun i wr => ∃ k : Nat, k ≤ 5 ∧ i = .int .i64 k ∧ F3 w g r c (eV x) (eV zE) (mixV (highE x) zE k) wr) (fun i _ => 5 - (intOf i).toNat)
  case atStart => exact ⟨0, by omega, rfl, HST0.out⟩
  case round =>
    clear HST0
    obtain ⟨k, hk, rfl, hst⟩ := hrel
    by_cases hlt : k < 5
    · have hlt' : (k : Int) < 5 := by omega
      obtain ⟨l, hl⟩ : ∃ l, l = (limbs x).getD k 0 := ⟨_, rfl⟩
      have hll : (l : Int) < 18446744073709551616 := by have := limb_lt HX.out (by decide) k; rw [← hl] at this; omega
      have hix : ∀ u : World, (Instr.index 24 (.agg (eV x)) (.int .i64 (k : Int))).run Try.prog u = .ok (.int .u64 (l : Int)) u := fun u =>
        run_index_array (n := 5) (e := 23) hu5 hlt (by rw [hl]; exact eV_at x k hlt) (by kernel_rfl) (by kernel_rfl) ⟨_, Try.underlying23⟩
      have d0 := hst.y.cell k
      rw [mixV_at _ _ _ hlt] at d0
      have f0 := hst.y.free k
      have hset := mixV_set (highE x) zE k hlt
      rw [highE_at _ _ hlt, ← hl] at hset
      have HSET := Lib.hid hset
      have HST := Lib.hid hst
      clear hset hst hl
      go_wp2_with fail
      refine ⟨⟨k + 1, by omega, by go_num, HST.out.putY (wrote_setCell_at _ _ _ _) ?_⟩, by simp [intOf]; omega⟩
      have h := blk_setCell_at (i := k) HST.out.y (.int .u64 ((l / 2251799813685248 : Nat) : Int))
      rw [HSET.out] at h
      exact h
    · obtain rfl : k = 5 := by omega
      rw [mixV_end] at hst
      have hst1 : F3 w g r c (mixV (carryE x) x 0) (eV zE) (eV (highE x)) wr := hst
      have HST := Lib.hid hst1
      clear hst hst1
      go_wp2_with fail
      obtain ⟨wo, rfl⟩ : ∃ x : World, x = wr := ⟨_, rfl⟩
      go_loopw [19] (fun i wr => ∃ k : Nat, k ≤ 5 ∧ i = .int .i64 k ∧ F3 w g r c (mixV (carryE x) x k) (eV zE) (eV (highE x)) wr) (fun i _ => 5 - (intOf i).toNat)
      case atStart => exact ⟨0, by omega, rfl, HST.out⟩
      case round =>
        clear HST
        obtain ⟨k, hk, rfl, hst⟩ := hrel
        by_cases hlt2 : k < 5
        · obtain ⟨l, hl⟩ : ∃ l, l = (limbs x).getD k 0 := ⟨_, rfl⟩
          have hll0 := limb_lt HX.out (by decide) k
          rw [← hl] at hll0
          have hll : (l : Int) < 18446744073709551616 := by omega
          obtain ⟨j, hj⟩ : ∃ j, j = if k = 0 then 4 else k - 1 := ⟨_, rfl⟩
          have hj5 : j < 5 := by rw [hj]; split <;> omega
          have hjk : ((k : Int) + 5 - 1) % 5 = (j : Int) := by rw [hj]; split <;> omega
          have hjk2 : ((k : Int) + 4) % 5 = (j : Int) := by rw [hj]; split <;> omega
          obtain ⟨m, hm⟩ : ∃ m, m = (limbs (highE x)).getD j 0 := ⟨_, rfl⟩
          have hml : m < 8192 := by
            have := limb_lt HX.out (by decide) j
            rw [hm, highE_at _ _ hj5]; omega
          have hml' : (m : Int) < 8192 := by omega
          have dx := hst.x.cell k
          rw [mixV_at _ _ _ hlt2, ← hl] at dx
          have fx := hst.x.free k
          have dy := hst.y.cell j
          rw [eV_at _ _ hj5, ← hm] at dy
          have hset := mixV_set (carryE x) x k hlt2
          have hval : (limbs (carryE x)).getD k 0 = l % 2251799813685248 + (if k = 0 then m * 19 else m) := by
            rw [carryE_at _ _ hlt2, ← hl, hm, hj]
            by_cases h0 : k = 0
            · simp [h0]
            · simp [h0]
          rw [hval] at hset
          have HSET := Lib.hid hset
          have HST := Lib.hid hst
          have HJ := Lib.hid hj
          have hlt' : (k : Int) < 5 := by omega
          clear hset hst hl hm hval hj
          by_cases h0 : k = 0
          · subst h0
            obtain rfl : j = 4 := by have := HJ.out; simpa using this
            rw [show ((0 : Nat) : Int) = 0 from rfl]
            clear hjk hjk2 hlt' hlt2
            go_wp2_with fail
            refine ⟨⟨1, by omega, rfl, HST.out.putX (wrote_setCell_at _ _ _ _) ?_⟩, by simp [intOf]⟩
            rw [mask_sum19 l m hll0 (by omega)]
            have h := blk_setCell_at (i := 0) HST.out.x (.int .u64 ((l % 2251799813685248 + m * 19 : Nat) : Int))
            have h2 := HSET.out
            rw [if_pos rfl] at h2
            rw [h2] at h
            exact h
          · have hb : ((k : Int) == 0) = false := by rw [beq_eq_false_iff_ne]; omega
            go_wp2_with fail
            refine ⟨⟨k + 1, by omega, by go_num, HST.out.putX (wrote_setCell_at _ _ _ _) ?_⟩, by simp [intOf]; omega⟩
            rw [mask_sum l m hll0 (by omega)]
            have h := blk_setCell_at (i := k) HST.out.x (.int .u64 ((l % 2251799813685248 + m : Nat) : Int))
            have h2 := HSET.out
            rw [if_neg h0] at h2
            rw [h2] at h
            exact h
        · obtain rfl : k = 5 := by omega
          rw [mixV_end] at hst
          have HST := Lib.hid hst
          clear hst
          go_wp2_with (first
            | (refine wpList_get_box (x := .tmp 1) HST.out.x rfl rfl rfl hu rfl elem_size ?_)
            | (refine wpList_put_box (x := .tmp 2) (cells := eV (carryE x)) HST.out.z rfl rfl rfl rfl elem_size rfl (by simp [eV, wV, limbs, Value.oneCell']) ?_; intro w5 hb5 hw5))
          refine bodyPost_ret (results_box (P := Try.prog) rfl rfl hb5 hu rfl elem_size) rfl ⟨rfl, ?_⟩
          exact hw5.below HST.out.bel HST.out.lr HST.out.bel.size
end Go.Proofs.Ytbeokfpbhemcfaa
/-
  Walks: the field's Add and Sub.
-/
namespace Go.Proofs.Ytbeokfpbhemcfaa
set_option linter.unusedSimpArgs false
set_option linter.unusedVariables false
open Go.RowKit

def rawAdd (x y : E5) : E5 := ⟨x.a + y.a, x.b + y.b, x.c + y.c, x.d + y.d, x.e + y.e⟩
theorem rawAdd_at (x y : E5) (k : Nat) (h : k < 5) : (limbs (rawAdd x y)).getD k 0 = (limbs x).getD k 0 + (limbs y).getD k 0 := by
  match k, h with
  | 0, _ => rfl
  | 1, _ => rfl
  | 2, _ => rfl
  | 3, _ => rfl
  | 4, _ => rfl
def rawSub (x z : E5) : E5 := ⟨x.a + (4503599627370458 - z.a), x.b + (4503599627370494 - z.b), x.c + (4503599627370494 - z.c), x.d + (4503599627370494 - z.d), x.e + (4503599627370494 - z.e)⟩
theorem rawSub_at (x y : E5) (k : Nat) (h : k < 5) : (limbs (rawSub x y)).getD k 0 = (limbs x).getD k 0 + ((if k = 0 then 4503599627370458 else 4503599627370494) - (limbs y).getD k 0) := by
  match k, h with
  | 0, _ => rfl
  | 1, _ => rfl
  | 2, _ => rfl
  | 3, _ => rfl
  | 4, _ => rfl
/-- two elements that came in, the result's place -/
structure G3 (w0 : World) (g h r : Nat) (x y z : Array Value) (u : World) : Prop where
  bel : Below w0.heap.size w0 u
  x : Blk u g 26 x
  y : Blk u h 26 y
  z : Blk u r 26 z
  lg : w0.heap.size ≤ g
  lh : w0.heap.size ≤ h
  lr : w0.heap.size ≤ r
  gh : g ≠ h
  gr : g ≠ r
  hr : h ≠ r
theorem G3.putX {w0 u u' : World} {g h r : Nat} {x y z x' : Array Value} (k : G3 w0 g h r x y z u) (hw : Wrote g u u') (hb : Blk u' g 26 x') : G3 w0 g h r x' y z u' :=
  ⟨hw.below k.bel k.lg k.bel.size, hb, hw.blk k.y (Ne.symm k.gh), hw.blk k.z (Ne.symm k.gr), k.lg, k.lh, k.lr, k.gh, k.gr, k.hr⟩
theorem G3.putY {w0 u u' : World} {g h r : Nat} {x y z y' : Array Value} (k : G3 w0 g h r x y z u) (hw : Wrote h u u') (hb : Blk u' h 26 y') : G3 w0 g h r x y' z u' :=
  ⟨hw.below k.bel k.lh k.bel.size, hw.blk k.x k.gh, hb, hw.blk k.z (Ne.symm k.hr), k.lg, k.lh, k.lr, k.gh, k.gr, k.hr⟩
theorem G3.drew {w0 u : World} {g h r : Nat} {x y z : Array Value} (k : G3 w0 g h r x y z u) : G3 w0 g h r x y z u.drew :=
  ⟨k.bel.drew, k.x, k.y, k.z, k.lg, k.lh, k.lr, k.gh, k.gr, k.hr⟩
theorem G3.next {w0 u u' : World} {g h r : Nat} {x y z : Array Value} (k : G3 w0 g h r x y z u) (hb : Below u.heap.size u u') : G3 w0 g h r x y z u' :=
  ⟨k.bel.trans (hb.mono k.bel.size), k.x.below hb k.x.lt, k.y.below hb k.y.lt, k.z.below hb k.z.lt, k.lg, k.lh, k.lr, k.gh, k.gr, k.hr⟩
theorem g3_new (w : World) (x y z : Array Value) : G3 w w.heap.size (w.heap.size + 1) (w.heap.size + 1 + 1) x y z (((w.alloc (.cells x 26)).alloc (.cells y 26)).alloc (.cells z 26)) :=
  ⟨((below_new _ _).alloc (by simp) _).alloc (by simp; try omega) _, ((Blk.new _ _ _).alloc _).alloc _, (Blk.newAt (by simp)).alloc _, Blk.newAt (by simp), Nat.le_refl _, by omega, by omega, by omega, by omega, by omega⟩
theorem add_w64' (a b : Nat) (h : a + b < 18446744073709551616) : IntKind.u64.wrap ((a : Int) + (b : Int)) = ((a + b : Nat) : Int) := by
  rw [IntKind.wrap_u64]; omega
theorem sub_w64' (a b : Nat) (h : b ≤ a) (ha : a < 18446744073709551616) : IntKind.u64.wrap ((a : Int) - (b : Int)) = ((a - b : Nat) : Int) := by
  rw [IntKind.wrap_u64]; omega
set_option maxRecDepth 100000 in
set_option maxHeartbeats 2000000 in
theorem add_any (x y : E5) (w : World) (hx : x.Lt 9223372036854775808) (hy : y.Lt 9223372036854775808) : Calls Try.prog 32 #[.agg (eV x), .agg (eV y)] w (ElemPost (addE x y) w) := by
  have hu := Try.underlying26
  have hst0 : G3 w w.heap.size (w.heap.size + 1) (w.heap.size + 1 + 1) (mixV (rawAdd x y) x 0) (eV y) (eV zE) _ := g3_new w (eV x) (eV y) (eV zE)
  have HX := Lib.hid hx
  have HY := Lib.hid hy
  have HST0 := Lib.hid hst0
  clear hx hy hst0
  go_enter Try.func32, Try.ntmps32
  go_wp2_with fail
  generalize hr : w.heap.size + 1 + 1 = r at *
  generalize hh : w.heap.size + 1 = h at *
  generalize hg : w.heap.size = g at *
  have HR := Lib.hid hr
  have HH := Lib.hid hh
  have HG := Lib.hid hg
  clear hr hh hg
  go_loopw [6] (fun i wr => ∃ k : Nat, k ≤ 5 ∧ i = .int .i64 k ∧ G3 w g h r (mixV (rawAdd x y) x k) (eV y) (eV zE) wr) (fun i _ => 5 - (intOf i).toNat)
  case atStart => exact ⟨0, by omega, rfl, HST0.out⟩
  case round =>
    clear HST0
    obtain ⟨k, hk, rfl, hst⟩ := hrel
    by_cases hlt : k < 5
    · have hlt' : (k : Int) < 5 := by omega
      obtain ⟨l, hl⟩ : ∃ l, l = (limbs x).getD k 0 := ⟨_, rfl⟩
      obtain ⟨m, hm⟩ : ∃ m, m = (limbs y).getD k 0 := ⟨_, rfl⟩
      have hll : l < 9223372036854775808 := by rw [hl]; exact limb_lt HX.out (by decide) k
      have hml : m < 9223372036854775808 := by rw [hm]; exact limb_lt HY.out (by decide) k
      have hset := mixV_set (rawAdd x y) x k hlt
      rw [rawAdd_at _ _ _ hlt, ← hl, ← hm] at hset
      have ex : (mixV (rawAdd x y) x k)[k]? = some (.int .u64 (l : Int)) := by rw [hl]; exact mixV_at _ _ _ hlt
      have ey : (eV y)[k]? = some (.int .u64 (m : Int)) := by rw [hm]; exact eV_at _ _ hlt
      have HSET := Lib.hid hset
      have EX := Lib.hid ex
      have EY := Lib.hid ey
      have HLL := Lib.hid hll
      have HML := Lib.hid hml
      have HC0 := hst.drew
      clear hset ex ey hst hl hm hll hml
      go_wp2_with fail
      refine wp_region_det (fun u => G3 w g h r (mixV (rawAdd x y) x k) (eV y) (eV zE) u) (fun u => G3 w g h r (mixV (rawAdd x y) x (k + 1)) (eV y) (eV zE) u) [(0, some 9), (1, some 10), (2, some 11), (3, some 12), (4, some 13), (5, some 14), (6, some 15), (7, some 16), (8, some 17), (9, some 18), (10, some 19), (11, none)] (by kernel_rfl) (by kernel_rfl) (by decide) (by kernel_rfl) (fun _ => rfl) HC0 ?_
      apply DetL.next
      · -- 0: Op.move (Operand.tmp 5)
        apply detStep_plain []
        exact fun _ => rfl
        rfl
        rintro vals - w1 hC1 E hE
        simp only [puts, act_put, act_put_none, List.setIfInBounds_toArray, List.set_cons_zero, List.set_cons_succ] at hE ⊢
        go_wp2
        exact .mk (hE _ hC1)
      apply DetL.next
      · -- 1: Op.fieldAddr 26 (Operand.tmp 2) 0
        apply detStep_plain []
        exact fun _ => rfl
        rfl
        rintro vals ⟨-, -⟩ w1 hC1 E hE
        simp only [puts, act_put, act_put_none, List.setIfInBounds_toArray, List.set_cons_zero, List.set_cons_succ] at hE ⊢
        go_wp2
        exact .mk (hE _ hC1)
      apply DetL.next
      · -- 2: Op.indexAddr 24 (Operand.tmp 10) (Operand.tmp 9)
        apply detStep_plain [(1, some 10), (0, some 9)]
        exact fun _ => rfl
        rfl
        rintro vals ⟨⟨-, f0⟩, f1⟩ w1 hC1 E hE
        simp only [puts, act_put, act_put_none, List.setIfInBounds_toArray, List.set_cons_zero, List.set_cons_succ, f0, f1] at hE ⊢
        clear f0 f1
        go_wp2
        exact .mk (hE _ hC1)
      apply DetL.next
      · -- 3: Op.load 23 (Operand.tmp 11)
        apply detStep_plain [(2, some 11)]
        exact fun _ => rfl
        rfl
        rintro vals ⟨⟨⟨-, -⟩, -⟩, f2⟩ w1 hC1 E hE
        have d0 := hC1.x.cell k
        rw [EX.out] at d0
        simp only [puts, act_put, act_put_none, List.setIfInBounds_toArray, List.set_cons_zero, List.set_cons_succ, f2] at hE ⊢
        clear f2
        go_wp2
        exact .mk (hE _ hC1)
      apply DetL.next
      · -- 4: Op.move (Operand.tmp 5)
        apply detStep_plain []
        exact fun _ => rfl
        rfl
        rintro vals ⟨⟨⟨⟨-, -⟩, -⟩, -⟩, -⟩ w1 hC1 E hE
        simp only [puts, act_put, act_put_none, List.setIfInBounds_toArray, List.set_cons_zero, List.set_cons_succ] at hE ⊢
        go_wp2
        exact .mk (hE _ hC1)
      apply DetL.next
      · -- 5: Op.fieldAddr 26 (Operand.tmp 3) 0
        apply detStep_plain []
        exact fun _ => rfl
        rfl
        rintro vals ⟨⟨⟨⟨⟨-, -⟩, -⟩, -⟩, -⟩, -⟩ w1 hC1 E hE
        simp only [puts, act_put, act_put_none, List.setIfInBounds_toArray, List.set_cons_zero, List.set_cons_succ] at hE ⊢
        go_wp2
        exact .mk (hE _ hC1)
      apply DetL.next
      · -- 6: Op.indexAddr 24 (Operand.tmp 14) (Operand.tmp 13)
        apply detStep_plain [(5, some 14), (4, some 13)]
        exact fun _ => rfl
        rfl
        rintro vals ⟨⟨⟨⟨⟨⟨-, -⟩, -⟩, -⟩, -⟩, f4⟩, f5⟩ w1 hC1 E hE
        simp only [puts, act_put, act_put_none, List.setIfInBounds_toArray, List.set_cons_zero, List.set_cons_succ, f4, f5] at hE ⊢
        clear f4 f5
        go_wp2
        exact .mk (hE _ hC1)
      apply DetL.next
      · -- 7: Op.load 23 (Operand.tmp 15)
        apply detStep_plain [(6, some 15)]
        exact fun _ => rfl
        rfl
        rintro vals ⟨⟨⟨⟨⟨⟨⟨-, -⟩, -⟩, -⟩, -⟩, -⟩, -⟩, f6⟩ w1 hC1 E hE
        have d0 := hC1.y.cell k
        rw [EY.out] at d0
        simp only [puts, act_put, act_put_none, List.setIfInBounds_toArray, List.set_cons_zero, List.set_cons_succ, f6] at hE ⊢
        clear f6
        go_wp2
        exact .mk (hE _ hC1)
      apply DetL.next
      · -- 8: Op.binOp BinOp.add 23 (Operand.tmp 12) (Operand.tmp 16) 23
        apply detStep_plain [(3, some 12), (7, some 16)]
        exact fun _ => rfl
        rfl
        rintro vals ⟨⟨⟨⟨⟨⟨⟨⟨-, -⟩, -⟩, -⟩, f3⟩, -⟩, -⟩, -⟩, f7⟩ w1 hC1 E hE
        simp only [puts, act_put, act_put_none, List.setIfInBounds_toArray, List.set_cons_zero, List.set_cons_succ, f3, f7] at hE ⊢
        clear f3 f7
        go_wp2
        rw [add_w64' l m (by have := HLL.out; have := HML.out; omega)]
        exact .mk (hE _ hC1)
      apply DetL.next
      · -- 9: Op.fieldAddr 26 (Operand.tmp 2) 0
        apply detStep_plain []
        exact fun _ => rfl
        rfl
        rintro vals ⟨⟨⟨⟨⟨⟨⟨⟨⟨-, -⟩, -⟩, -⟩, -⟩, -⟩, -⟩, -⟩, -⟩, -⟩ w1 hC1 E hE
        simp only [puts, act_put, act_put_none, List.setIfInBounds_toArray, List.set_cons_zero, List.set_cons_succ] at hE ⊢
        go_wp2
        exact .mk (hE _ hC1)
      apply DetL.next
      · -- 10: Op.indexAddr 24 (Operand.tmp 18) (Operand.tmp 9)
        apply detStep_plain [(9, some 18), (0, some 9), (0, some 9), (1, some 10), (2, some 11), (3, some 12), (4, some 13), (5, some 14), (6, some 15), (7, some 16), (8, some 17)]
        exact fun _ => rfl
        rfl
        rintro vals ⟨⟨⟨⟨⟨⟨⟨⟨⟨⟨-, f0⟩, f1⟩, f2⟩, f3⟩, f4⟩, f5⟩, f6⟩, f7⟩, f8⟩, f9⟩ w1 hC1 E hE
        simp only [puts, act_put, act_put_none, List.setIfInBounds_toArray, List.set_cons_zero, List.set_cons_succ, f0, f1, f2, f3, f4, f5, f6, f7, f8, f9] at hE ⊢
        clear f0 f1 f2 f3 f4 f5 f6 f7 f8 f9
        go_wp2
        exact .mk (hE _ hC1)
      apply DetL.last (v := undef)
      · -- 11: Op.store 23 (Operand.tmp 19) (Operand.tmp 17)
        apply detStep_plain [(10, some 19), (8, some 17), (0, some 9), (1, some 10), (2, some 11), (3, some 12), (4, some 13), (5, some 14), (6, some 15), (7, some 16), (8, some 17)]
        exact fun _ => rfl
        rfl
        rintro vals ⟨⟨⟨⟨⟨⟨⟨⟨⟨⟨⟨-, f0⟩, f1⟩, f2⟩, f3⟩, f4⟩, f5⟩, f6⟩, f7⟩, f8⟩, -⟩, f10⟩ w1 hC1 E hE
        have d0 := hC1.x.cell k
        rw [EX.out] at d0
        have q0 := hC1.x.free k
        simp only [puts, act_put, act_put_none, List.setIfInBounds_toArray, List.set_cons_zero, List.set_cons_succ, f0, f1, f2, f3, f4, f5, f6, f7, f8, f10] at hE ⊢
        clear f0 f1 f2 f3 f4 f5 f6 f7 f8 f10
        go_wp2
        refine .mk (hE _ (hC1.putX (wrote_setCell_at _ _ _ _) ?_))
        have h := blk_setCell_at (i := k) hC1.x (.int .u64 ((l + m : Nat) : Int))
        rw [HSET.out] at h
        exact h
      rintro vals ⟨⟨⟨⟨⟨⟨⟨⟨⟨⟨⟨⟨-, f0⟩, f1⟩, f2⟩, f3⟩, f4⟩, f5⟩, f6⟩, f7⟩, f8⟩, f9⟩, f10⟩, f11⟩ w1 hC1
      simp only [puts, act_put, act_put_none, List.setIfInBounds_toArray, List.set_cons_zero, List.set_cons_succ, f0, f1, f2, f3, f4, f5, f6, f7, f8, f9, f10, f11]
      clear f0 f1 f2 f3 f4 f5 f6 f7 f8 f9 f10 f11
      clear HC0
      have HC1 := Lib.hid hC1
      clear hC1
      go_wp2_with fail
      exact ⟨⟨k + 1, by omega, by go_num, HC1.out⟩, by simp [intOf]; omega⟩
    · obtain rfl : k = 5 := by omega
      rw [mixV_end] at hst
      have HST := Lib.hid hst
      clear hst
      go_wp2_with (refine wpList_get_box (x := .tmp 2) HST.out.x rfl rfl rfl hu rfl elem_size ?_)
      refine calls_then (carried_any (rawAdd x y) _ ?_) ?_
      · obtain ⟨a1, a2, a3, a4, a5⟩ := HX.out
        obtain ⟨b1, b2, b3, b4, b5⟩ := HY.out
        constructor <;> simp only [rawAdd] <;> omega
      rintro e w2 ⟨rfl, hb2⟩
      have hs2 := HST.out.next hb2
      have HS2 := Lib.hid hs2
      clear HST hs2 hb2
      go_wp2_with (refine wpList_put_box (x := .tmp 4) (cells := eV (addE x y)) HS2.out.z rfl rfl rfl rfl elem_size rfl (by simp [eV, wV, limbs, Value.oneCell']) ?_; intro w5 hb5 hw5)
      refine bodyPost_ret (results_box (P := Try.prog) rfl rfl hb5 hu rfl elem_size) rfl ⟨rfl, ?_⟩
      exact hw5.below HS2.out.bel HS2.out.lr HS2.out.bel.size
end Go.Proofs.Ytbeokfpbhemcfaa
/-
  Walk: the field's Sub.
-/
namespace Go.Proofs.Ytbeokfpbhemcfaa
set_option linter.unusedSimpArgs false
set_option linter.unusedVariables false
open Go.RowKit

set_option maxRecDepth 100000 in
set_option maxHeartbeats 2000000 in
theorem sub_any (x y : E5) (w : World) (hx : x.Lt 9223372036854775808) (hy : y.Lt 18446744073709551616) : Calls Try.prog 48 #[.agg (eV x), .agg (eV y)] w (ElemPost (subE x y) w) := by
  have hu := Try.underlying26
  have hst0 : G3 w w.heap.size (w.heap.size + 1) (w.heap.size + 1 + 1) (eV x) (eV y) (eV zE) _ := g3_new w (eV x) (eV y) (eV zE)
  have hz : (carryE y).Lt 2251799813947392 := carry_lt hy
  have HX := Lib.hid hx
  have HY := Lib.hid hy
  have HZ := Lib.hid hz
  have HST0 := Lib.hid hst0
  clear hx hy hz hst0
  go_enter Try.func48, Try.ntmps48
  go_wp2_with (refine wpList_get_box (x := .tmp 3) HST0.out.y rfl rfl rfl hu rfl elem_size ?_)
  generalize hr : w.heap.size + 1 + 1 = r at *
  generalize hh : w.heap.size + 1 = h at *
  generalize hg : w.heap.size = g at *
  have HR := Lib.hid hr
  have HH := Lib.hid hh
  have HG := Lib.hid hg
  clear hr hh hg
  refine calls_then (carried_any y _ HY.out) ?_
  rintro e w2 ⟨rfl, hb2⟩
  have hs2 := HST0.out.next hb2
  have HS2 := Lib.hid hs2
  clear HST0 hs2 hb2
  go_wp2_with (refine wpList_put_box (x := .tmp 3) (cells := eV (carryE y)) HS2.out.y rfl rfl rfl rfl elem_size rfl (by simp [eV, wV, limbs, Value.oneCell']) ?_; intro w3 hb3 hw3)
  have hs3 : G3 w g h r (mixV (rawSub x (carryE y)) x 0) (eV (carryE y)) (eV zE) w3 := HS2.out.putY hw3 hb3
  have HS3 := Lib.hid hs3
  clear HS2 hs3 hb3 hw3
  go_loopw [9] (fun i wr => ∃ k : Nat, k ≤ 5 ∧ i = .int .i64 k ∧ G3 w g h r (mixV (rawSub x (carryE y)) x k) (eV (carryE y)) (eV zE) wr) (fun i _ => 5 - (intOf i).toNat)
  case atStart => exact ⟨0, by omega, rfl, HS3.out⟩
  case round =>
    clear HS3
    obtain ⟨k, hk, rfl, hst⟩ := hrel
    by_cases hlt : k < 5
    · have hlt' : (k : Int) < 5 := by omega
      obtain ⟨l, hl⟩ : ∃ l, l = (limbs x).getD k 0 := ⟨_, rfl⟩
      obtain ⟨m, hm⟩ : ∃ m, m = (limbs (carryE y)).getD k 0 := ⟨_, rfl⟩
      have hll : l < 9223372036854775808 := by rw [hl]; exact limb_lt HX.out (by decide) k
      have hml : m < 2251799813947392 := by rw [hm]; exact limb_lt HZ.out (by decide) k
      have hset := mixV_set (rawSub x (carryE y)) x k hlt
      rw [rawSub_at _ _ _ hlt, ← hl, ← hm] at hset
      have ex : (mixV (rawSub x (carryE y)) x k)[k]? = some (.int .u64 (l : Int)) := by rw [hl]; exact mixV_at _ _ _ hlt
      have ey : (eV (carryE y))[k]? = some (.int .u64 (m : Int)) := by rw [hm]; exact eV_at _ _ hlt
      have HEX := Lib.hid ex
      have HEY := Lib.hid ey
      have HLL := Lib.hid hll
      have HML := Lib.hid hml
      by_cases h0 : k = 0
      · subst h0
        rw [if_pos rfl] at hset
        have HSET := Lib.hid hset
        have HC0 := hst.drew
        clear hset ex ey hst hl hm hll hml hlt' hlt
        rw [show ((0 : Nat) : Int) = 0 from rfl]
        go_wp2_with fail
        refine wp_region_det (fun u => G3 w g h r (mixV (rawSub x (carryE y)) x 0) (eV (carryE y)) (eV zE) u) (fun u => G3 w g h r (mixV (rawSub x (carryE y)) x (0 + 1)) (eV (carryE y)) (eV zE) u) [(0, some 16), (1, some 17), (2, some 18), (3, some 19), (4, some 20), (5, some 21), (6, some 22), (7, some 23), (8, some 24), (9, some 25), (10, some 26), (11, some 27), (12, some 28), (13, none)] (by kernel_rfl) (by kernel_rfl) (by decide) (by kernel_rfl) (fun _ => rfl) HC0 ?_
        apply DetL.next
        · -- 0: Op.move (Operand.tmp 5)
          apply detStep_plain []
          exact fun _ => rfl
          rfl
          rintro vals - w1 hC1 E hE
          simp only [puts, act_put, act_put_none, List.setIfInBounds_toArray, List.set_cons_zero, List.set_cons_succ] at hE ⊢
          go_wp2
          exact .mk (hE _ hC1)
        apply DetL.next
        · -- 1: Op.fieldAddr 26 (Operand.tmp 2) 0
          apply detStep_plain []
          exact fun _ => rfl
          rfl
          rintro vals ⟨-, -⟩ w1 hC1 E hE
          simp only [puts, act_put, act_put_none, List.setIfInBounds_toArray, List.set_cons_zero, List.set_cons_succ] at hE ⊢
          go_wp2
          exact .mk (hE _ hC1)
        apply DetL.next
        · -- 2: Op.indexAddr 24 (Operand.tmp 17) (Operand.tmp 16)
          apply detStep_plain [(1, some 17), (0, some 16)]
          exact fun _ => rfl
          rfl
          rintro vals ⟨⟨-, f0⟩, f1⟩ w1 hC1 E hE
          simp only [puts, act_put, act_put_none, List.setIfInBounds_toArray, List.set_cons_zero, List.set_cons_succ, f0, f1] at hE ⊢
          clear f0 f1
          go_wp2
          exact .mk (hE _ hC1)
        apply DetL.next
        · -- 3: Op.load 23 (Operand.tmp 18)
          apply detStep_plain [(2, some 18)]
          exact fun _ => rfl
          rfl
          rintro vals ⟨⟨⟨-, -⟩, -⟩, f2⟩ w1 hC1 E hE
          have d0 := hC1.x.cell 0
          rw [HEX.out] at d0
          simp only [puts, act_put, act_put_none, List.setIfInBounds_toArray, List.set_cons_zero, List.set_cons_succ, f2] at hE ⊢
          clear f2
          go_wp2
          exact .mk (hE _ hC1)
        apply DetL.next
        · -- 4: Op.move (Operand.tmp 6)
          apply detStep_plain []
          exact fun _ => rfl
          rfl
          rintro vals ⟨⟨⟨⟨-, -⟩, -⟩, -⟩, -⟩ w1 hC1 E hE
          simp only [puts, act_put, act_put_none, List.setIfInBounds_toArray, List.set_cons_zero, List.set_cons_succ] at hE ⊢
          go_wp2
          exact .mk (hE _ hC1)
        apply DetL.next
        · -- 5: Op.move (Operand.tmp 5)
          apply detStep_plain []
          exact fun _ => rfl
          rfl
          rintro vals ⟨⟨⟨⟨⟨-, -⟩, -⟩, -⟩, -⟩, -⟩ w1 hC1 E hE
          simp only [puts, act_put, act_put_none, List.setIfInBounds_toArray, List.set_cons_zero, List.set_cons_succ] at hE ⊢
          go_wp2
          exact .mk (hE _ hC1)
        apply DetL.next
        · -- 6: Op.fieldAddr 26 (Operand.tmp 3) 0
          apply detStep_plain []
          exact fun _ => rfl
          rfl
          rintro vals ⟨⟨⟨⟨⟨⟨-, -⟩, -⟩, -⟩, -⟩, -⟩, -⟩ w1 hC1 E hE
          simp only [puts, act_put, act_put_none, List.setIfInBounds_toArray, List.set_cons_zero, List.set_cons_succ] at hE ⊢
          go_wp2
          exact .mk (hE _ hC1)
        apply DetL.next
        · -- 7: Op.indexAddr 24 (Operand.tmp 22) (Operand.tmp 21)
          apply detStep_plain [(6, some 22), (5, some 21)]
          exact fun _ => rfl
          rfl
          rintro vals ⟨⟨⟨⟨⟨⟨⟨-, -⟩, -⟩, -⟩, -⟩, -⟩, f5⟩, f6⟩ w1 hC1 E hE
          simp only [puts, act_put, act_put_none, List.setIfInBounds_toArray, List.set_cons_zero, List.set_cons_succ, f5, f6] at hE ⊢
          clear f5 f6
          go_wp2
          exact .mk (hE _ hC1)
        apply DetL.next
        · -- 8: Op.load 23 (Operand.tmp 23)
          apply detStep_plain [(7, some 23)]
          exact fun _ => rfl
          rfl
          rintro vals ⟨⟨⟨⟨⟨⟨⟨⟨-, -⟩, -⟩, -⟩, -⟩, -⟩, -⟩, -⟩, f7⟩ w1 hC1 E hE
          have d0 := hC1.y.cell 0
          rw [HEY.out] at d0
          simp only [puts, act_put, act_put_none, List.setIfInBounds_toArray, List.set_cons_zero, List.set_cons_succ, f7] at hE ⊢
          clear f7
          go_wp2
          exact .mk (hE _ hC1)
        apply DetL.next
        · -- 9: Op.binOp BinOp.sub 23 (Operand.tmp 20) (Operand.tmp 24) 23
          apply detStep_plain [(4, some 20), (8, some 24)]
          exact fun _ => rfl
          rfl
          rintro vals ⟨⟨⟨⟨⟨⟨⟨⟨⟨-, -⟩, -⟩, -⟩, -⟩, f4⟩, -⟩, -⟩, -⟩, f8⟩ w1 hC1 E hE
          simp only [puts, act_put, act_put_none, List.setIfInBounds_toArray, List.set_cons_zero, List.set_cons_succ, f4, f8] at hE ⊢
          clear f4 f8
          go_wp2
          rw [show IntKind.u64.wrap (4503599627370458 - (m : Int)) = ((4503599627370458 - m : Nat) : Int) by have := HML.out; rw [IntKind.wrap_u64]; omega]
          exact .mk (hE _ hC1)
        apply DetL.next
        · -- 10: Op.binOp BinOp.add 23 (Operand.tmp 19) (Operand.tmp 25) 23
          apply detStep_plain [(3, some 19), (9, some 25)]
          exact fun _ => rfl
          rfl
          rintro vals ⟨⟨⟨⟨⟨⟨⟨⟨⟨⟨-, -⟩, -⟩, -⟩, f3⟩, -⟩, -⟩, -⟩, -⟩, -⟩, f9⟩ w1 hC1 E hE
          simp only [puts, act_put, act_put_none, List.setIfInBounds_toArray, List.set_cons_zero, List.set_cons_succ, f3, f9] at hE ⊢
          clear f3 f9
          go_wp2
          rw [add_w64' l (4503599627370458 - m) (by have := HLL.out; have := HML.out; omega)]
          exact .mk (hE _ hC1)
        apply DetL.next
        · -- 11: Op.fieldAddr 26 (Operand.tmp 2) 0
          apply detStep_plain []
          exact fun _ => rfl
          rfl
          rintro vals ⟨⟨⟨⟨⟨⟨⟨⟨⟨⟨⟨-, -⟩, -⟩, -⟩, -⟩, -⟩, -⟩, -⟩, -⟩, -⟩, -⟩, -⟩ w1 hC1 E hE
          simp only [puts, act_put, act_put_none, List.setIfInBounds_toArray, List.set_cons_zero, List.set_cons_succ] at hE ⊢
          go_wp2
          exact .mk (hE _ hC1)
        apply DetL.next
        · -- 12: Op.indexAddr 24 (Operand.tmp 27) (Operand.tmp 16)
          apply detStep_plain [(11, some 27), (0, some 16), (0, some 16), (1, some 17), (2, some 18), (3, some 19), (4, some 20), (5, some 21), (6, some 22), (7, some 23), (8, some 24), (9, some 25), (10, some 26)]
          exact fun _ => rfl
          rfl
          rintro vals ⟨⟨⟨⟨⟨⟨⟨⟨⟨⟨⟨⟨-, f0⟩, f1⟩, f2⟩, f3⟩, f4⟩, f5⟩, f6⟩, f7⟩, f8⟩, f9⟩, f10⟩, f11⟩ w1 hC1 E hE
          simp only [puts, act_put, act_put_none, List.setIfInBounds_toArray, List.set_cons_zero, List.set_cons_succ, f0, f1, f2, f3, f4, f5, f6, f7, f8, f9, f10, f11] at hE ⊢
          clear f0 f1 f2 f3 f4 f5 f6 f7 f8 f9 f10 f11
          go_wp2
          exact .mk (hE _ hC1)
        apply DetL.last (v := undef)
        · -- 13: Op.store 23 (Operand.tmp 28) (Operand.tmp 26)
          apply detStep_plain [(12, some 28), (10, some 26), (0, some 16), (1, some 17), (2, some 18), (3, some 19), (4, some 20), (5, some 21), (6, some 22), (7, some 23), (8, some 24), (9, some 25), (10, some 26)]
          exact fun _ => rfl
          rfl
          rintro vals ⟨⟨⟨⟨⟨⟨⟨⟨⟨⟨⟨⟨⟨-, f0⟩, f1⟩, f2⟩, f3⟩, f4⟩, f5⟩, f6⟩, f7⟩, f8⟩, f9⟩, f10⟩, -⟩, f12⟩ w1 hC1 E hE
          have d0 := hC1.x.cell 0
          rw [HEX.out] at d0
          have q0 := hC1.x.free 0
          simp only [puts, act_put, act_put_none, List.setIfInBounds_toArray, List.set_cons_zero, List.set_cons_succ, f0, f1, f2, f3, f4, f5, f6, f7, f8, f9, f10, f12] at hE ⊢
          clear f0 f1 f2 f3 f4 f5 f6 f7 f8 f9 f10 f12
          go_wp2
          refine .mk (hE _ (hC1.putX (wrote_setCell_at _ _ _ _) ?_))
          have h := blk_setCell_at (i := 0) hC1.x (.int .u64 ((l + (4503599627370458 - m) : Nat) : Int))
          rw [HSET.out] at h
          exact h
        rintro vals ⟨⟨⟨⟨⟨⟨⟨⟨⟨⟨⟨⟨⟨⟨-, f0⟩, f1⟩, f2⟩, f3⟩, f4⟩, f5⟩, f6⟩, f7⟩, f8⟩, f9⟩, f10⟩, f11⟩, f12⟩, f13⟩ w1 hC1
        simp only [puts, act_put, act_put_none, List.setIfInBounds_toArray, List.set_cons_zero, List.set_cons_succ, f0, f1, f2, f3, f4, f5, f6, f7, f8, f9, f10, f11, f12, f13]
        clear f0 f1 f2 f3 f4 f5 f6 f7 f8 f9 f10 f11 f12 f13
        clear HC0
        have HC1 := Lib.hid hC1
        clear hC1
        go_wp2_with fail
        exact ⟨⟨1, by omega, by go_num, HC1.out⟩, by simp [intOf]⟩
      · rw [if_neg h0] at hset
        have HSET := Lib.hid hset
        have HC0 := hst.drew
        have hb : ((k : Int) == 0) = false := by rw [beq_eq_false_iff_ne]; omega
        clear hset ex ey hst hl hm hll hml
        go_wp2_with fail
        refine wp_region_det (fun u => G3 w g h r (mixV (rawSub x (carryE y)) x k) (eV (carryE y)) (eV zE) u) (fun u => G3 w g h r (mixV (rawSub x (carryE y)) x (k + 1)) (eV (carryE y)) (eV zE) u) [(0, some 16), (1, some 17), (2, some 18), (3, some 19), (4, some 20), (5, some 21), (6, some 22), (7, some 23), (8, some 24), (9, some 25), (10, some 26), (11, some 27), (12, some 28), (13, none)] (by kernel_rfl) (by kernel_rfl) (by decide) (by kernel_rfl) (fun _ => rfl) HC0 ?_
        apply DetL.next
        · -- 0: Op.move (Operand.tmp 5)
          apply detStep_plain []
          exact fun _ => rfl
          rfl
          rintro vals - w1 hC1 E hE
          simp only [puts, act_put, act_put_none, List.setIfInBounds_toArray, List.set_cons_zero, List.set_cons_succ] at hE ⊢
          go_wp2
          exact .mk (hE _ hC1)
        apply DetL.next
        · -- 1: Op.fieldAddr 26 (Operand.tmp 2) 0
          apply detStep_plain []
          exact fun _ => rfl
          rfl
          rintro vals ⟨-, -⟩ w1 hC1 E hE
          simp only [puts, act_put, act_put_none, List.setIfInBounds_toArray, List.set_cons_zero, List.set_cons_succ] at hE ⊢
          go_wp2
          exact .mk (hE _ hC1)
        apply DetL.next
        · -- 2: Op.indexAddr 24 (Operand.tmp 17) (Operand.tmp 16)
          apply detStep_plain [(1, some 17), (0, some 16)]
          exact fun _ => rfl
          rfl
          rintro vals ⟨⟨-, f0⟩, f1⟩ w1 hC1 E hE
          simp only [puts, act_put, act_put_none, List.setIfInBounds_toArray, List.set_cons_zero, List.set_cons_succ, f0, f1] at hE ⊢
          clear f0 f1
          go_wp2
          exact .mk (hE _ hC1)
        apply DetL.next
        · -- 3: Op.load 23 (Operand.tmp 18)
          apply detStep_plain [(2, some 18)]
          exact fun _ => rfl
          rfl
          rintro vals ⟨⟨⟨-, -⟩, -⟩, f2⟩ w1 hC1 E hE
          have d0 := hC1.x.cell k
          rw [HEX.out] at d0
          simp only [puts, act_put, act_put_none, List.setIfInBounds_toArray, List.set_cons_zero, List.set_cons_succ, f2] at hE ⊢
          clear f2
          go_wp2
          exact .mk (hE _ hC1)
        apply DetL.next
        · -- 4: Op.move (Operand.tmp 6)
          apply detStep_plain []
          exact fun _ => rfl
          rfl
          rintro vals ⟨⟨⟨⟨-, -⟩, -⟩, -⟩, -⟩ w1 hC1 E hE
          simp only [puts, act_put, act_put_none, List.setIfInBounds_toArray, List.set_cons_zero, List.set_cons_succ] at hE ⊢
          go_wp2
          exact .mk (hE _ hC1)
        apply DetL.next
        · -- 5: Op.move (Operand.tmp 5)
          apply detStep_plain []
          exact fun _ => rfl
          rfl
          rintro vals ⟨⟨⟨⟨⟨-, -⟩, -⟩, -⟩, -⟩, -⟩ w1 hC1 E hE
          simp only [puts, act_put, act_put_none, List.setIfInBounds_toArray, List.set_cons_zero, List.set_cons_succ] at hE ⊢
          go_wp2
          exact .mk (hE _ hC1)
        apply DetL.next
        · -- 6: Op.fieldAddr 26 (Operand.tmp 3) 0
          apply detStep_plain []
          exact fun _ => rfl
          rfl
          rintro vals ⟨⟨⟨⟨⟨⟨-, -⟩, -⟩, -⟩, -⟩, -⟩, -⟩ w1 hC1 E hE
          simp only [puts, act_put, act_put_none, List.setIfInBounds_toArray, List.set_cons_zero, List.set_cons_succ] at hE ⊢
          go_wp2
          exact .mk (hE _ hC1)
        apply DetL.next
        · -- 7: Op.indexAddr 24 (Operand.tmp 22) (Operand.tmp 21)
          apply detStep_plain [(6, some 22), (5, some 21)]
          exact fun _ => rfl
          rfl
          rintro vals ⟨⟨⟨⟨⟨⟨⟨-, -⟩, -⟩, -⟩, -⟩, -⟩, f5⟩, f6⟩ w1 hC1 E hE
          simp only [puts, act_put, act_put_none, List.setIfInBounds_toArray, List.set_cons_zero, List.set_cons_succ, f5, f6] at hE ⊢
          clear f5 f6
          go_wp2
          exact .mk (hE _ hC1)
        apply DetL.next
        · -- 8: Op.load 23 (Operand.tmp 23)
          apply detStep_plain [(7, some 23)]
          exact fun _ => rfl
          rfl
          rintro vals ⟨⟨⟨⟨⟨⟨⟨⟨-, -⟩, -⟩, -⟩, -⟩, -⟩, -⟩, -⟩, f7⟩ w1 hC1 E hE
          have d0 := hC1.y.cell k
          rw [HEY.out] at d0
          simp only [puts, act_put, act_put_none, List.setIfInBounds_toArray, List.set_cons_zero, List.set_cons_succ, f7] at hE ⊢
          clear f7
          go_wp2
          exact .mk (hE _ hC1)
        apply DetL.next
        · -- 9: Op.binOp BinOp.sub 23 (Operand.tmp 20) (Operand.tmp 24) 23
          apply detStep_plain [(4, some 20), (8, some 24)]
          exact fun _ => rfl
          rfl
          rintro vals ⟨⟨⟨⟨⟨⟨⟨⟨⟨-, -⟩, -⟩, -⟩, -⟩, f4⟩, -⟩, -⟩, -⟩, f8⟩ w1 hC1 E hE
          simp only [puts, act_put, act_put_none, List.setIfInBounds_toArray, List.set_cons_zero, List.set_cons_succ, f4, f8] at hE ⊢
          clear f4 f8
          go_wp2
          rw [show IntKind.u64.wrap (4503599627370494 - (m : Int)) = ((4503599627370494 - m : Nat) : Int) by have := HML.out; rw [IntKind.wrap_u64]; omega]
          exact .mk (hE _ hC1)
        apply DetL.next
        · -- 10: Op.binOp BinOp.add 23 (Operand.tmp 19) (Operand.tmp 25) 23
          apply detStep_plain [(3, some 19), (9, some 25)]
          exact fun _ => rfl
          rfl
          rintro vals ⟨⟨⟨⟨⟨⟨⟨⟨⟨⟨-, -⟩, -⟩, -⟩, f3⟩, -⟩, -⟩, -⟩, -⟩, -⟩, f9⟩ w1 hC1 E hE
          simp only [puts, act_put, act_put_none, List.setIfInBounds_toArray, List.set_cons_zero, List.set_cons_succ, f3, f9] at hE ⊢
          clear f3 f9
          go_wp2
          rw [add_w64' l (4503599627370494 - m) (by have := HLL.out; have := HML.out; omega)]
          exact .mk (hE _ hC1)
        apply DetL.next
        · -- 11: Op.fieldAddr 26 (Operand.tmp 2) 0
          apply detStep_plain []
          exact fun _ => rfl
          rfl
          rintro vals ⟨⟨⟨⟨⟨⟨⟨⟨⟨⟨⟨-, -⟩, -⟩, -⟩, -⟩, -⟩, -⟩, -⟩, -⟩, -⟩, -⟩, -⟩ w1 hC1 E hE
          simp only [puts, act_put, act_put_none, List.setIfInBounds_toArray, List.set_cons_zero, List.set_cons_succ] at hE ⊢
          go_wp2
          exact .mk (hE _ hC1)
        apply DetL.next
        · -- 12: Op.indexAddr 24 (Operand.tmp 27) (Operand.tmp 16)
          apply detStep_plain [(11, some 27), (0, some 16), (0, some 16), (1, some 17), (2, some 18), (3, some 19), (4, some 20), (5, some 21), (6, some 22), (7, some 23), (8, some 24), (9, some 25), (10, some 26)]
          exact fun _ => rfl
          rfl
          rintro vals ⟨⟨⟨⟨⟨⟨⟨⟨⟨⟨⟨⟨-, f0⟩, f1⟩, f2⟩, f3⟩, f4⟩, f5⟩, f6⟩, f7⟩, f8⟩, f9⟩, f10⟩, f11⟩ w1 hC1 E hE
          simp only [puts, act_put, act_put_none, List.setIfInBounds_toArray, List.set_cons_zero, List.set_cons_succ, f0, f1, f2, f3, f4, f5, f6, f7, f8, f9, f10, f11] at hE ⊢
          clear f0 f1 f2 f3 f4 f5 f6 f7 f8 f9 f10 f11
          go_wp2
          exact .mk (hE _ hC1)
        apply DetL.last (v := undef)
        · -- 13: Op.store 23 (Operand.tmp 28) (Operand.tmp 26)
          apply detStep_plain [(12, some 28), (10, some 26), (0, some 16), (1, some 17), (2, some 18), (3, some 19), (4, some 20), (5, some 21), (6, some 22), (7, some 23), (8, some 24), (9, some 25), (10, some 26)]
          exact fun _ => rfl
          rfl
          rintro vals ⟨⟨⟨⟨⟨⟨⟨⟨⟨⟨⟨⟨⟨-, f0⟩, f1⟩, f2⟩, f3⟩, f4⟩, f5⟩, f6⟩, f7⟩, f8⟩, f9⟩, f10⟩, -⟩, f12⟩ w1 hC1 E hE
          have d0 := hC1.x.cell k
          rw [HEX.out] at d0
          have q0 := hC1.x.free k
          simp only [puts, act_put, act_put_none, List.setIfInBounds_toArray, List.set_cons_zero, List.set_cons_succ, f0, f1, f2, f3, f4, f5, f6, f7, f8, f9, f10, f12] at hE ⊢
          clear f0 f1 f2 f3 f4 f5 f6 f7 f8 f9 f10 f12
          go_wp2
          refine .mk (hE _ (hC1.putX (wrote_setCell_at _ _ _ _) ?_))
          have h := blk_setCell_at (i := k) hC1.x (.int .u64 ((l + (4503599627370494 - m) : Nat) : Int))
          rw [HSET.out] at h
          exact h
        rintro vals ⟨⟨⟨⟨⟨⟨⟨⟨⟨⟨⟨⟨⟨⟨-, f0⟩, f1⟩, f2⟩, f3⟩, f4⟩, f5⟩, f6⟩, f7⟩, f8⟩, f9⟩, f10⟩, f11⟩, f12⟩, f13⟩ w1 hC1
        simp only [puts, act_put, act_put_none, List.setIfInBounds_toArray, List.set_cons_zero, List.set_cons_succ, f0, f1, f2, f3, f4, f5, f6, f7, f8, f9, f10, f11, f12, f13]
        clear f0 f1 f2 f3 f4 f5 f6 f7 f8 f9 f10 f11 f12 f13
        clear HC0
        have HC1 := Lib.hid hC1
        clear hC1
        go_wp2_with fail
        exact ⟨⟨k + 1, by omega, by go_num, HC1.out⟩, by simp [intOf]; omega⟩
    · obtain rfl : k = 5 := by omega
      rw [mixV_end] at hst
      have HST := Lib.hid hst
      clear hst
      go_wp2_with (refine wpList_get_box (x := .tmp 2) HST.out.x rfl rfl rfl hu rfl elem_size ?_)
      refine calls_then (carried_any (rawSub x (carryE y)) _ ?_) ?_
      · obtain ⟨a1, a2, a3, a4, a5⟩ := HX.out
        constructor <;> simp only [rawSub] <;> omega
      rintro e w2 ⟨rfl, hb2⟩
      have hs2 := HST.out.next hb2
      have HS2 := Lib.hid hs2
      clear HST hs2 hb2
      go_wp2_with (refine wpList_put_box (x := .tmp 4) (cells := eV (subE x y)) HS2.out.z rfl rfl rfl rfl elem_size rfl (by simp [eV, wV, limbs, Value.oneCell']) ?_; intro w5 hb5 hw5)
      refine bodyPost_ret (results_box (P := Try.prog) rfl rfl hb5 hu rfl elem_size) rfl ⟨rfl, ?_⟩
      exact hw5.below HS2.out.bel HS2.out.lr HS2.out.bel.size
end Go.Proofs.Ytbeokfpbhemcfaa
/-
  Walk: the field's least.
-/
namespace Go.Proofs.Ytbeokfpbhemcfaa
set_option linter.unusedSimpArgs false
set_option linter.unusedVariables false
open Go.RowKit

/-- what is above p, up to a limb -/
def ovr (x : E5) : Nat → Nat
  | 0 => ((limbs x).getD 0 0 + 19) / 2251799813685248
  | k + 1 => ((limbs x).getD (k + 1) 0 + ovr x k) / 2251799813685248
theorem ovr_end (x : E5) : ovr x 4 = overP x := rfl
theorem ovr_le {x : E5} (h : x.Lt 4503599627370496) : ∀ k, ovr x k ≤ 2
  | 0 => by have := limb_lt h (by decide) 0; simp only [ovr]; omega
  | k + 1 => by have := limb_lt h (by decide) (k + 1); have := ovr_le h k; simp only [ovr]; omega
/-- a limb with what comes from below -/
def cyE (x : E5) (q : Nat) : Nat → Nat
  | 0 => (limbs x).getD 0 0 + 19 * q
  | k + 1 => (limbs x).getD (k + 1) 0 + cyE x q k / 2251799813685248
theorem cyE_le {x : E5} (h : x.Lt 4503599627370496) {q : Nat} (hq : q ≤ 2) : ∀ k, cyE x q k < 4503599627370600
  | 0 => by have := limb_lt h (by decide) 0; simp only [cyE]; omega
  | k + 1 => by have := limb_lt h (by decide) (k + 1); have := cyE_le h hq k; simp only [cyE]; omega
def lstV (x : E5) (q k : Nat) : Array Value := wV ((List.range k).map (fun j => cyE x q j % 2251799813685248) ++ cyE x q k :: (limbs x).drop (k + 1))
def midV (x : E5) (q k : Nat) : Array Value := wV ((List.range k).map (fun j => cyE x q j % 2251799813685248) ++ cyE x q k :: cyE x q (k + 1) :: (limbs x).drop (k + 2))
theorem lstV_zero (x : E5) (q : Nat) : (eV x).setIfInBounds 0 (.int .u64 (((limbs x).getD 0 0 + 19 * q : Nat) : Int)) = lstV x q 0 := rfl
theorem lstV_at (x : E5) (q k : Nat) (h : k < 5) : (lstV x q k)[k]? = some (.int .u64 ((cyE x q k : Nat) : Int)) := by
  match k, h with
  | 0, _ => rfl
  | 1, _ => rfl
  | 2, _ => rfl
  | 3, _ => rfl
  | 4, _ => rfl
theorem lstV_at1 (x : E5) (q k : Nat) (h : k < 4) : (lstV x q k)[k + 1]? = some (.int .u64 (((limbs x).getD (k + 1) 0 : Nat) : Int)) := by
  match k, h with
  | 0, _ => rfl
  | 1, _ => rfl
  | 2, _ => rfl
  | 3, _ => rfl
theorem lstV_set (x : E5) (q k : Nat) (h : k < 4) : (lstV x q k).setIfInBounds (k + 1) (.int .u64 ((cyE x q (k + 1) : Nat) : Int)) = midV x q k := by
  match k, h with
  | 0, _ => rfl
  | 1, _ => rfl
  | 2, _ => rfl
  | 3, _ => rfl
theorem midV_at (x : E5) (q k : Nat) (h : k < 4) : (midV x q k)[k]? = some (.int .u64 ((cyE x q k : Nat) : Int)) := by
  match k, h with
  | 0, _ => rfl
  | 1, _ => rfl
  | 2, _ => rfl
  | 3, _ => rfl
theorem midV_set (x : E5) (q k : Nat) (h : k < 4) : (midV x q k).setIfInBounds k (.int .u64 ((cyE x q k % 2251799813685248 : Nat) : Int)) = lstV x q (k + 1) := by
  match k, h with
  | 0, _ => rfl
  | 1, _ => rfl
  | 2, _ => rfl
  | 3, _ => rfl
theorem lstV_end (x : E5) (q : Nat) : (lstV x q 4).setIfInBounds 4 (.int .u64 ((cyE x q 4 % 2251799813685248 : Nat) : Int)) = eV (leastQ x q) := rfl
/-- an element that came in, the result's place -/
structure G2 (w0 : World) (g r : Nat) (x z : Array Value) (u : World) : Prop where
  bel : Below w0.heap.size w0 u
  x : Blk u g 26 x
  z : Blk u r 26 z
  lg : w0.heap.size ≤ g
  lr : w0.heap.size ≤ r
  gr : g ≠ r
theorem G2.putX {w0 u u' : World} {g r : Nat} {x z x' : Array Value} (k : G2 w0 g r x z u) (hw : Wrote g u u') (hb : Blk u' g 26 x') : G2 w0 g r x' z u' :=
  ⟨hw.below k.bel k.lg k.bel.size, hb, hw.blk k.z (Ne.symm k.gr), k.lg, k.lr, k.gr⟩
theorem G2.drew {w0 u : World} {g r : Nat} {x z : Array Value} (k : G2 w0 g r x z u) : G2 w0 g r x z u.drew :=
  ⟨k.bel.drew, k.x, k.z, k.lg, k.lr, k.gr⟩
theorem G2.next {w0 u u' : World} {g r : Nat} {x z : Array Value} (k : G2 w0 g r x z u) (hb : Below u.heap.size u u') : G2 w0 g r x z u' :=
  ⟨k.bel.trans (hb.mono k.bel.size), k.x.below hb k.x.lt, k.z.below hb k.z.lt, k.lg, k.lr, k.gr⟩
theorem g2_new (w : World) (x z : Array Value) : G2 w w.heap.size (w.heap.size + 1) x z ((w.alloc (.cells x 26)).alloc (.cells z 26)) :=
  ⟨(below_new _ _).alloc (by simp) _, (Blk.new _ _ _).alloc _, Blk.newAt (by simp), Nat.le_refl _, by omega, by omega⟩
set_option maxRecDepth 100000 in
set_option maxHeartbeats 2000000 in
theorem least_any (x : E5) (w : World) (hx : x.Lt 18446744073709551616) : Calls Try.prog 61 #[.agg (eV x)] w (ElemPost (leastE x) w) := by
  have hu := Try.underlying26
  have hst0 : G2 w w.heap.size (w.heap.size + 1) (eV x) (eV zE) _ := g2_new w (eV x) (eV zE)
  have hx1 : (carryE x).Lt 18446744073709551616 := (carry_lt hx).mono (by decide)
  obtain ⟨y, hy⟩ : ∃ y, y = carryE (carryE x) := ⟨_, rfl⟩
  have hyl : y.Lt 4503599627370496 := by rw [hy]; exact (carry_lt hx1).mono (by decide)
  have hfin : leastE x = leastQ y (ovr y 4) := by rw [hy]; rfl
  have HX := Lib.hid hx
  have HX1 := Lib.hid hx1
  have HYL := Lib.hid hyl
  have HST0 := Lib.hid hst0
  have HFIN := Lib.hid hfin
  have HY := Lib.hid hy
  clear hx hx1 hyl hst0 hfin hy
  go_enter Try.func61, Try.ntmps61
  go_wp2_with (refine wpList_get_box (x := .tmp 1) HST0.out.x rfl rfl rfl hu rfl elem_size ?_)
  generalize hr : w.heap.size + 1 = r at *
  generalize hg : w.heap.size = g at *
  have HR := Lib.hid hr
  have HG := Lib.hid hg
  clear hr hg
  refine calls_then (carried_any x _ HX.out) ?_
  rintro e w2 ⟨rfl, hb2⟩
  have hs2 := HST0.out.next hb2
  have HS2 := Lib.hid hs2
  clear HST0 hs2 hb2
  go_wp2_with fail
  refine calls_then (carried_any (carryE x) _ HX1.out) ?_
  rintro e w3 ⟨rfl, hb3⟩
  rw [← HY.out]
  have hs3 := HS2.out.next hb3
  have HS3 := Lib.hid hs3
  clear HS2 hs3 hb3
  have hl0 := limb_lt HYL.out (by decide) 0
  obtain ⟨l0, hl⟩ : ∃ l, l = (limbs y).getD 0 0 := ⟨_, rfl⟩
  rw [← hl] at hl0
  have hq0 : ovr y 0 = (l0 + 19) / 2251799813685248 := by rw [hl]; rfl
  have hll0 : (l0 : Int) < 4503599627370496 := by omega
  have ex0 : (eV y)[0]? = some (.int .u64 (l0 : Int)) := by rw [hl]; exact eV_at _ _ (by decide)
  have HL := Lib.hid hl
  have HQ0 := Lib.hid hq0
  have EX0 := Lib.hid ex0
  clear hl0 hl hq0 ex0
  go_wp2_with (refine wpList_put_box (x := .tmp 1) (cells := eV y) HS3.out.x rfl rfl rfl rfl elem_size rfl (by simp [eV, wV, limbs, Value.oneCell']) ?_; intro w4 hb4 hw4; have d0 := hb4.cell 0; rw [EX0.out] at d0; have HB4 := Lib.hid hb4; have HW4 := Lib.hid hw4; clear hb4 hw4)
  have hs4 : G2 w g r (eV y) (eV zE) w4 := HS3.out.putX HW4.out HB4.out
  have HS4 := Lib.hid hs4
  clear HS3 hs4 HB4 HW4 EX0
  go_loopw [18, 3] (fun i q wr => ∃ k : Nat, k ≤ 4 ∧ i = .int .i64 k ∧ q = .int .u64 (ovr y k : Nat) ∧ G2 w g r (eV y) (eV zE) wr) (fun i _ _ => 4 - (intOf i).toNat)
  case atStart => exact ⟨0, by omega, rfl, by rw [HQ0.out]; go_num, HS4.out⟩
  case round =>
    clear HS4
    obtain ⟨k, hk, rfl, rfl, hst⟩ := hrel
    by_cases hlt : k < 4
    · have hlt' : (k : Int) < 4 := by omega
      obtain ⟨l, hl⟩ : ∃ l, l = (limbs y).getD (k + 1) 0 := ⟨_, rfl⟩
      have hll : l < 4503599627370496 := by rw [hl]; exact limb_lt HYL.out (by decide) (k + 1)
      obtain ⟨q, hq⟩ : ∃ q, q = ovr y k := ⟨_, rfl⟩
      have hql : q ≤ 2 := by rw [hq]; exact ovr_le HYL.out k
      have hqn : ovr y (k + 1) = (l + q) / 2251799813685248 := by rw [hq, hl]; rfl
      have d0 := hst.x.cell (1 + k)
      rw [Nat.add_comm 1 k, eV_at _ _ (by omega), ← hl, Nat.add_comm k 1] at d0
      rw [← hq]
      have hli : (l : Int) < 4503599627370496 := by omega
      have hqi : (q : Int) ≤ 2 := by omega
      have HQN := Lib.hid hqn
      have HST := Lib.hid hst
      clear hqn hq hl hst
      go_wp2_with fail
      exact ⟨⟨k + 1, by omega, by go_num, by rw [HQN.out]; go_num, HST.out⟩, by simp [intOf]; omega⟩
    · obtain rfl : k = 4 := by omega
      obtain ⟨q, hq⟩ : ∃ q, q = ovr y 4 := ⟨_, rfl⟩
      have hql : q ≤ 2 := by rw [hq]; exact ovr_le HYL.out 4
      rw [← hq]
      have hfin := HFIN.out
      rw [← hq] at hfin
      have d0 := hst.x.cell 0
      rw [eV_at _ _ (by decide), ← HL.out] at d0
      have f0 := hst.x.free 0
      have hqi : (q : Int) ≤ 2 := by omega
      have hset := lstV_zero y q
      rw [← HL.out] at hset
      have hz : (l0 : Int) + 19 * (q : Int) = ((l0 + 19 * q : Nat) : Int) := by omega
      have HZ := Lib.hid hz
      have HSET := Lib.hid hset
      have HST := Lib.hid hst
      have HF := Lib.hid hfin
      clear hset hst hq hfin HFIN hz
      go_wp2_with fail
      obtain ⟨wo, hwo⟩ : ∃ x, x = wr.setCell ⟨g, 0, none⟩ (.int .u64 ((l0 : Int) + 19 * (q : Int))) := ⟨_, rfl⟩
      rw [← hwo]
      have hs5 : G2 w g r (lstV y q 0) (eV zE) wo := by
        rw [hwo]
        refine HST.out.putX (wrote_setCell_at _ _ _ _) ?_
        rw [HZ.out]
        have h := blk_setCell_at (i := 0) HST.out.x (.int .u64 ((l0 + 19 * q : Nat) : Int))
        rw [HSET.out] at h
        exact h
      have HS5 := Lib.hid hs5
      have HQL := Lib.hid hql
      clear HST HSET HZ hwo hs5 hql d0 f0 hqi hll0 HQ0 HL
      go_loopw [35] (fun i wr => ∃ k : Nat, k ≤ 4 ∧ i = .int .i64 k ∧ G2 w g r (lstV y q k) (eV zE) wr) (fun i _ => 4 - (intOf i).toNat)
      case atStart => exact ⟨0, by omega, rfl, HS5.out⟩
      case round =>
        clear HS5
        obtain ⟨k, hk, rfl, hst⟩ := hrel
        by_cases hlt2 : k < 4
        · have hlt3 : (k : Int) < 4 := by omega
          obtain ⟨c0, hc0⟩ : ∃ c, c = cyE y q k := ⟨_, rfl⟩
          obtain ⟨c1, hc1⟩ : ∃ c, c = cyE y q (k + 1) := ⟨_, rfl⟩
          obtain ⟨l, hl⟩ : ∃ l, l = (limbs y).getD (k + 1) 0 := ⟨_, rfl⟩
          have hcl : c0 < 4503599627370600 := by rw [hc0]; exact cyE_le HYL.out HQL.out k
          have hc10 : c1 = l + c0 / 2251799813685248 := by rw [hc1, hl, hc0]; rfl
          have hll : l < 4503599627370496 := by rw [hl]; exact limb_lt HYL.out (by decide) (k + 1)
          have ea := lstV_at y q k (by omega)
          have eb := lstV_at1 y q k hlt2
          have ec := lstV_set y q k hlt2
          have ed := midV_at y q k hlt2
          have ee := midV_set y q k hlt2
          rw [← hc0] at ea
          rw [← hl] at eb
          rw [← hc1] at ec
          rw [← hc0] at ed ee
          have EA := Lib.hid ea
          have EB := Lib.hid eb
          have EC := Lib.hid ec
          have ED := Lib.hid ed
          have EE := Lib.hid ee
          have HCL := Lib.hid hcl
          have HLL := Lib.hid hll
          have HC10 := Lib.hid hc10
          have HC0 := hst.drew
          have hk5 : (k : Int) + 1 < 5 := by omega
          have hk6 : (k : Int) < 5 := by omega
          clear ea eb ec ed ee hcl hll hc10 hc0 hc1 hl hst
          go_wp2_with fail
          refine wp_region_det (fun u => G2 w g r (lstV y q k) (eV zE) u) (fun u => G2 w g r (midV y q k) (eV zE) u) [(0, some 38), (1, some 39), (2, some 40), (3, some 41), (4, some 42), (5, some 43), (6, some 44), (7, some 45), (8, some 46), (9, some 47), (10, some 48), (11, some 49), (12, some 50), (13, none)] (by kernel_rfl) (by kernel_rfl) (by decide) (by kernel_rfl) (fun _ => rfl) HC0 ?_
          apply DetL.next
          · -- 0: Op.move (Operand.tmp 6)
            apply detStep_plain []
            exact fun _ => rfl
            rfl
            rintro vals - w1 hC1 E hE
            simp only [puts, act_put, act_put_none, List.setIfInBounds_toArray, List.set_cons_zero, List.set_cons_succ] at hE ⊢
            go_wp2
            exact .mk (hE _ hC1)
          apply DetL.next
          · -- 1: Op.binOp BinOp.add 3 (Operand.tmp 38) (Operand.const (Value.int IntKind.i64 1)) 3
            apply detStep_plain [(0, some 38)]
            exact fun _ => rfl
            rfl
            rintro vals ⟨-, f0⟩ w1 hC1 E hE
            simp only [puts, act_put, act_put_none, List.setIfInBounds_toArray, List.set_cons_zero, List.set_cons_succ, f0] at hE ⊢
            clear f0
            go_wp2
            exact .mk (hE _ hC1)
          apply DetL.next
          · -- 2: Op.fieldAddr 26 (Operand.tmp 1) 0
            apply detStep_plain []
            exact fun _ => rfl
            rfl
            rintro vals ⟨⟨-, -⟩, -⟩ w1 hC1 E hE
            simp only [puts, act_put, act_put_none, List.setIfInBounds_toArray, List.set_cons_zero, List.set_cons_succ] at hE ⊢
            go_wp2
            exact .mk (hE _ hC1)
          apply DetL.next
          · -- 3: Op.indexAddr 24 (Operand.tmp 40) (Operand.tmp 39)
            apply detStep_plain [(2, some 40), (1, some 39)]
            exact fun _ => rfl
            rfl
            rintro vals ⟨⟨⟨-, -⟩, f1⟩, f2⟩ w1 hC1 E hE
            simp only [puts, act_put, act_put_none, List.setIfInBounds_toArray, List.set_cons_zero, List.set_cons_succ, f1, f2] at hE ⊢
            clear f1 f2
            go_wp2
            exact .mk (hE _ hC1)
          apply DetL.next
          · -- 4: Op.load 23 (Operand.tmp 41)
            apply detStep_plain [(3, some 41)]
            exact fun _ => rfl
            rfl
            rintro vals ⟨⟨⟨⟨-, -⟩, -⟩, -⟩, f3⟩ w1 hC1 E hE
            have d0 := hC1.x.cell (k + 1)
            rw [EB.out] at d0
            simp only [puts, act_put, act_put_none, List.setIfInBounds_toArray, List.set_cons_zero, List.set_cons_succ, f3] at hE ⊢
            clear f3
            go_wp2
            exact .mk (hE _ hC1)
          apply DetL.next
          · -- 5: Op.move (Operand.tmp 6)
            apply detStep_plain []
            exact fun _ => rfl
            rfl
            rintro vals ⟨⟨⟨⟨⟨-, -⟩, -⟩, -⟩, -⟩, -⟩ w1 hC1 E hE
            simp only [puts, act_put, act_put_none, List.setIfInBounds_toArray, List.set_cons_zero, List.set_cons_succ] at hE ⊢
            go_wp2
            exact .mk (hE _ hC1)
          apply DetL.next
          · -- 6: Op.fieldAddr 26 (Operand.tmp 1) 0
            apply detStep_plain []
            exact fun _ => rfl
            rfl
            rintro vals ⟨⟨⟨⟨⟨⟨-, -⟩, -⟩, -⟩, -⟩, -⟩, -⟩ w1 hC1 E hE
            simp only [puts, act_put, act_put_none, List.setIfInBounds_toArray, List.set_cons_zero, List.set_cons_succ] at hE ⊢
            go_wp2
            exact .mk (hE _ hC1)
          apply DetL.next
          · -- 7: Op.indexAddr 24 (Operand.tmp 44) (Operand.tmp 43)
            apply detStep_plain [(6, some 44), (5, some 43)]
            exact fun _ => rfl
            rfl
            rintro vals ⟨⟨⟨⟨⟨⟨⟨-, -⟩, -⟩, -⟩, -⟩, -⟩, f5⟩, f6⟩ w1 hC1 E hE
            simp only [puts, act_put, act_put_none, List.setIfInBounds_toArray, List.set_cons_zero, List.set_cons_succ, f5, f6] at hE ⊢
            clear f5 f6
            go_wp2
            exact .mk (hE _ hC1)
          apply DetL.next
          · -- 8: Op.load 23 (Operand.tmp 45)
            apply detStep_plain [(7, some 45)]
            exact fun _ => rfl
            rfl
            rintro vals ⟨⟨⟨⟨⟨⟨⟨⟨-, -⟩, -⟩, -⟩, -⟩, -⟩, -⟩, -⟩, f7⟩ w1 hC1 E hE
            have d0 := hC1.x.cell k
            rw [EA.out] at d0
            simp only [puts, act_put, act_put_none, List.setIfInBounds_toArray, List.set_cons_zero, List.set_cons_succ, f7] at hE ⊢
            clear f7
            go_wp2
            exact .mk (hE _ hC1)
          apply DetL.next
          · -- 9: Op.binOp BinOp.shr 23 (Operand.tmp 46) (Operand.const (Value.int IntKind.u64 51)) 69
            apply detStep_plain [(8, some 46)]
            exact fun _ => rfl
            rfl
            rintro vals ⟨⟨⟨⟨⟨⟨⟨⟨⟨-, -⟩, -⟩, -⟩, -⟩, -⟩, -⟩, -⟩, -⟩, f8⟩ w1 hC1 E hE
            simp only [puts, act_put, act_put_none, List.setIfInBounds_toArray, List.set_cons_zero, List.set_cons_succ, f8] at hE ⊢
            clear f8
            go_wp2
            exact .mk (hE _ hC1)
          apply DetL.next
          · -- 10: Op.binOp BinOp.add 23 (Operand.tmp 42) (Operand.tmp 47) 23
            apply detStep_plain [(4, some 42), (9, some 47)]
            exact fun _ => rfl
            rfl
            rintro vals ⟨⟨⟨⟨⟨⟨⟨⟨⟨⟨-, -⟩, -⟩, -⟩, -⟩, f4⟩, -⟩, -⟩, -⟩, -⟩, f9⟩ w1 hC1 E hE
            simp only [puts, act_put, act_put_none, List.setIfInBounds_toArray, List.set_cons_zero, List.set_cons_succ, f4, f9] at hE ⊢
            clear f4 f9
            go_wp2
            rw [show IntKind.u64.wrap ((l : Int) + (c0 : Int) / 2251799813685248) = (c1 : Int) by have := HCL.out; have := HLL.out; have := HC10.out; rw [IntKind.wrap_u64]; omega]
            exact .mk (hE _ hC1)
          apply DetL.next
          · -- 11: Op.fieldAddr 26 (Operand.tmp 1) 0
            apply detStep_plain []
            exact fun _ => rfl
            rfl
            rintro vals ⟨⟨⟨⟨⟨⟨⟨⟨⟨⟨⟨-, -⟩, -⟩, -⟩, -⟩, -⟩, -⟩, -⟩, -⟩, -⟩, -⟩, -⟩ w1 hC1 E hE
            simp only [puts, act_put, act_put_none, List.setIfInBounds_toArray, List.set_cons_zero, List.set_cons_succ] at hE ⊢
            go_wp2
            exact .mk (hE _ hC1)
          apply DetL.next
          · -- 12: Op.indexAddr 24 (Operand.tmp 49) (Operand.tmp 39)
            apply detStep_plain [(11, some 49), (1, some 39), (0, some 38), (1, some 39), (2, some 40), (3, some 41), (4, some 42), (5, some 43), (6, some 44), (7, some 45), (8, some 46), (9, some 47), (10, some 48)]
            exact fun _ => rfl
            rfl
            rintro vals ⟨⟨⟨⟨⟨⟨⟨⟨⟨⟨⟨⟨-, f0⟩, f1⟩, f2⟩, f3⟩, f4⟩, f5⟩, f6⟩, f7⟩, f8⟩, f9⟩, f10⟩, f11⟩ w1 hC1 E hE
            simp only [puts, act_put, act_put_none, List.setIfInBounds_toArray, List.set_cons_zero, List.set_cons_succ, f0, f1, f2, f3, f4, f5, f6, f7, f8, f9, f10, f11] at hE ⊢
            clear f0 f1 f2 f3 f4 f5 f6 f7 f8 f9 f10 f11
            go_wp2
            exact .mk (hE _ hC1)
          apply DetL.last (v := undef)
          · -- 13: Op.store 23 (Operand.tmp 50) (Operand.tmp 48)
            apply detStep_plain [(12, some 50), (10, some 48), (0, some 38), (1, some 39), (2, some 40), (3, some 41), (4, some 42), (5, some 43), (6, some 44), (7, some 45), (8, some 46), (9, some 47), (10, some 48)]
            exact fun _ => rfl
            rfl
            rintro vals ⟨⟨⟨⟨⟨⟨⟨⟨⟨⟨⟨⟨⟨-, f0⟩, f1⟩, f2⟩, f3⟩, f4⟩, f5⟩, f6⟩, f7⟩, f8⟩, f9⟩, f10⟩, -⟩, f12⟩ w1 hC1 E hE
            have d0 := hC1.x.cell (k + 1)
            rw [EB.out] at d0
            have q0 := hC1.x.free (k + 1)
            simp only [puts, act_put, act_put_none, List.setIfInBounds_toArray, List.set_cons_zero, List.set_cons_succ, f0, f1, f2, f3, f4, f5, f6, f7, f8, f9, f10, f12] at hE ⊢
            clear f0 f1 f2 f3 f4 f5 f6 f7 f8 f9 f10 f12
            go_wp2
            refine .mk (hE _ (hC1.putX (wrote_setCell_at _ _ _ _) ?_))
            have h := blk_setCell_at (i := k + 1) hC1.x (.int .u64 (c1 : Int))
            rw [EC.out] at h
            exact h
          rintro vals ⟨⟨⟨⟨⟨⟨⟨⟨⟨⟨⟨⟨⟨⟨-, f0⟩, f1⟩, f2⟩, f3⟩, f4⟩, f5⟩, f6⟩, f7⟩, f8⟩, f9⟩, f10⟩, f11⟩, f12⟩, f13⟩ w1 hC1
          simp only [puts, act_put, act_put_none, List.setIfInBounds_toArray, List.set_cons_zero, List.set_cons_succ, f0, f1, f2, f3, f4, f5, f6, f7, f8, f9, f10, f11, f12, f13]
          clear f0 f1 f2 f3 f4 f5 f6 f7 f8 f9 f10 f11 f12 f13
          clear HC0
          have d0 := hC1.x.cell k
          rw [ED.out] at d0
          have q0 := hC1.x.free k
          have HC1 := Lib.hid hC1
          clear hC1
          go_wp2_with fail
          refine ⟨⟨k + 1, by omega, by go_num, HC1.out.putX (wrote_setCell_at _ _ _ _) ?_⟩, by simp [intOf]; omega⟩
          rw [mask51 c0 (by have := HCL.out; omega)]
          have h := blk_setCell_at (i := k) HC1.out.x (.int .u64 ((c0 % 2251799813685248 : Nat) : Int))
          rw [EE.out] at h
          exact h
        · obtain rfl : k = 4 := by omega
          obtain ⟨c0, hc0⟩ : ∃ c, c = cyE y q 4 := ⟨_, rfl⟩
          have hcl : c0 < 4503599627370600 := by rw [hc0]; exact cyE_le HYL.out HQL.out 4
          have ea := lstV_at y q 4 (by omega)
          have ee := lstV_end y q
          rw [← hc0] at ea ee
          rw [← HF.out] at ee
          have d0 := hst.x.cell 4
          rw [ea] at d0
          have q0 := hst.x.free 4
          have hm := mask51 c0 (by omega)
          have hpt : ∀ u : World, G2 w g r (eV (leastE x)) (eV zE) u → True := fun _ _ => trivial
          have hs6 : G2 w g r (eV (leastE x)) (eV zE) (wr.setCell ⟨g, 4, none⟩ (.int .u64 (bits .and .u64 (c0 : Int) 2251799813685247))) := by
            refine hst.putX (wrote_setCell_at _ _ _ _) ?_
            rw [hm]
            have h := blk_setCell_at (i := 4) hst.x (.int .u64 ((c0 % 2251799813685248 : Nat) : Int))
            rw [ee] at h
            exact h
          have HS6 := Lib.hid hs6
          clear hs6 hst hc0 hcl ea ee hm hpt
          go_wp2_with (first
            | (refine wpList_get_box (x := .tmp 1) HS6.out.x rfl rfl rfl hu rfl elem_size ?_)
            | (refine wpList_put_box (x := .tmp 2) (cells := eV (leastE x)) HS6.out.z rfl rfl rfl rfl elem_size rfl (by simp [eV, wV, limbs, Value.oneCell']) ?_; intro w5 hb5 hw5))
          refine bodyPost_ret (results_box (P := Try.prog) rfl rfl hb5 hu rfl elem_size) rfl ⟨rfl, ?_⟩
          exact hw5.below HS6.out.bel HS6.out.lr HS6.out.bel.size
end Go.Proofs.Ytbeokfpbhemcfaa
/-
  Walks: two words' product and sum; the field's numbers of two words.
-/
namespace Go.Proofs.Ytbeokfpbhemcfaa
set_option linter.unusedSimpArgs false
set_option linter.unusedVariables false
open Go.RowKit

set_option maxHeartbeats 1000000 in
theorem mul64_any (x y : Nat) (hx : x < 18446744073709551616) (hy : y < 18446744073709551616) (w : World) :
    Calls Try.prog 68 #[.int .u64 x, .int .u64 y] w fun e w' => e = .returned (.tuple #[.int .u64 ((x * y / 18446744073709551616 : Nat) : Int), .int .u64 ((x * y % 18446744073709551616 : Nat) : Int)]) ∧ w' = w := by
  obtain ⟨bd, bt, bw, hhi⟩ := Lib.mul64_hi x y hx hy
  have ba := Lib.half_mul_le (a := x / 4294967296) (b := y / 4294967296) (by omega) (by omega)
  have bb := Lib.half_mul_le (a := x / 4294967296) (b := y % 4294967296) (by omega) (by omega)
  have bc := Lib.half_mul_le (a := x % 4294967296) (b := y / 4294967296) (by omega) (by omega)
  have ba' : x / 4294967296 * (y / 4294967296) < 18446744073709551616 := by omega
  have bb' : x / 4294967296 * (y % 4294967296) < 18446744073709551616 := by omega
  have bc' : x % 4294967296 * (y / 4294967296) < 18446744073709551616 := by omega
  have bh1 : x / 4294967296 * (y / 4294967296) + (x / 4294967296 * (y % 4294967296) + x % 4294967296 * (y % 4294967296) / 4294967296) / 4294967296 < 18446744073709551616 := by omega
  have bh : x / 4294967296 * (y / 4294967296) + (x / 4294967296 * (y % 4294967296) + x % 4294967296 * (y % 4294967296) / 4294967296) / 4294967296 + ((x / 4294967296 * (y % 4294967296) + x % 4294967296 * (y % 4294967296) / 4294967296) % 4294967296 + x % 4294967296 * (y / 4294967296)) / 4294967296 < 18446744073709551616 := by omega
  go_enter Try.func68, Try.ntmps68
  go_wp2
  simp only [Mul64.maskN x hx, Mul64.maskN y hy, Mul64.divN, Mul64.mulN, Mul64.addN, Mul64.wrapN _ bd, Mul64.wrapN _ bb', Mul64.wrapN _ bt, Mul64.maskN _ bt, Mul64.wrapN _ bc', Mul64.wrapN _ bw, Mul64.wrapN _ ba', Mul64.wrapN _ bh1, Mul64.wrapN _ bh, Mul64.wrapM (x * y)]
  rw [hhi]
  go_ret2
  exact ⟨rfl, rfl⟩
theorem add64_run (x y c : Nat) (hx : x < 18446744073709551616) (hy : y < 18446744073709551616) (hc : c ≤ 1) (w : World) :
    (callFunc 69 #[.int .u64 x, .int .u64 y, .int .u64 c]).run Try.prog w =
      .ok (.value (.tuple #[.int .u64 (((x + y + c) % 18446744073709551616 : Nat) : Int), .int .u64 (((x + y + c) / 18446744073709551616 : Nat) : Int)])) w := by
  rw [run_callFunc_extern Try.func69 (by kernel_rfl) (by kernel_rfl) (by kernel_rfl) (e := add64Entry) (by kernel_rfl), run_add64 x y c (by omega) (by omega) (by omega) (by omega)]
  simp only [Result.andThen]
  congr 5 <;> omega
/-- a number of two words -/
def wdV (n : Nat) : Array Value := #[.int .u64 ((n / 18446744073709551616 : Nat) : Int), .int .u64 ((n % 18446744073709551616 : Nat) : Int)]
theorem wide_size : (Try.prog.info? 79).map (·.size) = some 2 := by kernel_rfl
def WidePost (n : Nat) (w : World) (e : Ending) (w' : World) : Prop := e = .returned (.agg (wdV n)) ∧ Below w.heap.size w w'
set_option maxRecDepth 100000 in
set_option maxHeartbeats 1000000 in
theorem over_any (n : Nat) (hn : n < 41538374868278621028243970633760768) (w : World) : Calls Try.prog 60 #[.agg (wdV n)] w (fun e w' => e = .returned (.int .u64 ((n / 2251799813685248 : Nat) : Int)) ∧ Below w.heap.size w w') := by
  have hh : n / 18446744073709551616 < 2251799813685248 := by omega
  have hl : n % 18446744073709551616 < 18446744073709551616 := by omega
  have hs : n / 2251799813685248 = n / 18446744073709551616 * 8192 + n % 18446744073709551616 / 2251799813685248 := by omega
  rw [hs]
  obtain ⟨hi, hhi⟩ : ∃ x, x = n / 18446744073709551616 := ⟨_, rfl⟩
  obtain ⟨lo, hlo⟩ : ∃ x, x = n % 18446744073709551616 := ⟨_, rfl⟩
  rw [wdV, ← hhi, ← hlo]
  rw [← hhi] at hh
  rw [← hlo] at hl
  clear hs hhi hlo hn
  have hor : bits .or .u64 ((hi : Int) * 8192) ((lo : Int) / 2251799813685248) = ((hi * 8192 + lo / 2251799813685248 : Nat) : Int) := by
    have h1 := or64 (a := hi * 8192) (b := lo / 2251799813685248) (by omega) (by omega)
    have h2 : hi * 8192 ||| lo / 2251799813685248 = hi * 8192 + lo / 2251799813685248 := by
      have := Nat.shiftLeft_add_eq_or_of_lt (i := 13) (b := lo / 2251799813685248) (by omega) hi
      rw [Nat.shiftLeft_eq] at this
      exact this.symm
    rw [h2] at h1
    rw [← h1]
    congr 1 <;> omega
  have hw : IntKind.u64.wrap ((hi : Int) * 8192) = (hi : Int) * 8192 := by rw [IntKind.wrap_u64]; omega
  have HOR := Lib.hid hor
  have HW := Lib.hid hw
  clear hor hh hl hw
  go_enter Try.func60, Try.ntmps60
  go_wp2_with fail
  go_ret
  refine ⟨?_, below_new _ _⟩
  rw [HW.out, HOR.out]
  rfl
set_option maxRecDepth 100000 in
set_option maxHeartbeats 1000000 in
theorem plus_any (n a b : Nat) (ha : a < 18446744073709551616) (hb : b < 18446744073709551616) (hn : n + a * b < 340282366920938463463374607431768211456) (w : World) : Calls Try.prog 59 #[.agg (wdV n), .int .u64 a, .int .u64 b] w (WidePost (n + a * b) w) := by
  obtain ⟨p, hp⟩ : ∃ p, p = a * b := ⟨_, rfl⟩
  rw [← hp] at hn ⊢
  obtain ⟨hi, hhi⟩ : ∃ x, x = n / 18446744073709551616 := ⟨_, rfl⟩
  obtain ⟨lo, hlo⟩ : ∃ x, x = n % 18446744073709551616 := ⟨_, rfl⟩
  obtain ⟨ph, hph⟩ : ∃ x, x = p / 18446744073709551616 := ⟨_, rfl⟩
  obtain ⟨pl, hpl⟩ : ∃ x, x = p % 18446744073709551616 := ⟨_, rfl⟩
  obtain ⟨c, hc⟩ : ∃ x, x = (lo + pl + 0) / 18446744073709551616 := ⟨_, rfl⟩
  have e1 : (lo + pl + 0) % 18446744073709551616 = (n + p) % 18446744073709551616 := by omega
  have e2 : (hi + ph + c) % 18446744073709551616 = (n + p) / 18446744073709551616 := by omega
  have hr1 := add64_run lo pl 0 (by omega) (by omega) (by omega)
  have hr2 := add64_run hi ph c (by omega) (by omega) (by omega)
  rw [e1, ← hc] at hr1
  rw [e2] at hr2
  rw [show ((0 : Nat) : Int) = 0 from rfl] at hr1
  have hm := mul64_any a b ha hb
  rw [← hp, ← hph, ← hpl] at hm
  have HM := Lib.hid hm
  rw [wdV, ← hhi, ← hlo]
  obtain ⟨cc, hcc⟩ : ∃ x, x = (hi + ph + c) / 18446744073709551616 := ⟨_, rfl⟩
  rw [← hcc] at hr2
  have hz := wide_size
  have hu := Try.underlying79
  clear hm ha hb hn hp hhi hlo hph hpl hc e1 e2 hcc
  obtain ⟨s1, hs1⟩ : ∃ x, x = (n + p) / 18446744073709551616 := ⟨_, rfl⟩
  obtain ⟨s2, hs2⟩ : ∃ x, x = (n + p) % 18446744073709551616 := ⟨_, rfl⟩
  rw [← hs2] at hr1
  rw [← hs1] at hr2
  have hv : wdV (n + p) = #[.int .u64 (s1 : Int), .int .u64 (s2 : Int)] := by rw [hs1, hs2]; rfl
  have HV := Lib.hid hv
  clear hv hs1 hs2
  go_enter Try.func59, Try.ntmps59
  go_wp2_with fail
  refine calls_then (HM.out _) ?_
  rintro e w2 ⟨rfl, rfl⟩
  go_wp2_with fail
  have hb5 : Blk ((w.alloc (.cells #[.int .u64 (hi : Int), .int .u64 (lo : Int)] 79)).alloc (.cells #[.int .u64 (s1 : Int), .int .u64 (s2 : Int)] 79)) (w.heap.size + 1) 79 #[.int .u64 (s1 : Int), .int .u64 (s2 : Int)] := Blk.newAt (by simp)
  refine bodyPost_ret (results_box (P := Try.prog) rfl rfl hb5 hu rfl hz) rfl ⟨by rw [HV.out], ?_⟩
  exact (below_new _ _).alloc (by simp) _
end Go.Proofs.Ytbeokfpbhemcfaa
/-
  A struct stored into a part of a block; the sums of a product, row by row.
-/
namespace Go.Proofs.Ytbeokfpbhemcfaa
set_option linter.unusedSimpArgs false
set_option linter.unusedVariables false
open Go.RowKit

section
variable {P : Program}
theorem run_store_part {w : World} {ty : TypeId} {g k n : Nat} {r cs new : Array Value} {t : TypeId} (hg : Blk w g t cs) (hi : (P.info? ty).map (·.size) = some n) (hn : r.size = n) (hfit : k + n ≤ cs.size) (h1 : ∀ v ∈ r.toList, v.oneCell' = true)
    (hnew : (cs.toList.take k ++ r.toList ++ cs.toList.drop (k + n)).toArray = new) :
    (storeVar ty ⟨g, k, none⟩ (.agg r)).run P w = .ok () (w.setRow g new) := by
  have hst := run_storeCells_at P g k t r.toList 0 cs w hg (by simp; omega) h1
  rw [Nat.add_zero, Array.length_toList, hn, hnew] at hst
  have hc : (Value.agg r).cells = r := rfl
  cases hq : P.info? ty with
  | none => simp [hq] at hi
  | some j =>
    have hj : j.size = n := by simpa [hq] using hi
    simp [storeVar, hc, sizeOf, typeInfo, hq, hj, hn, hst]
theorem wpList_put_part {w : World} {ops : Array Oper} {rest : List Oper} {o : Oper} {a : Act} {Q : Exit → Act → World → Prop} {ty : TypeId} {x y : Operand} {g k n : Nat} {r cs new : Array Value} {t : TypeId}
    (hg : Blk w g t cs) (hfit : k + n ≤ cs.size) (hnew : (cs.toList.take k ++ r.toList ++ cs.toList.drop (k + n)).toArray = new) (hn : r.size = n) (h1 : ∀ v ∈ r.toList, v.oneCell' = true)
    (hgd : o.guard = none) (ho : o.op = .store ty x y) (hx : a.eval x = .pointer (some ⟨g, k, none⟩)) (hy : a.eval y = .agg r) (hi : (P.info? ty).map (·.size) = some n)
    (h : ∀ w', Blk w' g t new → Wrote g w w' → wpList P ops Q rest (a.put o.dst undef) w') : wpList P ops Q (o :: rest) a w := by
  refine wpList_plain hgd fun K hK => ?_
  have hr := run_store_part (P := P) (ty := ty) hg hi hn hfit h1 hnew
  unfold Oper.wp execOp
  simp only [ho, hx, hy, Instr.storeAt, Instr.sureAddr, Sem.run_bind, Sem.run_pure, Result.andThen_ok, hr]
  exact hK _ _ (h _ (setRow_heap w g cs _ t (0, 0) hg) (wrote_setRow w g _))
end
def updN (f : Nat → Nat) (p v : Nat) : Nat → Nat := fun j => if j = p then v else f j
/-- five numbers of two words -/
def rV (f : Nat → Nat) : Array Value := (wdV (f 0)) ++ (wdV (f 1)) ++ (wdV (f 2)) ++ (wdV (f 3)) ++ (wdV (f 4))
theorem rV_part (f : Nat → Nat) (p : Nat) (h : p < 5) : (((rV f).toList.drop (p * 2)).take 2).toArray = wdV (f p) := by
  match p, h with
  | 0, _ => rfl
  | 1, _ => rfl
  | 2, _ => rfl
  | 3, _ => rfl
  | 4, _ => rfl
theorem rV_put (f : Nat → Nat) (p v : Nat) (h : p < 5) : ((rV f).toList.take (p * 2) ++ (wdV v).toList ++ (rV f).toList.drop (p * 2 + 2)).toArray = rV (updN f p v) := by
  match p, h with
  | 0, _ => rfl
  | 1, _ => rfl
  | 2, _ => rfl
  | 3, _ => rfl
  | 4, _ => rfl
theorem rV_lo (f : Nat → Nat) (p : Nat) (h : p < 5) : (rV f)[p * 2 + 1]? = some (.int .u64 ((f p % 18446744073709551616 : Nat) : Int)) := by
  match p, h with
  | 0, _ => rfl
  | 1, _ => rfl
  | 2, _ => rfl
  | 3, _ => rfl
  | 4, _ => rfl
theorem rV_size (f : Nat → Nat) : (rV f).size = 10 := rfl
def termN (x y : E5) (i k : Nat) : Nat := (if 5 ≤ i + k then (limbs x).getD i 0 * 19 else (limbs x).getD i 0) * (limbs y).getD k 0
def posN (i k : Nat) : Nat := if 5 ≤ i + k then i + k - 5 else i + k
def rowN (x y : E5) (i : Nat) (f : Nat → Nat) : Nat → Nat → Nat
  | 0 => f
  | k + 1 => updN (rowN x y i f k) (posN i k) (rowN x y i f k (posN i k) + termN x y i k)
def accN (x y : E5) : Nat → Nat → Nat
  | 0 => fun _ => 0
  | i + 1 => rowN x y i (accN x y i) 5
theorem acc_end (x y : E5) (j : Nat) (h : j < 5) : accN x y 5 j = (limbs (mulR x y)).getD j 0 := by
  match j, h with
  | 0, _ => simp [accN, rowN, updN, posN, termN, limbs, mulR]
  | 1, _ => simp [accN, rowN, updN, posN, termN, limbs, mulR]
  | 2, _ => simp [accN, rowN, updN, posN, termN, limbs, mulR]
  | 3, _ => simp [accN, rowN, updN, posN, termN, limbs, mulR]
  | 4, _ => simp [accN, rowN, updN, posN, termN, limbs, mulR]
theorem term_le {x y : E5} (hx : x.Ok) (hy : y.Ok) (i k : Nat) : termN x y i k ≤ 385365782469381566918211934355475 := by
  have h1 := limb_lt hx (by decide) i
  have h2 := limb_lt hy (by decide) k
  unfold termN
  split
  · have := mul_lt' (a := (limbs x).getD i 0 * 19) (b := (limbs y).getD k 0) (m := 85568392920039406) (n := 4503599627370496) (by omega) h2
    exact Nat.le_trans this (by decide)
  · have := mul_lt' (a := (limbs x).getD i 0) (b := (limbs y).getD k 0) (m := 4503599627370496) (n := 4503599627370496) h1 h2
    exact Nat.le_trans this (by decide)
theorem row_le {x y : E5} (hx : x.Ok) (hy : y.Ok) (i : Nat) {f : Nat → Nat} {B : Nat} (hf : ∀ j, f j ≤ B) : ∀ k j, rowN x y i f k j ≤ B + k * 385365782469381566918211934355475
  | 0, j => by simpa [rowN] using hf j
  | k + 1, j => by
    have h1 := row_le hx hy i hf k
    have h2 := term_le hx hy i k
    simp only [rowN, updN]
    split
    · have := h1 (posN i k); omega
    · exact Nat.le_trans (h1 j) (Nat.add_le_add_left (Nat.mul_le_mul_right _ (Nat.le_succ k)) _)
theorem acc_le {x y : E5} (hx : x.Ok) (hy : y.Ok) : ∀ i j, accN x y i j ≤ i * 1926828912346907834591059671777375
  | 0, j => by simp [accN]
  | i + 1, j => by
    have h1 := row_le hx hy i (acc_le hx hy i) 5 j
    simp only [accN]
    omega
end Go.Proofs.Ytbeokfpbhemcfaa
/-
  Walk: the field's Mul.
-/
namespace Go.Proofs.Ytbeokfpbhemcfaa
set_option linter.unusedSimpArgs false
set_option linter.unusedVariables false
open Go.RowKit

theorem wides_size : (Try.prog.info? 80).map (·.size) = some 10 := by kernel_rfl
/-- no sums yet -/
def zerosV : Array Value := #[.int .u64 0, .int .u64 0, .int .u64 0, .int .u64 0, .int .u64 0, .int .u64 0, .int .u64 0, .int .u64 0, .int .u64 0, .int .u64 0]
theorem mul_w64' (a b : Nat) (h : a * b < 18446744073709551616) : IntKind.u64.wrap ((a : Int) * (b : Int)) = ((a * b : Nat) : Int) := by
  rw [show (a : Int) * (b : Int) = ((a * b : Nat) : Int) by simp, IntKind.wrap_u64]; omega
/-- two elements that came in, the result's place, the sums -/
structure M4 (w0 : World) (g h r s : Nat) (x y z m : Array Value) (u : World) : Prop where
  bel : Below w0.heap.size w0 u
  x : Blk u g 26 x
  y : Blk u h 26 y
  z : Blk u r 26 z
  m : Blk u s 80 m
  lg : w0.heap.size ≤ g
  lh : w0.heap.size ≤ h
  lr : w0.heap.size ≤ r
  ls : w0.heap.size ≤ s
  gs : g ≠ s
  hs : h ≠ s
  rs : r ≠ s
theorem M4.putM {w0 u u' : World} {g h r s : Nat} {x y z m m' : Array Value} (k : M4 w0 g h r s x y z m u) (hw : Wrote s u u') (hb : Blk u' s 80 m') : M4 w0 g h r s x y z m' u' :=
  ⟨hw.below k.bel k.ls k.bel.size, hw.blk k.x k.gs, hw.blk k.y k.hs, hw.blk k.z k.rs, hb, k.lg, k.lh, k.lr, k.ls, k.gs, k.hs, k.rs⟩
theorem M4.next {w0 u u' : World} {g h r s : Nat} {x y z m : Array Value} (k : M4 w0 g h r s x y z m u) (hb : Below u.heap.size u u') : M4 w0 g h r s x y z m u' :=
  ⟨k.bel.trans (hb.mono k.bel.size), k.x.below hb k.x.lt, k.y.below hb k.y.lt, k.z.below hb k.z.lt, k.m.below hb k.m.lt, k.lg, k.lh, k.lr, k.ls, k.gs, k.hs, k.rs⟩
theorem M4.cast {w0 u : World} {g h r s : Nat} {x y z m m' : Array Value} (k : M4 w0 g h r s x y z m u) (e : m = m') : M4 w0 g h r s x y z m' u := e ▸ k
/-- the result's place, the sums, the sums' carries -/
structure O3 (w0 : World) (r s q : Nat) (z m v : Array Value) (u : World) : Prop where
  bel : Below w0.heap.size w0 u
  z : Blk u r 26 z
  m : Blk u s 80 m
  o : Blk u q 26 v
  lr : w0.heap.size ≤ r
  lo : w0.heap.size ≤ q
  ro : r ≠ q
  so : s ≠ q
theorem O3.put {w0 u u' : World} {r s o : Nat} {z m v v' : Array Value} (k : O3 w0 r s o z m v u) (hw : Wrote o u u') (hb : Blk u' o 26 v') : O3 w0 r s o z m v' u' :=
  ⟨hw.below k.bel k.lo k.bel.size, hw.blk k.z k.ro, hw.blk k.m k.so, hb, k.lr, k.lo, k.ro, k.so⟩
theorem O3.next {w0 u u' : World} {r s o : Nat} {z m v : Array Value} (k : O3 w0 r s o z m v u) (hb : Below u.heap.size u u') : O3 w0 r s o z m v u' :=
  ⟨k.bel.trans (hb.mono k.bel.size), k.z.below hb k.z.lt, k.m.below hb k.m.lt, k.o.below hb k.o.lt, k.lr, k.lo, k.ro, k.so⟩
theorem M4.out {w0 u : World} {g h r s : Nat} {x y z m : Array Value} (k : M4 w0 g h r s x y z m u) (v : Array Value) : O3 w0 r s u.heap.size z m v (u.alloc (.cells v 26)) :=
  ⟨k.bel.alloc k.bel.size _, k.z.alloc _, k.m.alloc _, Blk.new _ _ _, k.lr, k.bel.size, Nat.ne_of_lt k.z.lt, Nat.ne_of_lt k.m.lt⟩
set_option maxRecDepth 100000 in
theorem m4_new (w : World) (x y z m : Array Value) : M4 w w.heap.size (w.heap.size + 1) (w.heap.size + 1 + 1) (w.heap.size + 1 + 1 + 1) x y z m ((((w.alloc (.cells x 26)).alloc (.cells y 26)).alloc (.cells z 26)).alloc (.cells m 80)) :=
  ⟨(((below_new _ _).alloc (by simp) _).alloc (by simp; try omega) _).alloc (by simp; try omega) _, (((Blk.new _ _ _).alloc _).alloc _).alloc _, ((Blk.newAt (by simp)).alloc _).alloc _, (Blk.newAt (by simp)).alloc _, Blk.newAt (by simp), Nat.le_refl _, by omega, by omega, by omega, by omega, by omega, by omega⟩
set_option maxRecDepth 100000 in
set_option maxHeartbeats 4000000 in
theorem mul_any (x y : E5) (w : World) (hx : x.Ok) (hy : y.Ok) : Calls Try.prog 38 #[.agg (eV x), .agg (eV y)] w (ElemPost (mulE x y) w) := by
  have hu := Try.underlying26
  have hu5 := Try.underlying24
  have huw := Try.underlying79
  have hst0 : M4 w w.heap.size (w.heap.size + 1) (w.heap.size + 1 + 1) (w.heap.size + 1 + 1 + 1) (eV x) (eV y) (eV zE) zerosV _ := m4_new w (eV x) (eV y) (eV zE) zerosV
  have hz0 : zerosV = rV (accN x y 0) := by simp [zerosV, rV, wdV, accN]
  have HZ0 := Lib.hid hz0
  clear hz0
  have HX := Lib.hid hx
  have HY := Lib.hid hy
  have HST0 := Lib.hid hst0
  clear hx hy hst0
  go_enter Try.func38, Try.ntmps38
  go_wp2_with (refine wpList_get_part (x := .tmp 14) (n := 5) (r := eV x) HST0.out.x (by rw [eV_size]; decide) rfl rfl rfl rfl hu5 rfl five_size ?_)
  generalize hs : w.heap.size + 1 + 1 + 1 = s at *
  generalize hr : w.heap.size + 1 + 1 = r at *
  generalize hh : w.heap.size + 1 = h at *
  generalize hg : w.heap.size = g at *
  have HS := Lib.hid hs
  have HR := Lib.hid hr
  have HH := Lib.hid hh
  have HG := Lib.hid hg
  clear hr hh hg hs
  go_loopw [16] (fun i wr => ∃ k : Nat, k ≤ 5 ∧ i = .int .i64 k ∧ M4 w g h r s (eV x) (eV y) (eV zE) (rV (accN x y k)) wr) (fun i _ => 5 - (intOf i).toNat)
  case atStart => exact ⟨0, by omega, rfl, HST0.out.cast HZ0.out⟩
  case round =>
    clear HST0
    obtain ⟨i, hi, rfl, hst⟩ := hrel
    by_cases hlt : i < 5
    · have hlt' : (i : Int) < 5 := by omega
      obtain ⟨xi, hxi⟩ : ∃ l, l = (limbs x).getD i 0 := ⟨_, rfl⟩
      have hxl : xi < 4503599627370496 := by rw [hxi]; exact limb_lt HX.out (by decide) i
      have hix : ∀ u : World, (Instr.index 24 (.agg (eV x)) (.int .i64 (i : Int))).run Try.prog u = .ok (.int .u64 (xi : Int)) u := fun u =>
        run_index_array (n := 5) (e := 23) hu5 hlt (by rw [hxi]; exact eV_at x i hlt) (by kernel_rfl) (by kernel_rfl) ⟨_, Try.underlying23⟩
      have HST := Lib.hid hst
      have HXI := Lib.hid hxi
      have HXL := Lib.hid hxl
      clear hst hxi hxl
      go_wp2_with (refine wpList_get_part (x := .tmp 20) (n := 5) (r := eV y) HST.out.y (by rw [eV_size]; decide) rfl rfl rfl rfl hu5 rfl five_size ?_)
      obtain ⟨wo, rfl⟩ : ∃ x, x = wr := ⟨_, rfl⟩
      go_loopw [22] (fun c wr => ∃ k : Nat, k ≤ 5 ∧ c = .int .i64 k ∧ M4 w g h r s (eV x) (eV y) (eV zE) (rV (rowN x y i (accN x y i) k)) wr) (fun c _ => 5 - (intOf c).toNat)
      case atStart => exact ⟨0, by omega, rfl, HST.out⟩
      case round =>
        clear HST hix
        obtain ⟨k, hk, rfl, hst⟩ := hrel
        by_cases hltk : k < 5
        · have hltk' : (k : Int) < 5 := by omega
          obtain ⟨yk, hyk⟩ : ∃ l, l = (limbs y).getD k 0 := ⟨_, rfl⟩
          have hyl : yk < 4503599627370496 := by rw [hyk]; exact limb_lt HY.out (by decide) k
          have hiy : ∀ u : World, (Instr.index 24 (.agg (eV y)) (.int .i64 (k : Int))).run Try.prog u = .ok (.int .u64 (yk : Int)) u := fun u =>
            run_index_array (n := 5) (e := 23) hu5 hltk (by rw [hyk]; exact eV_at y k hltk) (by kernel_rfl) (by kernel_rfl) ⟨_, Try.underlying23⟩
          obtain ⟨F, hF⟩ : ∃ F, F = rowN x y i (accN x y i) k := ⟨_, rfl⟩
          have hFl : ∀ p, F p < 100000000000000000000000000000000000 := fun p => by
            have h1 := row_le HX.out HY.out i (acc_le HX.out HY.out i) k p
            rw [hF]; omega
          by_cases hge : 5 ≤ i + k
          · obtain ⟨p, hp⟩ : ∃ p, i + k = p + 5 := ⟨i + k - 5, by omega⟩
            have hp5 : p < 5 := by omega
            have hpi : (i : Int) + (k : Int) - 5 = (p : Int) := by omega
            have hgei : (5 : Int) ≤ (i : Int) + (k : Int) := by omega
            have hrow : rowN x y i (accN x y i) (k + 1) = updN F p (F p + xi * 19 * yk) := by
              have e1 : posN i k = p := by unfold posN; rw [if_pos hge]; omega
              have e2 : termN x y i k = xi * 19 * yk := by unfold termN; rw [if_pos hge, ← HXI.out, ← hyk]
              simp only [rowN, e1, e2, ← hF]
            rw [← hF] at hst
            have hplus := plus_any (F p) (xi * 19) yk (by have := HXL.out; omega) (by omega) (by
              have h1 := hFl p
              have h2 := mul_lt' (a := xi * 19) (b := yk) (m := 85568392920039406) (n := 4503599627370496) (by have := HXL.out; omega) hyl
              have h3 : (85568392920039406 - 1) * (4503599627370496 - 1) = 385365782469381566918211934355475 := by decide
              rw [h3] at h2; omega)
            have hx19 := mul_w64' xi 19 (by have := HXL.out; omega)
            rw [show ((19 : Nat) : Int) = 19 from rfl] at hx19
            obtain ⟨x19, hx19e⟩ : ∃ z, z = xi * 19 := ⟨_, rfl⟩
            rw [← hx19e] at hx19 hplus hrow
            have hpart := rV_part F p hp5
            have hput := rV_put F p (F p + x19 * yk) hp5
            rw [← hrow] at hput
            have HPL := Lib.hid hplus
            have HPART := Lib.hid hpart
            have HPUT := Lib.hid hput
            have HST := Lib.hid hst
            have HP5 := Lib.hid hp5
            clear hplus hpart hput hst hx19e hrow hFl hF hyk hyl hp
            go_wp2_with (refine wpList_get_part (x := .tmp 40) (k := p * 2) (n := 2) (r := wdV (F p)) HST.out.m (by rw [rV_size]; have := HP5.out; omega) HPART.out rfl rfl rfl huw rfl wide_size ?_)
            refine calls_then (HPL.out _) ?_
            rintro e w2 ⟨rfl, hb2⟩
            have hs2 := HST.out.next hb2
            have HS2 := Lib.hid hs2
            clear HST hs2 hb2
            go_wp2_with (refine wpList_put_part (x := .tmp 45) (k := p * 2) (n := 2) (r := wdV (F p + x19 * yk)) HS2.out.m (by rw [rV_size]; have := HP5.out; omega) HPUT.out rfl (by simp [wdV, Value.oneCell']) rfl rfl rfl rfl wide_size ?_; intro w5 hb5 hw5)
            exact ⟨⟨k + 1, by omega, by go_num, HS2.out.putM hw5 hb5⟩, by simp [intOf]; omega⟩
          · obtain ⟨p, hp⟩ : ∃ p, p = i + k := ⟨_, rfl⟩
            have hp5 : p < 5 := by omega
            have hpi : (i : Int) + (k : Int) = (p : Int) := by omega
            have hgei : ¬ (5 : Int) ≤ (p : Int) := by omega
            have hrow : rowN x y i (accN x y i) (k + 1) = updN F p (F p + xi * yk) := by
              have e1 : posN i k = p := by unfold posN; rw [if_neg hge]; exact hp.symm
              have e2 : termN x y i k = xi * yk := by unfold termN; rw [if_neg hge, ← HXI.out, ← hyk]
              simp only [rowN, e1, e2, ← hF]
            rw [← hF] at hst
            have hplus := plus_any (F p) xi yk (by have := HXL.out; omega) (by omega) (by
              have h1 := hFl p
              have h2 := mul_lt' (a := xi) (b := yk) (m := 85568392920039406) (n := 4503599627370496) (by have := HXL.out; omega) hyl
              have h3 : (85568392920039406 - 1) * (4503599627370496 - 1) = 385365782469381566918211934355475 := by decide
              rw [h3] at h2; omega)
            have hpart := rV_part F p hp5
            have hput := rV_put F p (F p + xi * yk) hp5
            rw [← hrow] at hput
            have HPL := Lib.hid hplus
            have HPART := Lib.hid hpart
            have HPUT := Lib.hid hput
            have HST := Lib.hid hst
            have HP5 := Lib.hid hp5
            clear hplus hpart hput hst hrow hFl hF hyk hyl hp hge
            go_wp2_with (refine wpList_get_part (x := .tmp 52) (k := p * 2) (n := 2) (r := wdV (F p)) HST.out.m (by rw [rV_size]; have := HP5.out; omega) HPART.out rfl rfl rfl huw rfl wide_size ?_)
            refine calls_then (HPL.out _) ?_
            rintro e w2 ⟨rfl, hb2⟩
            have hs2 := HST.out.next hb2
            have HS2 := Lib.hid hs2
            clear HST hs2 hb2
            go_wp2_with (refine wpList_put_part (x := .tmp 57) (k := p * 2) (n := 2) (r := wdV (F p + xi * yk)) HS2.out.m (by rw [rV_size]; have := HP5.out; omega) HPUT.out rfl (by simp [wdV, Value.oneCell']) rfl rfl rfl rfl wide_size ?_; intro w5 hb5 hw5)
            exact ⟨⟨k + 1, by omega, by go_num, HS2.out.putM hw5 hb5⟩, by simp [intOf]; omega⟩
        · obtain rfl : k = 5 := by omega
          have hs6 : M4 w g h r s (eV x) (eV y) (eV zE) (rV (accN x y (i + 1))) wr := hst
          have HS6 := Lib.hid hs6
          clear hst hs6
          go_wp2_with fail
          exact ⟨⟨i + 1, by omega, by go_num, HS6.out⟩, by simp [intOf]; omega⟩
    · obtain rfl : i = 5 := by omega
      obtain ⟨R, hR⟩ : ∃ R, R = mulR x y := ⟨_, rfl⟩
      have hRl : ∀ j, (limbs R).getD j 0 < 2596148429267413814265248164610048 := fun j => by rw [hR]; exact limb_lt (mulR_lt HX.out HY.out).1 (by decide) j
      have hRe : (limbs R).getD 4 0 < 162259276829213363391578010288128 := by rw [hR]; exact (mulR_lt HX.out HY.out).2
      have hacc : ∀ j, j < 5 → accN x y 5 j = (limbs R).getD j 0 := fun j hj => by rw [hR]; exact acc_end x y j hj
      have hbig : (carryE R).Lt 18446744073709551616 := by rw [hR]; exact mul_big HX.out HY.out
      have hmul : mulE x y = carryE (carryE R) := by rw [hR]; rfl
      have ho := hst.out (eV zE)
      obtain ⟨A, hA⟩ : ∃ A, A = rV (accN x y 5) := ⟨_, rfl⟩
      have hpart : ∀ j, j < 5 → ((A.toList.drop (j * 2)).take 2).toArray = wdV ((limbs R).getD j 0) := fun j hj => by rw [hA, rV_part _ _ hj, hacc j hj]
      have hlo : ∀ j, j < 5 → A[j * 2 + 1]? = some (.int .u64 (((limbs R).getD j 0 % 18446744073709551616 : Nat) : Int)) := fun j hj => by rw [hA, rV_lo _ _ hj, hacc j hj]
      have hAs : A.size = 10 := by rw [hA, rV_size]
      rw [← hA] at ho
      have HO := Lib.hid ho
      have HRL := Lib.hid hRl
      have HRE := Lib.hid hRe
      have HBIG := Lib.hid hbig
      have HMUL := Lib.hid hmul
      have HPART := Lib.hid hpart
      have HLO := Lib.hid hlo
      have HAS := Lib.hid hAs
      clear ho hRl hRe hbig hmul hpart hlo hAs hst hacc hR hA
      go_wp2_with fail
      obtain ⟨wo, hwo⟩ : ∃ u, u = wr.alloc (.cells #[.int .u64 0, .int .u64 0, .int .u64 0, .int .u64 0, .int .u64 0] 26) := ⟨_, rfl⟩
      obtain ⟨o, hoo⟩ : ∃ o, o = wr.heap.size := ⟨_, rfl⟩
      rw [← hwo, ← hoo]
      have ho : O3 w r s o (eV zE) A (mixV (carryE R) zE 0) wo := by rw [hwo, hoo]; exact HO.out
      have HOO := Lib.hid ho
      clear ho hwo hoo HO
      go_loopw [60] (fun i wr => ∃ k : Nat, k ≤ 5 ∧ i = .int .i64 k ∧ O3 w r s o (eV zE) A (mixV (carryE R) zE k) wr) (fun i _ => 5 - (intOf i).toNat)
      case atStart => exact ⟨0, by omega, rfl, HOO.out⟩
      case round =>
        clear HOO
        obtain ⟨k, hk, rfl, hst⟩ := hrel
        by_cases hlt2 : k < 5
        · have hlt3 : (k : Int) < 5 := by omega
          obtain ⟨j, hj⟩ : ∃ j, j = if k = 0 then 4 else k - 1 := ⟨_, rfl⟩
          have hj5 : j < 5 := by rw [hj]; split <;> omega
          have hjk : ((k : Int) + 5 - 1) % 5 = (j : Int) := by rw [hj]; split <;> omega
          have hjk2 : ((k : Int) + 4) % 5 = (j : Int) := by rw [hj]; split <;> omega
          obtain ⟨m, hm⟩ : ∃ m, m = (limbs R).getD j 0 := ⟨_, rfl⟩
          obtain ⟨l, hl⟩ : ∃ l, l = (limbs R).getD k 0 := ⟨_, rfl⟩
          have hml : m < 2596148429267413814265248164610048 := by rw [hm]; exact HRL.out j
          have hm4 : k = 0 → m < 162259276829213363391578010288128 := fun h0 => by
            rw [hm, hj, if_pos h0]; exact HRE.out
          have hset := mixV_set (carryE R) zE k hlt2
          have hval : (limbs (carryE R)).getD k 0 = l % 2251799813685248 + (if k = 0 then m / 2251799813685248 * 19 else m / 2251799813685248) := by
            rw [carryE_at _ _ hlt2, ← hl, hm, hj]
            by_cases h0 : k = 0
            · simp only [h0, if_pos]; rw [highE_at _ _ (by decide)]
            · simp only [h0, if_false]; rw [highE_at _ _ (by omega)]
          rw [hval] at hset
          have hpj := HPART.out j hj5
          rw [← hm] at hpj
          have hlk := HLO.out k hlt2
          rw [← hl] at hlk
          obtain ⟨lo, hlo⟩ : ∃ x, x = l % 18446744073709551616 := ⟨_, rfl⟩
          rw [← hlo] at hlk
          have hlol : lo < 18446744073709551616 := by rw [hlo]; exact Nat.mod_lt _ (by decide)
          have hlm : lo % 2251799813685248 = l % 2251799813685248 := by rw [hlo]; omega
          rw [← hlm] at hset
          have hov := over_any m (by omega)
          obtain ⟨v, hv⟩ : ∃ v, v = m / 2251799813685248 := ⟨_, rfl⟩
          have hvl : v < 1152921504606846976 := by rw [hv]; omega
          have hv0 : k = 0 → v < 72057594037927936 := fun h0 => by have := hm4 h0; rw [hv]; omega
          rw [← hv] at hov hset
          have d0 := hst.m.cell (k * 2 + 1)
          rw [hlk] at d0
          have q0 := hst.o.free k
          have q1 := hst.o.cell k
          have HSET := Lib.hid hset
          have HST := Lib.hid hst
          have HJ := Lib.hid hj
          have HPJ := Lib.hid hpj
          have HOV := Lib.hid hov
          have HJ5 := Lib.hid hj5
          have HV0 := Lib.hid hv0
          have HVL := Lib.hid hvl
          have HLK := Lib.hid hlk
          clear hset hst hl hm hval hj hpj hlk hlo hlm hov hv hv0 hml hm4 hvl
          by_cases h0 : k = 0
          · subst h0
            obtain rfl : j = 4 := by have := HJ.out; simpa using this
            have hv1 : v < 72057594037927936 := HV0.out rfl
            have hw19 : IntKind.u64.wrap ((v : Int) * 19) = (v : Int) * 19 := by rw [IntKind.wrap_u64]; omega
            have hset1 := HSET.out
            rw [if_pos rfl] at hset1
            have HSET1 := Lib.hid hset1
            clear hset1 HSET
            have HV1 := Lib.hid hv1
            have HW19 := Lib.hid hw19
            rw [show ((0 : Nat) : Int) = 0 from rfl]
            clear hjk hjk2 hlt3 HV0 hv1 hw19
            go_wp2_with (refine wpList_get_part (x := .tmp 67) (k := 4 * 2) (n := 2) (r := wdV m) HST.out.m (by rw [HAS.out]; decide) HPJ.out rfl rfl rfl huw rfl wide_size ?_)
            refine calls_then (HOV.out _) ?_
            rintro e w2 ⟨rfl, hb2⟩
            have hs2 := HST.out.next hb2
            have d0 := hs2.m.cell (0 * 2 + 1)
            rw [HLK.out] at d0
            have q0 := hs2.o.free 0
            have q1 := hs2.o.cell 0
            rw [mixV_at _ _ _ hlt2] at q1
            have HS2 := Lib.hid hs2
            clear HST hs2 hb2
            go_wp2_with fail
            refine ⟨?_, by simp [intOf]⟩
            repeat (apply Exists.intro)
            refine ⟨?_, rfl⟩
            refine ⟨1, by omega, rfl, HS2.out.put (wrote_setCell_at _ _ _ _) ?_⟩
            rw [HW19.out, mask_sum19 lo v hlol (by have := HV1.out; omega)]
            have h := blk_setCell_at (i := 0) HS2.out.o (.int .u64 ((lo % 2251799813685248 + v * 19 : Nat) : Int))
            rw [HSET1.out] at h
            exact h
          · have hb : ((k : Int) == 0) = false := by rw [beq_eq_false_iff_ne]; omega
            go_wp2_with (refine wpList_get_part (x := .tmp 67) (k := j * 2) (n := 2) (r := wdV m) HST.out.m (by rw [HAS.out]; have := HJ5.out; omega) HPJ.out rfl rfl rfl huw rfl wide_size ?_)
            refine calls_then (HOV.out _) ?_
            rintro e w2 ⟨rfl, hb2⟩
            have hs2 := HST.out.next hb2
            have d0 := hs2.m.cell (k * 2 + 1)
            rw [HLK.out] at d0
            have q0 := hs2.o.free k
            have q1 := hs2.o.cell k
            rw [mixV_at _ _ _ hlt2] at q1
            have HS2 := Lib.hid hs2
            clear HST hs2 hb2
            go_wp2_with fail
            refine ⟨?_, by simp [intOf]; omega⟩
            repeat (apply Exists.intro)
            refine ⟨?_, rfl⟩
            refine ⟨k + 1, by omega, by go_num, HS2.out.put (wrote_setCell_at _ _ _ _) ?_⟩
            rw [mask_sum lo v hlol (by have := HVL.out; omega)]
            have h := blk_setCell_at (i := k) HS2.out.o (.int .u64 ((lo % 2251799813685248 + v : Nat) : Int))
            have h2 := HSET.out
            rw [if_neg h0] at h2
            rw [h2] at h
            exact h
        · obtain rfl : k = 5 := by omega
          rw [mixV_end] at hst
          have HST := Lib.hid hst
          clear hst
          go_wp2_with (refine wpList_get_box (x := .tmp 11) HST.out.o rfl rfl rfl hu rfl elem_size ?_)
          refine calls_then (carried_any (carryE R) _ HBIG.out) ?_
          rintro e w2 ⟨rfl, hb2⟩
          have hs2 := HST.out.next hb2
          have HS2 := Lib.hid hs2
          clear HST hs2 hb2
          rw [← HMUL.out]
          go_wp2_with (refine wpList_put_box (x := .tmp 4) (cells := eV (mulE x y)) HS2.out.z rfl rfl rfl rfl elem_size rfl (by simp [eV, wV, limbs, Value.oneCell']) ?_; intro w5 hb5 hw5)
          refine bodyPost_ret (results_box (P := Try.prog) rfl rfl hb5 hu rfl elem_size) rfl ⟨rfl, ?_⟩
          exact hw5.below HS2.out.bel HS2.out.lr HS2.out.bel.size
end Go.Proofs.Ytbeokfpbhemcfaa
