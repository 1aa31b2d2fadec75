/-
  The law CurveNeg: plain, and its walk.
-/
import Derived.Test.YtbeokfpbhemcfaaCliv
namespace Go.Proofs.Ytbeokfpbhemcfaa
set_option linter.unusedSimpArgs false
set_option linter.unusedVariables false
open Go.RowKit

theorem pn_dvd {a b : Nat} (h : a * b % PN = 0) : a % PN = 0 ∨ b % PN = 0 := by
  rcases pr_dvd prime6 (Nat.dvd_of_mod_eq_zero h) with h1 | h1
  · exact .inl (Nat.mod_eq_zero_of_dvd h1)
  · exact .inr (Nat.mod_eq_zero_of_dvd h1)
theorem mul_zero_mod {a b : Nat} (h : a % PN = 0 ∨ b % PN = 0) : a * b % PN = 0 := by
  rcases h with h | h
  · rw [Nat.mul_mod, h, Nat.zero_mul, Nat.zero_mod]
  · rw [Nat.mul_mod, h, Nat.mul_zero, Nat.zero_mod]
theorem pow_zero_mod {a : Nat} : ∀ n, a ^ n % PN = 0 → a % PN = 0
  | 0, h => by rw [Nat.pow_zero] at h; exact absurd h (by decide)
  | n + 1, h => by
    rw [Nat.pow_succ] at h
    rcases pn_dvd h with h1 | h1
    · exact pow_zero_mod n h1
    · exact h1
theorem inv_zero_iff (z : E5) : (invE z).val % PN = 0 ↔ z.val % PN = 0 := by
  rw [invE_val]
  constructor
  · exact pow_zero_mod _
  · intro h
    rw [Nat.pow_mod, h, Nat.zero_pow (by decide)]
    rfl
/-- a point's x, reckoned -/
def axN (p : Pt4) : Nat := (mulE p.x (invE p.z)).val % PN
theorem axN_zero (p : Pt4) : axN p = 0 ↔ p.x.val * p.z.val % PN = 0 := by
  have h : axN p = p.x.val * (invE p.z).val % PN := mul_val _ _
  rw [h]
  constructor
  · intro h
    rcases pn_dvd h with h1 | h1
    · exact mul_zero_mod (.inl h1)
    · exact mul_zero_mod (.inr ((inv_zero_iff _).1 h1))
  · intro h
    rcases pn_dvd h with h1 | h1
    · exact mul_zero_mod (.inl h1)
    · exact mul_zero_mod (.inr ((inv_zero_iff _).2 h1))
theorem sm_neg {x : E5} (hx : x.Ok) : Sm ((subE zE x).val + x.val) 0 := sm_sub hx
theorem axN_neg {p : Pt4} (hp : p.Ok) : (axN (negP p) + axN p) % PN = 0 := by
  have h1 : Sm (mulE (subE zE p.x) (invE p.z)).val ((subE zE p.x).val * (invE p.z).val) := sm_mul _ _
  have h2 : Sm (mulE p.x (invE p.z)).val (p.x.val * (invE p.z).val) := sm_mul _ _
  have h3 : Sm ((mulE (subE zE p.x) (invE p.z)).val + (mulE p.x (invE p.z)).val) (((subE zE p.x).val + p.x.val) * (invE p.z).val) := (h1.add h2).trans (Sm.of (Nat.add_mul _ _ _).symm)
  have h4 : Sm (((subE zE p.x).val + p.x.val) * (invE p.z).val) (0 * (invE p.z).val) := (sm_neg hp.x).mul (Sm.refl _)
  rw [Nat.zero_mul] at h4
  have h5 := h3.trans h4
  show ((mulE (subE zE p.x) (invE p.z)).val % PN + (mulE p.x (invE p.z)).val % PN) % PN = 0
  rw [← Nat.add_mod]
  exact h5
theorem oddP_ax (p : Pt4) : oddP p = decide (axN p % 2 = 1) := rfl
theorem two_sum {P a b : Nat} (ha : a < P) (hb : b < P) (h : (b + a) % P = 0) : b + a = 0 ∨ b + a = P := by
  by_cases hlt : b + a < P
  · rw [Nat.mod_eq_of_lt hlt] at h; exact .inl h
  · rw [Nat.mod_eq_sub_mod (Nat.le_of_not_lt hlt), Nat.mod_eq_of_lt (by omega)] at h
    omega
theorem half_zero' {P a b : Nat} (hP : 0 < P) (ho : P % 2 = 1) (h : (b + a) % P = 0) : (a % P = b % P) ↔ a % P = 0 := by
  have ha := Nat.mod_lt a hP
  have hb := Nat.mod_lt b hP
  rw [Nat.add_mod] at h
  generalize a % P = a' at *
  generalize b % P = b' at *
  have := two_sum ha hb h
  omega
theorem half_zero {a b : Nat} (h : (b + a) % PN = 0 % PN) : (a % PN = b % PN) ↔ a % PN = 0 :=
  half_zero' (by decide) (by decide) (h.trans (Nat.zero_mod _))
theorem eqP_neg {p : Pt4} (hp : p.Ok) : eqP p (negP p) = decide (axN p = 0) := by
  have e2 : eqB (mulE p.y (negP p).z) (mulE (negP p).y p.z) = true := by
    show eqB (mulE p.y p.z) (mulE p.y p.z) = true
    generalize mulE p.y p.z = v
    exact beq_self_eq_true (limbs (leastE v))
  have h1 : Sm (mulE p.x p.z).val (p.x.val * p.z.val) := sm_mul _ _
  have h2 : Sm (mulE (subE zE p.x) p.z).val ((subE zE p.x).val * p.z.val) := sm_mul _ _
  have h3 : Sm ((mulE (subE zE p.x) p.z).val + (mulE p.x p.z).val) 0 := by
    refine (h2.add h1).trans ?_
    refine (Sm.of (Nat.add_mul _ _ _).symm).trans ?_
    have h4 := (sm_neg hp.x).mul (Sm.refl p.z.val)
    rw [Nat.zero_mul] at h4
    exact h4
  rw [eqP, e2, Bool.and_true]
  show eqB (mulE p.x p.z) (mulE (subE zE p.x) p.z) = _
  rw [eqB, eqE (mul_ok hp.x hp.z).big (mul_ok (sub_ok zE_ok hp.x) hp.z).big]
  refine decide_eq_decide.mpr ?_
  rw [axN_zero]
  have h1' : (mulE p.x p.z).val % PN = p.x.val * p.z.val % PN := h1
  rw [← h1']
  exact half_zero h3
theorem xor_or : ∀ x, x < 128 → x ^^^ 128 = x ||| 128 := by decide
theorem or_xor : ∀ x, x < 128 → (x ||| 128) ^^^ 128 = x := by decide
theorem byN_top {V : Nat} (h : V < PN) : (byN V).getD 31 0 < 128 := by
  have e := byN_at V 31 (by decide)
  rw [List.getD_eq_getElem?_getD, e]
  show V / 256 ^ 31 % 256 < 128
  have h2 : V / 256 ^ 31 < 128 := Nat.div_lt_of_lt_mul (Nat.lt_trans h (by decide))
  omega
theorem set_self {l : List Nat} {k : Nat} (h : k < l.length) : l.set k (l.getD k 0) = l := by
  rw [List.getD_eq_getElem?_getD, List.getElem?_eq_getElem h]
  exact List.set_getElem_self h
/-- the y of a point and of its negative -/
def ayN (p : Pt4) : Nat := (leastE (mulE p.y (invE p.z))).val
theorem ayN_lt {p : Pt4} (hp : p.Ok) : ayN p < PN := by
  rw [ayN, least_val (mul_ok hp.y (invE_ok hp.z)).big]
  exact Nat.mod_lt _ (by decide)
theorem bytP_ax (p : Pt4) : bytP p = if oddP p then (byN (ayN p)).set 31 ((byN (ayN p)).getD 31 0 ||| 128) else byN (ayN p) := rfl
theorem ayN_neg (p : Pt4) : ayN (negP p) = ayN p := rfl
theorem neg_same {p : Pt4} (hp : p.Ok) (h : axN p = 0) : bytP (negP p) = bytP p := by
  have h1 := axN_neg hp
  rw [h, Nat.add_zero] at h1
  have h2 : axN (negP p) = 0 := by
    have h3 : axN (negP p) < PN := Nat.mod_lt _ (by decide)
    rwa [Nat.mod_eq_of_lt h3] at h1
  rw [bytP_ax, bytP_ax, ayN_neg, oddP_ax, oddP_ax, h, h2]
theorem odd_flip' {P a b : Nat} (ho : P % 2 = 1) (h : a ≠ 0) (h1 : (b + a) % P = 0) (ha : a < P) (hb : b < P) : b % 2 = 1 ↔ ¬ a % 2 = 1 := by
  have := two_sum ha hb h1
  omega
theorem odd_flip {a b : Nat} (h : a ≠ 0) (h1 : (b + a) % PN = 0) (ha : a < PN) (hb : b < PN) : b % 2 = 1 ↔ ¬ a % 2 = 1 :=
  odd_flip' (by decide) h h1 ha hb
theorem flip_list (L : List Nat) (hl : 31 < L.length) (hx : L.getD 31 0 < 128) (o : Bool) :
    (if o then L.set 31 (L.getD 31 0 ||| 128) else L).set 31 ((if o then L.set 31 (L.getD 31 0 ||| 128) else L).getD 31 0 ^^^ 128) = if !o then L.set 31 (L.getD 31 0 ||| 128) else L := by
  cases o
  · show L.set 31 (L.getD 31 0 ^^^ 128) = L.set 31 (L.getD 31 0 ||| 128)
    rw [xor_or _ hx]
  · show (L.set 31 (L.getD 31 0 ||| 128)).set 31 ((L.set 31 (L.getD 31 0 ||| 128)).getD 31 0 ^^^ 128) = L
    have e : (L.set 31 (L.getD 31 0 ||| 128)).getD 31 0 = L.getD 31 0 ||| 128 := by
      rw [List.getD_eq_getElem?_getD, List.getElem?_set_self hl]; rfl
    rw [e, or_xor _ hx, List.set_set, set_self hl]
theorem neg_flip {p : Pt4} (hp : p.Ok) (h : axN p ≠ 0) : (bytP p).set 31 ((bytP p).getD 31 0 ^^^ 128) = bytP (negP p) := by
  have h1 := axN_neg hp
  have ha : axN p < PN := Nat.mod_lt _ (by decide)
  have hb : axN (negP p) < PN := Nat.mod_lt _ (by decide)
  have hodd : oddP (negP p) = !oddP p := by
    rw [oddP_ax, oddP_ax, ← decide_not]
    exact decide_eq_decide.mpr (odd_flip h h1 ha hb)
  have hx := byN_top (ayN_lt hp)
  have hl : 31 < (byN (ayN p)).length := by rw [byN_length]; decide
  rw [bytP_ax, bytP_ax, ayN_neg, hodd]
  exact flip_list _ hl hx _
theorem bytP_dg (p : Pt4) : Dg (bytP p) := by
  rw [bytP_ax]
  split
  · exact dg_set (byN_lt _) _ _ (Nat.or_lt_two_pow (n := 8) (byN_31 _) (by decide))
  · exact byN_lt _
theorem bytP_length (p : Pt4) : (bytP p).length = 32 := by
  rw [bytP_ax]
  split
  · rw [List.length_set, byN_length]
  · exact byN_length _
end Go.Proofs.Ytbeokfpbhemcfaa
