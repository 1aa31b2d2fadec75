/-
  Plain: numbers as digits of 256.
-/
import Derived.Test.YtbeokfpbhemcfaaRb
namespace Go.Proofs.Ytbeokfpbhemcfaa
set_option linter.unusedSimpArgs false
set_option linter.unusedVariables false
open Go.RowKit

/-- digits -/
def Dg (l : List Nat) : Prop := ∀ d ∈ l, d < 256
theorem dg_getD {l : List Nat} (h : Dg l) (k : Nat) : l.getD k 0 < 256 := by
  rw [List.getD_eq_getElem?_getD]
  by_cases hk : k < l.length
  · rw [List.getElem?_eq_getElem hk]; exact h _ (List.getElem_mem hk)
  · rw [List.getElem?_eq_none (by omega)]; decide
theorem pow_step (N k : Nat) : N / 256 ^ k = N / 256 ^ k % 256 + 256 * (N / 256 ^ (k + 1)) := by
  rw [Nat.pow_succ, ← Nat.div_div_eq_div_mul]
  omega
theorem high_same : ∀ (t k N M : Nat), N < 256 ^ (k + t) → M < 256 ^ (k + t) → (∀ j, k ≤ j → N / 256 ^ j % 256 = M / 256 ^ j % 256) → N / 256 ^ k = M / 256 ^ k
  | 0, k, N, M, hN, hM, _ => by rw [Nat.div_eq_of_lt (show N < 256 ^ k from hN), Nat.div_eq_of_lt (show M < 256 ^ k from hM)]
  | t + 1, k, N, M, hN, hM, h => by
    have ih := high_same t (k + 1) N M (by rw [show k + 1 + t = k + (t + 1) by omega]; exact hN) (by rw [show k + 1 + t = k + (t + 1) by omega]; exact hM) fun j hj => h j (by omega)
    rw [pow_step N k, pow_step M k, ih, h k (Nat.le_refl _)]
theorem leV_big {l : List Nat} (h : Dg l) {t : Nat} (ht : l.length ≤ t) : leV l < 256 ^ t :=
  Nat.lt_of_lt_of_le (leV_lt l h) (Nat.pow_le_pow_right (by decide) ht)
theorem high_same' {a b : List Nat} (ha : Dg a) (hb : Dg b) (k : Nat) (h : ∀ j, k ≤ j → a.getD j 0 = b.getD j 0) : leV a / 256 ^ k = leV b / 256 ^ k :=
  high_same (a.length + b.length) k _ _ (leV_big ha (by omega)) (leV_big hb (by omega)) fun j hj => by rw [leV_at a ha, leV_at b hb, h j hj]
theorem less_at {a b : List Nat} (ha : Dg a) (hb : Dg b) (k : Nat) (h : ∀ j, k < j → a.getD j 0 = b.getD j 0) (hne : a.getD k 0 ≠ b.getD k 0) : (leV a < leV b) = (a.getD k 0 < b.getD k 0) := by
  have hq := high_same' ha hb (k + 1) fun j hj => h j (by omega)
  have e1 := pow_step (leV a) k
  have e2 := pow_step (leV b) k
  rw [leV_at a ha, hq] at e1
  rw [leV_at b hb] at e2
  apply propext
  constructor
  · intro hl
    have h1 : leV a / 256 ^ k ≤ leV b / 256 ^ k := Nat.div_le_div_right (Nat.le_of_lt hl)
    omega
  · intro hl
    have h1 : leV a / 256 ^ k < leV b / 256 ^ k := by omega
    exact Nat.lt_of_not_le fun h2 => absurd (Nat.div_le_div_right (c := 256 ^ k) h2) (by omega)
theorem less_no {a b : List Nat} (ha : Dg a) (hb : Dg b) (h : ∀ j, a.getD j 0 = b.getD j 0) : leV a = leV b := by
  have hq := high_same' ha hb 0 fun j _ => h j
  rw [Nat.pow_zero, Nat.div_one, Nat.div_one] at hq
  exact hq
theorem leV_snoc (l : List Nat) (d : Nat) : leV (l ++ [d]) = leV l + 256 ^ l.length * d := by rw [leV_append]; simp [leV]
theorem leV_take_step (l : List Nat) (k : Nat) : leV (l.take (k + 1)) = leV (l.take k) + 256 ^ k * l.getD k 0 := by
  by_cases h : k < l.length
  · rw [take_snoc h, leV_snoc, List.length_take, Nat.min_eq_left (by omega), List.getD_eq_getElem?_getD, List.getElem?_eq_getElem h]; rfl
  · rw [List.take_of_length_le (by omega), List.take_of_length_le (by omega), List.getD_eq_getElem?_getD, List.getElem?_eq_none (by omega)]; simp
/-- the digits of p -/
def pL : List Nat := 237 :: (List.replicate 30 255 ++ [127])
theorem pL_dg : Dg pL := by unfold Dg pL; decide
theorem pL_val : leV pL = PN := by decide
theorem pL_len : pL.length = 32 := by decide
end Go.Proofs.Ytbeokfpbhemcfaa
