/-
  Plain: a number's bytes, bit by bit.
-/
import Derived.Test.YtbeokfpbhemcfaaFld
namespace Go.Proofs.Ytbeokfpbhemcfaa
set_option linter.unusedSimpArgs false
set_option linter.unusedVariables false
open Go.RowKit

/-- 32 bytes of a number, the lowest first -/
def byN (N : Nat) : List Nat := (List.range 32).map fun j => N / 256 ^ j % 256
theorem byN_length (N : Nat) : (byN N).length = 32 := by simp [byN]
theorem byN_at (N j : Nat) (h : j < 32) : (byN N)[j]? = some (N / 256 ^ j % 256) := by simp [byN, h]
theorem pow256 (j : Nat) : 256 ^ j = 2 ^ (8 * j) := by rw [Nat.pow_mul]
theorem byN_zero : byN 0 = List.replicate 32 0 := by decide
/-- one bit more -/
theorem mod_bit (V n : Nat) : V % 2 ^ (n + 1) = V % 2 ^ n + V / 2 ^ n % 2 * 2 ^ n := by
  rw [Nat.pow_succ, Nat.mod_mul, Nat.mul_comm]
theorem byte_other (N b n j : Nat) (hN : N < 2 ^ n) (hb : b < 2) (hj : j ≠ n / 8) : (N + b * 2 ^ n) / 256 ^ j % 256 = N / 256 ^ j % 256 := by
  rw [pow256]
  by_cases h : j < n / 8
  · obtain ⟨d, hd⟩ : ∃ d, n = 8 * j + (8 + d) := ⟨n - 8 * j - 8, by omega⟩
    have e : b * 2 ^ n = 2 ^ (8 * j) * (256 * (b * 2 ^ d)) := by
      rw [hd, Nat.pow_add, Nat.pow_add, show (2 : Nat) ^ 8 = 256 from rfl]
      rw [Nat.mul_left_comm, Nat.mul_left_comm b 256]
    rw [e, Nat.add_mul_div_left _ _ (Nat.two_pow_pos _), Nat.add_mul_mod_self_left]
  · have hle : n + 1 ≤ 8 * j := by omega
    have h2 : 2 ^ (n + 1) ≤ 2 ^ (8 * j) := Nat.pow_le_pow_right (by decide) hle
    rw [Nat.pow_succ] at h2
    have h3 : b * 2 ^ n ≤ 1 * 2 ^ n := Nat.mul_le_mul_right _ (by omega)
    rw [Nat.div_eq_of_lt (by omega), Nat.div_eq_of_lt (by omega)]
theorem byte_this (N b n : Nat) (hN : N < 2 ^ n) (hb : b < 2) : (N + b * 2 ^ n) / 256 ^ (n / 8) % 256 = N / 256 ^ (n / 8) % 256 ||| b * 2 ^ (n % 8) := by
  obtain ⟨q, r, hr, rfl⟩ : ∃ q r, r < 8 ∧ n = 8 * q + r := ⟨n / 8, n % 8, by omega, by omega⟩
  rw [show (8 * q + r) / 8 = q by omega, show (8 * q + r) % 8 = r by omega, pow256]
  have hp := Nat.two_pow_pos (8 * q)
  have e : b * 2 ^ (8 * q + r) = 2 ^ (8 * q) * (b * 2 ^ r) := by rw [Nat.pow_add, Nat.mul_left_comm]
  rw [e, Nat.add_mul_div_left _ _ hp]
  have hlt : N / 2 ^ (8 * q) < 2 ^ r := by
    rw [Nat.div_lt_iff_lt_mul hp, ← Nat.pow_add, Nat.add_comm]; exact hN
  have hr8 : 2 ^ (r + 1) ≤ 2 ^ 8 := Nat.pow_le_pow_right (by decide) (by omega)
  rw [Nat.pow_succ, show (2 : Nat) ^ 8 = 256 from rfl] at hr8
  have hb2 : b * 2 ^ r ≤ 1 * 2 ^ r := Nat.mul_le_mul_right _ (by omega)
  rw [Nat.mod_eq_of_lt (by omega), Nat.mod_eq_of_lt (a := N / 2 ^ (8 * q)) (by omega)]
  have h := Nat.shiftLeft_add_eq_or_of_lt hlt b
  rw [Nat.shiftLeft_eq] at h
  rw [Nat.add_comm, h, Nat.or_comm]
theorem byN_step (V n : Nat) (hn : n < 256) : (byN (V % 2 ^ n)).set (n / 8) (V % 2 ^ n / 256 ^ (n / 8) % 256 ||| V / 2 ^ n % 2 * 2 ^ (n % 8)) = byN (V % 2 ^ (n + 1)) := by
  have hN : V % 2 ^ n < 2 ^ n := Nat.mod_lt _ (Nat.two_pow_pos _)
  have hb : V / 2 ^ n % 2 < 2 := Nat.mod_lt _ (by decide)
  rw [mod_bit]
  apply List.ext_getElem?
  intro j
  by_cases hj : j < 32
  · rw [byN_at _ _ hj, List.getElem?_set]
    by_cases h : n / 8 = j
    · rw [if_pos h, if_pos (by rw [byN_length]; exact h ▸ hj), ← h, byte_this _ _ _ hN hb]
    · rw [if_neg h, byN_at _ _ hj, byte_other _ _ _ _ hN hb (Ne.symm h)]
  · rw [List.getElem?_eq_none (by rw [List.length_set, byN_length]; omega), List.getElem?_eq_none (by rw [byN_length]; omega)]
theorem high_bit (l r k : Nat) (hk : k < 51) : (l + 2251799813685248 * r) / 2 ^ k % 2 = l / 2 ^ k % 2 := by
  obtain ⟨d, hd⟩ : ∃ d, 51 = k + (1 + d) := ⟨50 - k, by omega⟩
  have e : 2251799813685248 * r = 2 ^ k * (2 * (2 ^ d * r)) := by
    rw [show (2251799813685248 : Nat) = 2 ^ 51 from rfl, hd, Nat.pow_add, Nat.pow_add, Nat.pow_one, Nat.mul_assoc, Nat.mul_assoc]
  rw [e, Nat.add_mul_div_left _ _ (Nat.two_pow_pos _), Nat.add_mul_mod_self_left]
end Go.Proofs.Ytbeokfpbhemcfaa
