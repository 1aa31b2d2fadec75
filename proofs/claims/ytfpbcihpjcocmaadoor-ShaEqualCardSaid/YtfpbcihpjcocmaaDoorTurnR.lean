/-
  Plain: turning a word step by step is turning it at once.
-/
import Derived.Test.YtfpbcihpjcocmaaDoorWords
namespace Go.Proofs.YtfpbcihpjcocmaaDoor
set_option linter.unusedSimpArgs false
set_option linter.unusedVariables false
open Go.RowKit

def turnR (b x : Nat) : Nat → Nat
  | 0 => x
  | n + 1 => turnR b x n / 2 + turnR b x n % 2 * 2 ^ (b - 1)
theorem rotN_add {b x n : Nat} (hx : x < 2 ^ b) (hn : n ≤ b) : rotN b x n = x / 2 ^ n + x % 2 ^ n * 2 ^ (b - n) := by
  obtain ⟨m, rfl⟩ : ∃ m, b = n + m := ⟨b - n, by omega⟩
  have hm : n + m - n = m := by omega
  rw [rotN, hm]
  have h1 : x * 2 ^ m % 2 ^ (n + m) = x % 2 ^ n * 2 ^ m := by
    rw [Nat.pow_add, Nat.mul_mod_mul_right]
  have h2 : x / 2 ^ n < 2 ^ m := by
    rw [Nat.div_lt_iff_lt_mul (Nat.two_pow_pos _), ← Nat.pow_add, Nat.add_comm m n]; exact hx
  rw [h1, Nat.mul_comm (x % 2 ^ n), Nat.or_comm, ← Nat.two_pow_add_eq_or_of_lt h2]
  omega
theorem turnR_eq {b x : Nat} (hx : x < 2 ^ b) : ∀ n, n ≤ b → turnR b x n = x / 2 ^ n + x % 2 ^ n * 2 ^ (b - n)
  | 0, _ => by simp [turnR, Nat.mod_one]
  | n + 1, hn => by
    rw [turnR, turnR_eq hx n (by omega)]
    obtain ⟨m, rfl⟩ : ∃ m, b = n + 1 + m := ⟨b - (n + 1), by omega⟩
    rw [show n + 1 + m - n = m + 1 by omega, show n + 1 + m - (n + 1) = m by omega, show n + 1 + m - 1 = n + m by omega]
    obtain ⟨q, hq⟩ : ∃ q, q = x / 2 ^ n := ⟨_, rfl⟩
    obtain ⟨r, hr⟩ : ∃ r, r = x % 2 ^ n := ⟨_, rfl⟩
    have hq2 : x / 2 ^ (n + 1) = q / 2 := by rw [hq, Nat.pow_succ, Nat.div_div_eq_div_mul]
    have hr2 : x % 2 ^ (n + 1) = r + q % 2 * 2 ^ n := by
      rw [hr, hq, Nat.pow_succ, Nat.mod_mul]
      rw [Nat.mul_comm (2 ^ n)]
    rw [hq2, hr2, ← hq, ← hr]
    rw [Nat.pow_succ, ← Nat.mul_assoc]
    generalize hz : r * 2 ^ m = z
    rw [Nat.add_mul, hz, Nat.mul_assoc, ← Nat.pow_add, Nat.add_mul_mod_self_right, Nat.add_mul_div_right _ _ (by decide)]
    omega
theorem turnR_rot {b x n : Nat} (hx : x < 2 ^ b) (hn : n ≤ b) : turnR b x n = rotN b x n := by rw [turnR_eq hx n hn, rotN_add hx hn]
theorem turnR_lt {b x : Nat} (hb : 0 < b) (hx : x < 2 ^ b) : ∀ n, turnR b x n < 2 ^ b
  | 0 => hx
  | n + 1 => by
    have ih := turnR_lt hb hx n
    obtain ⟨c, rfl⟩ : ∃ c, b = c + 1 := ⟨b - 1, by omega⟩
    rw [turnR, show c + 1 - 1 = c by omega]
    rw [Nat.pow_succ] at *
    generalize 2 ^ c = p at *
    generalize turnR (c + 1) x n = y at *
    have : y % 2 = 0 ∨ y % 2 = 1 := by omega
    rcases this with h | h <;> rw [h] <;> omega
theorem turnR_turned {b x n : Nat} (hb : b = 32 ∨ b = 64) (hx : x < 2 ^ b) (hn : n ≤ b) : turnR b x n = turnedN b x n := by
  rw [turnR_rot hx hn]
  rcases hb with rfl | rfl
  · rw [turnedN, if_pos rfl, Nat.mod_eq_of_lt hx]
  · rw [turnedN, if_neg (by decide)]
end Go.Proofs.YtfpbcihpjcocmaaDoor
