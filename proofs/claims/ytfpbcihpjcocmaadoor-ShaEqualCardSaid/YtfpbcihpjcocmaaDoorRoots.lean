/-
  Plain: the roots of the first primes are the words that the program names.
-/
import Derived.Test.YtfpbcihpjcocmaaDoorDig
namespace Go.Proofs.YtfpbcihpjcocmaaDoor
set_option linter.unusedSimpArgs false
set_option linter.unusedVariables false
open Go.RowKit

def rootA (p k : Nat) : Nat → Nat → Nat
  | 0, X => X
  | n + 1, X => if p * 65536 ^ (4 * k) < (X + 2 ^ n) ^ k then rootA p k n X else rootA p k n (X + 2 ^ n)
theorem rootA_eq (p k : Nat) : ∀ n, n ≤ 69 → rootA p k (69 - n) (rootX p k n) = rootA p k 69 0
  | 0, _ => rfl
  | n + 1, h => by
    rw [← rootA_eq p k n (by omega)]
    obtain ⟨m, hm⟩ : ∃ m, m = 68 - n := ⟨_, rfl⟩
    rw [show 69 - n = m + 1 by omega, show 69 - (n + 1) = m by omega, rootA, rootX, ← hm]
    split <;> rfl
theorem rootN_eq (p k : Nat) : rootN p k = rootA p k 69 0 % 2 ^ 64 := by
  have := rootA_eq p k 69 (Nat.le_refl _)
  rw [rootN, ← this]
  rfl
def primes80 : List Nat := [2, 3, 5, 7, 11, 13, 17, 19, 23, 29, 31, 37, 41, 43, 47, 53, 59, 61, 67, 71, 73, 79, 83, 89, 97, 101, 103, 107, 109, 113, 127, 131, 137, 139, 149, 151, 157, 163, 167, 173, 179, 181, 191, 193, 197, 199, 211, 223, 227, 229, 233, 239, 241, 251, 257, 263, 269, 271, 277, 281, 283, 293, 307, 311, 313, 317, 331, 337, 347, 349, 353, 359, 367, 373, 379, 383, 389, 397, 401, 409]
theorem roots3 : (primes80.map fun p => rootA p 3 69 0 % 2 ^ 64) = stepsN := by decide +kernel
theorem roots2 : ((primes80.take 8).map fun p => rootA p 2 69 0 % 2 ^ 64) = firstN := by decide +kernel
/-- the primes below so many, found one by one -/
def primesTo (k : Nat) : List Nat := primes80.filter fun q => decide (q < k)
theorem primes_step : ((List.range 410).all fun k => decide (primesTo (k + 1) = if 2 ≤ k ∧ (primesTo k).all (fun q => k % q != 0) = true then primesTo k ++ [k] else primesTo k)) = true := by decide +kernel
theorem primes_len : ((List.range 410).all fun k => decide ((primesTo k).length < 80)) = true := by decide +kernel
theorem primes_end : primesTo 410 = primes80 := by decide +kernel
theorem primes_lt : (primes80.all fun p => decide (2 ≤ p ∧ p < 65536)) = true := by decide +kernel
theorem map_getD (l : List Nat) (f : Nat → Nat) (i : Nat) (h : i < l.length) : (l.map f).getD i 0 = f (l.getD i 0) := by
  simp [List.getD_eq_getElem?_getD, h]
theorem rootN3 (i : Nat) (h : i < 80) : rootN (primes80.getD i 0) 3 = stepsN.getD i 0 := by
  rw [← roots3, map_getD primes80 _ i h, rootN_eq]
theorem rootN2 (i : Nat) (h : i < 8) : rootN (primes80.getD i 0) 2 = firstN.getD i 0 := by
  have e : primes80.getD i 0 = (primes80.take 8).getD i 0 := by
    rw [List.getD_eq_getElem?_getD, List.getD_eq_getElem?_getD, List.getElem?_take, if_pos h]
  rw [← roots2, map_getD (primes80.take 8) _ i h, rootN_eq, e]
end Go.Proofs.YtfpbcihpjcocmaaDoor
