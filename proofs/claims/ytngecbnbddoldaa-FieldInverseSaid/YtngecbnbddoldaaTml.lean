/-
  Plain: the product of digits, step by step.
-/
import Derived.Test.YtngecbnbddoldaaRp
namespace Go.Proofs.Ytngecbnbddoldaa
set_option linter.unusedSimpArgs false
set_option linter.unusedVariables false
open Go.RowKit

theorem leV_set (d : Nat) : ∀ (l : List Nat) (p : Nat), p < l.length → leV (l.set p d) + 256 ^ p * l.getD p 0 = leV l + 256 ^ p * d
  | [], p, h => by simp at h
  | x :: r, 0, _ => by
    rw [List.set_cons_zero, leV, leV, Nat.pow_zero, List.getD_cons_zero]
    omega
  | x :: r, p + 1, h => by
    have ih := leV_set d r p (by simpa using h)
    rw [List.set_cons_succ, leV, leV, List.getD_cons_succ, Nat.pow_succ, Nat.mul_right_comm, Nat.mul_right_comm (256 ^ p) 256 d]
    omega
theorem times_step {out : List Nat} {p c z S v : Nat} (hp : p < out.length) (hv : v = out.getD p 0 + z + c) (h : leV out + 256 ^ p * c = S) :
    leV (out.set p (v % 256)) + 256 ^ (p + 1) * (v / 256) = S + 256 ^ p * z := by
  have h1 := leV_set (v % 256) out p hp
  have e : 256 ^ p * (v % 256) + 256 ^ (p + 1) * (v / 256) = 256 ^ p * v := by
    rw [Nat.pow_succ, Nat.mul_assoc, ← Nat.mul_add, Nat.mod_add_div]
  have e2 : 256 ^ p * v = 256 ^ p * out.getD p 0 + 256 ^ p * z + 256 ^ p * c := by rw [hv, Nat.mul_add, Nat.mul_add]
  omega
theorem times_row {b : List Nat} {i j x S : Nat} : S + 256 ^ i * (x * leV (b.take j)) + 256 ^ (i + j) * (x * b.getD j 0) = S + 256 ^ i * (x * leV (b.take (j + 1))) := by
  rw [leV_take_step, Nat.mul_add, Nat.mul_add, Nat.pow_add]
  have e : 256 ^ i * 256 ^ j * (x * b.getD j 0) = 256 ^ i * (x * (256 ^ j * b.getD j 0)) := by
    rw [Nat.mul_assoc, Nat.mul_left_comm (256 ^ j)]
  omega
theorem times_next {a b : List Nat} {i : Nat} : leV (a.take i) * leV b + 256 ^ i * (a.getD i 0 * leV b) = leV (a.take (i + 1)) * leV b := by
  rw [leV_take_step, Nat.add_mul, Nat.mul_assoc]
theorem times_big {a b : List Nat} {i : Nat} (ha : Dg a) (hb : Dg b) : leV (a.take i) * leV b < 256 ^ (a.length + b.length + 1) := by
  have h1 := leV_lt a ha
  have h2 := leV_lt b hb
  have h3 := leV_take_le a i
  have h4 : leV (a.take i) * leV b ≤ 256 ^ a.length * 256 ^ b.length := Nat.mul_le_mul (by omega) (by omega)
  rw [Nat.pow_succ, Nat.pow_add]
  have h5 : 0 < 256 ^ a.length * 256 ^ b.length := Nat.mul_pos (Nat.pow_pos (by decide)) (Nat.pow_pos (by decide))
  omega
theorem times_room {out : List Nat} {k c S T : Nat} (h : leV out + 256 ^ k * c = S) (hS : S < 256 ^ T) (hc : 0 < c) : k < T := by
  apply Nat.lt_of_not_le
  intro hle
  have h1 : 256 ^ T ≤ 256 ^ k := Nat.pow_le_pow_right (by decide) hle
  have h2 := Nat.mul_le_mul_left (256 ^ k) hc
  omega
theorem times_end {out a b : List Nat} (ho : Dg out) (hl : out.length = a.length + b.length + 1) (h : leV out = leV (a.take a.length) * leV b) : out = digN (a.length + b.length + 1) (leV a * leV b) := by
  rw [List.take_length] at h
  exact digN_eq ho hl h
end Go.Proofs.Ytngecbnbddoldaa
