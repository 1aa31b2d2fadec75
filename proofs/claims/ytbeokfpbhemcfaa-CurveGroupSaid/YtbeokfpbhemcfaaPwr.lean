/-
  Plain: powers by squares, bit by bit from the highest on.
-/
import Derived.Test.YtbeokfpbhemcfaaFi
namespace Go.Proofs.Ytbeokfpbhemcfaa
set_option linter.unusedSimpArgs false
set_option linter.unusedVariables false
open Go.RowKit

/-- one bit more of the exponent -/
def pwS (x out : E5) (bit : Nat) : E5 := if bit = 1 then mulE (mulE out out) x else mulE out out
/-- so many bits of a byte, from the highest on -/
def pwB (x out : E5) (b : Nat) : Nat → E5
  | 0 => out
  | j + 1 => pwS x (pwB x out b j) (b / 2 ^ (7 - j) % 2)
/-- so many bytes, from the last on -/
def pwL (x : E5) (l : List Nat) : Nat → E5
  | 0 => natE 1
  | j + 1 => pwB x (pwL x l j) (l.getD (l.length - 1 - j) 0) 8
theorem pwS_ok {x out : E5} (hx : x.Ok) (ho : out.Ok) (bit : Nat) : (pwS x out bit).Ok := by
  unfold pwS
  split
  · exact mul_ok (mul_ok ho ho) hx
  · exact mul_ok ho ho
theorem pwB_ok {x out : E5} (hx : x.Ok) (ho : out.Ok) (b : Nat) : ∀ j, (pwB x out b j).Ok
  | 0 => ho
  | j + 1 => pwS_ok hx (pwB_ok hx ho b j) _
theorem pwL_ok {x : E5} (hx : x.Ok) (l : List Nat) : ∀ j, (pwL x l j).Ok
  | 0 => natE_ok (by decide)
  | j + 1 => pwB_ok hx (pwL_ok hx l j) _ 8
theorem pow_mod_mul (a n m : Nat) : a ^ n % PN * (a ^ m % PN) % PN = a ^ (n + m) % PN := by
  rw [← Nat.mul_mod, Nat.pow_add]
theorem pwS_val {x out : E5} {n bit : Nat} (h : out.val % PN = x.val ^ n % PN) (hb : bit < 2) : (pwS x out bit).val % PN = x.val ^ (2 * n + bit) % PN := by
  have h2 : (mulE out out).val % PN = x.val ^ (2 * n) % PN := by
    rw [mul_val, Nat.mul_mod, h, pow_mod_mul, Nat.two_mul]
  unfold pwS
  split
  · next e => rw [mul_val, Nat.mul_mod, h2, e, ← Nat.pow_one (x.val), Nat.pow_one, Nat.pow_add, Nat.pow_one, ← Nat.mul_mod]
  · next e =>
    obtain rfl : bit = 0 := by omega
    exact h2
theorem pwB_val {x out : E5} {n : Nat} (h : out.val % PN = x.val ^ n % PN) (b : Nat) : ∀ j, j ≤ 8 → (pwB x out b j).val % PN = x.val ^ (n * 2 ^ j + b % 256 / 2 ^ (8 - j)) % PN
  | 0, _ => by
    have e : b % 256 / 2 ^ (8 - 0) = 0 := Nat.div_eq_of_lt (Nat.mod_lt _ (by decide))
    rw [e, Nat.pow_zero, Nat.mul_one, Nat.add_zero]
    exact h
  | j + 1, hj => by
    have ih := pwB_val h b j (by omega)
    have e := pwS_val (bit := b / 2 ^ (7 - j) % 2) ih (Nat.mod_lt _ (by decide))
    rw [pwB, e]
    congr 2
    have hp : 2 ^ (8 - j) = 2 ^ (7 - j) * 2 := by rw [← Nat.pow_succ]; congr 1; omega
    have h1 : b % 256 / 2 ^ (8 - j) = b % 256 / 2 ^ (7 - j) / 2 := by rw [hp, Nat.div_div_eq_div_mul]
    have h2 : b / 2 ^ (7 - j) % 2 = b % 256 / 2 ^ (7 - j) % 2 := by
      obtain ⟨d, hd⟩ : ∃ d, 8 = (7 - j) + (1 + d) := ⟨j, by omega⟩
      have h8 : 2 ^ (7 - j) * (2 * 2 ^ d) = 256 := by
        have h9 : 2 ^ ((7 - j) + (1 + d)) = 256 := by rw [← hd]
        rw [Nat.pow_add, Nat.pow_add, Nat.pow_one] at h9
        exact h9
      obtain ⟨c, hc⟩ : ∃ c, c = b / 256 := ⟨_, rfl⟩
      have e4 : 2 ^ (7 - j) * (2 * (2 ^ d * c)) = 256 * c := by rw [← h8]; simp only [Nat.mul_assoc]
      have e3 : b = b % 256 + 2 ^ (7 - j) * (2 * (2 ^ d * c)) := by rw [e4, hc]; exact (Nat.mod_add_div b 256).symm
      conv => lhs; rw [e3, Nat.add_mul_div_left _ _ (Nat.two_pow_pos _), Nat.add_mul_mod_self_left]
    rw [h1, h2, show 8 - (j + 1) = 7 - j by omega, Nat.pow_succ]
    have e5 : 2 * (n * 2 ^ j + b % 256 / 2 ^ (7 - j) / 2) = n * (2 ^ j * 2) + 2 * (b % 256 / 2 ^ (7 - j) / 2) := by
      rw [Nat.mul_add, ← Nat.mul_assoc n, Nat.mul_comm 2 (n * 2 ^ j)]
    rw [e5]
    omega
/-- a number of digits of 256, the lowest first -/
def leV : List Nat → Nat
  | [] => 0
  | d :: r => d + 256 * leV r
theorem pwL_val (x : E5) (l : List Nat) (hl : ∀ d ∈ l, d < 256) : ∀ j, j ≤ l.length → (pwL x l j).val % PN = x.val ^ leV (l.drop (l.length - j)) % PN
  | 0, _ => by
    rw [Nat.sub_zero, List.drop_length, leV, Nat.pow_zero, pwL, natE_val]
  | j + 1, hj => by
    have hlt : l.length - 1 - j < l.length := by omega
    have hd : l.getD (l.length - 1 - j) 0 = l[l.length - 1 - j] := by rw [List.getD_eq_getElem?_getD, List.getElem?_eq_getElem hlt]; rfl
    have hb : l[l.length - 1 - j] < 256 := hl _ (List.getElem_mem hlt)
    rw [pwL, pwB_val (pwL_val x l hl j (by omega)) _ 8 (Nat.le_refl _), hd, Nat.mod_eq_of_lt hb, show l.length - (j + 1) = l.length - 1 - j by omega, List.drop_eq_getElem_cons hlt, leV, show l.length - 1 - j + 1 = l.length - j by omega]
    congr 2
    rw [show 8 - 8 = 0 from rfl, Nat.pow_zero, Nat.div_one, show (2 : Nat) ^ 8 = 256 from rfl, Nat.mul_comm]
    omega
end Go.Proofs.Ytbeokfpbhemcfaa
