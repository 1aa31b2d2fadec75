/-
  Plain: numbers as digits of 65536, the lowest first; roots found bit by bit.
-/
import Derived.Test.YtfpbcihpjcocmaaDoorShaS
namespace Go.Proofs.YtfpbcihpjcocmaaDoor
set_option linter.unusedSimpArgs false
set_option linter.unusedVariables false
open Go.RowKit

def dval : List Nat → Nat
  | [] => 0
  | d :: r => d + 65536 * dval r
def digs : Nat → Nat → List Nat
  | 0, _ => []
  | n + 1, N => N % 65536 :: digs n (N / 65536)
theorem digs_length : ∀ n N, (digs n N).length = n
  | 0, _ => rfl
  | n + 1, N => by simp [digs, digs_length n]
theorem digs_lt : ∀ n N, ∀ d ∈ digs n N, d < 65536
  | 0, _, d, h => by simp [digs] at h
  | n + 1, N, d, h => by
    simp only [digs, List.mem_cons] at h
    rcases h with rfl | h
    · exact Nat.mod_lt _ (by decide)
    · exact digs_lt n _ d h
theorem dval_digs : ∀ n N, N < 65536 ^ n → dval (digs n N) = N
  | 0, N, h => by simp at h; simp [digs, dval, h]
  | n + 1, N, h => by
    rw [digs, dval, dval_digs n (N / 65536) (by rw [Nat.div_lt_iff_lt_mul (by decide)]; rwa [Nat.pow_succ] at h)]
    omega
theorem digs_dval : ∀ l : List Nat, (∀ d ∈ l, d < 65536) → digs l.length (dval l) = l
  | [], _ => rfl
  | d :: r, h => by
    have hd := h d (List.mem_cons_self ..)
    rw [List.length_cons, dval, digs, show (d + 65536 * dval r) % 65536 = d by omega, show (d + 65536 * dval r) / 65536 = dval r by omega, digs_dval r fun x hx => h x (List.mem_cons_of_mem _ hx)]
theorem dval_lt : ∀ l : List Nat, (∀ d ∈ l, d < 65536) → dval l < 65536 ^ l.length
  | [], _ => by simp [dval]
  | d :: r, h => by
    have hd := h d (List.mem_cons_self ..)
    have ih := dval_lt r fun x hx => h x (List.mem_cons_of_mem _ hx)
    rw [List.length_cons, dval, Nat.pow_succ]
    omega
theorem dval_take_succ : ∀ (l : List Nat) (j : Nat), j < l.length → dval (l.take (j + 1)) = dval (l.take j) + l.getD j 0 * 65536 ^ j
  | d :: r, 0, _ => by simp [dval]
  | d :: r, j + 1, h => by
    have ih := dval_take_succ r j (by simpa using h)
    rw [List.take_succ_cons, dval, ih, List.take_succ_cons, dval, List.getD_cons_succ, Nat.pow_succ]
    rw [Nat.mul_add, ← Nat.mul_assoc, Nat.mul_comm 65536 (r.getD j 0), Nat.mul_assoc (r.getD j 0), Nat.mul_comm 65536 (65536 ^ j)]
    omega
theorem dval_set : ∀ (l : List Nat) (i d : Nat), i < l.length → dval (l.set i d) + l.getD i 0 * 65536 ^ i = dval l + d * 65536 ^ i
  | x :: r, 0, d, _ => by simp [dval]; omega
  | x :: r, i + 1, d, h => by
    have ih := dval_set r i d (by simpa using h)
    rw [List.set_cons_succ, dval, dval, List.getD_cons_succ, Nat.pow_succ, ← Nat.mul_assoc, ← Nat.mul_assoc]
    omega
theorem getD_dig : ∀ (l : List Nat) (i : Nat), (∀ d ∈ l, d < 65536) → l.getD i 0 = dval l / 65536 ^ i % 65536
  | [], i, _ => by simp [dval]
  | d :: r, 0, h => by
    have hd := h d (List.mem_cons_self ..)
    simp [dval]; omega
  | d :: r, i + 1, h => by
    have hd := h d (List.mem_cons_self ..)
    rw [List.getD_cons_succ, getD_dig r i fun x hx => h x (List.mem_cons_of_mem _ hx), dval, Nat.pow_succ, Nat.mul_comm (65536 ^ i), ← Nat.div_div_eq_div_mul, show (d + 65536 * dval r) / 65536 = dval r by omega]
theorem dig_lt {l : List Nat} (h : ∀ d ∈ l, d < 65536) (i : Nat) : l.getD i 0 < 65536 := getD_lt h (by decide) i
theorem set_lt {l : List Nat} {i d : Nat} (h : ∀ x ∈ l, x < 65536) (hd : d < 65536) : ∀ x ∈ l.set i d, x < 65536 := fun x hx => by
  rcases List.mem_or_eq_of_mem_set hx with h1 | h1
  · exact h x h1
  · rw [h1]; exact hd
theorem getD_set_same (l : List Nat) (i d : Nat) (h : i < l.length) : (l.set i d).getD i 0 = d := by simp [h]
theorem getD_set_ne (l : List Nat) (i j d : Nat) (h : i ≠ j) : (l.set i d).getD j 0 = l.getD j 0 := by simp [List.getElem?_set, h]
theorem wordsV_set (K : IntKind) (l : List Nat) (i d : Nat) : (wordsV K l).toArray.setIfInBounds i (.int K (d : Int)) = (wordsV K (l.set i d)).toArray := by
  apply Array.ext'
  simp [wordsV, Array.toList_setIfInBounds, List.map_set]
/-- one step of a row of a product -/
theorem mul_step {n k c P a b d i j t : Nat} (hv : t + c * 65536 ^ (i + j) = P + a * d * 65536 ^ i) (h : n + (k * 65536 ^ (i + j)) = t + ((k + a * b + c) % 65536) * 65536 ^ (i + j)) :
    n + (k + a * b + c) / 65536 * 65536 ^ (i + (j + 1)) = P + a * (d + b * 65536 ^ j) * 65536 ^ i := by
  have e1 : 65536 ^ (i + (j + 1)) = 65536 * 65536 ^ (i + j) := by rw [← Nat.add_assoc, Nat.pow_succ, Nat.mul_comm]
  have e2 : a * (d + b * 65536 ^ j) * 65536 ^ i = a * d * 65536 ^ i + a * b * 65536 ^ (i + j) := by
    rw [Nat.mul_add, Nat.add_mul, Nat.pow_add, ← Nat.mul_assoc a b]
    congr 1
    rw [Nat.mul_assoc, Nat.mul_comm (65536 ^ j)]
  rw [e1, e2]
  generalize 65536 ^ (i + j) = q at *
  obtain ⟨v, hv2⟩ : ∃ v, v = k + a * b + c := ⟨_, rfl⟩
  have e3 : v / 65536 * (65536 * q) + v % 65536 * q = v * q := by
    rw [← Nat.mul_assoc, ← Nat.add_mul, Nat.div_add_mod']
  have e4 : v * q = k * q + a * b * q + c * q := by rw [hv2, Nat.add_mul, Nat.add_mul]
  rw [← hv2] at h ⊢
  omega
def rootX (p k : Nat) : Nat → Nat
  | 0 => 0
  | n + 1 => if p * 65536 ^ (4 * k) < (rootX p k n + 2 ^ (68 - n)) ^ k then rootX p k n else rootX p k n + 2 ^ (68 - n)
/-- the first 64 bits behind the point of a root -/
def rootN (p k : Nat) : Nat := rootX p k 69 % 2 ^ 64
theorem rootX_dvd (p k : Nat) : ∀ n, n ≤ 69 → 2 ^ (69 - n) ∣ rootX p k n
  | 0, _ => Nat.dvd_zero _
  | n + 1, h => by
    have ih := rootX_dvd p k n (by omega)
    have h1 : 2 ^ (69 - (n + 1)) ∣ rootX p k n := Nat.dvd_trans (Nat.pow_dvd_pow 2 (by omega)) ih
    rw [rootX]
    split
    · exact h1
    · rw [show 68 - n = 69 - (n + 1) by omega]
      exact Nat.dvd_add h1 (Nat.dvd_refl _)
theorem rootX_lt (p k : Nat) : ∀ n, n ≤ 69 → rootX p k n + 2 ^ (69 - n) ≤ 2 ^ 69
  | 0, _ => by simp [rootX]
  | n + 1, h => by
    have ih := rootX_lt p k n (by omega)
    have e : 2 ^ (69 - n) = 2 * 2 ^ (69 - (n + 1)) := by rw [show 69 - n = 69 - (n + 1) + 1 by omega, Nat.pow_succ, Nat.mul_comm]
    rw [rootX]
    split
    · omega
    · rw [show 68 - n = 69 - (n + 1) by omega]
      omega
theorem dig_room {X r at_ : Nat} (hr : r < 16) (h : 2 ^ (16 * at_ + r + 1) ∣ X) : X / 65536 ^ at_ % 65536 + 2 ^ r < 65536 := by
  obtain ⟨q, rfl⟩ := h
  have e1 : (65536 : Nat) ^ at_ = 2 ^ (16 * at_) := by rw [Nat.pow_mul]
  have e2 : 2 ^ (16 * at_ + r + 1) * q / 2 ^ (16 * at_) = 2 ^ (r + 1) * q := by
    rw [Nat.add_assoc, Nat.pow_add, Nat.mul_assoc, Nat.mul_div_cancel_left _ (Nat.two_pow_pos _)]
  rw [e1, e2]
  obtain ⟨s, hs⟩ : ∃ s, r + 1 + s = 16 := ⟨15 - r, by omega⟩
  have e3 : (65536 : Nat) = 2 ^ (r + 1) * 2 ^ s := by rw [← Nat.pow_add, hs]
  have h4 : 2 ^ (r + 1) * q % 65536 = 2 ^ (r + 1) * (q % 2 ^ s) := by rw [e3, Nat.mul_mod_mul_left]
  have h5 : q % 2 ^ s < 2 ^ s := Nat.mod_lt _ (Nat.two_pow_pos _)
  have h6 : 2 ^ (r + 1) * (q % 2 ^ s) + 2 ^ (r + 1) ≤ 2 ^ (r + 1) * 2 ^ s := by
    rw [← Nat.mul_succ]; exact Nat.mul_le_mul_left _ h5
  have h7 : 2 ^ (r + 1) = 2 * 2 ^ r := by rw [Nat.pow_succ, Nat.mul_comm]
  have h8 := Nat.two_pow_pos r
  omega
/-- a bit more -/
theorem dig_add {X n bit : Nat} (hX : X < 65536 ^ n) (hb : bit / 16 < n) (h : 2 ^ (bit + 1) ∣ X) :
    (digs n X).set (bit / 16) ((digs n X).getD (bit / 16) 0 + 2 ^ (bit % 16)) = digs n (X + 2 ^ bit) ∧ (digs n X).getD (bit / 16) 0 + 2 ^ (bit % 16) < 65536 := by
  have hlt := digs_lt n X
  have hv := dval_digs n X hX
  have hg := getD_dig (digs n X) (bit / 16) hlt
  rw [hv] at hg
  have hroom : (digs n X).getD (bit / 16) 0 + 2 ^ (bit % 16) < 65536 := by
    rw [hg]
    exact dig_room (Nat.mod_lt _ (by decide)) (by rw [show 16 * (bit / 16) + bit % 16 + 1 = bit + 1 by omega]; exact h)
  refine ⟨?_, hroom⟩
  have h1 := digs_dval _ (set_lt (i := bit / 16) hlt hroom)
  rw [← h1, List.length_set, digs_length]
  congr 1
  have h2 := dval_set (digs n X) (bit / 16) ((digs n X).getD (bit / 16) 0 + 2 ^ (bit % 16)) (by rw [digs_length]; exact hb)
  rw [hv, Nat.add_mul] at h2
  have h3 : 2 ^ (bit % 16) * 65536 ^ (bit / 16) = 2 ^ bit := by
    rw [show (65536 : Nat) = 2 ^ 16 from rfl, ← Nat.pow_mul, ← Nat.pow_add]
    congr 1
    omega
  rw [h3] at h2
  omega
theorem mul_i64 (a b : Nat) (h : a * b ≤ 9223372036854775807) : IntKind.i64.wrap ((a : Int) * (b : Int)) = ((a * b : Nat) : Int) := by
  rw [← Int.natCast_mul, IntKind.wrap_i64]; omega
theorem add_i64 (a b : Nat) (h : a + b ≤ 9223372036854775807) : IntKind.i64.wrap ((a : Int) + (b : Int)) = ((a + b : Nat) : Int) := by
  rw [IntKind.wrap_i64]; omega
theorem mul_w64 (a b : Nat) (h : a * b ≤ 9223372036854775807) : wrap64 ((a : Int) * (b : Int)) = ((a * b : Nat) : Int) := by
  rw [← Int.natCast_mul]; unfold wrap64; omega
theorem add_w64 (a b : Nat) (h : a + b ≤ 9223372036854775807) : wrap64 ((a : Int) + (b : Int)) = ((a + b : Nat) : Int) := by
  unfold wrap64; omega
def primesL : Nat → List Nat
  | 0 => []
  | k + 1 => if 2 ≤ k ∧ (primesL k).all (fun q => k % q != 0) then primesL k ++ [k] else primesL k
end Go.Proofs.YtfpbcihpjcocmaaDoor
