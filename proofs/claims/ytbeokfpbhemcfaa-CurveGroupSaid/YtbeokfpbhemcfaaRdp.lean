/-
  Plain: an element of 32 bytes.
-/
import Derived.Test.YtbeokfpbhemcfaaFv
namespace Go.Proofs.Ytbeokfpbhemcfaa
set_option linter.unusedSimpArgs false
set_option linter.unusedVariables false
open Go.RowKit

def digs (l : List UInt8) : List Nat := l.map UInt8.toNat
theorem digs_lt (l : List UInt8) : ∀ d ∈ digs l, d < 256 := fun d h => by
  obtain ⟨b, _, rfl⟩ := List.mem_map.1 h
  exact b.toNat_lt
theorem leV_lt : ∀ (l : List Nat), (∀ d ∈ l, d < 256) → leV l < 256 ^ l.length
  | [], _ => by decide
  | d :: r, h => by
    have h1 := leV_lt r fun x hx => h x (List.mem_cons_of_mem _ hx)
    have h2 := h d List.mem_cons_self
    rw [leV, List.length_cons, Nat.pow_succ]
    omega
theorem leV_at : ∀ (l : List Nat), (∀ d ∈ l, d < 256) → ∀ j, leV l / 256 ^ j % 256 = l.getD j 0
  | [], _, j => by rw [leV, Nat.zero_div]; rfl
  | d :: r, h, 0 => by
    have h2 := h d List.mem_cons_self
    rw [leV, Nat.pow_zero, Nat.div_one, List.getD_cons_zero]
    omega
  | d :: r, h, j + 1 => by
    have h1 := leV_at r (fun x hx => h x (List.mem_cons_of_mem _ hx)) j
    have h2 := h d List.mem_cons_self
    rw [leV, Nat.pow_succ, Nat.mul_comm (256 ^ j), ← Nat.div_div_eq_div_mul, show (d + 256 * leV r) / 256 = leV r by omega, h1, List.getD_cons_succ]
theorem leV_replicate (n : Nat) : leV (List.replicate n 0) = 0 := by
  induction n with
  | zero => rfl
  | succ n ih => rw [List.replicate_succ, leV, ih]
theorem leV_append : ∀ (l r : List Nat), leV (l ++ r) = leV l + 256 ^ l.length * leV r
  | [], r => by simp [leV]
  | d :: l, r => by
    rw [List.cons_append, leV, leV_append l r, leV, List.length_cons, Nat.pow_succ]
    grind
/-- 32 bytes are those of their number -/
theorem byN_leV (l : List Nat) (h : ∀ d ∈ l, d < 256) (hl : l.length = 32) : byN (leV l) = l := by
  apply List.ext_getElem?
  intro j
  by_cases hj : j < 32
  · rw [byN_at _ _ hj, leV_at l h j, List.getD_eq_getElem?_getD, List.getElem?_eq_getElem (by omega)]
    rfl
  · rw [List.getElem?_eq_none (by rw [byN_length]; omega), List.getElem?_eq_none (by omega)]
theorem byN_lt (N : Nat) : ∀ d ∈ byN N, d < 256 := fun d h => by
  obtain ⟨j, _, rfl⟩ := List.mem_map.1 h
  exact Nat.mod_lt _ (by decide)
theorem leV_ext : ∀ (l r : List Nat), l.length = r.length → (∀ d ∈ l, d < 256) → (∀ d ∈ r, d < 256) → leV l = leV r → l = r
  | [], [], _, _, _, _ => rfl
  | [], _ :: _, h, _, _, _ => by simp at h
  | _ :: _, [], h, _, _, _ => by simp at h
  | c :: l, d :: r, h, h1, h2, e => by
    have a1 := h1 c List.mem_cons_self
    have a2 := h2 d List.mem_cons_self
    rw [leV, leV] at e
    rw [leV_ext l r (by simpa using h) (fun x hx => h1 x (List.mem_cons_of_mem _ hx)) (fun x hx => h2 x (List.mem_cons_of_mem _ hx)) (by omega), show c = d by omega]
theorem leV_mod : ∀ (n N : Nat), leV ((List.range n).map fun j => N / 256 ^ j % 256) = N % 256 ^ n
  | 0, N => by rw [Nat.pow_zero, Nat.mod_one]; rfl
  | n + 1, N => by
    rw [List.range_succ_eq_map, List.map_cons, List.map_map, leV]
    have e : ((fun j => N / 256 ^ j % 256) ∘ Nat.succ) = fun j => N / 256 / 256 ^ j % 256 := by
      funext j
      show N / 256 ^ (j + 1) % 256 = _
      rw [Nat.pow_succ, Nat.mul_comm, ← Nat.div_div_eq_div_mul]
    rw [e, leV_mod n (N / 256), Nat.pow_zero, Nat.div_one, Nat.pow_succ, Nat.mul_comm (256 ^ n), Nat.mod_mul]
theorem leV_byN (N : Nat) (h : N < 256 ^ 32) : leV (byN N) = N := by
  rw [byN, leV_mod, Nat.mod_eq_of_lt h]
theorem byN_inj {N M : Nat} (h : N < 256 ^ 32) (h2 : M < 256 ^ 32) (e : byN N = byN M) : N = M := by
  rw [← leV_byN N h, ← leV_byN M h2, e]
def byB (N : Nat) : List UInt8 := (byN N).map UInt8.ofNat
theorem digs_ofNat (l : List Nat) (h : ∀ d ∈ l, d < 256) : digs (l.map UInt8.ofNat) = l := by
  rw [digs, List.map_map]
  conv => rhs; rw [← List.map_id l]
  apply List.map_congr_left
  intro d hd
  show (UInt8.ofNat d).toNat = d
  rw [UInt8.toNat_ofNat']
  exact Nat.mod_eq_of_lt (h d hd)
theorem digs_byB (N : Nat) : digs (byB N) = byN N := digs_ofNat _ (byN_lt N)
theorem bnV_digs (l : List UInt8) : bnV (digs l) = bytesV l := by
  rw [bnV, digs, List.map_map]; rfl
theorem bnV_byB (N : Nat) : bnV (byN N) = bytesV (byB N) := by rw [← bnV_digs, digs_byB]
theorem byB_length (N : Nat) : (byB N).length = 32 := by rw [byB, List.length_map, byN_length]
theorem digs_inj {l r : List UInt8} (h : digs l = digs r) : l = r := by
  have e : ∀ l : List UInt8, (digs l).map UInt8.ofNat = l := fun l => by
    rw [digs, List.map_map]
    conv => rhs; rw [← List.map_id l]
    exact List.map_congr_left fun b _ => by simp
  rw [← e l, ← e r, h]
theorem byB_digs (l : List UInt8) (h : l.length = 32) : byB (leV (digs l)) = l := by
  apply digs_inj
  rw [digs_byB, byN_leV _ (digs_lt l) (by rw [digs, List.length_map, h])]
/-- the five limbs of a number -/
def ofN (N : Nat) : E5 := ⟨N % 2251799813685248, N / 2 ^ 51 % 2251799813685248, N / 2 ^ 102 % 2251799813685248, N / 2 ^ 153 % 2251799813685248, N / 2 ^ 204 % 2251799813685248⟩
theorem ofN_at (N k : Nat) (h : k < 5) : (limbs (ofN N)).getD k 0 = N / 2 ^ (51 * k) % 2251799813685248 := by
  match k, h with
  | 0, _ => show N % 2251799813685248 = _; rw [Nat.mul_zero, Nat.pow_zero, Nat.div_one]
  | 1, _ => rfl
  | 2, _ => rfl
  | 3, _ => rfl
  | 4, _ => rfl
theorem ofN_lt (N : Nat) : (ofN N).Lt 2251799813685248 := by
  constructor <;> exact Nat.mod_lt _ (by decide)
theorem ofN_ok (N : Nat) : (ofN N).Ok := (ofN_lt N).mono (by decide)
theorem ofN_val (N : Nat) : (ofN N).val = N % 2 ^ 255 := by
  simp only [ofN, E5.val]
  rw [show (2 : Nat) ^ 51 = 2251799813685248 by decide, show (2 : Nat) ^ 102 = 5070602400912917605986812821504 by decide, show (2 : Nat) ^ 153 = 11417981541647679048466287755595961091061972992 by decide, show (2 : Nat) ^ 204 = 25711008708143844408671393477458601640355247900524685364822016 by decide, show (2 : Nat) ^ 255 = 57896044618658097711785492504343953926634992332820282019728792003956564819968 by decide]
  omega
/-- what lies behind so many bytes -/
def winN (N q k : Nat) : Nat := N / 256 ^ q % 256 ^ k
theorem win_zero (N q : Nat) : winN N q 0 = 0 := by rw [winN, Nat.pow_zero, Nat.mod_one]
theorem win_lt (N q k : Nat) (h : k ≤ 8) : winN N q k < 18446744073709551616 := by
  have h1 : winN N q k < 256 ^ k := Nat.mod_lt _ (Nat.pow_pos (by decide))
  have h2 : 256 ^ k ≤ 256 ^ 8 := Nat.pow_le_pow_right (by decide) h
  exact Nat.lt_of_lt_of_le h1 h2
theorem win_step (N q k : Nat) : winN N q k ||| N / 256 ^ (q + k) % 256 * 2 ^ (8 * k) = winN N q (k + 1) := by
  have h1 : winN N q k < 2 ^ (8 * k) := by rw [← pow256]; exact Nat.mod_lt _ (Nat.pow_pos (by decide))
  have h := Nat.shiftLeft_add_eq_or_of_lt h1 (N / 256 ^ (q + k) % 256)
  rw [Nat.shiftLeft_eq] at h
  rw [Nat.or_comm, ← h, winN, winN, Nat.pow_succ, Nat.mod_mul, Nat.pow_add, ← Nat.div_div_eq_div_mul, ← pow256, Nat.mul_comm, Nat.add_comm]
theorem win_over (N q k : Nat) (hN : N < 256 ^ 32) (h : 32 ≤ q + k) : winN N q (k + 1) = winN N q k := by
  rw [← win_step]
  have e : N / 256 ^ (q + k) = 0 := Nat.div_eq_of_lt (Nat.lt_of_lt_of_le hN (Nat.pow_le_pow_right (by decide) h))
  rw [e, Nat.zero_mod, Nat.zero_mul, Nat.or_zero]
theorem win_limb (N n : Nat) : winN N (n / 8) 8 / 2 ^ (n % 8) % 2251799813685248 = N / 2 ^ n % 2251799813685248 := by
  obtain ⟨q, r, hr, rfl⟩ : ∃ q r, r < 8 ∧ n = 8 * q + r := ⟨n / 8, n % 8, by omega, by omega⟩
  rw [show (8 * q + r) / 8 = q by omega, show (8 * q + r) % 8 = r by omega, winN, pow256, pow256, Nat.pow_add, ← Nat.div_div_eq_div_mul]
  obtain ⟨M, hM⟩ : ∃ M, M = N / 2 ^ (8 * q) := ⟨_, rfl⟩
  obtain ⟨d, hd⟩ : ∃ d, 8 * 8 = r + (51 + d) := ⟨13 - r, by omega⟩
  rw [← hM, hd, Nat.pow_add, Nat.mod_mul_right_div_self, show (2251799813685248 : Nat) = 2 ^ 51 from rfl, Nat.pow_add, Nat.mod_mul_right_mod]
/-- are 32 bytes those of an element? -/
def mayR (l : List UInt8) : Bool := decide (l.length = 32 ∧ leV (digs l) < PN)
def readE (l : List UInt8) : E5 := if mayR l then ofN (leV (digs l)) else zE
def readF (l : List UInt8) : Int := if mayR l then 0 else 2
theorem read_same (l : List UInt8) (h : l.length = 32) : (byB (leastE (ofN (leV (digs l)))).val = l) = (leV (digs l) < PN) := by
  have hN := leV_lt (digs l) (digs_lt l)
  rw [show (digs l).length = 32 by rw [digs, List.length_map, h]] at hN
  have hv : (leastE (ofN (leV (digs l)))).val = leV (digs l) % 2 ^ 255 % PN := by
    rw [least_val ((ofN_lt _).mono (by decide)), ofN_val]
  rw [hv]
  have hP : PN < 2 ^ 255 := by decide
  have hP0 : 0 < PN := by decide
  have hP2 : PN < 256 ^ 32 := by decide
  apply propext
  constructor
  · intro h1
    have h2 := congrArg (fun x => leV (digs x)) h1
    have hlt : leV (digs l) % 2 ^ 255 % PN < PN := Nat.mod_lt _ hP0
    rw [digs_byB, leV_byN _ (Nat.lt_trans hlt hP2)] at h2
    rw [← h2]; exact hlt
  · intro h1
    rw [Nat.mod_eq_of_lt (Nat.lt_trans h1 hP), Nat.mod_eq_of_lt h1, byB_digs l h]
end Go.Proofs.Ytbeokfpbhemcfaa
