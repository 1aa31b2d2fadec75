/-
  Plain: sums, differences and products of digits.
-/
import Derived.Test.YtbeokfpbhemcfaaRl
import Derived.Laws.MakeOwn
import Derived.Laws.OwnMore
namespace Go.Proofs.Ytbeokfpbhemcfaa
set_option linter.unusedSimpArgs false
set_option linter.unusedVariables false
open Go.RowKit

/-- so many digits of a number -/
def digN (n N : Nat) : List Nat := (List.range n).map fun j => N / 256 ^ j % 256
theorem digN_length (n N : Nat) : (digN n N).length = n := by simp [digN]
theorem digN_dg (n N : Nat) : Dg (digN n N) := fun d h => by
  obtain ⟨j, _, rfl⟩ := List.mem_map.1 h
  exact Nat.mod_lt _ (by decide)
theorem digN_val (n N : Nat) (h : N < 256 ^ n) : leV (digN n N) = N := by rw [digN, leV_mod, Nat.mod_eq_of_lt h]
theorem digN_eq {l : List Nat} {n N : Nat} (h : Dg l) (hl : l.length = n) (hv : leV l = N) : l = digN n N := by
  have hlt := leV_lt l h
  rw [hv, hl] at hlt
  exact leV_ext l _ (by rw [hl, digN_length]) h (digN_dg n N) (by rw [hv, digN_val n N hlt])
theorem byN_dig (N : Nat) : byN N = digN 32 N := rfl
theorem dg_snoc {l : List Nat} {d : Nat} (h : Dg l) (hd : d < 256) : Dg (l ++ [d]) := fun x hx => by
  rcases List.mem_append.1 hx with h1 | h1
  · exact h x h1
  · rw [List.mem_singleton.1 h1]; exact hd
theorem dg_take {l : List Nat} (h : Dg l) (k : Nat) : Dg (l.take k) := fun x hx => h x (List.mem_of_mem_take hx)
theorem dg_drop {l : List Nat} (h : Dg l) (k : Nat) : Dg (l.drop k) := fun x hx => h x (List.mem_of_mem_drop hx)
theorem dg_set {l : List Nat} (h : Dg l) (k d : Nat) (hd : d < 256) : Dg (l.set k d) := fun x hx => by
  rcases List.mem_or_eq_of_mem_set hx with h1 | h1
  · exact h x h1
  · rw [h1]; exact hd
/-- what is laid, and what is not yet -/
def partL (out : List Nat) (n : Nat) : List Nat := out ++ List.replicate (n - out.length) 0
theorem partL_length (out : List Nat) (n : Nat) (h : out.length ≤ n) : (partL out n).length = n := by simp [partL]; omega
theorem partL_nil (n : Nat) : partL [] n = List.replicate n 0 := rfl
theorem partL_full (out : List Nat) (n : Nat) (h : out.length = n) : partL out n = out := by simp [partL, h]
theorem partL_set (out : List Nat) (n k d : Nat) (hk : out.length = k) (h : k < n) : (partL out n).set k d = partL (out ++ [d]) n := by
  subst hk
  obtain ⟨r, hr⟩ : ∃ r, n - out.length = r + 1 := ⟨n - out.length - 1, by omega⟩
  have hr2 : n - (out ++ [d]).length = r := by simp; omega
  rw [partL, partL, hr, hr2, List.set_append_right _ _ (Nat.le_refl _), Nat.sub_self, List.replicate_succ, List.set_cons_zero]
  simp
/-- a number at so many digits -/
theorem leV_take_le (l : List Nat) (k : Nat) : leV (l.take k) ≤ leV l := by
  conv => rhs; rw [← List.take_append_drop k l, leV_append]
  omega
theorem leV_take_all (l : List Nat) (k : Nat) (h : l.length ≤ k) : leV (l.take k) = leV l := by rw [List.take_of_length_le h]
theorem leV_take_of {l : List Nat} {k N : Nat} (h : leV l ≤ N) (hN : N < 256 ^ k) : leV (l.take k) = leV l := by
  by_cases hk : l.length ≤ k
  · exact leV_take_all l k hk
  · have e := leV_append (l.take k) (l.drop k)
    rw [List.take_append_drop, List.length_take, Nat.min_eq_left (by omega)] at e
    have : leV (l.drop k) = 0 := by
      rcases Nat.eq_zero_or_pos (leV (l.drop k)) with h0 | h0
      · exact h0
      · have := Nat.mul_le_mul_left (256 ^ k) h0
        omega
    rw [this, Nat.mul_zero] at e
    omega
theorem plus_step {out a b : List Nat} {k c : Nat} (hl : out.length = k) (h : leV out + 256 ^ k * c = leV (a.take k) + leV (b.take k)) :
    leV (out ++ [(c + a.getD k 0 + b.getD k 0) % 256]) + 256 ^ (k + 1) * ((c + a.getD k 0 + b.getD k 0) / 256) = leV (a.take (k + 1)) + leV (b.take (k + 1)) := by
  obtain ⟨v, hv⟩ : ∃ v, v = c + a.getD k 0 + b.getD k 0 := ⟨_, rfl⟩
  rw [← hv, leV_snoc, hl, leV_take_step, leV_take_step, Nat.pow_succ]
  have e : 256 ^ k * (v % 256) + 256 ^ k * 256 * (v / 256) = 256 ^ k * v := by
    rw [Nat.mul_assoc, ← Nat.mul_add, Nat.mod_add_div]
  have e2 : 256 ^ k * v = 256 ^ k * c + 256 ^ k * a.getD k 0 + 256 ^ k * b.getD k 0 := by rw [hv, Nat.mul_add, Nat.mul_add]
  omega
theorem plus_end {out a b : List Nat} {n c : Nat} (ha : Dg a) (hb : Dg b) (ho : Dg out) (hl : out.length = n + 1) (hna : a.length ≤ n) (hnb : b.length ≤ n) (h : leV out + 256 ^ (n + 1) * c = leV (a.take (n + 1)) + leV (b.take (n + 1))) : out = digN (n + 1) (leV a + leV b) := by
  rw [leV_take_all a _ (by omega), leV_take_all b _ (by omega)] at h
  have h1 := leV_big ha hna
  have h2 := leV_big hb hnb
  have hc : c = 0 := by
    rcases Nat.eq_zero_or_pos c with h0 | h0
    · exact h0
    · have := Nat.mul_le_mul_left (256 ^ (n + 1)) h0
      rw [Nat.pow_succ] at *
      omega
  rw [hc, Nat.mul_zero, Nat.add_zero] at h
  exact digN_eq ho hl h
/-- one digit less: what is laid, and what is borrowed -/
def subD (a b s : Nat) : Nat := if a < s + b then a + 256 - s - b else a - s - b
def subC (a b s : Nat) : Nat := if a < s + b then 1 else 0
theorem minus_step {out a b : List Nat} {k s : Nat} (hb : Dg b) (hs : s ≤ 1) (hl : out.length = k) (h : leV out + leV (b.take k) = leV (a.take k) + 256 ^ k * s) :
    leV (out ++ [subD (a.getD k 0) (b.getD k 0) s]) + leV (b.take (k + 1)) = leV (a.take (k + 1)) + 256 ^ (k + 1) * subC (a.getD k 0) (b.getD k 0) s := by
  obtain ⟨x, hx⟩ : ∃ x, x = a.getD k 0 := ⟨_, rfl⟩
  obtain ⟨y, hy⟩ : ∃ y, y = b.getD k 0 := ⟨_, rfl⟩
  have hyl := dg_getD hb k
  rw [leV_snoc, hl, leV_take_step, leV_take_step, ← hx, ← hy, Nat.pow_succ]
  have e : 256 ^ k * subD x y s + 256 ^ k * s + 256 ^ k * y = 256 ^ k * x + 256 ^ k * 256 * subC x y s := by
    rw [Nat.mul_assoc, ← Nat.mul_add, ← Nat.mul_add, ← Nat.mul_add]
    congr 1
    unfold subD subC
    split <;> omega
  omega
theorem subD_lt {a b s : Nat} (ha : a < 256) (hb : b < 256) (hs : s ≤ 1) : subD a b s < 256 := by unfold subD; split <;> omega
theorem subC_le (a b s : Nat) : subC a b s ≤ 1 := by unfold subC; split <;> omega
theorem minus_end {out a b : List Nat} {n s : Nat} (ha : Dg a) (hb : Dg b) (ho : Dg out) (hl : out.length = n) (hna : a.length = n) (hle : leV b ≤ leV a) (h : leV out + leV (b.take n) = leV (a.take n) + 256 ^ n * s) : out = digN n (leV a - leV b) := by
  have h1 := leV_big ha (Nat.le_of_eq hna)
  have h3 := leV_big ho (Nat.le_of_eq hl)
  rw [leV_take_all a _ (by omega), leV_take_of hle h1] at h
  have hs : s = 0 := by
    rcases Nat.eq_zero_or_pos s with h0 | h0
    · exact h0
    · have := Nat.mul_le_mul_left (256 ^ n) h0
      omega
  rw [hs, Nat.mul_zero, Nat.add_zero] at h
  exact digN_eq ho hl (by omega)
theorem make_ints (n : Nat) (hn : n ≤ 4000000) (u : World) : (Instr.makeSlice 32 (.int .i64 (n : Int)) (.int .i64 (n : Int))).run Try.prog u = .ok (.slice (some ⟨u.heap.size, 0, none⟩) n n) (u.alloc (.cells (dV (partL [] n)).toArray 3)) := by
  have hi : (Try.prog.info? 3).map (fun i => (i.zero, i.size, i.bytes)) = some (some (.int .i64 0), 1, 8) := by kernel_rfl
  obtain ⟨i, h1, hi2⟩ := Option.map_eq_some_iff.1 hi
  have h2 : i.zero = some (.int .i64 0) := congrArg (·.1) hi2
  have h3 : i.size = 1 := congrArg (·.2.1) hi2
  have h4 : i.bytes = 8 := congrArg (·.2.2) hi2
  have h := run_makeSlice (P := Try.prog) u 32 3 i (.int .i64 0) Try.underlying32 h1 h2 .i64 .i64 (n : Int) (n : Int) (by omega) (by omega) (by rw [h3, Int.toNat_natCast]; omega) (by rw [h4]; omega) (by omega)
  rw [Int.toNat_natCast, h3] at h
  have e : madeCells (Value.int .i64 0).cells (n * 1) = (dV (partL [] n)).toArray := by
    apply Array.ext'
    rw [Nat.mul_one, show (Value.int IntKind.i64 0).cells = #[.int .i64 0] from rfl, toList_madeCells_one, partL_nil, dV, List.map_replicate]
    rfl
  rw [h, e]
end Go.Proofs.Ytbeokfpbhemcfaa
