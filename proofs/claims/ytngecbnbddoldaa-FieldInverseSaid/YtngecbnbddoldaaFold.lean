/-
  Plain: what Fold reckons.
-/
import Derived.Test.YtngecbnbddoldaaRt
namespace Go.Proofs.Ytngecbnbddoldaa
set_option linter.unusedSimpArgs false
set_option linter.unusedVariables false
open Go.RowKit

/-- the number of a slice of digits in memory -/
def digVal (v : Value) (u : World) : Nat :=
  match v with
  | .slice (some ad) n _ => leV ((List.range n).map fun i => match u.cell? (ad.add i) with | some (.int _ z) => z.toNat | _ => 0)
  | _ => 0
theorem digVal_rd {u : World} {B : Nat} {A : Option Addr} {l : List Nat} (c : Nat) (h : Rd u B A (dV l)) : digVal (.slice A l.length c) u = leV l := by
  cases A with
  | none =>
    cases l with
    | nil => rfl
    | cons d r =>
      obtain ⟨ad, h1, _⟩ := h 0 (numV d) (by simp [dV])
      cases h1
  | some ad =>
    rw [digVal]
    congr 1
    apply List.ext_getElem?
    intro j
    by_cases hj : j < l.length
    · obtain ⟨ad2, h1, _, h3⟩ := h.at_ (k := j) (by rw [dV_length]; exact hj)
      injection h1 with h1
      subst h1
      rw [dV_at hj] at h3
      rw [List.getElem?_map, List.getElem?_range hj, List.getElem?_eq_getElem hj]
      simp only [Option.map_some, h3, Int.toNat_natCast]
    · rw [List.getElem?_eq_none (by simp; omega), List.getElem?_eq_none (by omega)]
theorem leV_last (l : List Nat) (h : 0 < l.length) (h0 : l.getD (l.length - 1) 0 = 0) : leV (l.take (l.length - 1)) = leV l := by
  have e := leV_take_step l (l.length - 1)
  rw [h0, Nat.mul_zero, Nat.add_zero, show l.length - 1 + 1 = l.length by omega, List.take_length] at e
  exact e.symm
theorem fold_split (l : List Nat) (h : 32 < l.length) : leV l = leV (l.take 32) + 256 ^ 32 * leV (l.drop 32) := by
  conv => lhs; rw [← List.take_append_drop 32 l, leV_append, List.length_take, Nat.min_eq_left (by omega)]
theorem fold_mod (a b : Nat) : (a + b * 38) % PN = (a + 256 ^ 32 * b) % PN := by
  rw [show (256 : Nat) ^ 32 = 38 + PN * 2 by decide, Nat.add_mul, ← Nat.add_assoc, Nat.mul_assoc, Nat.add_mul_mod_self_left, Nat.mul_comm 38]
theorem fold_less (l : List Nat) (hl : Dg l) (h : 32 < l.length) (h0 : l.getD (l.length - 1) 0 ≠ 0) : leV (l.take 32) + leV (l.drop 32) * 38 < leV l := by
  rw [fold_split l h]
  have hpos : 0 < leV (l.drop 32) := by
    rcases Nat.eq_zero_or_pos (leV (l.drop 32)) with e | e
    · exfalso
      have h1 := leV_at (l.drop 32) (dg_drop hl 32) (l.length - 33)
      rw [e, Nat.zero_div] at h1
      apply h0
      have h2 : (l.drop 32).getD (l.length - 33) 0 = l.getD (l.length - 1) 0 := by
        rw [List.getD_eq_getElem?_getD, List.getD_eq_getElem?_getD, List.getElem?_drop, show 32 + (l.length - 33) = l.length - 1 by omega]
      rw [← h2, ← h1]
    · exact e
  have e : 256 ^ 32 * leV (l.drop 32) = leV (l.drop 32) * 38 + leV (l.drop 32) * (256 ^ 32 - 38) := by
    rw [← Nat.mul_add, Nat.mul_comm]
  rw [e]
  have h3 : 0 < leV (l.drop 32) * (256 ^ 32 - 38) := Nat.mul_pos hpos (by decide)
  omega
theorem times_val {a b : List Nat} (ha : Dg a) (hb : Dg b) : leV (digN (a.length + b.length + 1) (leV a * leV b)) = leV a * leV b := by
  have h := times_big (i := a.length) ha hb
  rw [List.take_length] at h
  exact digN_val _ _ h
theorem plus_val {a b : List Nat} (ha : Dg a) (hb : Dg b) : leV (digN (max a.length b.length + 1) (leV a + leV b)) = leV a + leV b := by
  have h1 := leV_big ha (Nat.le_max_left a.length b.length)
  have h2 := leV_big hb (Nat.le_max_right a.length b.length)
  apply digN_val
  rw [Nat.pow_succ]
  omega
/-- the last steps: p less, until it is below p -/
theorem mod_less {N V : Nat} (h : V % PN = N % PN) (hv : V < PN) : V = N % PN := by rw [← h, Nat.mod_eq_of_lt hv]
theorem sub_mod {V : Nat} (h : PN ≤ V) : (V - PN) % PN = V % PN := by
  conv => rhs; rw [show V = (V - PN) + PN by omega, Nat.add_mod_right]
end Go.Proofs.Ytngecbnbddoldaa
