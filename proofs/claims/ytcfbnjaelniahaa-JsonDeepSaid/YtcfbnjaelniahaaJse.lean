/-
  Plain: json's reader: what stands behind a backslash.
-/
import Derived.Test.YtcfbnjaelniahaaJs3
namespace Go.Proofs.Ytcfbnjaelniahaa.Js
set_option linter.unusedSimpArgs false
set_option linter.unusedVariables false
open Go.RowKit

def hexI (c : UInt8) : Int := Lib.indexByte [48, 49, 50, 51, 52, 53, 54, 55, 56, 57, 97, 98, 99, 100, 101, 102] (low c)
theorem hexI_eq (c : UInt8) : hexI c = (match hexv (low c) with | some v => (v : Int) | none => -1) := by
  have key : ∀ k : Fin 256, hexI (UInt8.ofNat k.1) = (match hexv (low (UInt8.ofNat k.1)) with | some v => (v : Int) | none => -1) := by decide +kernel
  have := key ⟨c.toNat, c.toNat_lt⟩
  simpa using this
theorem hexI_range (c : UInt8) : -1 ≤ hexI c ∧ hexI c ≤ 15 := by
  have key : ∀ k : Fin 256, -1 ≤ hexI (UInt8.ofNat k.1) ∧ hexI (UInt8.ofNat k.1) ≤ 15 := by decide +kernel
  have := key ⟨c.toNat, c.toNat_lt⟩
  simpa using this
def hexBad (x y : Int) : Bool := decide (x < 0) || decide (y < 0) || decide (126 < 16 * x + y)
theorem hexP_no (c d : UInt8) (h : hexBad (hexI c) (hexI d) = true) : hexP 48 48 c d = none := by
  rw [hexI_eq, hexI_eq] at h
  unfold hexP
  rw [if_pos ⟨rfl, rfl⟩]
  cases hc : hexv (low c) with
  | none => rfl
  | some x =>
    cases hd : hexv (low d) with
    | none => rfl
    | some y =>
      simp only [hc, hd, hexBad, Bool.or_eq_true, decide_eq_true_eq] at h
      simp only []
      rw [if_neg (by omega)]
theorem hexP_yes (c d : UInt8) (h : hexBad (hexI c) (hexI d) = false) : 0 ≤ hexI c ∧ 0 ≤ hexI d ∧ 16 * hexI c + hexI d ≤ 126 ∧ hexP 48 48 c d = some (UInt8.ofNat (16 * hexI c + hexI d).toNat) := by
  rw [hexI_eq, hexI_eq] at h ⊢
  unfold hexP
  rw [if_pos ⟨rfl, rfl⟩]
  cases hc : hexv (low c) with
  | none => simp [hc, hexBad] at h
  | some x =>
    cases hd : hexv (low d) with
    | none => simp [hd, hexBad] at h
    | some y =>
      simp only [hc, hd, hexBad, Bool.or_eq_false_iff, decide_eq_false_iff_not] at h
      simp only []
      rw [if_pos (by omega)]
      refine ⟨by omega, by omega, by omega, ?_⟩
      congr 2
/-- the letter and the four bytes behind it fit no sign -/
theorem escP_un {L T : Bs} (hT : T = L.tail.take 4) (h : esc (look L) = none) (hb : ¬ (look L = 117 ∧ T.length = 4 ∧ T.take 2 = [48, 48])) : escP L = none := by
  cases L with
  | nil => rfl
  | cons d r =>
    simp only [look] at h hb
    simp only [List.tail_cons] at hT
    simp only [escP, h]
    by_cases hd : d = 117
    · rw [if_pos hd]
      match r, hT with
      | [], _ => rfl
      | [_], _ => rfl
      | [_, _], _ => rfl
      | [_, _, _], _ => rfl
      | a0 :: a1 :: a2 :: a3 :: r2, hT =>
        have : ¬ (a0 = 48 ∧ a1 = 48) := fun ⟨h0, h1⟩ => hb ⟨hd, by rw [hT]; simp, by rw [hT, h0, h1]; rfl⟩
        simp only [hexP, if_neg this]
    · rw [if_neg hd]
theorem escP_u {L T : Bs} {c d : UInt8} (hT : T = L.tail.take 4) (h : esc (look L) = none) (h1 : look L = 117) (h4 : T = [48, 48, c, d]) :
    escP L = match hexP 48 48 c d with | some b => some (b, L.drop 5) | none => none := by
  cases L with
  | nil => rw [hT] at h4; simp at h4
  | cons x r =>
    simp only [look] at h h1
    simp only [List.tail_cons] at hT
    rw [hT] at h4
    simp only [escP, h]
    rw [if_pos h1]
    match r, h4 with
    | [], h4 => simp at h4
    | [_], h4 => simp at h4
    | [_, _], h4 => simp at h4
    | [_, _, _], h4 => simp at h4
    | a0 :: a1 :: a2 :: a3 :: r2, h4 =>
      simp only [List.take_succ_cons, List.take_zero, List.cons.injEq, and_true] at h4
      obtain ⟨rfl, rfl, rfl, rfl⟩ := h4
      show (match hexP 48 48 a2 a3 with | some b => some (b, r2) | none => none) = _
      simp only [List.drop_succ_cons, List.drop_zero]
theorem escP_esc {L : Bs} {b : UInt8} (h : esc (look L) = some b) : escP L = some (b, L.tail) := by
  cases L with
  | nil => simp [look, esc] at h
  | cons d r =>
    simp only [look] at h
    simp only [escP, h, List.tail_cons]
theorem esc_low {c b : UInt8} (h : esc c = some b) : c ≠ 0 := fun h0 => by rw [h0] at h; simp [esc] at h
theorem esc_117 : esc 117 = none := by decide
/-- what escape leaves as the reader's fault -/
def escE : Option (UInt8 × Bs) → Int
  | none => 13
  | some _ => 0
def escV : Option (UInt8 × Bs) → UInt8
  | none => 0
  | some (b, _) => b
end Go.Proofs.Ytcfbnjaelniahaa.Js
