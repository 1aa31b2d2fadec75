/-
  Walks: json's reader: what a byte behind a backslash means.
-/
import Derived.Test.YtcfbnjaelniahaaMp8
import Derived.Test.YtcfbnjaelniahaaJs3
import Derived.Carry
namespace Go.Proofs.Ytcfbnjaelniahaa.Js
set_option linter.unusedSimpArgs false
set_option linter.unusedVariables false
open Go.RowKit

def mE (k v : Int) (b : Nat) : MapEntry := ⟨.int .u8 k, .int .u8 v, b⟩
def signsE : Array MapEntry := #[mE 34 34 0, mE 92 92 1, mE 47 47 2, mE 98 8 3, mE 102 12 4, mE 110 10 5, mE 114 13 6, mE 116 9 7]
set_option maxHeartbeats 2000000 in
theorem signs_any (w : World) : Calls Try.prog 65 #[] w fun x w' => x = .returned (.map (some w.heap.size)) ∧ MapB w' w.heap.size signsE ∧ Below w.heap.size w w' := by
  have ht := Try.underlying93
  have hk := Try.underlying5
  have hmm := @run_makeMap Try.prog
  have HB := Lib.hid ((Below.refl w.heap.size w).alloc (Nat.le_refl _) (.map #[] 0))
  have M0 := Lib.hid (MapB.new w)
  go_enter Try.func65, Try.ntmps65
  go_wp2_with (first
    | (refine wpList_insert8 (x := 34) ht hk rfl rfl rfl rfl rfl M0.out rfl ?_; intro w1 m1 g1; have M1 := Lib.hid m1; have G1 := Lib.hid (HB.out.grown g1 HB.out.size (by intro k h; injection h with h; omega)); clear m1 g1)
    | (refine wpList_insert8 (x := 92) ht hk rfl rfl rfl rfl rfl M1.out rfl ?_; intro w2 m2 g2; have M2 := Lib.hid m2; have G2 := Lib.hid (G1.out.grown g2 G1.out.size (by intro k h; injection h with h; omega)); clear m2 g2)
    | (refine wpList_insert8 (x := 47) ht hk rfl rfl rfl rfl rfl M2.out rfl ?_; intro w3 m3 g3; have M3 := Lib.hid m3; have G3 := Lib.hid (G2.out.grown g3 G2.out.size (by intro k h; injection h with h; omega)); clear m3 g3)
    | (refine wpList_insert8 (x := 98) ht hk rfl rfl rfl rfl rfl M3.out rfl ?_; intro w4 m4 g4; have M4 := Lib.hid m4; have G4 := Lib.hid (G3.out.grown g4 G3.out.size (by intro k h; injection h with h; omega)); clear m4 g4)
    | (refine wpList_insert8 (x := 102) ht hk rfl rfl rfl rfl rfl M4.out rfl ?_; intro w5 m5 g5; have M5 := Lib.hid m5; have G5 := Lib.hid (G4.out.grown g5 G4.out.size (by intro k h; injection h with h; omega)); clear m5 g5)
    | (refine wpList_insert8 (x := 110) ht hk rfl rfl rfl rfl rfl M5.out rfl ?_; intro w6 m6 g6; have M6 := Lib.hid m6; have G6 := Lib.hid (G5.out.grown g6 G5.out.size (by intro k h; injection h with h; omega)); clear m6 g6)
    | (refine wpList_insert8 (x := 114) ht hk rfl rfl rfl rfl rfl M6.out rfl ?_; intro w7 m7 g7; have M7 := Lib.hid m7; have G7 := Lib.hid (G6.out.grown g7 G6.out.size (by intro k h; injection h with h; omega)); clear m7 g7)
    | (refine wpList_insert8 (x := 116) ht hk rfl rfl rfl rfl rfl M7.out rfl ?_; intro w8 m8 g8; have M8 := Lib.hid m8; have G8 := Lib.hid (G7.out.grown g8 G7.out.size (by intro k h; injection h with h; omega)); clear m8 g8))
  go_ret
  exact ⟨rfl, M8.out, G8.out⟩
theorem signs_found (c : UInt8) : ∃ r, Instr.findNow (.int .u8) (.int .u8 ((c.toNat : Nat) : Int)) signsE.toList 0 = some r ∧
    found8 (.int .u8 0) r = (match esc c with | some b => (byteV b, true) | none => (.int .u8 0, false)) := by
  have hne : ∀ k : UInt8, c ≠ k → (((c.toNat : Nat) : Int) == ((k.toNat : Nat) : Int)) = false := fun k h => by
    simp only [beq_eq_false_iff_ne, ne_eq]
    intro h2
    exact h (UInt8.toNat.inj (by omega))
  by_cases h1 : c = 34
  · subst h1; exact ⟨_, rfl, rfl⟩
  by_cases h2 : c = 92
  · subst h2; exact ⟨_, rfl, rfl⟩
  by_cases h3 : c = 47
  · subst h3; exact ⟨_, rfl, rfl⟩
  by_cases h4 : c = 98
  · subst h4; exact ⟨_, rfl, rfl⟩
  by_cases h5 : c = 102
  · subst h5; exact ⟨_, rfl, rfl⟩
  by_cases h6 : c = 110
  · subst h6; exact ⟨_, rfl, rfl⟩
  by_cases h7 : c = 114
  · subst h7; exact ⟨_, rfl, rfl⟩
  by_cases h8 : c = 116
  · subst h8; exact ⟨_, rfl, rfl⟩
  refine ⟨none, ?_, ?_⟩
  · have e1 := hne _ h1; have e2 := hne _ h2; have e3 := hne _ h3; have e4 := hne _ h4; have e5 := hne _ h5; have e6 := hne _ h6; have e7 := hne _ h7; have e8 := hne _ h8
    simp only [signsE, mE, Instr.findNow, Instr.sameNow, if_true]
    rw [show ((34 : UInt8).toNat : Int) = 34 from rfl] at e1
    rw [show ((92 : UInt8).toNat : Int) = 92 from rfl] at e2
    rw [show ((47 : UInt8).toNat : Int) = 47 from rfl] at e3
    rw [show ((98 : UInt8).toNat : Int) = 98 from rfl] at e4
    rw [show ((102 : UInt8).toNat : Int) = 102 from rfl] at e5
    rw [show ((110 : UInt8).toNat : Int) = 110 from rfl] at e6
    rw [show ((114 : UInt8).toNat : Int) = 114 from rfl] at e7
    rw [show ((116 : UInt8).toNat : Int) = 116 from rfl] at e8
    simp only [e1, e2, e3, e4, e5, e6, e7, e8]
  · have : esc c = none := by simp [esc, h1, h2, h3, h4, h5, h6, h7, h8]
    rw [this]
    rfl
set_option maxHeartbeats 1000000 in
theorem lower_any (c : UInt8) (w : World) : Calls Try.prog 66 #[byteV c] w fun x w' => x = .returned (byteV (low c)) ∧ w' = w := by
  unfold byteV
  obtain ⟨z, hz⟩ : ∃ z : Int, z = ((c.toNat : Nat) : Int) := ⟨_, rfl⟩
  have HV := Lib.hid (show (((low c).toNat : Nat) : Int) = if 65 ≤ z ∧ z ≤ 70 then z + 32 else z by
    unfold low
    by_cases h : 65 ≤ c ∧ c ≤ 70
    · have h1 : 65 ≤ c.toNat ∧ c.toNat ≤ 70 := by simpa [UInt8.le_iff_toNat_le] using h
      rw [if_pos h, if_pos (by omega), UInt8.toNat_add, hz]
      show (((c.toNat + 32) % 256 : Nat) : Int) = _
      omega
    · have h1 : ¬ (65 ≤ c.toNat ∧ c.toNat ≤ 70) := by simpa [UInt8.le_iff_toNat_le] using h
      rw [if_neg h, if_neg (by omega), hz])
  have h0 : 0 ≤ z := by omega
  have h255 : z < 256 := by have := c.toNat_lt; omega
  rw [← hz, HV.out]
  clear hz
  by_cases h1 : 65 ≤ z
  · by_cases h2 : z ≤ 70
    · go_enter Try.func66, Try.ntmps66
      go_wp2_with fail
      go_ret
      exact ⟨by first | rfl | (rw [if_pos ⟨h1, h2⟩]; rfl) | (simp [h1, h2]; omega), rfl⟩
    · go_enter Try.func66, Try.ntmps66
      go_wp2_with fail
      go_ret
      exact ⟨by first | rfl | (rw [if_neg (fun h => h2 h.2)]; rfl) | (simp [h1, h2]; omega), rfl⟩
  · go_enter Try.func66, Try.ntmps66
    go_wp2_with fail
    go_ret
    exact ⟨by first | rfl | (rw [if_neg (fun h => h1 h.1)]; rfl) | (simp [h1]; omega), rfl⟩
end Go.Proofs.Ytcfbnjaelniahaa.Js
