/-
  Walks: the reference's Add, Sub, Mul.
-/
import Derived.Test.YtngecbnbddoldaaRf
namespace Go.Proofs.Ytngecbnbddoldaa
set_option linter.unusedSimpArgs false
set_option linter.unusedVariables false
open Go.RowKit

set_option maxHeartbeats 1000000 in
theorem radd_any (a b : List Nat) (ha : Dg a) (hb : Dg b) (A B : Option Addr) (c d : Nat) (w : World) (hra : Rd w w.heap.size A (dV a)) (hrb : Rd w w.heap.size B (dV b)) (hla : a.length ≤ 100000) (hlb : b.length ≤ 100000) :
    Calls Try.prog 30 #[.slice A a.length c, .slice B b.length d] w (DigPost (digN 32 ((leV a + leV b) % PN)) w) := by
  have hp := rplus_any a b ha hb A B c d w hra hrb (by omega) (by omega)
  obtain ⟨S, hS⟩ : ∃ S, S = digN (max a.length b.length + 1) (leV a + leV b) := ⟨_, rfl⟩
  have hSv : leV S = leV a + leV b := by rw [hS]; exact plus_val ha hb
  have hSd : Dg S := by rw [hS]; exact digN_dg _ _
  have hSl : S.length ≤ 1000000 := by rw [hS, digN_length]; omega
  rw [← hS] at hp
  rw [← hSv]
  have HP := Lib.hid hp
  have HSD := Lib.hid hSd
  have HSL := Lib.hid hSl
  generalize a.length = n at *
  generalize b.length = m at *
  clear hp hS hSv hSd hSl hra hrb hla hlb ha hb
  go_enter Try.func30, Try.ntmps30
  go_wp2_with fail
  refine calls_then HP.out ?_
  rintro e w2 ⟨A2, c2, rfl, hc2, hr2, hb2⟩
  have hf := fold_any S HSD.out A2 c2 w2 hr2 hc2 HSL.out
  have HF := Lib.hid hf
  have HB2 := Lib.hid hb2
  clear hc2 hr2 hf hb2
  go_wp2_with fail
  refine calls_then HF.out ?_
  rintro e w3 ⟨A3, c3, rfl, hc3, hr3, hb3⟩
  have HC := Lib.hid hc3
  have HR := Lib.hid hr3
  have HB3 := Lib.hid (HB2.out.trans (hb3.mono HB2.out.size))
  clear hc3 hr3 hb3
  go_wp2_with fail
  go_ret
  exact ⟨A3, c3, rfl, HC.out, HR.out, HB3.out⟩
set_option maxHeartbeats 1000000 in
theorem rmul_any (a b : List Nat) (ha : Dg a) (hb : Dg b) (A B : Option Addr) (c d : Nat) (w : World) (hra : Rd w w.heap.size A (dV a)) (hrb : Rd w w.heap.size B (dV b)) (hla : a.length ≤ 100000) (hlb : b.length ≤ 100000) :
    Calls Try.prog 31 #[.slice A a.length c, .slice B b.length d] w (DigPost (digN 32 (leV a * leV b % PN)) w) := by
  have hp := times_any a b ha hb A B c d w hra hrb (by omega) (by omega)
  obtain ⟨S, hS⟩ : ∃ S, S = digN (a.length + b.length + 1) (leV a * leV b) := ⟨_, rfl⟩
  have hSv : leV S = leV a * leV b := by rw [hS]; exact times_val ha hb
  have hSd : Dg S := by rw [hS]; exact digN_dg _ _
  have hSl : S.length ≤ 1000000 := by rw [hS, digN_length]; omega
  rw [← hS] at hp
  rw [← hSv]
  have HP := Lib.hid hp
  have HSD := Lib.hid hSd
  have HSL := Lib.hid hSl
  generalize a.length = n at *
  generalize b.length = m at *
  clear hp hS hSv hSd hSl hra hrb hla hlb ha hb
  go_enter Try.func31, Try.ntmps31
  go_wp2_with fail
  refine calls_then HP.out ?_
  rintro e w2 ⟨A2, c2, rfl, hc2, hr2, hb2⟩
  have hf := fold_any S HSD.out A2 c2 w2 hr2 hc2 HSL.out
  have HF := Lib.hid hf
  have HB2 := Lib.hid hb2
  clear hc2 hr2 hf hb2
  go_wp2_with fail
  refine calls_then HF.out ?_
  rintro e w3 ⟨A3, c3, rfl, hc3, hr3, hb3⟩
  have HC := Lib.hid hc3
  have HR := Lib.hid hr3
  have HB3 := Lib.hid (HB2.out.trans (hb3.mono HB2.out.size))
  clear hc3 hr3 hb3
  go_wp2_with fail
  go_ret
  exact ⟨A3, c3, rfl, HC.out, HR.out, HB3.out⟩
set_option maxHeartbeats 1000000 in
theorem rsub_any (a b : List Nat) (ha : Dg a) (hb : Dg b) (hle : leV b ≤ leV a + PN) (A B : Option Addr) (c d : Nat) (w : World) (hra : Rd w w.heap.size A (dV a)) (hrb : Rd w w.heap.size B (dV b)) (hla : a.length ≤ 100000) (hlb : b.length ≤ 100000) :
    Calls Try.prog 29 #[.slice A a.length c, .slice B b.length d] w (DigPost (digN 32 ((leV a + PN - leV b) % PN)) w) := by
  obtain ⟨S, hS⟩ : ∃ S, S = digN (max a.length pL.length + 1) (leV a + leV pL) := ⟨_, rfl⟩
  have hSv : leV S = leV a + PN := by rw [hS, plus_val ha pL_dg, pL_val]
  have hSd : Dg S := by rw [hS]; exact digN_dg _ _
  have hSl : S.length ≤ 1000000 := by rw [hS, digN_length, pL_len]; omega
  have hp : ∀ u, Below w.heap.size w u → ∀ A4 c4, Rd u u.heap.size A4 (dV pL) → Calls Try.prog 25 #[.slice A a.length c, .slice A4 pL.length c4] u (DigPost S u) := fun u hu A4 c4 h4 => by
    rw [hS]
    exact rplus_any a pL ha pL_dg A A4 c c4 u ((hra.below hu).mono hu.size) h4 (by omega) (by decide)
  obtain ⟨D, hD⟩ : ∃ D, D = digN S.length (leV S - leV b) := ⟨_, rfl⟩
  have hDv : leV D = leV a + PN - leV b := by
    rw [hD, digN_val, hSv]
    have h := leV_lt S hSd
    omega
  have hDd : Dg D := by rw [hD]; exact digN_dg _ _
  have hDl : D.length ≤ 1000000 := by rw [hD, digN_length]; exact hSl
  have hm : ∀ u, Below w.heap.size w u → ∀ A4 c4, Rd u u.heap.size A4 (dV S) → Calls Try.prog 36 #[.slice A4 S.length c4, .slice B b.length d] u (DigPost D u) := fun u hu A4 c4 h4 => by
    rw [hD]
    exact minus_any S b hSd hb (by rw [hSv]; exact hle) A4 B c4 d u h4 ((hrb.below hu).mono hu.size) hSl (by omega)
  rw [← hDv]
  have HP := Lib.hid hp
  have HMI := Lib.hid hm
  have HDD := Lib.hid hDd
  have HDL := Lib.hid hDl
  generalize a.length = n at *
  generalize b.length = m at *
  clear hp hm hS hSv hSd hSl hD hDv hDd hDl hra hrb hla hlb ha hb hle
  go_enter Try.func29, Try.ntmps29
  go_wp2_with fail
  refine calls_then (p_any _) ?_
  rintro e w1 ⟨A1, c1, rfl, hc1, hr1, hb1⟩
  have HC1 := Lib.hid (HP.out w1 hb1 A1 c1 hr1)
  have HB1 := Lib.hid hb1
  clear hc1 hr1 hb1
  go_wp2_with fail
  refine calls_then HC1.out ?_
  rintro e w2 ⟨A2, c2, rfl, hc2, hr2, hb2⟩
  have HB2 := Lib.hid (HB1.out.trans (hb2.mono HB1.out.size))
  have HC2 := Lib.hid (HMI.out w2 HB2.out A2 c2 hr2)
  clear hc2 hr2 hb2
  go_wp2_with fail
  refine calls_then HC2.out ?_
  rintro e w3 ⟨A3, c3, rfl, hc3, hr3, hb3⟩
  have HB3 := Lib.hid (HB2.out.trans (hb3.mono HB2.out.size))
  have hf := fold_any D HDD.out A3 c3 w3 hr3 hc3 HDL.out
  have HF := Lib.hid hf
  clear hc3 hr3 hb3 hf
  go_wp2_with fail
  refine calls_then HF.out ?_
  rintro e w4 ⟨A4, c4, rfl, hc4, hr4, hb4⟩
  have HC := Lib.hid hc4
  have HR := Lib.hid hr4
  have HB4 := Lib.hid (HB3.out.trans (hb4.mono HB3.out.size))
  clear hc4 hr4 hb4
  go_wp2_with fail
  go_ret
  exact ⟨A4, c4, rfl, HC.out, HR.out, HB4.out⟩
end Go.Proofs.Ytngecbnbddoldaa
