/-
  Walk: the law's lives.
-/
import Derived.Test.YtbeokfpbhemcfaaPtn
namespace Go.Proofs.Ytbeokfpbhemcfaa
set_option linter.unusedSimpArgs false
set_option linter.unusedVariables false
open Go.RowKit

theorem one_val : (intE 1).val = 1 := by rw [show intE 1 = natE 1 from intE_nat 1, natE_val]
theorem mul_inv_one (x : E5) : Sm (mulE x (invE (intE 1))).val x.val := by
  have h : Sm (invE (intE 1)).val 1 := by
    show (invE (intE 1)).val % PN = 1 % PN
    rw [invE_val, one_val, Nat.one_pow]
  exact (sm_mul _ _).trans (((Sm.refl _).mul h).trans (Sm.of (Nat.mul_one _)))
theorem ofP_x (x y : E5) : (ofP x y).x = x := rfl
theorem ofP_y (x y : E5) : (ofP x y).y = y := rfl
theorem ofP_z (x y : E5) : (ofP x y).z = intE 1 := rfl
theorem baseP_z : baseP.z = intE 1 := by rw [baseP, ofP_z]
theorem baseP_x : baseP.x = knownE bxL := by rw [baseP, ofP_x]
theorem baseP_y : baseP.y = knownE byL := by rw [baseP, ofP_y]
theorem bytP_base : bytP baseP = byN byNN := by
  have hy : (leastE (mulE baseP.y (invE baseP.z))).val = byNN := by
    rw [least_val (mul_ok baseP_ok.y (invE_ok baseP_ok.z)).big]
    rw [baseP_z]
    have h : (mulE baseP.y (invE (intE 1))).val % PN = baseP.y.val % PN := mul_inv_one baseP.y
    rw [h, baseP_y, by_val]
    decide
  have hx : oddP baseP = false := by
    rw [oddP, baseP_z]
    have h : (mulE baseP.x (invE (intE 1))).val % PN = baseP.x.val % PN := mul_inv_one baseP.x
    rw [h, baseP_x, bx_val]
    decide
  rw [bytP, hy, hx]
  rfl
theorem base_b0 : (byN byNN)[0]? = some 88 := by decide
theorem base_b1 : (byN byNN)[1]? = some 102 := by decide
theorem base_b31 : (byN byNN)[31]? = some 102 := by decide
set_option maxRecDepth 100000 in
set_option maxHeartbeats 2000000 in
theorem clives_any (w : World) : Calls Try.prog 18 #[] w (BoolPost true w) := by
  obtain ⟨B, hB⟩ : ∃ B, B = baseP := ⟨_, rfl⟩
  obtain ⟨Z, hZ⟩ : ∃ Z, Z = zeroP := ⟨_, rfl⟩
  obtain ⟨M, hM⟩ : ∃ M, M = mulP B [1] := ⟨_, rfl⟩
  have okB : B.Ok := by rw [hB]; exact baseP_ok
  have okZ : Z.Ok := by rw [hZ]; exact zeroP_ok
  have okM : M.Ok := by rw [hM]; exact mulP_ok okB _
  have CB := Lib.hid (show ∀ u, Calls Try.prog 10 #[] u (PtPost B u) from fun u => by rw [hB]; exact base_any u)
  have CZ := Lib.hid (show ∀ u, Calls Try.prog 26 #[] u (PtPost Z u) from fun u => by rw [hZ]; exact zero_any u)
  have CM := Lib.hid (show ∀ u A, Rd u u.heap.size A (bytesV [1]) → Calls Try.prog 11 #[.agg (ptV B), .slice A 1 1] u (PtPost M u) from fun u A h => by rw [hM]; exact pmul_any B okB [1] A 1 u h (Nat.le_refl _))
  have CE := Lib.hid (show ∀ u, Calls Try.prog 22 #[.agg (ptV M), .agg (ptV B)] u (BoolPost true u) from fun u => by
    have h := pequal_any M B u okM okB
    rw [show eqP M B = true by rw [hM, hB]; exact base_one] at h
    exact h)
  have CN := Lib.hid (show ∀ u, Calls Try.prog 22 #[.agg (ptV B), .agg (ptV Z)] u (BoolPost false u) from fun u => by
    have h := pequal_any B Z u okB okZ
    rw [show eqP B Z = false by rw [hB, hZ]; exact base_zero] at h
    exact h)
  have CP := Lib.hid (show ∀ u, Calls Try.prog 14 #[.agg (ptV B)] u (PbyPost B u) from fun u => pbytes_any B okB u)
  have HBY := Lib.hid (show bytP B = byN byNN by rw [hB]; exact bytP_base)
  clear hB hZ hM okB okZ okM
  go_enter Try.func18, Try.ntmps18
  go_wp2_with fail
  refine calls_then (CB.out _) ?_
  rintro e w1 ⟨rfl, hb1⟩
  have HB1 := Lib.hid hb1
  clear hb1
  go_wp2_with fail
  refine calls_then (CP.out _) ?_
  rintro e w2 ⟨o, rfl, hlo, hblk, hb2⟩
  rw [HBY.out] at hblk
  have HB2 := Lib.hid (HB1.out.trans (hb2.mono HB1.out.size))
  have d0 := hblk.cell 0
  rw [bnV_at base_b0] at d0
  have d1 := hblk.cell 1
  rw [bnV_at base_b1] at d1
  have d31 := hblk.cell 31
  rw [bnV_at base_b31] at d31
  clear hb2 hlo hblk HB1
  go_wp2_with fail
  refine calls_then (CB.out _) ?_
  rintro e w3 ⟨rfl, hb3⟩
  have HB3 := Lib.hid (HB2.out.trans (hb3.mono HB2.out.size))
  clear hb3 d0 d1 d31 HB2
  have hnew := Blk.new w3 5 (bytesV [1]).toArray
  have HB4 := Lib.hid (HB3.out.alloc HB3.out.size (.cells (bytesV [1]).toArray 5))
  have HCM := Lib.hid (CM.out (w3.alloc (.cells (bytesV [1]).toArray 5)) (some ⟨w3.heap.size, 0, none⟩) (Rd.of_blk hnew hnew.lt))
  clear hnew
  go_wp2_with fail
  refine calls_then HCM.out ?_
  rintro e w4 ⟨rfl, hb4⟩
  have HB5 := Lib.hid (HB4.out.trans (hb4.mono HB4.out.size))
  clear hb4 HCM HB4 HB3
  go_wp2_with fail
  refine calls_then (CB.out _) ?_
  rintro e w5 ⟨rfl, hb5⟩
  have HB6 := Lib.hid (HB5.out.trans (hb5.mono HB5.out.size))
  clear hb5 HB5
  go_wp2_with fail
  refine calls_then (CE.out _) ?_
  rintro e w6 ⟨rfl, hb6⟩
  have HB7 := Lib.hid (HB6.out.trans (hb6.mono HB6.out.size))
  clear hb6 HB6
  go_wp2_with fail
  refine calls_then (CB.out _) ?_
  rintro e w7 ⟨rfl, hb7⟩
  have HB8 := Lib.hid (HB7.out.trans (hb7.mono HB7.out.size))
  clear hb7 HB7
  go_wp2_with fail
  refine calls_then (CZ.out _) ?_
  rintro e w8 ⟨rfl, hb8⟩
  have HB9 := Lib.hid (HB8.out.trans (hb8.mono HB8.out.size))
  clear hb8 HB8
  go_wp2_with fail
  refine calls_then (CN.out _) ?_
  rintro e w9 ⟨rfl, hb9⟩
  have HB10 := Lib.hid (HB9.out.trans (hb9.mono HB9.out.size))
  clear hb9 HB9
  go_wp2_with fail
  go_ret
  exact ⟨rfl, HB10.out⟩
end Go.Proofs.Ytbeokfpbhemcfaa
