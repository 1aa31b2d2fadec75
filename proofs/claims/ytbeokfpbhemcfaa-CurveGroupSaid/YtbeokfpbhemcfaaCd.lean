/-
  Walks: the curve's d, turn, Zero and Base.
-/
import Derived.Test.YtbeokfpbhemcfaaRev
namespace Go.Proofs.Ytbeokfpbhemcfaa
set_option linter.unusedSimpArgs false
set_option linter.unusedVariables false
open Go.RowKit

def dL : List Nat := [82, 3, 108, 238, 43, 111, 254, 115, 140, 199, 64, 121, 119, 121, 232, 152, 0, 112, 10, 77, 65, 65, 216, 171, 117, 235, 77, 202, 19, 89, 120, 163]
def turnL : List Nat := [43, 131, 36, 128, 79, 193, 223, 11, 43, 77, 0, 153, 61, 251, 215, 167, 47, 67, 24, 6, 173, 47, 228, 120, 196, 238, 27, 39, 74, 14, 160, 176]
def bxL : List Nat := [33, 105, 54, 211, 205, 110, 83, 254, 192, 164, 226, 49, 253, 214, 220, 92, 105, 44, 199, 96, 149, 37, 167, 178, 201, 86, 45, 96, 143, 37, 213, 26]
def byL : List Nat := List.replicate 31 102 ++ [88]
def dE : E5 := knownE dL
def turnE : E5 := knownE turnL
theorem dE_ok : dE.Ok := knownE_ok _
theorem turnE_ok : turnE.Ok := knownE_ok _
theorem d_known (u : World) : Calls Try.prog 29 #[.agg (bnV dL).toArray] u (ElemPost dE u) := known_any dL (by unfold Dg; decide) rfl u
theorem turn_known (u : World) : Calls Try.prog 29 #[.agg (bnV turnL).toArray] u (ElemPost turnE u) := known_any turnL (by unfold Dg; decide) rfl u
theorem bx_known (u : World) : Calls Try.prog 29 #[.agg (bnV bxL).toArray] u (ElemPost (knownE bxL) u) := known_any bxL (by unfold Dg; decide) rfl u
theorem by_known (u : World) : Calls Try.prog 29 #[.agg (bnV byL).toArray] u (ElemPost (knownE byL) u) := known_any byL (by unfold Dg; decide) rfl u
set_option maxRecDepth 100000 in
set_option maxHeartbeats 2000000 in
theorem d_any (w : World) : Calls Try.prog 31 #[] w (ElemPost dE w) := by
  have hu := Try.underlying26
  have HK := Lib.hid d_known
  have hbr : Blk (w.alloc (.cells (eV zE) 26)) w.heap.size 26 (eV zE) := Blk.new _ _ _
  have hbel : Below w.heap.size w (w.alloc (.cells (eV zE) 26)) := below_new _ _
  have HBR := Lib.hid hbr
  have HBEL := Lib.hid hbel
  clear hbr hbel
  generalize dE = X at *
  go_enter Try.func31, Try.ntmps31
  go_wp2_with fail
  refine calls_then (HK.out _) ?_
  rintro e w2 ⟨rfl, hb2⟩
  have HBR2 := Lib.hid (HBR.out.below hb2 HBR.out.lt)
  have HBEL2 := Lib.hid (HBEL.out.trans (hb2.mono (by simp)))
  clear hb2 HBR HBEL
  go_wp2_with (refine wpList_put_box (x := .tmp 0) (cells := eV X) HBR2.out rfl rfl rfl rfl elem_size rfl (by simp [eV, wV, limbs, Value.oneCell']) ?_; intro w4 hb4 hw4; have HB4 := Lib.hid hb4; have HW4 := Lib.hid hw4; clear hb4 hw4)
  refine bodyPost_ret (results_box (P := Try.prog) rfl rfl HB4.out hu rfl elem_size) rfl ⟨rfl, HW4.out.below HBEL2.out (Nat.le_refl _) HBEL2.out.size⟩
set_option maxRecDepth 100000 in
set_option maxHeartbeats 2000000 in
theorem turn_any (w : World) : Calls Try.prog 67 #[] w (ElemPost turnE w) := by
  have hu := Try.underlying26
  have HK := Lib.hid turn_known
  have hbr : Blk (w.alloc (.cells (eV zE) 26)) w.heap.size 26 (eV zE) := Blk.new _ _ _
  have hbel : Below w.heap.size w (w.alloc (.cells (eV zE) 26)) := below_new _ _
  have HBR := Lib.hid hbr
  have HBEL := Lib.hid hbel
  clear hbr hbel
  generalize turnE = X at *
  go_enter Try.func67, Try.ntmps67
  go_wp2_with fail
  refine calls_then (HK.out _) ?_
  rintro e w2 ⟨rfl, hb2⟩
  have HBR2 := Lib.hid (HBR.out.below hb2 HBR.out.lt)
  have HBEL2 := Lib.hid (HBEL.out.trans (hb2.mono (by simp)))
  clear hb2 HBR HBEL
  go_wp2_with (refine wpList_put_box (x := .tmp 0) (cells := eV X) HBR2.out rfl rfl rfl rfl elem_size rfl (by simp [eV, wV, limbs, Value.oneCell']) ?_; intro w4 hb4 hw4; have HB4 := Lib.hid hb4; have HW4 := Lib.hid hw4; clear hb4 hw4)
  refine bodyPost_ret (results_box (P := Try.prog) rfl rfl HB4.out hu rfl elem_size) rfl ⟨rfl, HW4.out.below HBEL2.out (Nat.le_refl _) HBEL2.out.size⟩
/-- the neutral point -/
def zeroP : Pt4 := ofP (intE 0) (intE 1)
theorem int0_ok : (intE 0).Ok := intE_ok (by decide) (by decide)
theorem zeroP_ok : zeroP.Ok := ofP_ok int0_ok one_ok
set_option maxRecDepth 100000 in
set_option maxHeartbeats 2000000 in
theorem zero_any (w : World) : Calls Try.prog 26 #[] w (PtPost zeroP w) := by
  have hp := Try.underlying28
  have H0 := Lib.hid int0_c
  have H1 := Lib.hid int1_c
  have HO := Lib.hid (fun u => pof_any (intE 0) (intE 1) int0_ok one_ok u)
  have hbr : Blk (w.alloc (.cells (ptV zP) 28)) w.heap.size 28 (ptV zP) := Blk.new _ _ _
  have hbel : Below w.heap.size w (w.alloc (.cells (ptV zP) 28)) := below_new _ _
  have HBR := Lib.hid hbr
  have HBEL := Lib.hid hbel
  clear hbr hbel
  have HZ : Hid (zeroP = ofP (intE 0) (intE 1)) := Lib.hid rfl
  generalize ofP (intE 0) (intE 1) = X at *
  generalize intE 0 = I0 at *
  generalize intE 1 = I1 at *
  go_enter Try.func26, Try.ntmps26
  go_wp2_with fail
  refine calls_then (H0.out _) ?_
  rintro e w1 ⟨rfl, hb1⟩
  have HBR1 := Lib.hid (HBR.out.below hb1 HBR.out.lt)
  have HBEL1 := Lib.hid (HBEL.out.trans (hb1.mono (by simp)))
  clear hb1 HBR HBEL
  go_wp2_with fail
  refine calls_then (H1.out _) ?_
  rintro e w2 ⟨rfl, hb2⟩
  have HBR2 := Lib.hid (HBR1.out.below hb2 HBR1.out.lt)
  have HBEL2 := Lib.hid (HBEL1.out.trans (hb2.mono HBEL1.out.size))
  clear hb2 HBR1 HBEL1
  go_wp2_with fail
  refine calls_then (HO.out _) ?_
  rintro e w3 ⟨rfl, hb3⟩
  have HBR3 := Lib.hid (HBR2.out.below hb3 HBR2.out.lt)
  have HBEL3 := Lib.hid (HBEL2.out.trans (hb3.mono HBEL2.out.size))
  clear hb3 HBR2 HBEL2
  go_wp2_with (refine wpList_put_box (x := .tmp 0) (cells := ptV X) HBR3.out rfl rfl rfl rfl point_size rfl (by simp [ptV, wV, limbs, Value.oneCell']) ?_; intro w4 hb4 hw4; have HB4 := Lib.hid hb4; have HW4 := Lib.hid hw4; clear hb4 hw4)
  refine bodyPost_ret (results_box (P := Try.prog) rfl rfl HB4.out hp rfl point_size) rfl ⟨by rw [HZ.out], HW4.out.below HBEL3.out (Nat.le_refl _) HBEL3.out.size⟩
end Go.Proofs.Ytbeokfpbhemcfaa
