/-
  Walk: json.Write.
-/
import Derived.Test.YtcfbnjaelniahaaJrt
import Derived.Test.YtcfbnjaelniahaaJvl
namespace Go.Proofs.Ytcfbnjaelniahaa.Js
set_option linter.unusedSimpArgs false
set_option linter.unusedVariables false
open Go.RowKit

/-- what Write tells -/
def wrE (j : JT) : Bs × Int := if rightV 6 j = false then ([], 1) else if 2000 < (writeV j).length then ([], 4) else (writeV j, 0)
theorem writeV_ne (j : JT) (h : rightV 6 j = true) : writeV j ≠ [] := by
  obtain ⟨c, l, h1, _⟩ := writeV_first j 6 h
  rw [h1]
  simp
set_option maxRecDepth 100000 in
set_option maxHeartbeats 4000000 in
theorem jwrite_any (j : JT) (v : JV) (B : Nat) (w : World) (hs : smallJ j = true) (hj : JRep w (fun b => b < B) j v) (hB : B ≤ w.heap.size) (hl : (writeV j).length ≤ 1099511627776) :
    Calls Try.prog 8 #[.agg (jvCells v)] w fun e w' => e = .returned (.tuple #[.string (bs (wrE j).1), .int .i64 (wrE j).2]) ∧ Below w.heap.size w w' := by
  have hu := Try.underlying25
  obtain ⟨G, hG⟩ : ∃ G, G = w.heap.size := ⟨_, rfl⟩
  obtain ⟨W0, hW0⟩ : ∃ W0, W0 = w.alloc (.cells (jvCells v) 25) := ⟨_, rfl⟩
  have hb0 : Below w.heap.size w W0 := by rw [hW0]; exact (Below.refl _ w).alloc (Nat.le_refl _) _
  have HB0 := Lib.hid hb0
  have HKB := Lib.hid (show Blk W0 G 25 (jvCells v) by rw [hW0, hG]; exact Blk.new _ _ _)
  have HJ := Lib.hid (hj.under (hb0.mono hB))
  have HBB := Lib.hid (show B ≤ W0.heap.size from Nat.le_trans hB hb0.size)
  have HL := Lib.hid hl
  have C := Lib.hid (right_any 6 (by decide) j v B W0 hs HJ.out HBB.out)
  have HW0 := Lib.hid hW0
  obtain ⟨R, hR⟩ : ∃ R, R = rightV 6 j := ⟨_, rfl⟩
  rw [← hR] at C
  have HR := Lib.hid hR
  clear hW0 hb0 hs hj hB hl hR
  rw [hG] at *
  clear hG
  go_enter Try.func8, Try.ntmps8
  go_upto_region 1 with (fail)
  rw [← HW0.out]
  clear HW0
  generalize Value.agg (jvCells v) = AV
  go_wp2_with (refine wpList_get_box (x := .tmp 1) (cs := jvCells v) HKB.out rfl rfl rfl hu rfl jT_size2 ?_)
  refine calls_then C.out ?_
  rintro e w1 ⟨rfl, hb1⟩
  have HB1 := Lib.hid hb1
  clear hb1
  cases R with
  | false =>
    have HE := Lib.hid (show wrE j = ([], 1) by rw [wrE, if_pos HR.out.symm])
    go_wp2_with fail
    go_ret2
    exact ⟨by rw [HE.out]; rfl, HB0.out.trans (HB1.out.mono HB0.out.size)⟩
  | true =>
    have HK1 := Lib.hid (HKB.out.below HB1.out HKB.out.lt)
    go_upto_region 4 with (fail)
    obtain ⟨W2, hW2⟩ : ∃ W2, W2 = w1.alloc (.cells #[.pointer none, .slice none 0 0] 46) := ⟨_, rfl⟩
    rw [← hW2]
    have hb2 : Below w1.heap.size w1 W2 := by rw [hW2]; exact (Below.refl _ w1).alloc (Nat.le_refl _) _
    have HB2 := Lib.hid (HB1.out.trans (hb2.mono HB1.out.size))
    have HK2 := Lib.hid (show Blk W2 w.heap.size 25 (jvCells v) from HK1.out.below hb2 HK1.out.lt)
    have HS := Lib.hid (show w1.heap.size < W2.heap.size by rw [hW2]; simp)
    have hj2 : JRep W2 (fun b => b < w1.heap.size) j v := (HJ.out.under ((HB1.out.trans (hb2.mono HB1.out.size)).mono HBB.out)).imp (fun b _ h => Nat.lt_of_lt_of_le h (Nat.le_trans HBB.out HB1.out.size))
    have hib : IsB W2 w1.heap.size 46 w1.heap.size [] := by rw [hW2]; exact IsB.new _ _ (Nat.le_refl _)
    have C2 := Lib.hid (wval_any 6 j v w1.heap.size w1.heap.size [] W2 W2 HR.out.symm hj2 ⟨hib, BK.refl _ _ _⟩ (by have := HL.out; simp; omega))
    clear hW2 hb2 hj2 hib C
    have HWP := Lib.hid (show w.heap.size ≤ w1.heap.size from Nat.le_trans HB0.out.size HB1.out.size)
    generalize hp : w1.heap.size = p at *
    go_wp2_with (refine wpList_get_box (x := .tmp 1) (cs := jvCells v) HK2.out rfl rfl rfl hu rfl jT_size2 ?_)
    refine calls_then C2.out ?_
    rintro e w3 ⟨rfl, c', hout, hw3⟩
    have HO := Lib.hid (Out.end_ hout)
    have HB3 := Lib.hid hw3.1
    have HF := Lib.hid (show Below w.heap.size w w3 from HB0.out.trans ((HB2.out.mono HB0.out.size).trans (hw3.2.below.mono HWP.out)))
    clear hout hw3
    go_wp2_with fail
    refine calls_then (bld_len _ _ _ _ HB3.out) ?_
    rintro e w4 ⟨rfl, rfl⟩
    by_cases hlong : 2000 < c'.length
    · have hc : (2000 : Int) < (c'.length : Int) := by omega
      have HE := Lib.hid (show wrE j = ([], 4) by rw [wrE, if_neg (by rw [← HR.out]; decide), if_pos (HO.out.2 hlong)])
      clear hlong
      go_wp2_with fail
      go_ret2
      exact ⟨by rw [HE.out]; rfl, HF.out⟩
    · have hc : ¬ (2000 : Int) < (c'.length : Int) := by omega
      have h1 := HO.out.1 (by omega)
      have HE := Lib.hid (show wrE j = (writeV j, 0) by rw [wrE, if_neg (by rw [← HR.out]; decide), if_neg (by omega)])
      have HC := Lib.hid h1.1
      have HNE := Lib.hid (show c' ≠ [] by rw [h1.1]; exact writeV_ne j HR.out.symm)
      clear hlong h1
      go_wp2_with fail
      refine calls_then (bld_string _ _ c' _ HB3.out HNE.out) ?_
      rintro e w5 ⟨rfl, hb5⟩
      have HB5 := Lib.hid hb5
      clear hb5
      go_wp2_with fail
      go_ret2
      exact ⟨by rw [HE.out, HC.out]; rfl, HF.out.trans (HB5.out.mono HWP.out)⟩
end Go.Proofs.Ytcfbnjaelniahaa.Js
