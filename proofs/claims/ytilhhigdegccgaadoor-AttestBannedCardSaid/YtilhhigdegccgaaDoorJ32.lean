/-
  Joined texts: Rmy Fo2 Lse.
-/
import Derived.Deep.QuietTactic
import Derived.BigQuiet
import Derived.Test.YtilhhigdegccgaaDoorJ30
import Derived.Test.YtilhhigdegccgaaDoorJ31
import Derived.Test.YtilhhigdegccgaaDoorJ11
import Derived.Test.YtilhhigdegccgaaDoorJ29
import Derived.Test.YtilhhigdegccgaaDoorJ5
import Derived.Test.YtilhhigdegccgaaDoorJ6
/-
  Walk: the reference's May, at any bundle.
-/
namespace Go.Proofs.YtilhhigdegccgaaDoor.Js
set_option linter.unusedSimpArgs false
set_option linter.unusedVariables false
open Go.RowKit
theorem below_drewNq {B : Nat} {a w : World} (h : Below B a w) (n : Nat) : Below B a (w.drewN n) := ⟨h.os, h.tape, h.output, h.size, h.block⟩
set_option maxRecDepth 100000 in
set_option maxHeartbeats 8000000 in
theorem rmay_any (D : Bs) (num : Int) (ks : List (Bs × Bs)) (A : Option Addr) (c B : Nat) (w : World) (hr : Rd w B A (rowsV kCell ks)) (hB : B ≤ w.heap.size) (hD : D.length ≤ 100000) (hl : (ks.length : Int) ≤ 9223372036854775807)
    (hk : ∀ k ∈ ks, (k.2.length : Int) ≤ 9223372036854775807) :
    Calls Tryd.prog 63 #[.agg (bC D num A ks.length c)] w fun e w' => e = .returned (.bool (mayB D num ks)) ∧ Below w.heap.size w w' := by
  obtain ⟨r, hrr⟩ : ∃ r, r = mayB D num ks := ⟨_, rfl⟩
  rw [← hrr]
  have HRR := Lib.hid hrr
  clear hrr
  obtain ⟨n, hn⟩ : ∃ n, n = ks.length := ⟨_, rfl⟩
  rw [← hn] at hl ⊢
  have HN := Lib.hid hn
  obtain ⟨W0, hW0⟩ : ∃ W0, W0 = w.alloc (.cells (bC D num A n c) 45) := ⟨_, rfl⟩
  have hb0 : Below w.heap.size w W0 := by rw [hW0]; exact (Below.refl _ w).alloc (Nat.le_refl _) _
  have HB0 := Lib.hid hb0
  have HK := Lib.hid (show Blk W0 w.heap.size 45 (bC D num A n c) by rw [hW0]; exact Blk.new _ _ _)
  have HW0 := Lib.hid hW0
  have HR := Lib.hid (hr.below (hb0.mono hB))
  have HBB := Lib.hid hB
  have HKX := Lib.hid hk
  have HHD := Lib.hid (show headOk D num ks = (domB D && decide (0 ≤ num) && decide (num ≤ 1099511627776) && decide (n ≤ 8)) by rw [hn]; rfl)
  have C := Lib.hid (rdom_any D hD W0)
  obtain ⟨d, hd⟩ : ∃ d, d = domB D := ⟨_, rfl⟩
  rw [← hd] at C HHD
  have a0 : W0.cell? ⟨w.heap.size, 0, none⟩ = some (.string (bs D)) := HK.out.cell 0
  have a1 : W0.cell? ⟨w.heap.size, 1, none⟩ = some (.int .i64 num) := HK.out.cell 1
  have a2 : W0.cell? ⟨w.heap.size, 2, none⟩ = some (.slice A n c) := HK.out.cell 2
  clear hW0 hn hr hB hk hD hd hb0
  go_enter Tryd.func63, Tryd.ntmps63
  go_upto_region 1 with (fail)
  rw [show w.alloc (.cells (bC D num A n c) 45) = W0 from HW0.out.symm]
  generalize Value.agg (bC D num A n c) = AV
  go_wp2_with fail
  refine calls_then C.out ?_
  rintro e W0 ⟨rfl, rfl⟩
  cases d with
  | false =>
    have HNO := Lib.hid (mayB_no (HHD.out.trans (by rfl)))
    go_wp2_with fail
    go_ret
    exact ⟨by rw [HRR.out, HNO.out]; rfl, HB0.out⟩
  | true =>
    by_cases hn0 : num < 0
    · have HNO := Lib.hid (mayB_no (HHD.out.trans (by rw [decide_eq_false (show ¬ (0 ≤ num) by omega)]; rfl)))
      go_wp2_with fail
      go_ret
      exact ⟨by rw [HRR.out, HNO.out]; rfl, HB0.out⟩
    by_cases hn1 : 1099511627776 < num
    · have HNO := Lib.hid (mayB_no (HHD.out.trans (by rw [decide_eq_false (show ¬ (num ≤ 1099511627776) by omega)]; simp)))
      go_wp2_with fail
      go_ret
      exact ⟨by rw [HRR.out, HNO.out]; rfl, HB0.out⟩
    by_cases hn8 : 8 < (n : Int)
    · have HNO := Lib.hid (mayB_no (HHD.out.trans (by rw [decide_eq_false (show ¬ (n ≤ 8) by omega)]; simp)))
      go_wp2_with fail
      go_ret
      exact ⟨by rw [HRR.out, HNO.out]; rfl, HB0.out⟩
    have HHO := Lib.hid (show mayB D num ks = keysOk [] ks by
      unfold mayB
      rw [HHD.out, decide_eq_true (show 0 ≤ num by omega), decide_eq_true (show num ≤ 1099511627776 by omega), decide_eq_true (show n ≤ 8 by omega)]
      rfl)
    have hn8' : (n : Int) ≤ 8 := by omega
    clear hl
    go_upto_region 4 with (fail)
    clear hn0 hn1 hn8 a0 a1
    go_wp2_with fail
    go_loopw [4] (fun x wr => ∃ i : Nat, i ≤ n ∧ x = .int .i64 (i : Int) ∧ keysTo ks i ∧ Below W0.heap.size W0 wr) (fun x _ => n - (intOf x).toNat)
    case atStart => exact ⟨0, Nat.zero_le _, rfl, keysTo_zero ks, Below.refl _ _⟩
    case round =>
      obtain ⟨i, hi, rfl, hto, hbw⟩ := hrel
      have HTO := Lib.hid hto
      have HBW := Lib.hid hbw
      have a2 : wr.cell? ⟨w.heap.size, 2, none⟩ = some (.slice A n c) := (HK.out.below hbw HK.out.lt).cell 2
      clear hto hbw
      by_cases hlt : i < n
      · have huj := Tryd.underlying77
        have hil : i < ks.length := by rw [← HN.out]; exact hlt
        have hlt' : (i : Int) < (n : Int) := by omega
        obtain ⟨ad, hA, hadb, hcell⟩ := rd_rows (f := kCell) (m := 2) (fun _ => rfl) (by decide) (HR.out.below (HBW.out.mono (Nat.le_trans HBB.out HB0.out.size))) hil
        subst hA
        obtain ⟨X, hX⟩ : ∃ X, X = ks[i] := ⟨_, rfl⟩
        rw [← hX] at hcell
        have HCL := Lib.hid (show ∀ j u, (kCell X).toList[j]? = some u → wr.cell? ((ad.add (i * 2)).add j) = some u from fun j u hu => hcell j u (by simpa using hu))
        have HKL := Lib.hid (HKX.out X (by rw [hX]; exact List.getElem_mem hil))
        have HLT := Lib.hid hlt
        have HNK := Lib.hid (fun (hno : X.2.length = 32 → X.1 = nameL X.2 → X.1 ∈ (ks.take i).map (·.1)) => show mayB D num ks = false by
          rw [HHO.out]
          exact keysTo_no HTO.out hil (by rw [← hX]; exact hno))
        have HYK := Lib.hid (fun (h1 : X.2.length = 32) (h2 : X.1 = nameL X.2) (h3 : X.1 ∉ (ks.take i).map (·.1)) => show keysTo ks (i + 1) from
          keysTo_step HTO.out hil (by rw [← hX]; exact h1) (by rw [← hX]; exact h2) (by rw [← hX]; exact h3))
        clear hX hcell hadb hil hlt
        go_upto_region 8 with (first
          | refine wpList_get_rd (r := (kCell X).toList) HCL.out rfl rfl rfl huj rfl jk_size ?_
          | (refine wpList_put_box (cells := kCell X) (Blk.new _ _ _) rfl rfl rfl rfl jk_size rfl (kCell_one X) ?_; intro w5 hb5 hw5))
        have hbw5 : Below wr.heap.size wr w5 := box_low9 hw5
        obtain ⟨H, hH⟩ : ∃ H, H = wr.heap.size := ⟨_, rfl⟩
        rw [← hH] at hb5 ⊢
        have HK5 := Lib.hid hb5
        have HB5 := Lib.hid (HBW.out.trans (hbw5.mono HBW.out.size))
        have hc1 : w5.cell? ⟨H, 1, none⟩ = some (.string (bs X.2)) := hb5.cell 1
        have hs0 : ((bs X.2).size : Int) = (X.2.length : Int) := by rw [bs_size]
        have HHW := Lib.hid (show W0.heap.size ≤ H by rw [hH]; exact HBW.out.size)
        clear hb5 hw5 hbw5 a2 hH
        by_cases h32 : X.2.length = 32
        · have HS32 := Lib.hid (show (bs X.2).size = 32 by rw [bs_size, h32])
          have HSZ := Lib.hid (show ((bs X.2).size : Int) = 32 by rw [hs0, h32]; rfl)
          have HNA := Lib.hid (show ∀ A c u, Rd u u.heap.size A (bytesV X.2) → 32 ≤ c → Calls Tryd.prog 28 #[.slice A 32 c] u (fun e w' => e = .returned (.string (bs (nameL X.2))) ∧ Below u.heap.size u w') from
            fun A c u h1 h2 => by have h := rname_any X.2 (by omega) A c u h1 (by omega) (digS32_len2 X.2); rw [h32] at h; exact h)
          have hus := Tryd.underlying9
          have hub8 := Tryd.underlying79
          have hu8 := Tryd.underlying5
          have HC0 : Below w5.heap.size w5 w5.drew := (Below.refl _ _).drew
          have H32 := Lib.hid h32
          clear hs0 h32 hc1
          obtain ⟨q, hq⟩ : ∃ q, q = decide (X.1 = nameL X.2) := ⟨_, rfl⟩
          have HQ := Lib.hid (show ((bs X.1).toList == (bs (nameL X.2)).toList) = q by rw [bs_toList, bs_toList, hq]; by_cases h : X.1 = nameL X.2 <;> simp [h])
          have HQQ := Lib.hid hq
          clear hq
          apply wp_region_seqg (fun u => Below w5.heap.size w5 u) (fun u u' => Below u.heap.size u u') [_, _, _, _, _, _, _, _, _, undef, _, _, _] (gOf [(9, fun v u => BytFrom u 0 32 X.2 v)]) (by kernel_rfl) (by kernel_rfl) (stabL_of _ ⟨(fun _ _ _ h h0 => h0.step h), trivial⟩) HC0
          iterate 1
            ((first | (apply SeqG.next; rfl; rfl; rfl)); (simp only [act_put, act_put_none, List.setIfInBounds_toArray, List.set_cons_zero, List.set_cons_succ]; rfl); (intro w1 hC1 hf E hE; go_wp2; exact .mk (hE _ hC1 (Below.refl _ _))))
          apply SeqG.next
          · rfl
          · rfl
          · rfl
          · simp only [act_put, act_put_none, List.setIfInBounds_toArray, List.set_cons_zero, List.set_cons_succ]
            rfl
          · intro w1 hC1 hf E hE
            have d0 := (HK5.out.below hC1 HK5.out.lt).cell 1
            simp only [kCell, List.getElem?_toArray, List.getElem?_cons_zero, List.getElem?_cons_succ] at d0
            go_wp2
            exact .mk (hE _ hC1 (Below.refl _ _))
          apply SeqG.next
          · rfl
          · rfl
          · rfl
          · simp only [act_put, act_put_none, List.setIfInBounds_toArray, List.set_cons_zero, List.set_cons_succ]
            rfl
          · intro w1 hC1 hf E hE
            have hsz := HSZ.out
            go_wp2
            exact .mk (hE _ hC1 (Below.refl _ _))
          iterate 3
            first
            | (apply SeqG.no (fun _ => (Below.refl _ _)); rfl; rfl; rfl; rfl; rfl; (simp only [act_put, act_put_none, List.setIfInBounds_toArray, List.set_cons_zero, List.set_cons_succ]; rfl))
            | ((first | (apply SeqG.next; rfl; rfl; rfl) | (apply SeqG.yes; rfl; rfl; rfl; rfl; rfl)); (simp only [act_put, act_put_none, List.setIfInBounds_toArray, List.set_cons_zero, List.set_cons_succ]; rfl); (intro w1 hC1 hf E hE; go_wp2; exact .mk (hE _ hC1 (Below.refl _ _))))
          apply SeqG.yes
          · rfl
          · rfl
          · rfl
          · rfl
          · rfl
          · simp only [act_put, act_put_none, List.setIfInBounds_toArray, List.set_cons_zero, List.set_cons_succ]
            rfl
          · intro w1 hC1 hf E hE
            have d0 := (HK5.out.below hC1 HK5.out.lt).cell 0
            simp only [kCell, List.getElem?_toArray, List.getElem?_cons_zero, List.getElem?_cons_succ] at d0
            go_wp2
            exact .mk (hE _ hC1 (Below.refl _ _))
          iterate 1
            first
            | (apply SeqG.no (fun _ => (Below.refl _ _)); rfl; rfl; rfl; rfl; rfl; (simp only [act_put, act_put_none, List.setIfInBounds_toArray, List.set_cons_zero, List.set_cons_succ]; rfl))
            | ((first | (apply SeqG.next; rfl; rfl; rfl) | (apply SeqG.yes; rfl; rfl; rfl; rfl; rfl)); (simp only [act_put, act_put_none, List.setIfInBounds_toArray, List.set_cons_zero, List.set_cons_succ]; rfl); (intro w1 hC1 hf E hE; go_wp2; exact .mk (hE _ hC1 (Below.refl _ _))))
          apply SeqG.yes
          · rfl
          · rfl
          · rfl
          · rfl
          · rfl
          · simp only [act_put, act_put_none, List.setIfInBounds_toArray, List.set_cons_zero, List.set_cons_succ]
            rfl
          · intro w1 hC1 hf E hE
            have d0 := (HK5.out.below hC1 HK5.out.lt).cell 1
            simp only [kCell, List.getElem?_toArray, List.getElem?_cons_zero, List.getElem?_cons_succ] at d0
            go_wp2
            exact .mk (hE _ hC1 (Below.refl _ _))
          apply SeqG.yesS
          · rfl
          · rfl
          · rfl
          · rfl
          · intro w1 hC1 hf E hE
            simp only [act_put, act_put_none, List.setIfInBounds_toArray, List.set_cons_zero, List.set_cons_succ] at hE
            refine wpList_bytes_cap (s := bs X.2) hus hub8 hu8 rfl rfl rfl (by rw [HS32.out]; decide) ?_
            intro c7 w7 hr7 hc7 hm7 hb7
            rw [HS32.out] at hc7 ⊢
            go_wp2_with fail
            exact .mk (hE _ _ ⟨_, c7, rfl, hc7, hm7, Nat.zero_le _, hr7⟩ (hC1.trans (hb7.mono hC1.size)) hb7)
          intro x9
          simp only [act_put, act_put_none, List.setIfInBounds_toArray, List.set_cons_zero, List.set_cons_succ]
          apply SeqG.yes
          · rfl
          · rfl
          · rfl
          · rfl
          · rfl
          · simp only [act_put, act_put_none, List.setIfInBounds_toArray, List.set_cons_zero, List.set_cons_succ]
            rfl
          · intro w1 hC1 hf E hE
            have f9 := (hf 9 (of_decide_eq_true (by kernel_rfl))).1 rfl
            obtain ⟨g9, c9, hx9, hc9, hm9, hl9, hr9⟩ := f9
            subst hx9
            go_wp2_with fail
            refine calls_then (HNA.out _ c9 _ hr9 hc9) ?_
            rintro e w2 ⟨rfl, hb2⟩
            go_wp2_with fail
            exact .mk (hE _ (hC1.trans (hb2.mono hC1.size)) hb2)
          apply SeqG.yes
          · rfl
          · rfl
          · rfl
          · rfl
          · rfl
          · simp only [act_put, act_put_none, List.setIfInBounds_toArray, List.set_cons_zero, List.set_cons_succ]
            rfl
          · intro w1 hC1 hf E hE
            have hq := HQ.out
            go_wp2
            exact .mk (hE _ hC1 (Below.refl _ _))
          iterate 1
            ((first | (apply SeqG.next; rfl; rfl; rfl)); (simp only [act_put, act_put_none, List.setIfInBounds_toArray, List.set_cons_zero, List.set_cons_succ]; rfl); (intro w1 hC1 hf E hE; go_wp2; exact .mk (hE _ hC1 (Below.refl _ _))))
          refine SeqG.nil ?_
          intro w1 hC1 hf
          have f9 := (hf 9).1 rfl
          clear hf
          have HB6 := Lib.hid (HB5.out.trans (hC1.mono HB5.out.size))
          have HK6 := Lib.hid (HK5.out.below hC1 HK5.out.lt)
          clear hC1 HC0
          cases q with
          | false =>
            have HNO := Lib.hid (HNK.out fun _ h => absurd h (of_decide_eq_false HQQ.out.symm))
            go_wp2_with fail
            go_ret
            exact ⟨by rw [HRR.out, HNO.out]; rfl, HB0.out.trans (HB6.out.mono HB0.out.size)⟩
          | true =>
            have HKN := Lib.hid (show X.1 = nameL X.2 from of_decide_eq_true HQQ.out.symm)
            go_wp2_with fail
            go_loopw [6] (fun x wq => ∃ j : Nat, j ≤ i ∧ x = .int .i64 (j : Int) ∧ X.1 ∉ (ks.take j).map (·.1) ∧ Below w1.heap.size w1 wq) (fun x _ => i - (intOf x).toNat)
            case atStart => exact ⟨0, Nat.zero_le _, rfl, by simp, Below.refl _ _⟩
            case round =>
              obtain ⟨j, hj, rfl, hno, hbq⟩ := hrel
              have HNJ := Lib.hid hno
              have HBQ := Lib.hid hbq
              have HBX := Lib.hid (HB6.out.trans (hbq.mono HB6.out.size))
              have b2 : wr.cell? ⟨w.heap.size, 2, none⟩ = some (.slice (some ad) n c) := (HK.out.below HBX.out HK.out.lt).cell 2
              have b0 : wr.cell? ⟨H, 0, none⟩ = some (.string (bs X.1)) := (HK6.out.below hbq HK6.out.lt).cell 0
              clear hno hbq
              by_cases hlj : j < i
              · have hjl : j < ks.length := by have := HN.out; have := HLT.out; omega
                have hlj' : (j : Int) < (i : Int) := by omega
                have hjn : (j : Int) < (n : Int) := by have := HLT.out; omega
                obtain ⟨ad2, hA2, -, hcell2⟩ := rd_rows (f := kCell) (m := 2) (fun _ => rfl) (by decide) (HR.out.below (HBX.out.mono (Nat.le_trans HBB.out HB0.out.size))) hjl
                injection hA2 with hA2
                subst hA2
                obtain ⟨Y, hY⟩ : ∃ Y, Y = ks[j] := ⟨_, rfl⟩
                rw [← hY] at hcell2
                have c0 : wr.cell? (ad.add (j * 2)) = some (.string (bs Y.1)) := hcell2 0 _ rfl
                have HLJ := Lib.hid hlj
                by_cases hq : Y.1 = X.1
                · have hq' : ((bs Y.1).toList == (bs X.1).toList) = true := by rw [bs_toList, bs_toList]; simpa using hq
                  have HNO := Lib.hid (HNK.out fun _ _ => List.mem_map.2 ⟨Y, by
                    rw [hY]
                    exact List.mem_take_iff_getElem.2 ⟨j, by omega, rfl⟩, hq⟩)
                  clear hY hcell2 hjl hlj hq
                  go_wp2_with fail
                  go_quiet (fail)
                  go_wp2_with fail
                  go_ret
                  exact ⟨by rw [HRR.out, HNO.out]; rfl, below_drewNq (HB0.out.trans (HBX.out.mono HB0.out.size)) _⟩
                · have hq' : ((bs Y.1).toList == (bs X.1).toList) = false := by rw [bs_toList, bs_toList]; simpa using hq
                  have HN2 := Lib.hid (show X.1 ∉ (ks.take (j + 1)).map (·.1) by
                    rw [List.take_succ_eq_append_getElem hjl, List.map_append, List.mem_append]
                    rintro (h1 | h1)
                    · exact HNJ.out h1
                    · have h2 : X.1 = ks[j].1 := List.mem_singleton.1 h1
                      exact hq (by rw [hY, h2]))
                  clear hY hcell2 hjl hlj hq
                  go_wp2_with fail
                  go_quiet (fail)
                  go_wp2_with fail
                  go_roundw
                  case rel => exact ⟨j + 1, HLJ.out, by go_num, HN2.out, below_drewNq HBQ.out _⟩
                  case measure => have := HLJ.out; simp [intOf]; omega
              · obtain rfl : j = i := by omega
                have HTO2 := Lib.hid (HYK.out H32.out HKN.out HNJ.out)
                clear hlj
                go_wp2_with fail
                go_roundw
                case rel => exact ⟨j + 1, HLT.out, by go_num, HTO2.out, HBX.out⟩
                case measure => have := HLT.out; simp [intOf]; omega
        · have h32' : ¬ ((bs X.2).size : Int) = 32 := by omega
          have HNO := Lib.hid (HNK.out fun h => absurd h h32)
          clear hs0 h32
          go_quiet (fail)
          go_wp2_with fail
          go_ret
          exact ⟨by rw [HRR.out, HNO.out]; rfl, below_drewNq (HB0.out.trans (HB5.out.mono HB0.out.size)) _⟩
      · obtain rfl : i = n := by omega
        have HYS := Lib.hid (show mayB D num ks = true by rw [HHO.out]; exact keysTo_all HTO.out HN.out)
        go_wp2_with fail
        go_ret
        exact ⟨by rw [HRR.out, HYS.out]; rfl, HB0.out.trans (HBW.out.mono HB0.out.size)⟩
end Go.Proofs.YtilhhigdegccgaaDoor.Js
/-
  Walk: brevetref15.foreign (OpBundle, OpUnbind).
-/
namespace Go.Proofs.YtilhhigdegccgaaDoor
set_option linter.unusedSimpArgs false
set_option linter.unusedVariables false
open Go.RowKit
theorem LW.buns_put {u u' : World} {base g K : Nat} {d : LedD} {s : Sl BunD} (h : LW u base g K d) (hs : s.Own u base 45 3 bunCells K) (ho : ∀ x ∈ s.l, BunOk u x) (hw : Wrote g u u') (hb : Blk u' g 33 ((ledCells d).setIfInBounds 5 s.v)) : LW u' base g K { d with buns := s } :=
  LW.put h.box h.hg (h.ll.setBuns hs ho) hw hb
theorem bs_toBs (x : ByteArray) : Js.bs x.data.toList = x := by
  apply ByteArray.ext
  simp [Js.bs]
theorem may15_any (b : BunD) (w : World) (h : BunIn w b) : Calls Tryd.prog 63 #[.agg (bunCells b)] w (SomeBB w) := by
  obtain ⟨h0, h1, h2, l, h3, h4, h5⟩ := h
  have hrow : rowsV Js.kCell (l.map fun k => (k.kid.data.toList, k.x.data.toList)) = rowsV jwkCells l := by
    clear h3 h4 h5
    induction l with
    | nil => rfl
    | cons x r ih =>
      rw [List.map_cons, rowsV_cons_r, rowsV_cons_r, ih]
      simp [Js.kCell, jwkCells, bs_toBs]
  have hc := Js.rmay_any b.dom.data.toList b.num (l.map fun k => (k.kid.data.toList, k.x.data.toList)) b.kA b.kc w.heap.size w (by rw [hrow]; exact h5.rd) (Nat.le_refl _) (by show b.dom.size ≤ 100000; omega) (by rw [List.length_map, h3]; omega) (fun k hk => by
    obtain ⟨x, hx, rfl⟩ := List.mem_map.1 hk
    have := h4 x hx
    have h6 : x.x.data.toList.length = x.x.size := rfl
    show (x.x.data.toList.length : Int) ≤ _
    omega)
  have he : Js.bC b.dom.data.toList b.num b.kA (l.map fun k => (k.kid.data.toList, k.x.data.toList)).length b.kc = bunCells b := by
    rw [List.length_map, h3]
    simp [Js.bC, bunCells, bs_toBs]
  rw [he] at hc
  exact hc.mono fun e w' h => ⟨⟨_, h.1⟩, h.2⟩
theorem opC_bun (o : OpD) : (((opC o).toList.drop 21).take 3).toArray = bunCells o.bun := rfl
end Go.Proofs.YtilhhigdegccgaaDoor
/-
  Walk: brevetref15.entries (a list with one in its place, or more). (Printed by gen/lst20.py.)
-/
namespace Go.Proofs.YtilhhigdegccgaaDoor
set_option linter.unusedSimpArgs false
set_option linter.unusedVariables false
open Go.RowKit
set_option maxRecDepth 100000 in
set_option maxHeartbeats 4000000 in
theorem entries15_any (l : List EntD) (hl : l.length ≤ 1000) (z : EntD) (A : Option Addr) (c B : Nat) (w : World) (hr : Rd w B A (rowsV entCells l)) (hB : B ≤ w.heap.size) :
    Calls Tryd.prog 38 #[.slice A l.length c, .agg (entCells z)] w (ListPost 36 5 entCells l z w) := by
  have hu := Tryd.underlying36
  obtain ⟨W0, hW0⟩ : ∃ W0, W0 = w.alloc (.cells (entCells z) 36) := ⟨_, rfl⟩
  have HB0 := Lib.hid (show Below w.heap.size w W0 by rw [hW0]; exact (Below.refl _ w).alloc (Nat.le_refl _) _)
  have HK := Lib.hid (show Blk W0 w.heap.size 36 (entCells z) by rw [hW0]; exact Blk.new _ _ _)
  have HW0 := Lib.hid hW0
  obtain ⟨n, hn⟩ : ∃ n, n = l.length := ⟨_, rfl⟩
  have HN := Lib.hid hn
  have HR := Lib.hid (hr.below (HB0.out.mono hB))
  have HBB := Lib.hid (Nat.le_trans hB HB0.out.size)
  have hn' : (n : Int) ≤ 1000 := by omega
  rw [← hn]
  clear hW0 hr hB hl hn
  go_enter Tryd.func38, Tryd.ntmps38
  go_upto_region 1 with (fail)
  rw [show w.alloc (.cells (entCells z) 36) = W0 from HW0.out.symm]
  generalize Value.agg (entCells z) = AV
  go_wp2_with fail
  go_loopw [5, 6, 7] (fun out dv i wr => ∃ (k : Nat) (A1 : Option Addr) (c1 : Nat) (xs : List EntD) (dn : Bool), k ≤ n ∧ out = .slice A1 xs.length c1 ∧ dv = .bool dn ∧ i = .int .i64 (k : Int) ∧ OwnR wr W0.heap.size 36 5 A1 c1 xs.length (rowsV entCells xs) ∧ Below W0.heap.size W0 wr ∧ xs.length ≤ k + dn.toNat ∧ ∀ x ∈ xs, x ∈ l ∨ x = z) (fun _ _ i _ => n - (intOf i).toNat)
  case atStart => exact ⟨0, none, 0, [], false, by omega, rfl, rfl, rfl, OwnR.nil _ _ _ _, Below.refl _ _, by simp, fun x hx => by cases hx⟩
  case round =>
    obtain ⟨k, A1, c1, xs, dn, hk, rfl, rfl, rfl, hown, hbel, hlen, hmem⟩ := hrel
    have HOWN := Lib.hid hown
    have HBEL := Lib.hid hbel
    have HLEN := Lib.hid hlen
    have HMEM := Lib.hid hmem
    have hxl : xs.length ≤ 1001 := by have : dn.toNat ≤ 1 := by cases dn <;> simp
                                      omega
    clear hown hbel hlen hmem
    by_cases hlt : k < n
    · have hkl : k < l.length := by rw [← HN.out]; exact hlt
      have hi1 : (0 : Int) ≤ (k : Int) := by omega
      have hi2 : (k : Int) < (n : Int) := by omega
      obtain ⟨ad, hA, hadb, hcell⟩ := rd_rows (f := entCells) (m := 5) (fun _ => rfl) (by decide) HR.out hkl
      subst hA
      obtain ⟨X, hX⟩ : ∃ X, X = l[k] := ⟨_, rfl⟩
      rw [← hX] at hcell
      have HX := Lib.hid (show X ∈ l by rw [hX]; exact List.getElem_mem hkl)
      have HC := Lib.hid (show ∀ u, Below W0.heap.size W0 u → ∀ j v, (entCells X).toList[j]? = some v → u.cell? ((ad.add (k * 5)).add j) = some v from fun u hu j v hv => by
        rw [hu.cell (p := (ad.add (k * 5)).add j) (by rw [block_of_add, block_of_add]; exact Nat.lt_of_lt_of_le hadb HBB.out)]
        exact hcell j v (by simpa using hv))
      have HD := Lib.hid (show ∀ u, Below W0.heap.size W0 u → u.cell? (ad.add (k * 5)) = some (.int .i64 X.n) ∧ u.cell? ⟨w.heap.size, 0, none⟩ = some (.int .i64 z.n) from fun u hu => ⟨HC.out u hu 0 _ rfl, (HK.out.below hu HK.out.lt).cell 0⟩)
      have HLT := Lib.hid hlt
      clear hX hcell hadb hkl hlt
      go_upto_region 6 with (fail)
      go_cut [25] (fun v wx => (∃ b, v = .bool b ∧ (b = true → dn = false)) ∧ ∃ m, wx = wr.drewN m)
      case first =>
        obtain ⟨d0, d2⟩ := HD.out wr HBEL.out
        cases dn with
        | true =>
          go_wp2_with fail
          go_quiet (fail)
          go_wp2_with fail
          go_meet
          exact ⟨⟨false, rfl, by simp⟩, _, rfl⟩
        | false =>
          by_cases hq : z.n ≤ X.n
          · go_wp2_with fail
            go_quiet (fail)
            go_wp2_with fail
            go_meet
            exact ⟨⟨true, by simp [hq], by simp⟩, _, rfl⟩
          · go_wp2_with fail
            go_quiet (fail)
            go_wp2_with fail
            go_meet
            exact ⟨⟨false, by simp [hq], by simp⟩, _, rfl⟩
      case rest =>
      obtain ⟨⟨b, rfl, hb⟩, md, rfl⟩ := hcut
      have HBD := Lib.hid (below_drewN9 HBEL.out md)
      have HOD := Lib.hid (show OwnR (wr.drewN md) W0.heap.size 36 5 A1 c1 xs.length (rowsV entCells xs) from HOWN.out)
      have HBF := Lib.hid hb
      clear hb
      go_upto_if 25 with (fail)
      go_cut [5, 6] (fun out dv wx => ∃ (A2 : Option Addr) (c2 : Nat) (ys : List EntD) (dn2 : Bool), out = .slice A2 ys.length c2 ∧ dv = .bool dn2 ∧ OwnR wx W0.heap.size 36 5 A2 c2 ys.length (rowsV entCells ys) ∧ Below W0.heap.size W0 wx ∧ ys.length ≤ k + dn2.toNat ∧ ∀ x ∈ ys, x ∈ l ∨ x = z)
      case first =>
        cases b with
        | false =>
          go_wp2_with fail
          go_meet
          exact ⟨A1, c1, xs, dn, rfl, rfl, HOD.out, HBD.out, HLEN.out, HMEM.out⟩
        | true =>
          obtain rfl : dn = false := HBF.out rfl
          go_wp2_with (first
            | (refine wpList_get_box (x := .tmp 3) (cs := #[.int .i64 z.n, .string z.path, .string z.parent, .int .i64 z.ttl, .slice z.sA z.sn z.sc]) (HK.out.below HBD.out HK.out.lt) rfl rfl rfl hu rfl entT_size ?_)
            | (refine wpList_append_r1 (ys := [.int .i64 z.n, .string z.path, .string z.parent, .int .i64 z.ttl, .slice z.sA z.sn z.sc]) sl_ents rfl rfl HOD.out rfl rfl rfl rfl (by simp [Value.oneCell']) (by unfold maxLen; omega) (by omega) HBD.out.size ?_; intro A5 c5 w5 hown5 hgr5 hn5))
          go_meet
          exact ⟨A5, c5, xs ++ [z], true, by simp, rfl, by rw [rowsV_append, rowsV_one, List.length_append]; exact hown5, HBD.out.grown hgr5 HBD.out.size (fun j hj => (HOD.out.lt j hj).1), by have := HLEN.out; simp at this ⊢; omega, fun x hx => by
            rcases List.mem_append.1 hx with h | h
            · exact HMEM.out x h
            · exact .inr (by simpa using h)⟩
      case rest =>
      obtain ⟨A2, c2, ys, dn2, rfl, rfl, hown2, hbel2, hlen2, hmem2⟩ := hcut
      have HOWN2 := Lib.hid hown2
      have HBEL2 := Lib.hid hbel2
      have HLEN2 := Lib.hid hlen2
      have HMEM2 := Lib.hid hmem2
      have hyl : ys.length ≤ 1001 := by have : dn2.toNat ≤ 1 := by cases dn2 <;> simp
                                        omega
      clear hown2 hbel2 hlen2 hmem2
      obtain ⟨d0, d2⟩ := HD.out _ HBEL2.out
      by_cases hr : (X.n == z.n) = true
      · have hr' : X.n = z.n := by simpa using hr
        · go_wp2_with fail
          go_quiet (fail)
          go_wp2_with fail
          go_roundw
          case rel => exact ⟨k + 1, A2, c2, ys, dn2, HLT.out, rfl, rfl, by go_num, HOWN2.out, (below_drewN9 HBEL2.out _), by have := HLEN2.out; omega, HMEM2.out⟩
          case measure => have := HLT.out; simp [intOf]; omega
      · have hr' : (X.n == z.n) = false := by simpa using hr
        ·
          go_wp2_with fail
          go_quiet (fail)
          go_wp2_with (first
            | (refine wpList_get_rd (r := [.int .i64 X.n, .string X.path, .string X.parent, .int .i64 X.ttl, .slice X.sA X.sn X.sc]) (fun j u hj => HC.out _ (below_drewN9 HBEL2.out _) j u hj) rfl rfl rfl hu rfl entT_size ?_)
            | (refine wpList_append_r1 (ys := [.int .i64 X.n, .string X.path, .string X.parent, .int .i64 X.ttl, .slice X.sA X.sn X.sc]) sl_ents rfl rfl (show OwnR (World.drewN _ _) W0.heap.size 36 5 A2 c2 ys.length (rowsV entCells ys) from HOWN2.out) rfl rfl rfl rfl (by simp [Value.oneCell']) (by unfold maxLen; omega) (by omega) (below_drewN9 HBEL2.out _).size ?_; intro A5 c5 w5 hown5 hgr5 hn5))
          go_roundw
          case rel => exact ⟨k + 1, A5, c5, ys ++ [X], dn2, HLT.out, by simp, rfl, by go_num, by rw [rowsV_append, rowsV_one, List.length_append]; exact hown5, Below.grown (below_drewN9 HBEL2.out _) hgr5 (Below.size (below_drewN9 HBEL2.out _)) (fun j hj => (HOWN2.out.lt j hj).1), by have := HLEN2.out; simp; omega, fun x hx => by
            rcases List.mem_append.1 hx with h | h
            · exact HMEM2.out x h
            · exact .inl (by have e : x = X := by simpa using h
                             rw [e]; exact HX.out)⟩
          case measure => have := HLT.out; simp [intOf]; omega
    · obtain rfl : k = n := by omega
      clear hlt
      cases dn with
      | true =>
        go_wp2_with fail
        go_ret
        exact ⟨A1, c1, xs, rfl, by have := HLEN.out; have := HN.out; simp at *; omega, HMEM.out, HOWN.out.mono HB0.out.size, HB0.out.trans (HBEL.out.mono HB0.out.size)⟩
      | false =>
        go_wp2_with (first
          | (refine wpList_get_box (x := .tmp 3) (cs := #[.int .i64 z.n, .string z.path, .string z.parent, .int .i64 z.ttl, .slice z.sA z.sn z.sc]) (HK.out.below HBEL.out HK.out.lt) rfl rfl rfl hu rfl entT_size ?_)
          | (refine wpList_append_r1 (ys := [.int .i64 z.n, .string z.path, .string z.parent, .int .i64 z.ttl, .slice z.sA z.sn z.sc]) sl_ents rfl rfl HOWN.out rfl rfl rfl rfl (by simp [Value.oneCell']) (by unfold maxLen; omega) (by omega) HBEL.out.size ?_; intro A5 c5 w5 hown5 hgr5 hn5))
        go_ret
        exact ⟨A5, c5, xs ++ [z], by simp, by have := HLEN.out; have := HN.out; simp at *; omega, fun x hx => by
          rcases List.mem_append.1 hx with h | h
          · exact HMEM.out x h
          · exact .inr (by simpa using h), OwnR.mono (by rw [rowsV_append, rowsV_one, List.length_append]; exact hown5) HB0.out.size, HB0.out.trans ((HBEL.out.grown hgr5 HBEL.out.size (fun j hj => (HOWN.out.lt j hj).1)).mono HB0.out.size)⟩
end Go.Proofs.YtilhhigdegccgaaDoor
