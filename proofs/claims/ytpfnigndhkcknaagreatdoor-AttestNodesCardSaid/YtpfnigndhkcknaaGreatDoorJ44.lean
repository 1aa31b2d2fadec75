/-
  Joined texts: Rmy.
-/
import Derived.Deep.QuietTactic
import Derived.BigQuiet
import Derived.Test.YtpfnigndhkcknaaGreatDoorJ43
import Derived.Test.YtpfnigndhkcknaaGreatDoorJ32
import Derived.Test.YtpfnigndhkcknaaGreatDoorJ13
/-
  Walk: the reference's May, at any bundle.
-/
namespace Go.Proofs.YtpfnigndhkcknaaGreatDoor.Js
set_option linter.unusedSimpArgs false
set_option linter.unusedVariables false
open Go.RowKit
theorem below_drewNq {B : Nat} {a w : World} (h : Below B a w) (n : Nat) : Below B a (w.drewN n) := ⟨h.os, h.tape, h.output, h.size, h.block⟩
set_option maxRecDepth 100000 in
set_option maxHeartbeats 8000000 in
theorem rmay_any (D : Bs) (num : Int) (ks : List (Bs × Bs)) (A : Option Addr) (c B : Nat) (w : World) (hr : Rd w B A (rowsV kCell ks)) (hB : B ≤ w.heap.size) (hD : D.length ≤ 100000) (hl : (ks.length : Int) ≤ 9223372036854775807)
    (hk : ∀ k ∈ ks, (k.2.length : Int) ≤ 9223372036854775807) :
    Calls Tryz.prog 73 #[.agg (bC D num A ks.length c)] w fun e w' => e = .returned (.bool (mayB D num ks)) ∧ Below w.heap.size w w' := by
  obtain ⟨r, hrr⟩ : ∃ r, r = mayB D num ks := ⟨_, rfl⟩
  rw [← hrr]
  have HRR := Lib.hid hrr
  clear hrr
  obtain ⟨n, hn⟩ : ∃ n, n = ks.length := ⟨_, rfl⟩
  rw [← hn] at hl ⊢
  have HN := Lib.hid hn
  obtain ⟨W0, hW0⟩ : ∃ W0, W0 = w.alloc (.cells (bC D num A n c) 45) := ⟨_, rfl⟩
  have hb0 : Below w.heap.size w W0 := by rw [hW0]; exact (Below.refl _ w).alloc (Nat.le_refl _) _
  have HB0 := Lib.hid hb0
  have HK := Lib.hid (show Blk W0 w.heap.size 45 (bC D num A n c) by rw [hW0]; exact Blk.new _ _ _)
  have HW0 := Lib.hid hW0
  have HR := Lib.hid (hr.below (hb0.mono hB))
  have HBB := Lib.hid hB
  have HKX := Lib.hid hk
  have HHD := Lib.hid (show headOk D num ks = (domB D && decide (0 ≤ num) && decide (num ≤ 1099511627776) && decide (n ≤ 8)) by rw [hn]; rfl)
  have C := Lib.hid (rdom_any D hD W0)
  obtain ⟨d, hd⟩ : ∃ d, d = domB D := ⟨_, rfl⟩
  rw [← hd] at C HHD
  have a0 : W0.cell? ⟨w.heap.size, 0, none⟩ = some (.string (bs D)) := HK.out.cell 0
  have a1 : W0.cell? ⟨w.heap.size, 1, none⟩ = some (.int .i64 num) := HK.out.cell 1
  have a2 : W0.cell? ⟨w.heap.size, 2, none⟩ = some (.slice A n c) := HK.out.cell 2
  clear hW0 hn hr hB hk hD hd hb0
  go_enter Tryz.func73, Tryz.ntmps73
  go_upto_region 1 with (fail)
  rw [show w.alloc (.cells (bC D num A n c) 45) = W0 from HW0.out.symm]
  generalize Value.agg (bC D num A n c) = AV
  go_wp2_with fail
  refine calls_then C.out ?_
  rintro e W0 ⟨rfl, rfl⟩
  cases d with
  | false =>
    have HNO := Lib.hid (mayB_no (HHD.out.trans (by rfl)))
    go_wp2_with fail
    go_ret
    exact ⟨by rw [HRR.out, HNO.out]; rfl, HB0.out⟩
  | true =>
    by_cases hn0 : num < 0
    · have HNO := Lib.hid (mayB_no (HHD.out.trans (by rw [decide_eq_false (show ¬ (0 ≤ num) by omega)]; rfl)))
      go_wp2_with fail
      go_ret
      exact ⟨by rw [HRR.out, HNO.out]; rfl, HB0.out⟩
    by_cases hn1 : 1099511627776 < num
    · have HNO := Lib.hid (mayB_no (HHD.out.trans (by rw [decide_eq_false (show ¬ (num ≤ 1099511627776) by omega)]; simp)))
      go_wp2_with fail
      go_ret
      exact ⟨by rw [HRR.out, HNO.out]; rfl, HB0.out⟩
    by_cases hn8 : 8 < (n : Int)
    · have HNO := Lib.hid (mayB_no (HHD.out.trans (by rw [decide_eq_false (show ¬ (n ≤ 8) by omega)]; simp)))
      go_wp2_with fail
      go_ret
      exact ⟨by rw [HRR.out, HNO.out]; rfl, HB0.out⟩
    have HHO := Lib.hid (show mayB D num ks = keysOk [] ks by
      unfold mayB
      rw [HHD.out, decide_eq_true (show 0 ≤ num by omega), decide_eq_true (show num ≤ 1099511627776 by omega), decide_eq_true (show n ≤ 8 by omega)]
      rfl)
    have hn8' : (n : Int) ≤ 8 := by omega
    clear hl
    go_upto_region 4 with (fail)
    clear hn0 hn1 hn8 a0 a1
    go_wp2_with fail
    go_loopw [4] (fun x wr => ∃ i : Nat, i ≤ n ∧ x = .int .i64 (i : Int) ∧ keysTo ks i ∧ Below W0.heap.size W0 wr) (fun x _ => n - (intOf x).toNat)
    case atStart => exact ⟨0, Nat.zero_le _, rfl, keysTo_zero ks, Below.refl _ _⟩
    case round =>
      obtain ⟨i, hi, rfl, hto, hbw⟩ := hrel
      have HTO := Lib.hid hto
      have HBW := Lib.hid hbw
      have a2 : wr.cell? ⟨w.heap.size, 2, none⟩ = some (.slice A n c) := (HK.out.below hbw HK.out.lt).cell 2
      clear hto hbw
      by_cases hlt : i < n
      · have huj := Tryz.underlying74
        have hil : i < ks.length := by rw [← HN.out]; exact hlt
        have hlt' : (i : Int) < (n : Int) := by omega
        obtain ⟨ad, hA, hadb, hcell⟩ := rd_rows (f := kCell) (m := 2) (fun _ => rfl) (by decide) (HR.out.below (HBW.out.mono (Nat.le_trans HBB.out HB0.out.size))) hil
        subst hA
        obtain ⟨X, hX⟩ : ∃ X, X = ks[i] := ⟨_, rfl⟩
        rw [← hX] at hcell
        have HCL := Lib.hid (show ∀ j u, (kCell X).toList[j]? = some u → wr.cell? ((ad.add (i * 2)).add j) = some u from fun j u hu => hcell j u (by simpa using hu))
        have HKL := Lib.hid (HKX.out X (by rw [hX]; exact List.getElem_mem hil))
        have HLT := Lib.hid hlt
        have HNK := Lib.hid (fun (hno : X.2.length = 32 → X.1 = nameL X.2 → X.1 ∈ (ks.take i).map (·.1)) => show mayB D num ks = false by
          rw [HHO.out]
          exact keysTo_no HTO.out hil (by rw [← hX]; exact hno))
        have HYK := Lib.hid (fun (h1 : X.2.length = 32) (h2 : X.1 = nameL X.2) (h3 : X.1 ∉ (ks.take i).map (·.1)) => show keysTo ks (i + 1) from
          keysTo_step HTO.out hil (by rw [← hX]; exact h1) (by rw [← hX]; exact h2) (by rw [← hX]; exact h3))
        clear hX hcell hadb hil hlt
        go_upto_region 8 with (first
          | refine wpList_get_rd (r := (kCell X).toList) HCL.out rfl rfl rfl huj rfl jk_size ?_
          | (refine wpList_put_box (cells := kCell X) (Blk.new _ _ _) rfl rfl rfl rfl jk_size rfl (kCell_one X) ?_; intro w5 hb5 hw5))
        have hbw5 : Below wr.heap.size wr w5 := box_low9 hw5
        obtain ⟨H, hH⟩ : ∃ H, H = wr.heap.size := ⟨_, rfl⟩
        rw [← hH] at hb5 ⊢
        have HK5 := Lib.hid hb5
        have HB5 := Lib.hid (HBW.out.trans (hbw5.mono HBW.out.size))
        have hc1 : w5.cell? ⟨H, 1, none⟩ = some (.string (bs X.2)) := hb5.cell 1
        have hs0 : ((bs X.2).size : Int) = (X.2.length : Int) := by rw [bs_size]
        have HHW := Lib.hid (show W0.heap.size ≤ H by rw [hH]; exact HBW.out.size)
        clear hb5 hw5 hbw5 a2 hH
        by_cases h32 : X.2.length = 32
        · have HS32 := Lib.hid (show (bs X.2).size = 32 by rw [bs_size, h32])
          have HSZ := Lib.hid (show ((bs X.2).size : Int) = 32 by rw [hs0, h32]; rfl)
          have HNA := Lib.hid (show ∀ A c u, Rd u u.heap.size A (bytesV X.2) → 32 ≤ c → Calls Tryz.prog 33 #[.slice A 32 c] u (fun e w' => e = .returned (.string (bs (nameL X.2))) ∧ Below u.heap.size u w') from
            fun A c u h1 h2 => by have h := rname_any X.2 (by omega) A c u h1 (by omega) (digS32_len2 X.2); rw [h32] at h; exact h)
          have hus := Tryz.underlying9
          have hub8 := Tryz.underlying76
          have hu8 := Tryz.underlying5
          have HC0 : Below w5.heap.size w5 w5.drew := (Below.refl _ _).drew
          have H32 := Lib.hid h32
          clear hs0 h32 hc1
          obtain ⟨q, hq⟩ : ∃ q, q = decide (X.1 = nameL X.2) := ⟨_, rfl⟩
          have HQ := Lib.hid (show ((bs X.1).toList == (bs (nameL X.2)).toList) = q by rw [bs_toList, bs_toList, hq]; by_cases h : X.1 = nameL X.2 <;> simp [h])
          have HQQ := Lib.hid hq
          clear hq
          apply wp_region_seqg (fun u => Below w5.heap.size w5 u) (fun u u' => Below u.heap.size u u') [_, _, _, _, _, _, _, _, _, undef, _, _, _] (gOf [(9, fun v u => BytFrom u 0 32 X.2 v)]) (by kernel_rfl) (by kernel_rfl) (stabL_of _ ⟨(fun _ _ _ h h0 => h0.step h), trivial⟩) HC0
          iterate 1
            ((first | (apply SeqG.next; rfl; rfl; rfl)); (simp only [act_put, act_put_none, List.setIfInBounds_toArray, List.set_cons_zero, List.set_cons_succ]; rfl); (intro w1 hC1 hf E hE; go_wp2; exact .mk (hE _ hC1 (Below.refl _ _))))
          apply SeqG.next
          · rfl
          · rfl
          · rfl
          · simp only [act_put, act_put_none, List.setIfInBounds_toArray, List.set_cons_zero, List.set_cons_succ]
            rfl
          · intro w1 hC1 hf E hE
            have d0 := (HK5.out.below hC1 HK5.out.lt).cell 1
            simp only [kCell, List.getElem?_toArray, List.getElem?_cons_zero, List.getElem?_cons_succ] at d0
            go_wp2
            exact .mk (hE _ hC1 (Below.refl _ _))
          apply SeqG.next
          · rfl
          · rfl
          · rfl
          · simp only [act_put, act_put_none, List.setIfInBounds_toArray, List.set_cons_zero, List.set_cons_succ]
            rfl
          · intro w1 hC1 hf E hE
            have hsz := HSZ.out
            go_wp2
            exact .mk (hE _ hC1 (Below.refl _ _))
          iterate 3
            first
            | (apply SeqG.no (fun _ => (Below.refl _ _)); rfl; rfl; rfl; rfl; rfl; (simp only [act_put, act_put_none, List.setIfInBounds_toArray, List.set_cons_zero, List.set_cons_succ]; rfl))
            | ((first | (apply SeqG.next; rfl; rfl; rfl) | (apply SeqG.yes; rfl; rfl; rfl; rfl; rfl)); (simp only [act_put, act_put_none, List.setIfInBounds_toArray, List.set_cons_zero, List.set_cons_succ]; rfl); (intro w1 hC1 hf E hE; go_wp2; exact .mk (hE _ hC1 (Below.refl _ _))))
          apply SeqG.yes
          · rfl
          · rfl
          · rfl
          · rfl
          · rfl
          · simp only [act_put, act_put_none, List.setIfInBounds_toArray, List.set_cons_zero, List.set_cons_succ]
            rfl
          · intro w1 hC1 hf E hE
            have d0 := (HK5.out.below hC1 HK5.out.lt).cell 0
            simp only [kCell, List.getElem?_toArray, List.getElem?_cons_zero, List.getElem?_cons_succ] at d0
            go_wp2
            exact .mk (hE _ hC1 (Below.refl _ _))
          iterate 1
            first
            | (apply SeqG.no (fun _ => (Below.refl _ _)); rfl; rfl; rfl; rfl; rfl; (simp only [act_put, act_put_none, List.setIfInBounds_toArray, List.set_cons_zero, List.set_cons_succ]; rfl))
            | ((first | (apply SeqG.next; rfl; rfl; rfl) | (apply SeqG.yes; rfl; rfl; rfl; rfl; rfl)); (simp only [act_put, act_put_none, List.setIfInBounds_toArray, List.set_cons_zero, List.set_cons_succ]; rfl); (intro w1 hC1 hf E hE; go_wp2; exact .mk (hE _ hC1 (Below.refl _ _))))
          apply SeqG.yes
          · rfl
          · rfl
          · rfl
          · rfl
          · rfl
          · simp only [act_put, act_put_none, List.setIfInBounds_toArray, List.set_cons_zero, List.set_cons_succ]
            rfl
          · intro w1 hC1 hf E hE
            have d0 := (HK5.out.below hC1 HK5.out.lt).cell 1
            simp only [kCell, List.getElem?_toArray, List.getElem?_cons_zero, List.getElem?_cons_succ] at d0
            go_wp2
            exact .mk (hE _ hC1 (Below.refl _ _))
          apply SeqG.yesS
          · rfl
          · rfl
          · rfl
          · rfl
          · intro w1 hC1 hf E hE
            simp only [act_put, act_put_none, List.setIfInBounds_toArray, List.set_cons_zero, List.set_cons_succ] at hE
            refine wpList_bytes_cap (s := bs X.2) hus hub8 hu8 rfl rfl rfl (by rw [HS32.out]; decide) ?_
            intro c7 w7 hr7 hc7 hm7 hb7
            rw [HS32.out] at hc7 ⊢
            go_wp2_with fail
            exact .mk (hE _ _ ⟨_, c7, rfl, hc7, hm7, Nat.zero_le _, hr7⟩ (hC1.trans (hb7.mono hC1.size)) hb7)
          intro x9
          simp only [act_put, act_put_none, List.setIfInBounds_toArray, List.set_cons_zero, List.set_cons_succ]
          apply SeqG.yes
          · rfl
          · rfl
          · rfl
          · rfl
          · rfl
          · simp only [act_put, act_put_none, List.setIfInBounds_toArray, List.set_cons_zero, List.set_cons_succ]
            rfl
          · intro w1 hC1 hf E hE
            have f9 := (hf 9 (of_decide_eq_true (by kernel_rfl))).1 rfl
            obtain ⟨g9, c9, hx9, hc9, hm9, hl9, hr9⟩ := f9
            subst hx9
            go_wp2_with fail
            refine calls_then (HNA.out _ c9 _ hr9 hc9) ?_
            rintro e w2 ⟨rfl, hb2⟩
            go_wp2_with fail
            exact .mk (hE _ (hC1.trans (hb2.mono hC1.size)) hb2)
          apply SeqG.yes
          · rfl
          · rfl
          · rfl
          · rfl
          · rfl
          · simp only [act_put, act_put_none, List.setIfInBounds_toArray, List.set_cons_zero, List.set_cons_succ]
            rfl
          · intro w1 hC1 hf E hE
            have hq := HQ.out
            go_wp2
            exact .mk (hE _ hC1 (Below.refl _ _))
          iterate 1
            ((first | (apply SeqG.next; rfl; rfl; rfl)); (simp only [act_put, act_put_none, List.setIfInBounds_toArray, List.set_cons_zero, List.set_cons_succ]; rfl); (intro w1 hC1 hf E hE; go_wp2; exact .mk (hE _ hC1 (Below.refl _ _))))
          refine SeqG.nil ?_
          intro w1 hC1 hf
          have f9 := (hf 9).1 rfl
          clear hf
          have HB6 := Lib.hid (HB5.out.trans (hC1.mono HB5.out.size))
          have HK6 := Lib.hid (HK5.out.below hC1 HK5.out.lt)
          clear hC1 HC0
          cases q with
          | false =>
            have HNO := Lib.hid (HNK.out fun _ h => absurd h (of_decide_eq_false HQQ.out.symm))
            go_wp2_with fail
            go_ret
            exact ⟨by rw [HRR.out, HNO.out]; rfl, HB0.out.trans (HB6.out.mono HB0.out.size)⟩
          | true =>
            have HKN := Lib.hid (show X.1 = nameL X.2 from of_decide_eq_true HQQ.out.symm)
            go_wp2_with fail
            go_loopw [6] (fun x wq => ∃ j : Nat, j ≤ i ∧ x = .int .i64 (j : Int) ∧ X.1 ∉ (ks.take j).map (·.1) ∧ Below w1.heap.size w1 wq) (fun x _ => i - (intOf x).toNat)
            case atStart => exact ⟨0, Nat.zero_le _, rfl, by simp, Below.refl _ _⟩
            case round =>
              obtain ⟨j, hj, rfl, hno, hbq⟩ := hrel
              have HNJ := Lib.hid hno
              have HBQ := Lib.hid hbq
              have HBX := Lib.hid (HB6.out.trans (hbq.mono HB6.out.size))
              have b2 : wr.cell? ⟨w.heap.size, 2, none⟩ = some (.slice (some ad) n c) := (HK.out.below HBX.out HK.out.lt).cell 2
              have b0 : wr.cell? ⟨H, 0, none⟩ = some (.string (bs X.1)) := (HK6.out.below hbq HK6.out.lt).cell 0
              clear hno hbq
              by_cases hlj : j < i
              · have hjl : j < ks.length := by have := HN.out; have := HLT.out; omega
                have hlj' : (j : Int) < (i : Int) := by omega
                have hjn : (j : Int) < (n : Int) := by have := HLT.out; omega
                obtain ⟨ad2, hA2, -, hcell2⟩ := rd_rows (f := kCell) (m := 2) (fun _ => rfl) (by decide) (HR.out.below (HBX.out.mono (Nat.le_trans HBB.out HB0.out.size))) hjl
                injection hA2 with hA2
                subst hA2
                obtain ⟨Y, hY⟩ : ∃ Y, Y = ks[j] := ⟨_, rfl⟩
                rw [← hY] at hcell2
                have c0 : wr.cell? (ad.add (j * 2)) = some (.string (bs Y.1)) := hcell2 0 _ rfl
                have HLJ := Lib.hid hlj
                by_cases hq : Y.1 = X.1
                · have hq' : ((bs Y.1).toList == (bs X.1).toList) = true := by rw [bs_toList, bs_toList]; simpa using hq
                  have HNO := Lib.hid (HNK.out fun _ _ => List.mem_map.2 ⟨Y, by
                    rw [hY]
                    exact List.mem_take_iff_getElem.2 ⟨j, by omega, rfl⟩, hq⟩)
                  clear hY hcell2 hjl hlj hq
                  go_wp2_with fail
                  go_quiet (fail)
                  go_wp2_with fail
                  go_ret
                  exact ⟨by rw [HRR.out, HNO.out]; rfl, below_drewNq (HB0.out.trans (HBX.out.mono HB0.out.size)) _⟩
                · have hq' : ((bs Y.1).toList == (bs X.1).toList) = false := by rw [bs_toList, bs_toList]; simpa using hq
                  have HN2 := Lib.hid (show X.1 ∉ (ks.take (j + 1)).map (·.1) by
                    rw [List.take_succ_eq_append_getElem hjl, List.map_append, List.mem_append]
                    rintro (h1 | h1)
                    · exact HNJ.out h1
                    · have h2 : X.1 = ks[j].1 := List.mem_singleton.1 h1
                      exact hq (by rw [hY, h2]))
                  clear hY hcell2 hjl hlj hq
                  go_wp2_with fail
                  go_quiet (fail)
                  go_wp2_with fail
                  go_roundw
                  case rel => exact ⟨j + 1, HLJ.out, by go_num, HN2.out, below_drewNq HBQ.out _⟩
                  case measure => have := HLJ.out; simp [intOf]; omega
              · obtain rfl : j = i := by omega
                have HTO2 := Lib.hid (HYK.out H32.out HKN.out HNJ.out)
                clear hlj
                go_wp2_with fail
                go_roundw
                case rel => exact ⟨j + 1, HLT.out, by go_num, HTO2.out, HBX.out⟩
                case measure => have := HLT.out; simp [intOf]; omega
        · have h32' : ¬ ((bs X.2).size : Int) = 32 := by omega
          have HNO := Lib.hid (HNK.out fun h => absurd h h32)
          clear hs0 h32
          go_quiet (fail)
          go_wp2_with fail
          go_ret
          exact ⟨by rw [HRR.out, HNO.out]; rfl, below_drewNq (HB0.out.trans (HB5.out.mono HB0.out.size)) _⟩
      · obtain rfl : i = n := by omega
        have HYS := Lib.hid (show mayB D num ks = true by rw [HHO.out]; exact keysTo_all HTO.out HN.out)
        go_wp2_with fail
        go_ret
        exact ⟨by rw [HRR.out, HYS.out]; rfl, HB0.out.trans (HBW.out.mono HB0.out.size)⟩
end Go.Proofs.YtpfnigndhkcknaaGreatDoor.Js
