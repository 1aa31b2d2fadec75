/-
  Walk: the reference's Same, of two trees that are the same.
-/
import Derived.Test.YtcfbnjaelniahaaJs16
import Derived.Test.YtcfbnjaelniahaaJrr
namespace Go.Proofs.Ytcfbnjaelniahaa.Js
set_option linter.unusedSimpArgs false
set_option linter.unusedVariables false
open Go.RowKit

/-- the names of one tree and the same of another lie the same -/
def SmP (j : JT) : Prop := ∀ (va vb : JV) (B : Nat) (w : World), smallJ j = true → JRep w (fun b => b < B) j va → JRep w (fun b => b < B) j vb → B ≤ w.heap.size →
  Calls Try.prog 13 #[.agg (jvCells va), .agg (jvCells vb)] w fun x w' => x = .returned (.bool true) ∧ Below w.heap.size w w'
set_option maxRecDepth 100000 in
set_option maxHeartbeats 4000000 in
theorem same_any : ∀ j, SmP j := by
  refine JT.ind ?_
  intro k0 n0 t0 ns ks IH va vb B w hs hja hjb hB
  have hu := Try.underlying25
  obtain ⟨ns1, ks1, kva, e1, hn1, hnc1, hnr1, hkn1, hkc1, hkv1, hkr1, hkids1⟩ := hja.inv
  obtain ⟨ns2, ks2, kvb, e2, hn2, hnc2, hnr2, hkn2, hkc2, hkv2, hkr2, hkids2⟩ := hjb.inv
  rw [smallJ] at hs
  simp only [Bool.and_eq_true, decide_eq_true_eq] at hs
  obtain ⟨⟨hsn, hsk⟩, hsm⟩ := hs
  obtain ⟨vk, vn, vt, nA, nn, nc, kA, kn, kc⟩ := va
  obtain ⟨vk', vn', vt', nA', nn', nc', kA', kn', kc'⟩ := vb
  dsimp only at *
  injection e1 with x1 x2 x3 x4 x5
  injection e2 with y1 y2 y3 y4 y5
  subst x1 x2 x3 x4 x5 y1 y2 y3 y4 y5
  have f1 : nn' = nn := by rw [hn1, hn2]
  have f2 : kn' = kn := by rw [hkn1, hkn2]
  subst f1 f2
  clear hja hjb hnc1 hnc2 hkc1 hkc2
  obtain ⟨G, hG⟩ : ∃ G, G = w.heap.size := ⟨_, rfl⟩
  obtain ⟨W0, hW0⟩ : ∃ W0, W0 = (w.alloc (.cells (jvCells ⟨k0, n0, t0, nA, nn', nc, kA, kn', kc⟩) 25)).alloc (.cells (jvCells ⟨k0, n0, t0, nA', nn', nc', kA', kn', kc'⟩) 25) := ⟨_, rfl⟩
  have hb0 : Below w.heap.size w W0 := by rw [hW0]; exact ((Below.refl _ w).alloc (Nat.le_refl _) _).alloc (by simp) _
  have HB0 := Lib.hid hb0
  have HKA := Lib.hid (show Blk W0 G 25 (jvCells ⟨k0, n0, t0, nA, nn', nc, kA, kn', kc⟩) by rw [hW0, hG]; exact (Blk.new _ _ _).alloc _)
  have HKB := Lib.hid (show Blk W0 (G + 1) 25 (jvCells ⟨k0, n0, t0, nA', nn', nc', kA', kn', kc'⟩) by
    have := Blk.new (w.alloc (.cells (jvCells ⟨k0, n0, t0, nA, nn', nc, kA, kn', kc⟩) 25)) 25 (jvCells ⟨k0, n0, t0, nA', nn', nc', kA', kn', kc'⟩)
    rw [hW0, hG]
    simpa using this)
  have HNA := Lib.hid (show Rd W0 B nA (rowsV sCell ns) from (hnr1.rd (fun _ _ h => h)).below (hb0.mono hB))
  have HNB := Lib.hid (show Rd W0 B nA' (rowsV sCell ns) from (hnr2.rd (fun _ _ h => h)).below (hb0.mono hB))
  have HRA := Lib.hid (show Rd W0 B kA (rowsV jvCells kva) from (hkr1.rd (fun _ _ h => h)).below (hb0.mono hB))
  have HRB := Lib.hid (show Rd W0 B kA' (rowsV jvCells kvb) from (hkr2.rd (fun _ _ h => h)).below (hb0.mono hB))
  have HIA := Lib.hid (show ∀ i (h : i < ks.length) (h' : i < kva.length), JRep W0 (fun b => b < B) ks[i] kva[i] from fun i h h' => (hkids1 i h h').under (hb0.mono hB))
  have HIB := Lib.hid (show ∀ i (h : i < ks.length) (h' : i < kvb.length), JRep W0 (fun b => b < B) ks[i] kvb[i] from fun i h h' => (hkids2 i h h').under (hb0.mono hB))
  have HBB := Lib.hid (show B ≤ W0.heap.size from Nat.le_trans hB hb0.size)
  have HW0 := Lib.hid hW0
  have HVA := Lib.hid hkv1
  have HVB := Lib.hid hkv2
  have HSM := Lib.hid hsm
  have HIH := Lib.hid IH
  have HN := Lib.hid hn1
  have HK := Lib.hid hkn1
  have hnn : (nn' : Int) ≤ 4096 := by omega
  have hkk : (kn' : Int) ≤ 4096 := by omega
  have a0 : W0.cell? ⟨G, 0, none⟩ = some (.int .i64 k0) := HKA.out.cell 0
  have a1 : W0.cell? ⟨G, 1, none⟩ = some (.int .i64 n0) := HKA.out.cell 1
  have a2 : W0.cell? ⟨G, 2, none⟩ = some (.string (bs t0)) := HKA.out.cell 2
  have a3 : W0.cell? ⟨G, 3, none⟩ = some (.slice nA nn' nc) := HKA.out.cell 3
  have a4 : W0.cell? ⟨G, 4, none⟩ = some (.slice kA kn' kc) := HKA.out.cell 4
  have b0 : W0.cell? ⟨G + 1, 0, none⟩ = some (.int .i64 k0) := HKB.out.cell 0
  have b1 : W0.cell? ⟨G + 1, 1, none⟩ = some (.int .i64 n0) := HKB.out.cell 1
  have b2 : W0.cell? ⟨G + 1, 2, none⟩ = some (.string (bs t0)) := HKB.out.cell 2
  have b3 : W0.cell? ⟨G + 1, 3, none⟩ = some (.slice nA' nn' nc') := HKB.out.cell 3
  have b4 : W0.cell? ⟨G + 1, 4, none⟩ = some (.slice kA' kn' kc') := HKB.out.cell 4
  clear hW0 hb0 hnr1 hnr2 hkr1 hkr2 hkids1 hkids2 hB hsn hsk hsm hkv1 hkv2 IH hn1 hn2 hkn1 hkn2
  rw [hG] at *
  clear hG
  go_enter Try.func13, Try.ntmps13
  go_upto_region 1 with (fail)
  rw [← HW0.out]
  clear HW0
  generalize Value.agg (jvCells ⟨k0, n0, t0, nA, nn', nc, kA, kn', kc⟩) = AV
  generalize Value.agg (jvCells ⟨k0, n0, t0, nA', nn', nc', kA', kn', kc'⟩) = BV
  go_wp2_with fail
  clear a0 a1 a2 b0 b1 b2
  go_loopw [5] (fun x wr => ∃ i : Nat, i ≤ nn' ∧ x = .int .i64 (i : Int) ∧ Below W0.heap.size W0 wr) (fun x _ => nn' - (intOf x).toNat)
  case atStart => exact ⟨0, by omega, rfl, Below.refl _ _⟩
  case round =>
    obtain ⟨i, hi, rfl, hbel⟩ := hrel
    have HBE := Lib.hid hbel
    have a3 : wr.cell? ⟨w.heap.size, 3, none⟩ = some (.slice nA nn' nc) := (HKA.out.below hbel HKA.out.lt).cell 3
    have b3 : wr.cell? ⟨w.heap.size + 1, 3, none⟩ = some (.slice nA' nn' nc') := (HKB.out.below hbel HKB.out.lt).cell 3
    clear hbel a4 b4
    by_cases hlt : i < nn'
    · have hlt' : (i : Int) < (nn' : Int) := by omega
      have HLT := Lib.hid hlt
      have hil : i < ns.length := by rw [← HN.out]; exact hlt
      obtain ⟨ad, hA, hadb, hcell⟩ := rd_rows (f := sCell) (m := 1) (fun _ => rfl) (by decide) HNA.out hil
      obtain ⟨ad', hA', hadb', hcell'⟩ := rd_rows (f := sCell) (m := 1) (fun _ => rfl) (by decide) HNB.out hil
      subst hA hA'
      obtain ⟨X, hX⟩ : ∃ X, X = ns[i] := ⟨_, rfl⟩
      rw [← hX] at hcell hcell'
      have c1 : wr.cell? (ad.add i) = some (.string (bs X)) := by
        rw [(HBE.out.mono HBB.out).cell (p := ad.add i) (by rw [block_of_add]; exact hadb)]
        have h := hcell 0 _ rfl
        rw [Nat.mul_one] at h
        exact h
      have c2 : wr.cell? (ad'.add i) = some (.string (bs X)) := by
        rw [(HBE.out.mono HBB.out).cell (p := ad'.add i) (by rw [block_of_add]; exact hadb')]
        have h := hcell' 0 _ rfl
        rw [Nat.mul_one] at h
        exact h
      clear hX hcell hcell' hil hlt hadb hadb'
      go_wp2_with fail
      go_quiet (fail)
      go_wp2_with fail
      go_roundw
      case rel => exact ⟨i + 1, HLT.out, by go_num, below_drewN HBE.out _⟩
      case measure => have := HLT.out; simp [intOf]; omega
    · obtain rfl : i = nn' := by omega
      go_wp2_with fail
      clear a3 b3
      go_loopw [6] (fun x wr => ∃ q : Nat, q ≤ kn' ∧ x = .int .i64 (q : Int) ∧ Below W0.heap.size W0 wr) (fun x _ => kn' - (intOf x).toNat)
      case atStart => exact ⟨0, by omega, rfl, HBE.out⟩
      case round =>
        obtain ⟨q, hq, rfl, hbel⟩ := hrel
        have HBQ := Lib.hid hbel
        have a4 : wr.cell? ⟨w.heap.size, 4, none⟩ = some (.slice kA kn' kc) := (HKA.out.below hbel HKA.out.lt).cell 4
        clear hbel
        by_cases hlt : q < kn'
        · have hlt' : (q : Int) < (kn' : Int) := by omega
          have HLT := Lib.hid hlt
          have hil : q < ks.length := by rw [← HK.out]; exact hlt
          obtain ⟨ad, hA, hadb, hcell⟩ := rd_rows (f := jvCells) (m := 5) (fun _ => rfl) (by decide) HRA.out (show q < kva.length by rw [HVA.out]; exact hil)
          obtain ⟨ad', hA', hadb', hcell'⟩ := rd_rows (f := jvCells) (m := 5) (fun _ => rfl) (by decide) HRB.out (show q < kvb.length by rw [HVB.out]; exact hil)
          subst hA hA'
          obtain ⟨X, hX⟩ : ∃ X, X = kva[q]'(by rw [HVA.out]; exact hil) := ⟨_, rfl⟩
          obtain ⟨Y, hY⟩ : ∃ Y, Y = kvb[q]'(by rw [HVB.out]; exact hil) := ⟨_, rfl⟩
          rw [← hX] at hcell
          rw [← hY] at hcell'
          have HCA := Lib.hid (show ∀ u, Below W0.heap.size W0 u → ∀ j x, (jvCells X).toList[j]? = some x → u.cell? ((ad.add (q * 5)).add j) = some x from fun u hu j x hx => by
            rw [(hu.mono HBB.out).cell (p := (ad.add (q * 5)).add j) (by rw [block_of_add, block_of_add]; exact hadb)]
            exact hcell j x (by simpa using hx))
          have HCB := Lib.hid (show ∀ u, Below W0.heap.size W0 u → ∀ j x, (jvCells Y).toList[j]? = some x → u.cell? ((ad'.add (q * 5)).add j) = some x from fun u hu j x hx => by
            rw [(hu.mono HBB.out).cell (p := (ad'.add (q * 5)).add j) (by rw [block_of_add, block_of_add]; exact hadb')]
            exact hcell' j x (by simpa using hx))
          have CS := Lib.hid (show ∀ u, Below W0.heap.size W0 u → Calls Try.prog 13 #[.agg (jvCells X), .agg (jvCells Y)] u fun x w' => x = .returned (.bool true) ∧ Below u.heap.size u w' from fun u hu =>
            HIH.out ks[q] (List.getElem_mem hil) X Y B u ((smallsJ_iff _).1 HSM.out _ (List.getElem_mem hil)) (by rw [hX]; exact (HIA.out q hil (by rw [HVA.out]; exact hil)).under (hu.mono HBB.out)) (by rw [hY]; exact (HIB.out q hil (by rw [HVB.out]; exact hil)).under (hu.mono HBB.out)) (Nat.le_trans HBB.out hu.size))
          clear hX hY hcell hcell' hil hlt hadb hadb'
          go_wp2_with fail
          have HC0 : Below W0.heap.size W0 wr.drew := HBQ.out.drew
          clear a4
          refine wp_region_det (fun u => Below W0.heap.size W0 u) (fun u => Below W0.heap.size W0 u) [(0, some 70), (1, some 71), (2, some 72), (3, some 73), (4, some 74), (5, some 75), (6, some 76), (7, some 77), (8, some 78), (9, some 79), (10, some 80), (11, some 7)] (by kernel_rfl) (by kernel_rfl) (by decide) (by kernel_rfl) (fun _ => rfl) HC0 ?_
          apply DetL.next
          · -- 0: Op.fieldAddr 25 (Operand.tmp 2) 4
            apply detStep_plain []
            exact fun _ => rfl
            rfl
            rintro vals - w1 hC1 E hE
            simp only [puts, act_put, act_put_none, List.setIfInBounds_toArray, List.set_cons_zero, List.set_cons_succ] at hE ⊢
            go_wp2
            exact .mk (hE _ hC1)
          apply DetL.next
          · -- 1: Op.load 23 (Operand.tmp 70)
            apply detStep_plain [(0, some 70)]
            exact fun _ => rfl
            rfl
            rintro vals ⟨-, f0⟩ w1 hC1 E hE
            have d4 : w1.cell? ⟨w.heap.size, 4, none⟩ = some (.slice (some ad) kn' kc) := (HKA.out.below hC1 HKA.out.lt).cell 4
            simp only [puts, act_put, act_put_none, List.setIfInBounds_toArray, List.set_cons_zero, List.set_cons_succ, f0] at hE ⊢
            clear f0
            go_wp2
            exact .mk (hE _ hC1)
          apply DetL.next
          · -- 2: Op.move (Operand.tmp 6)
            apply detStep_plain []
            exact fun _ => rfl
            rfl
            rintro vals ⟨⟨-, -⟩, -⟩ w1 hC1 E hE
            simp only [puts, act_put, act_put_none, List.setIfInBounds_toArray, List.set_cons_zero, List.set_cons_succ] at hE ⊢
            go_wp2
            exact .mk (hE _ hC1)
          apply DetL.next
          · -- 3: Op.indexAddr 23 (Operand.tmp 71) (Operand.tmp 72)
            apply detStep_plain [(1, some 71), (2, some 72)]
            exact fun _ => rfl
            rfl
            rintro vals ⟨⟨⟨-, -⟩, f1⟩, f2⟩ w1 hC1 E hE
            simp only [puts, act_put, act_put_none, List.setIfInBounds_toArray, List.set_cons_zero, List.set_cons_succ, f1, f2] at hE ⊢
            clear f1 f2
            go_wp2
            exact .mk (hE _ hC1)
          apply DetL.next
          · -- 4: Op.load 25 (Operand.tmp 73)
            apply detStep_plain [(3, some 73)]
            exact fun _ => rfl
            rfl
            rintro vals ⟨⟨⟨⟨-, -⟩, -⟩, -⟩, f3⟩ w1 hC1 E hE
            simp only [puts, act_put, act_put_none, List.setIfInBounds_toArray, List.set_cons_zero, List.set_cons_succ, f3] at hE ⊢
            clear f3
            go_wp2_with (refine wpList_get_rd (r := (jvCells X).toList) (HCA.out _ hC1) rfl rfl rfl hu rfl jT_size3 ?_)
            exact .mk (hE _ hC1)
          apply DetL.next
          · -- 5: Op.fieldAddr 25 (Operand.tmp 3) 4
            apply detStep_plain []
            exact fun _ => rfl
            rfl
            rintro vals ⟨⟨⟨⟨⟨-, -⟩, -⟩, -⟩, -⟩, -⟩ w1 hC1 E hE
            simp only [puts, act_put, act_put_none, List.setIfInBounds_toArray, List.set_cons_zero, List.set_cons_succ] at hE ⊢
            go_wp2
            exact .mk (hE _ hC1)
          apply DetL.next
          · -- 6: Op.load 23 (Operand.tmp 75)
            apply detStep_plain [(5, some 75)]
            exact fun _ => rfl
            rfl
            rintro vals ⟨⟨⟨⟨⟨⟨-, -⟩, -⟩, -⟩, -⟩, -⟩, f5⟩ w1 hC1 E hE
            have d4 : w1.cell? ⟨w.heap.size + 1, 4, none⟩ = some (.slice (some ad') kn' kc') := (HKB.out.below hC1 HKB.out.lt).cell 4
            simp only [puts, act_put, act_put_none, List.setIfInBounds_toArray, List.set_cons_zero, List.set_cons_succ, f5] at hE ⊢
            clear f5
            go_wp2
            exact .mk (hE _ hC1)
          apply DetL.next
          · -- 7: Op.move (Operand.tmp 6)
            apply detStep_plain []
            exact fun _ => rfl
            rfl
            rintro vals ⟨⟨⟨⟨⟨⟨⟨-, -⟩, -⟩, -⟩, -⟩, -⟩, -⟩, -⟩ w1 hC1 E hE
            simp only [puts, act_put, act_put_none, List.setIfInBounds_toArray, List.set_cons_zero, List.set_cons_succ] at hE ⊢
            go_wp2
            exact .mk (hE _ hC1)
          apply DetL.next
          · -- 8: Op.indexAddr 23 (Operand.tmp 76) (Operand.tmp 77)
            apply detStep_plain [(6, some 76), (7, some 77)]
            exact fun _ => rfl
            rfl
            rintro vals ⟨⟨⟨⟨⟨⟨⟨⟨-, -⟩, -⟩, -⟩, -⟩, -⟩, -⟩, f6⟩, f7⟩ w1 hC1 E hE
            simp only [puts, act_put, act_put_none, List.setIfInBounds_toArray, List.set_cons_zero, List.set_cons_succ, f6, f7] at hE ⊢
            clear f6 f7
            go_wp2
            exact .mk (hE _ hC1)
          apply DetL.next
          · -- 9: Op.load 25 (Operand.tmp 78)
            apply detStep_plain [(8, some 78)]
            exact fun _ => rfl
            rfl
            rintro vals ⟨⟨⟨⟨⟨⟨⟨⟨⟨-, -⟩, -⟩, -⟩, -⟩, -⟩, -⟩, -⟩, -⟩, f8⟩ w1 hC1 E hE
            simp only [puts, act_put, act_put_none, List.setIfInBounds_toArray, List.set_cons_zero, List.set_cons_succ, f8] at hE ⊢
            clear f8
            go_wp2_with (refine wpList_get_rd (r := (jvCells Y).toList) (HCB.out _ hC1) rfl rfl rfl hu rfl jT_size3 ?_)
            exact .mk (hE _ hC1)
          apply DetL.next
          · -- 10: Op.call { callee := Callee.value (Operand.func 13), args := #[Operand.tmp 74, Operand.tmp 79], argTypes := #[2
            apply detStep_plain [(4, some 74), (9, some 79)]
            exact fun _ => rfl
            rfl
            rintro vals ⟨⟨⟨⟨⟨⟨⟨⟨⟨⟨-, -⟩, -⟩, -⟩, -⟩, f4⟩, -⟩, -⟩, -⟩, -⟩, f9⟩ w1 hC1 E hE
            have HC1 := Lib.hid hC1
            simp only [puts, act_put, act_put_none, List.setIfInBounds_toArray, List.set_cons_zero, List.set_cons_succ, f4, f9] at hE ⊢
            clear f4 f9
            go_wp2_with fail
            refine calls_then (CS.out _ HC1.out) ?_
            rintro e w5 ⟨rfl, hb⟩
            go_wp2_with fail
            exact .mk (hE _ (HC1.out.trans (hb.mono HC1.out.size)))
          apply DetL.last
          · -- 11: Op.assign (Operand.tmp 80)
            apply detStep_plain [(10, some 80), (10, some 80), (0, some 70), (1, some 71), (2, some 72), (3, some 73), (4, some 74), (5, some 75), (6, some 76), (7, some 77), (8, some 78), (9, some 79), (10, some 80)]
            exact fun _ => rfl
            rfl
            rintro vals ⟨⟨⟨⟨⟨⟨⟨⟨⟨⟨⟨-, f0⟩, f1⟩, f2⟩, f3⟩, f4⟩, f5⟩, f6⟩, f7⟩, f8⟩, f9⟩, f10⟩ w1 hC1 E hE
            simp only [puts, act_put, act_put_none, List.setIfInBounds_toArray, List.set_cons_zero, List.set_cons_succ, f0, f1, f2, f3, f4, f5, f6, f7, f8, f9, f10] at hE ⊢
            clear f0 f1 f2 f3 f4 f5 f6 f7 f8 f9 f10
            go_wp2
            exact .mk (hE _ hC1)
          rintro vals ⟨⟨⟨⟨⟨⟨⟨⟨⟨⟨⟨⟨-, f0⟩, f1⟩, f2⟩, f3⟩, f4⟩, f5⟩, f6⟩, f7⟩, f8⟩, f9⟩, f10⟩, f11⟩ w1 hC1
          simp only [puts, act_put, act_put_none, List.setIfInBounds_toArray, List.set_cons_zero, List.set_cons_succ, f0, f1, f2, f3, f4, f5, f6, f7, f8, f9, f10, f11]
          clear f0 f1 f2 f3 f4 f5 f6 f7 f8 f9 f10 f11
          have HC2 := Lib.hid hC1
          clear HC0 hC1
          go_wp2_with fail
          go_roundw
          case rel => exact ⟨q + 1, HLT.out, by go_num, HC2.out⟩
          case measure => have := HLT.out; simp [intOf]; omega
        · obtain rfl : q = kn' := by omega
          go_wp2_with fail
          go_ret
          exact ⟨rfl, HB0.out.trans (HBQ.out.mono HB0.out.size)⟩
end Go.Proofs.Ytcfbnjaelniahaa.Js
