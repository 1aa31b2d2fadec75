/-
  Joined texts: Ky3.
-/
import Derived.Test.YtilhhigdegccgaaDoorJ30
import Derived.Test.YtilhhigdegccgaaDoorJ34
/-
  Walk: brevetref15.keys, and what it does to tokens and nodes. (Printed by gen/conv3.py.)
-/
namespace Go.Proofs.YtilhhigdegccgaaDoor
set_option linter.unusedSimpArgs false
set_option linter.unusedVariables false
open Go.RowKit
set_option maxRecDepth 100000 in
set_option maxHeartbeats 8000000 in
theorem keys15r_any (d : LedD) (o : OpD) (base g K : Nat) (w : World) (h : LW w base g K d) (hK : K ≤ 900) (hkd : o.kind ≠ 4 ∧ o.kind ≠ 5) :
    Calls Tryd.prog 42 #[.pointer (some ⟨g, 0, none⟩), .agg (opC o)] w (DoPostR d o base g K w) := by
  have HQD := Lib.hid hkd
  clear hkd
  have huk := Tryd.underlying42
  obtain ⟨W0, hW0⟩ : ∃ W0, W0 = w.alloc (.cells (opC o) 47) := ⟨_, rfl⟩
  have hb0 : Below w.heap.size w W0 := by rw [hW0]; exact (Below.refl _ w).alloc (Nat.le_refl _) _
  have hbs : base ≤ w.heap.size := Nat.le_of_lt (Nat.lt_of_le_of_lt h.hg h.box.lt)
  have HBS := Lib.hid hbs
  have HB0 := Lib.hid (hb0.mono hbs)
  have HBW := Lib.hid hb0
  have HK0 := Lib.hid (show Blk W0 w.heap.size 47 (opC o) by rw [hW0]; exact Blk.new _ _ _)
  have H0 := Lib.hid (h.below hb0)
  have HW0 := Lib.hid hW0
  have HKK := Lib.hid hK
  obtain ⟨lk, hlk⟩ : ∃ lk, lk = d.keys := ⟨_, rfl⟩
  have HLK := Lib.hid hlk
  have HKL := Lib.hid (show lk.l.length ≤ K by rw [hlk]; exact H0.out.ll.keys.len)
  have hkl : (lk.l.length : Int) ≤ 900 := by have := HKL.out; omega
  have HRD := Lib.hid (show ∀ u, Below W0.heap.size W0 u → Rd u W0.heap.size lk.A (rowsV skeyCells lk.l) from fun u hu => by rw [hlk]; exact H0.out.ll.keys.own.row.rd.below hu)
  have a4 : W0.cell? ⟨g, 4, none⟩ = some (.slice lk.A lk.l.length lk.c) := by rw [hlk]; exact H0.out.box.cell 4
  clear hW0 hb0 h hbs hK hlk
  go_enter Tryd.func42, Tryd.ntmps42
  go_upto_region 1 with (fail)
  rw [show w.alloc (.cells (opC o) 47) = W0 from HW0.out.symm]
  generalize Value.agg (opC o) = AV
  obtain ⟨kd, hkd⟩ : ∃ kd, kd = o.kind := ⟨_, rfl⟩
  have HKD := Lib.hid hkd
  clear hkd
  go_wp2_with fail
  go_loopw [5, 6, 7, 8, 9] (fun p1 p2 p3 p4 x wr => ∃ (xi z1 z2 z3 z4 : Int), -1 ≤ xi ∧ xi < (lk.l.length : Int) ∧ x = .int .i64 xi ∧ p1 = .int .i64 z1 ∧ p2 = .int .i64 z2 ∧ p3 = .int .i64 z3 ∧ p4 = .int .i64 z4 ∧ (Zok lk.l.length z1 ∧ Zok lk.l.length z2 ∧ Zok lk.l.length z3 ∧ Zok lk.l.length z4) ∧ Below W0.heap.size W0 wr) (fun _ _ _ _ x _ => (intOf x + 1).toNat)
  case atStart => exact ⟨(lk.l.length : Int) - 1, -1, -1, -1, -1, by omega, by omega, by go_num, rfl, rfl, rfl, rfl, ⟨.inl rfl, .inl rfl, .inl rfl, .inl rfl⟩, Below.refl _ _⟩
  case round =>
    obtain ⟨xi, z1, z2, z3, z4, hx1, hx2, rfl, rfl, rfl, rfl, rfl, ⟨hz1, hz2, hz3, hz4⟩, hbw⟩ := hrel
    have HZ1 := Lib.hid hz1
    have HZ2 := Lib.hid hz2
    have HZ3 := Lib.hid hz3
    have HZ4 := Lib.hid hz4
    have HBR := Lib.hid hbw
    have a4 : wr.cell? ⟨g, 4, none⟩ = some (.slice lk.A lk.l.length lk.c) := by rw [HLK.out]; exact (H0.out.box.below hbw H0.out.box.lt).cell 4
    clear hz1 hz2 hz3 hz4 hbw
    by_cases hx0 : 0 ≤ xi
    · obtain ⟨i, rfl⟩ : ∃ i : Nat, xi = (i : Int) := ⟨xi.toNat, by omega⟩
      have hlt : i < lk.l.length := by omega
      obtain ⟨ad, hA, -, hcell⟩ := rd_rows (f := skeyCells) (m := 4) (fun _ => rfl) (by decide) (HRD.out wr HBR.out) hlt
      rw [hA] at a4
      obtain ⟨X, hX⟩ : ∃ X, X = lk.l[i] := ⟨_, rfl⟩
      rw [← hX] at hcell
      have d0 : wr.cell? (ad.add (i * 4)) = some (.string X.kid) := hcell 0 _ rfl
      have d2 : wr.cell? ⟨(ad.add (i * 4)).block, (ad.add (i * 4)).off + 2, none⟩ = some (.int .i64 X.state) := hcell 2 _ rfl
      have b17 : wr.cell? ⟨w.heap.size, 17, none⟩ = some (.string o.key.kid) := (HK0.out.below HBR.out HK0.out.lt).cell 17
      have b2 : wr.cell? ⟨w.heap.size, 2, none⟩ = some (.string o.name) := (HK0.out.below HBR.out HK0.out.lt).cell 2
      have HLT := Lib.hid hlt
      clear hX hcell hlt hA hx1
      go_upto_if 30 with (fail)
      go_cut [5] (fun v wx => (∃ z, v = .int .i64 z ∧ Zok lk.l.length z) ∧ wx = wr)
      case first =>
        by_cases hs : X.state = 1
        · have hs' : (X.state == (1 : Int)) = true := by simp [hs]
          go_wp2_with fail
          go_meet
          exact ⟨⟨_, rfl, .inr ⟨i, HLT.out, rfl⟩⟩, rfl⟩
        · have hs' : (X.state == (1 : Int)) = false := by simpa using hs
          go_wp2_with fail
          go_meet
          exact ⟨⟨_, rfl, HZ1.out⟩, rfl⟩
      case rest =>
      obtain ⟨⟨y1, rfl, y1h⟩, rfl⟩ := hcut
      have HY1 := Lib.hid y1h
      clear y1h
      go_upto_if 40 with (fail)
      go_cut [6] (fun v wx => (∃ z, v = .int .i64 z ∧ Zok lk.l.length z) ∧ wx = wc)
      case first =>
        by_cases hs : X.state = 2
        · have hs' : (X.state == (2 : Int)) = true := by simp [hs]
          go_wp2_with fail
          go_meet
          exact ⟨⟨_, rfl, .inr ⟨i, HLT.out, rfl⟩⟩, rfl⟩
        · have hs' : (X.state == (2 : Int)) = false := by simpa using hs
          go_wp2_with fail
          go_meet
          exact ⟨⟨_, rfl, HZ2.out⟩, rfl⟩
      case rest =>
      obtain ⟨⟨y2, rfl, y2h⟩, rfl⟩ := hcut
      have HY2 := Lib.hid y2h
      clear y2h
      have HBQ := Lib.hid HBR.out
      obtain ⟨q1, hq1⟩ : ∃ q, (X.kid.toList == o.key.kid.toList) = q := ⟨_, rfl⟩
      obtain ⟨q2, hq2⟩ : ∃ q, (X.kid.toList == o.name.toList) = q := ⟨_, rfl⟩
      obtain ⟨wb, hwb⟩ : ∃ wb, wb = wc := ⟨_, rfl⟩
      rw [← hwb] at HBQ a4 d0 d2 b17 b2 ⊢
      clear hwb
      go_upto_region 12 with (fail)
      go_cut [53] (fun v wx => v = .bool q1 ∧ ∃ m, wx = wb.drewN m)
      case first =>
        go_wp2_with fail
        go_quiet (fail)
        go_wp2_with fail
        go_meet
        exact ⟨rfl, _, rfl⟩
      case rest =>
      obtain ⟨rfl, m1, rfl⟩ := hcut
      go_upto_if 53 with (fail)
      obtain ⟨wd, hwd⟩ : ∃ wd, wd = wb.drewN m1 := ⟨_, rfl⟩
      rw [← hwd]
      go_cut [7] (fun v wx => (∃ z, v = .int .i64 z ∧ Zok lk.l.length z) ∧ wx = wd)
      case first =>
        cases q1 with
        | true =>
          go_wp2_with fail
          go_meet
          exact ⟨⟨_, rfl, .inr ⟨i, HLT.out, rfl⟩⟩, rfl⟩
        | false =>
          go_wp2_with fail
          go_meet
          exact ⟨⟨_, rfl, HZ3.out⟩, rfl⟩
      case rest =>
      obtain ⟨⟨y3, rfl, y3h⟩, hwe⟩ := hcut
      rw [hwd] at hwe
      rw [hwe]
      clear hwd hwe
      have HY3 := Lib.hid y3h
      clear y3h hq1
      go_upto_region 14 with (fail)
      go_cut [76] (fun v wx => (∃ b, v = .bool b) ∧ ∃ m, wx = (wb.drewN m1).drewN m)
      case first =>
        cases q2 with
        | true =>
          go_wp2_with fail
          go_quiet (fail)
          go_wp2_with fail
          go_meet
          exact ⟨⟨_, rfl⟩, _, rfl⟩
        | false =>
          go_wp2_with fail
          go_quiet (fail)
          go_wp2_with fail
          go_meet
          exact ⟨⟨_, rfl⟩, _, rfl⟩
      case rest =>
      obtain ⟨⟨b4, rfl⟩, m2, rfl⟩ := hcut
      have HBD := Lib.hid (below_drewN9 HBQ.out (m1 + m2))
      cases b4 with
      | true =>
        go_wp2_with fail
        go_roundw
        case rel => exact ⟨(i : Int) - 1, y1, y2, y3, (i : Int), by omega, by omega, by go_num, rfl, rfl, rfl, rfl, ⟨HY1.out, HY2.out, HY3.out, .inr ⟨i, HLT.out, rfl⟩⟩, HBD.out⟩
        case measure => first | (simp [intOf]; done) | (simp [intOf]; omega)
      | false =>
        go_wp2_with fail
        go_roundw
        case rel => exact ⟨(i : Int) - 1, y1, y2, y3, z4, by omega, by omega, by go_num, rfl, rfl, rfl, rfl, ⟨HY1.out, HY2.out, HY3.out, HZ4.out⟩, HBD.out⟩
        case measure => first | (simp [intOf]; done) | (simp [intOf]; omega)
    · have H1 := Lib.hid (H0.out.below HBR.out)
      have HB1 := Lib.hid (HB0.out.trans (HBR.out.mono (Nat.le_trans HBS.out HB0.out.size)))
      have HK1 := Lib.hid (HK0.out.below HBR.out HK0.out.lt)
      have HNO1 := Lib.hid (DoPostR.no (w := w) HQD.out H1.out HB1.out)
      have HNO2 := Lib.hid (fun (m : Nat) => DoPostR.no (w := w) HQD.out (H1.out.below (below_drewN9 (Below.refl _ wr) m)) (below_drewN9 HB1.out m))
      have b0 : wr.cell? ⟨w.heap.size, 0, none⟩ = some (.int .i64 kd) := by rw [HKD.out]; exact HK1.out.cell 0
      have b1 : wr.cell? ⟨w.heap.size, 1, none⟩ = some (.int .i64 o.n) := HK1.out.cell 1
      have HKO := Lib.hid (show lk.Own wr base 42 4 skeyCells K by rw [HLK.out]; exact H1.out.ll.keys)
      clear hx1 hx2
      by_cases h9 : kd = 9
      · have e9 : (kd == (9 : Int)) = true := by simp [h9]
        clear h9
        go_wp2_with (refine wpList_get_part (r := skeyCells o.key) (k := 17) (n := 4) HK1.out (by simp [opC]) (opC_key _) rfl rfl rfl huk rfl skeyT_size ?_)
        refine calls_then (key15_any o.key wr) ?_
        rintro e w1 ⟨⟨b, rfl⟩, hb1⟩
        have H2 := Lib.hid (H1.out.below hb1)
        have HB2 := Lib.hid (HB1.out.trans (hb1.mono (Nat.le_trans HBS.out HB1.out.size)))
        have HK2 := Lib.hid (HK1.out.below hb1 HK1.out.lt)
        have HNO := Lib.hid (DoPostR.no (w := w) HQD.out H2.out HB2.out)
        obtain ⟨kst, hkst⟩ : ∃ s, s = o.key.state := ⟨_, rfl⟩
        have HKST := Lib.hid hkst
        have b19 : w1.cell? ⟨w.heap.size, 19, none⟩ = some (.int .i64 kst) := by rw [hkst]; exact HK2.out.cell 19
        clear hkst
        have a4 : w1.cell? ⟨g, 4, none⟩ = some (.slice lk.A lk.l.length lk.c) := by rw [HLK.out]; exact H2.out.box.cell 4
        clear hb1
        cases b with
        | false =>
          go_wp2_with fail
          go_ret
          exact HNO.out _
        | true =>
          by_cases hs : kst = 1
          · subst hs
            by_cases hz1 : 0 ≤ z1
            · go_wp2_with fail
              go_ret
              exact HNO.out _
            · have hz1' : decide (0 ≤ z1) = false := decide_eq_false hz1
              by_cases hz3 : 0 ≤ z3
              · go_wp2_with fail
                go_ret
                exact HNO.out _
              · by_cases h8 : (8 : Int) ≤ (lk.l.length : Int)
                · go_wp2_with fail
                  go_ret
                  exact HNO.out _
                · go_wp2_with fail
                  have HC0 : Below w1.heap.size w1 w1.drew := (Below.refl _ _).drew
                  have HJR := Lib.hid (show OwnR w1 base 42 4 lk.A lk.c lk.l.length (rowsV skeyCells lk.l) by rw [HLK.out]; exact H2.out.ll.keys.own)
                  obtain ⟨wq, hwq⟩ : ∃ wq, wq = w1 := ⟨_, rfl⟩
                  rw [← hwq] at HC0 H2 HB2 HK2 a4 HJR ⊢
                  clear hwq b19 HNO hz1 hz1' hz3 h8
                  apply wp_region_seqp (fun u => Below wq.heap.size wq u) (fun i => i == 0) (fun u u' => Below u.heap.size u u') [_, _, _, _, .slice lk.A lk.l.length lk.c, _, .agg (skeyCells o.key), undef] (gOf [(7, fun v u => ∃ ad, v = .slice (some ⟨ad, 0, none⟩) 1 1 ∧ Blk u ad 42 (skeyCells o.key))]) 8 (by kernel_rfl) (by kernel_rfl) (by decide) (by kernel_rfl) (fun i h => by simp only [beq_iff_eq] at h; subst h; rfl) (stabL_of _ ⟨(fun _ _ _ h h0 => by obtain ⟨ga, e, hb⟩ := h0; exact ⟨ga, e, hb.below h hb.lt⟩), trivial⟩) HC0
                  simp only [List.take_succ_cons, List.take_zero, List.drop_succ_cons, List.drop_zero]
                  iterate 4
                    first
                    | (apply SeqH.pure; rfl; rfl; rfl; rfl; (simp only [act_put, act_put_none, List.setIfInBounds_toArray, List.set_cons_zero, List.set_cons_succ]; rfl); (intro w1 E hE; go_wp2; exact .mk hE))
                    | (apply SeqH.step; rfl; (first | (apply SeqG.next; rfl; rfl; rfl)); (simp only [act_put, act_put_none, List.setIfInBounds_toArray, List.set_cons_zero, List.set_cons_succ]; rfl); (intro w1 hC1 hf E hE; go_wp2; exact .mk (hE _ hC1 (Below.refl _ _))); refine SeqG.nil ?_)
                  apply SeqH.step
                  · rfl
                  apply SeqG.next
                  · rfl
                  · rfl
                  · rfl
                  · simp only [act_put, act_put_none, List.setIfInBounds_toArray, List.set_cons_zero, List.set_cons_succ]
                    rfl
                  · intro w1 hC1 hf E hE
                    have d0 := (hC1.cell (p := ⟨g, 4, none⟩) H2.out.box.lt).trans a4
                    go_wp2
                    exact .mk (hE _ hC1 (Below.refl _ _))
                  refine SeqG.nil ?_
                  iterate 1
                    (apply SeqH.step; rfl; (first | (apply SeqG.next; rfl; rfl; rfl)); (simp only [act_put, act_put_none, List.setIfInBounds_toArray, List.set_cons_zero, List.set_cons_succ]; rfl); (intro w1 hC1 hf E hE; go_wp2; exact .mk (hE _ hC1 (Below.refl _ _))); refine SeqG.nil ?_)
                  apply SeqH.step
                  · rfl
                  apply SeqG.next
                  · rfl
                  · rfl
                  · rfl
                  · simp only [act_put, act_put_none, List.setIfInBounds_toArray, List.set_cons_zero, List.set_cons_succ]
                    rfl
                  · intro w1 hC1 hf E hE
                    refine wpList_get_part (r := skeyCells o.key) (k := 17) (n := 4) (HK2.out.below hC1 HK2.out.lt) (by simp [opC]) (opC_key _) rfl rfl rfl huk rfl skeyT_size ?_
                    go_wp2
                    exact .mk (hE _ hC1 (Below.refl _ _))
                  refine SeqG.nil ?_
                  apply SeqH.step
                  · rfl
                  apply SeqG.some
                  · rfl
                  · rfl
                  · intro w1 hC1 hf E hE
                    simp only [act_put, act_put_none, List.setIfInBounds_toArray, List.set_cons_zero, List.set_cons_succ] at hE
                    unfold skeyCells
                    go_wp2
                    exact .mk (hE _ _ ⟨_, rfl, Blk.new _ _ _⟩ (hC1.alloc hC1.size _) ((Below.refl _ _).alloc (Nat.le_refl _) _))
                  intro x7
                  simp only [act_put, act_put_none, List.setIfInBounds_toArray, List.set_cons_zero, List.set_cons_succ]
                  refine SeqG.nil ?_
                  refine SeqH.nil ?_
                  intro w1 hC1 hf
                  have f7 := (hf 7 (of_decide_eq_true (by kernel_rfl))).1 rfl
                  clear hf
                  refine SeqT.step rfl ?_
                  intro E hE
                  simp only [act_put, act_put_none, List.setIfInBounds_toArray, List.set_cons_zero, List.set_cons_succ] at hE
                  obtain ⟨ga, hx7, hb7⟩ := f7
                  have HB7 := Lib.hid hb7
                  have HBC := Lib.hid hC1
                  clear hb7
                  simp only [hx7] at hE ⊢
                  refine wpList_append_r (m := 1) (news := (skeyCells o.key).toList) sl_skeys rfl rfl (HJR.out.below hC1) rfl rfl rfl (Rd.of_blk (l := (skeyCells o.key).toList) HB7.out HB7.out.lt) (by simp [skeyCells, Value.oneCell']) (by unfold maxLen; omega) (by omega) (Nat.le_trans (Nat.le_trans HBS.out HB2.out.size) hC1.size) ?_
                  intro A8 c8 w8 ho8 hg8 hn8
                  have HO8 := Lib.hid ho8
                  have HG8 := Lib.hid hg8
                  clear ho8 hg8 hn8
                  go_wp2
                  refine .mk (hE _ _ ?_)
                  clear hE E
                  refine SeqT.step rfl ?_
                  intro E hE
                  simp only [act_put, act_put_none, List.setIfInBounds_toArray, List.set_cons_zero, List.set_cons_succ] at hE
                  go_wp2
                  refine .mk (hE _ _ ?_)
                  clear hE E
                  refine SeqT.step rfl ?_
                  intro E hE
                  simp only [act_put, act_put_none, List.setIfInBounds_toArray, List.set_cons_zero, List.set_cons_succ] at hE
                  go_wp2
                  refine .mk (hE _ _ ?_)
                  clear hE E
                  refine SeqT.step rfl ?_
                  intro E hE
                  simp only [act_put, act_put_none, List.setIfInBounds_toArray, List.set_cons_zero, List.set_cons_succ] at hE
                  refine wpList_put_cell (i := 4) ((H2.out.below HBC.out).box.keep (keepBut_grown (HJR.out.below HBC.out) HG8.out) (by decide)) rfl rfl rfl rfl (by kernel_rfl) (by simp [ledCells]) rfl ?_
                  intro w9 hb9 hw9
                  have HB9 := Lib.hid hb9
                  have HW9 := Lib.hid hw9
                  clear hb9 hw9
                  go_wp2_with fail
                  refine .mk (hE undef _ ?_)
                  clear hE E
                  refine SeqT.nil ?_
                  have HFN := Lib.hid (show DoPostR d o base g K w (.returned (.int .i64 0)) w9 by
                    have hbg : Below base w w8 := (HB2.out.trans (HBC.out.mono (Nat.le_trans HBS.out HB2.out.size))).grown HG8.out (Nat.le_trans HBS.out (HB2.out.trans (HBC.out.mono (Nat.le_trans HBS.out HB2.out.size))).size) fun j hj => (HJR.out.lt j hj).1
                    have hl := (H2.out.below HBC.out).key_add (k := o.key) (A' := A8) (c' := c8) (by rw [← HLK.out]; exact HO8.out) (by rw [← HLK.out]; exact HG8.out) HW9.out (by rw [← HLK.out]; exact HB9.out)
                    exact ⟨_, 0, rfl, hl, HW9.out.below hbg H2.out.hg (Nat.le_trans HBS.out hbg.size), .other HQD.out (fun h => h)⟩)
                  clear hC1 HC0
                  go_wp2_with fail
                  go_ret
                  exact HFN.out
          · have hs' : (kst == (1 : Int)) = false := by simpa using hs
            clear hs
            go_wp2_with fail
            go_ret
            exact HNO.out _
      · have e9 : (kd == (9 : Int)) = false := by simpa using h9
        clear h9
        by_cases h10 : kd = 10
        · have e10 : (kd == (10 : Int)) = true := by simp [h10]
          clear h10
          by_cases hn0 : o.n < 0
          · go_wp2_with fail
            go_ret
            exact HNO1.out _
          · have hn0' : decide (o.n < 0) = false := decide_eq_false hn0
            by_cases hn1 : 1099511627776 < o.n
            · go_wp2_with fail
              go_ret
              exact HNO1.out _
            · by_cases hp : z1 < 0
              · go_wp2_with fail
                go_ret
                exact HNO1.out _
              · obtain ⟨i1, hi1, hzi1⟩ := HZ1.out.nat hp
                subst hzi1
                have HI1 := Lib.hid hi1
                have hi10 : (0 : Int) ≤ (i1 : Int) := by omega
                have hi1l : (i1 : Int) < (lk.l.length : Int) := by omega
                have HKW := Lib.hid (show KW wr base g K d lk lk from ⟨by rw [HLK.out]; exact H1.out, rfl, rfl, rfl⟩)
                clear hi1 hp
                go_upto_if 129 with (fail)
                go_cut [] (fun wx => (∃ s, KW wx base g K d lk s) ∧ Blk wx w.heap.size 47 (opC o) ∧ Below base w wx)
                case first =>
                  by_cases ha : 0 ≤ z2
                  · obtain ⟨i2, hi2, hzi2⟩ := HZ2.out.nat (by omega)
                    subst hzi2
                    have hi2l : (i2 : Int) < (lk.l.length : Int) := by omega
                    have HI2 := Lib.hid hi2
                    obtain ⟨ad, cur, hA, hbase, hblk, hoff, hput⟩ := HKW.out.put HI2.out (j := 2) (by decide) (.int .i64 3) (fun x => ⟨x.kid, x.seed, 3, x.since⟩) (fun _ => rfl)
                    have ha4 := HKW.out.cell
                    rw [hA] at ha4
                    have HPU := Lib.hid hput
                    have HBA := Lib.hid hbase
                    have HBK := Lib.hid hblk
                    have HOF := Lib.hid hoff
                    have HAA := Lib.hid hA
                    clear hput hbase hblk hoff hA a4
                    go_upto_region 33 with (refine wpList_put_cell HBK.out rfl rfl rfl rfl (by kernel_rfl) HOF.out rfl ?_; intro v5 hb5 hw5)
                    obtain ⟨s5, hk5⟩ := HPU.out _ hb5 hw5
                    have HK5 := Lib.hid hk5
                    have HO5 := Lib.hid (hw5.blk HK1.out (box_neK HK1.out HBK.out (by decide)))
                    have HB5 := Lib.hid (hw5.below HB1.out HBA.out (Nat.le_trans HBS.out HB1.out.size))
                    clear hb5 hw5 hk5 ha4
                    obtain ⟨ad2, cur2, hA2, hbase2, hblk2, hoff2, hput2⟩ := HK5.out.put HI2.out (j := 3) (by decide) (.int .i64 o.n) (fun x => ⟨x.kid, x.seed, x.state, o.n⟩) (fun _ => rfl)
                    rw [HAA.out] at hA2
                    injection hA2 with hA2
                    subst hA2
                    have ha5 := HK5.out.cell
                    rw [HAA.out] at ha5
                    have hb15 : v5.cell? ⟨w.heap.size, 1, none⟩ = some (.int .i64 o.n) := HO5.out.cell 1
                    have HP2 := Lib.hid hput2
                    have HS2 := Lib.hid hblk2
                    have HF2 := Lib.hid hoff2
                    clear hput2 hbase2 hblk2 hoff2
                    go_wp2_with fail
                    have HC0 : Below v5.heap.size v5 v5.drew := (Below.refl _ _).drew
                    apply wp_region_seqh (fun u => ∃ m, u = v5.drewN m) (fun _ _ => True) [_, _, _, _, _, _, _, _, _] (gOf []) 9 (by kernel_rfl) (by kernel_rfl) (by decide) (by kernel_rfl) (stabL_of _ trivial) ⟨1, rfl⟩
                    simp only [List.take_succ_cons, List.take_zero, List.drop_succ_cons, List.drop_zero]
                    iterate 3
                      ((first | (apply SeqG.next; rfl; rfl; rfl)); (simp only [act_put, act_put_none, List.setIfInBounds_toArray, List.set_cons_zero, List.set_cons_succ]; rfl); (intro w1 hC1 hf E hE; go_wp2; exact .mk (hE _ hC1 trivial)))
                    apply SeqG.next
                    · rfl
                    · rfl
                    · rfl
                    · simp only [act_put, act_put_none, List.setIfInBounds_toArray, List.set_cons_zero, List.set_cons_succ]
                      rfl
                    · intro w1 hC1 hf E hE
                      obtain ⟨mm, rfl⟩ := hC1
                      go_wp2
                      exact .mk (hE _ ⟨_, rfl⟩ trivial)
                    iterate 2
                      ((first | (apply SeqG.next; rfl; rfl; rfl)); (simp only [act_put, act_put_none, List.setIfInBounds_toArray, List.set_cons_zero, List.set_cons_succ]; rfl); (intro w1 hC1 hf E hE; go_wp2; exact .mk (hE _ hC1 trivial)))
                    apply SeqG.next
                    · rfl
                    · rfl
                    · rfl
                    · simp only [act_put, act_put_none, List.setIfInBounds_toArray, List.set_cons_zero, List.set_cons_succ]
                      rfl
                    · intro w1 hC1 hf E hE
                      obtain ⟨mm, rfl⟩ := hC1
                      go_wp2
                      exact .mk (hE _ ⟨_, rfl⟩ trivial)
                    iterate 2
                      ((first | (apply SeqG.next; rfl; rfl; rfl)); (simp only [act_put, act_put_none, List.setIfInBounds_toArray, List.set_cons_zero, List.set_cons_succ]; rfl); (intro w1 hC1 hf E hE; go_wp2; exact .mk (hE _ hC1 trivial)))
                    refine SeqG.nil ?_
                    intro w1 hC1 hf
                    clear hf
                    refine SeqT.step rfl ?_
                    intro E hE
                    simp only [act_put, act_put_none, List.setIfInBounds_toArray, List.set_cons_zero, List.set_cons_succ] at hE
                    obtain ⟨mm, rfl⟩ := hC1
                    refine wpList_put_cell (show Blk (v5.drewN mm) _ _ _ from HS2.out) rfl rfl rfl rfl (by kernel_rfl) HF2.out rfl ?_
                    intro v6 hb6 hw6
                    have HB6 := Lib.hid hb6
                    have HW6 := Lib.hid (show Wrote _ v5 v6 from ⟨⟨hw6.grown.os, hw6.grown.tape, hw6.grown.output, hw6.grown.size, hw6.grown.block⟩, hw6.size⟩)
                    clear hb6 hw6
                    go_wp2_with fail
                    refine .mk (hE undef _ ?_)
                    clear hE E
                    refine SeqT.nil ?_
                    obtain ⟨s6, hk6⟩ := HP2.out _ HB6.out HW6.out
                    have HK6 := Lib.hid hk6
                    have HO6 := Lib.hid (HW6.out.blk HO5.out (box_neK HO5.out HS2.out (by decide)))
                    have HB6b := Lib.hid (HW6.out.below HB5.out HBA.out (Nat.le_trans HBS.out HB5.out.size))
                    clear hk6 HC0 ha5 hb15
                    go_wp2_with fail
                    go_meet
                    exact ⟨⟨_, HK6.out⟩, HO6.out, HB6b.out⟩
                  · go_wp2_with fail
                    go_meet
                    exact ⟨⟨_, HKW.out⟩, HK1.out, HB1.out⟩
                case rest =>
                obtain ⟨⟨s3, hk3⟩, ho3, hb3⟩ := hcut
                have HKX := Lib.hid hk3
                have HOX := Lib.hid ho3
                have HBX := Lib.hid hb3
                clear hk3 ho3 hb3 a4 b0 b1
                obtain ⟨ad, cur, hA, hbase, hblk, hoff, hput⟩ := HKX.out.put HI1.out (j := 2) (by decide) (.int .i64 2) (fun x => ⟨x.kid, x.seed, 2, x.since⟩) (fun _ => rfl)
                have ha4 := HKX.out.cell
                rw [hA] at ha4
                have HPU := Lib.hid hput
                have HBA := Lib.hid hbase
                have HBK := Lib.hid hblk
                have HOF := Lib.hid hoff
                have HAA := Lib.hid hA
                clear hput hbase hblk hoff hA 
                go_upto_region 35 with (refine wpList_put_cell HBK.out rfl rfl rfl rfl (by kernel_rfl) HOF.out rfl ?_; intro v5 hb5 hw5)
                obtain ⟨s5, hk5⟩ := HPU.out _ hb5 hw5
                have HK5 := Lib.hid hk5
                have HO5 := Lib.hid (hw5.blk HOX.out (box_neK HOX.out HBK.out (by decide)))
                have HB5 := Lib.hid (hw5.below HBX.out HBA.out (Nat.le_trans HBS.out HBX.out.size))
                clear hb5 hw5 hk5 ha4
                obtain ⟨ad2, cur2, hA2, hbase2, hblk2, hoff2, hput2⟩ := HK5.out.put HI1.out (j := 3) (by decide) (.int .i64 o.n) (fun x => ⟨x.kid, x.seed, x.state, o.n⟩) (fun _ => rfl)
                rw [HAA.out] at hA2
                injection hA2 with hA2
                subst hA2
                have ha5 := HK5.out.cell
                rw [HAA.out] at ha5
                have hb15 : v5.cell? ⟨w.heap.size, 1, none⟩ = some (.int .i64 o.n) := HO5.out.cell 1
                have HP2 := Lib.hid hput2
                have HS2 := Lib.hid hblk2
                have HF2 := Lib.hid hoff2
                clear hput2 hbase2 hblk2 hoff2
                go_wp2_with fail
                have HC0 : Below v5.heap.size v5 v5.drew := (Below.refl _ _).drew
                apply wp_region_seqh (fun u => ∃ m, u = v5.drewN m) (fun _ _ => True) [_, _, _, _, _, _, _, _, _] (gOf []) 9 (by kernel_rfl) (by kernel_rfl) (by decide) (by kernel_rfl) (stabL_of _ trivial) ⟨1, rfl⟩
                simp only [List.take_succ_cons, List.take_zero, List.drop_succ_cons, List.drop_zero]
                iterate 3
                  ((first | (apply SeqG.next; rfl; rfl; rfl)); (simp only [act_put, act_put_none, List.setIfInBounds_toArray, List.set_cons_zero, List.set_cons_succ]; rfl); (intro w1 hC1 hf E hE; go_wp2; exact .mk (hE _ hC1 trivial)))
                apply SeqG.next
                · rfl
                · rfl
                · rfl
                · simp only [act_put, act_put_none, List.setIfInBounds_toArray, List.set_cons_zero, List.set_cons_succ]
                  rfl
                · intro w1 hC1 hf E hE
                  obtain ⟨mm, rfl⟩ := hC1
                  go_wp2
                  exact .mk (hE _ ⟨_, rfl⟩ trivial)
                iterate 2
                  ((first | (apply SeqG.next; rfl; rfl; rfl)); (simp only [act_put, act_put_none, List.setIfInBounds_toArray, List.set_cons_zero, List.set_cons_succ]; rfl); (intro w1 hC1 hf E hE; go_wp2; exact .mk (hE _ hC1 trivial)))
                apply SeqG.next
                · rfl
                · rfl
                · rfl
                · simp only [act_put, act_put_none, List.setIfInBounds_toArray, List.set_cons_zero, List.set_cons_succ]
                  rfl
                · intro w1 hC1 hf E hE
                  obtain ⟨mm, rfl⟩ := hC1
                  go_wp2
                  exact .mk (hE _ ⟨_, rfl⟩ trivial)
                iterate 2
                  ((first | (apply SeqG.next; rfl; rfl; rfl)); (simp only [act_put, act_put_none, List.setIfInBounds_toArray, List.set_cons_zero, List.set_cons_succ]; rfl); (intro w1 hC1 hf E hE; go_wp2; exact .mk (hE _ hC1 trivial)))
                refine SeqG.nil ?_
                intro w1 hC1 hf
                clear hf
                refine SeqT.step rfl ?_
                intro E hE
                simp only [act_put, act_put_none, List.setIfInBounds_toArray, List.set_cons_zero, List.set_cons_succ] at hE
                obtain ⟨mm, rfl⟩ := hC1
                refine wpList_put_cell (show Blk (v5.drewN mm) _ _ _ from HS2.out) rfl rfl rfl rfl (by kernel_rfl) HF2.out rfl ?_
                intro v6 hb6 hw6
                have HB6 := Lib.hid hb6
                have HW6 := Lib.hid (show Wrote _ v5 v6 from ⟨⟨hw6.grown.os, hw6.grown.tape, hw6.grown.output, hw6.grown.size, hw6.grown.block⟩, hw6.size⟩)
                clear hb6 hw6
                go_wp2_with fail
                refine .mk (hE undef _ ?_)
                clear hE E
                refine SeqT.nil ?_
                obtain ⟨s6, hk6⟩ := HP2.out _ HB6.out HW6.out
                have HK6 := Lib.hid hk6
                have HO6 := Lib.hid (HW6.out.blk HO5.out (box_neK HO5.out HS2.out (by decide)))
                have HB6b := Lib.hid (HW6.out.below HB5.out HBA.out (Nat.le_trans HBS.out HB5.out.size))
                clear hk6 HC0 ha5 hb15
                have HFN := Lib.hid (show DoPostR d o base g K w (.returned (.int .i64 0)) v6 from ⟨_, 0, rfl, HK6.out.lw.more (Nat.le_succ K), HB6b.out, .other HQD.out (fun h => h)⟩)
                go_wp2_with fail
                go_ret
                exact HFN.out
        · have e10 : (kd == (10 : Int)) = false := by simpa using h10
          clear h10
          by_cases h11 : kd = 11
          · have e11 : (kd == (11 : Int)) = true := by simp [h11]
            clear h11
            by_cases hp : z4 < 0
            · go_wp2_with fail
              go_ret
              exact HNO1.out _
            · obtain ⟨i, hi, hzi⟩ := HZ4.out.nat hp
              subst hzi
              have hcap := HKO.out.own.cap
              have HS1 := Lib.hid (slice_h_r (P := Tryd.prog) und_keys size_keys lk.A lk.l.length lk.c i (by omega))
              have HS2 := Lib.hid (slice_l_r (P := Tryd.prog) und_keys size_keys lk.A lk.l.length lk.c (i + 1) hi)
              have HR1 := Lib.hid (rd_take_r (f := skeyCells) (m := 4) (fun _ => rfl) HKO.out.own.row.rd i)
              have HR2 := Lib.hid (show ∀ u, Below wr.heap.size wr u → Rd u wr.heap.size (cutM 4 lk.A lk.c (i + 1)) (rowsV skeyCells (lk.l.drop (i + 1))) from fun u hu => (rd_drop_r (f := skeyCells) (m := 4) (fun _ => rfl) HKO.out.own.row.rd hcap hi).below hu)
              have HL1 := Lib.hid (show (rowsV skeyCells (lk.l.take i)).length = i * 4 by rw [rowsV_len (f := skeyCells) (m := 4) (fun _ => rfl), List.length_take, Nat.min_eq_left (Nat.le_of_lt hi)])
              have HL2 := Lib.hid (show (rowsV skeyCells (lk.l.drop (i + 1))).length = (lk.l.length - (i + 1)) * 4 by rw [rowsV_len (f := skeyCells) (m := 4) (fun _ => rfl), List.length_drop])
              have HNL := Lib.hid (OwnR.nil wr wr.heap.size 42 4)
              have hi9 : i ≤ 900 := by have := HKL.out; have := HKK.out; omega
              have hl9 : lk.l.length - (i + 1) ≤ 900 := by have := HKL.out; have := HKK.out; omega
              have HIL := Lib.hid hi
              clear hp hi
              go_wp2_with (first
                | ((with_reducible apply wpList_slice_k (x := .tmp 170)); (case ho => exact rfl); (case hgd => exact rfl); (case hr => exact HS1.out _))
                | ((with_reducible apply wpList_append_r (x := .tmp 172) (m := i) (news := rowsV skeyCells (lk.l.take i)) sl_skeys); (case ho => exact rfl); (case hgd => exact rfl); (case hown => exact HNL.out); (case hs => exact rfl); (case hx => exact rfl); (case hl => exact HL1.out); (case hr => exact HR1.out); (case h1 => exact rowsV_mem skeyCells_one _); (case h63 => (unfold maxLen; omega)); (case hbytes => omega); (case hbase => exact Nat.le_refl _); intro A5 c5 w5 ho5 hg5 hn5; simp only [Nat.zero_add] at ho5 ⊢; have HO5 := Lib.hid ho5; have HG5 := Lib.hid (show Below wr.heap.size wr w5 from ⟨hg5.os, hg5.tape, hg5.output, hg5.size, fun b hb => hg5.block b hb (by simp [Value.ownBlock])⟩); clear ho5 hg5 hn5; have a4 : w5.cell? ⟨g, 4, none⟩ = some (.slice lk.A lk.l.length lk.c) := by rw [HLK.out]; exact (H1.out.box.below HG5.out H1.out.box.lt).cell 4)
                | ((with_reducible apply wpList_slice_k (x := .tmp 179) (lo := some (.tmp 181))); (case ho => exact rfl); (case hgd => exact rfl); (case hr => exact HS2.out _))
                | ((with_reducible apply wpList_append_r (x := .tmp 182) (m := lk.l.length - (i + 1)) (news := rowsV skeyCells (lk.l.drop (i + 1))) sl_skeys); (case ho => exact rfl); (case hgd => exact rfl); (case hown => exact HO5.out); (case hs => exact rfl); (case hx => exact rfl); (case hl => exact HL2.out); (case hr => exact HR2.out _ HG5.out); (case h1 => exact rowsV_mem skeyCells_one _); (case h63 => (unfold maxLen; omega)); (case hbytes => omega); (case hbase => exact HG5.out.size); intro A6 c6 w6 ho6 hg6 hn6; have HO6 := Lib.hid ho6; have HG6 := Lib.hid hg6; have HKB := Lib.hid ((KeepBut.of_below (e := 42) HG5.out).trans (keepBut_grown HO5.out hg6)); clear ho6 hg6 hn6)
                | (refine wpList_put_cell (i := 4) (H1.out.box.keep HKB.out (by decide)) rfl rfl rfl rfl (by kernel_rfl) (by simp [ledCells]) rfl ?_; intro w7 hb7 hw7))
              have HFN := Lib.hid (show DoPostR d o base g K w (.returned (.int .i64 0)) w7 by
                have hbg : Below base w w6 := (HB1.out.trans (HG5.out.mono (Nat.le_trans HBS.out HB1.out.size))).grown HG6.out (Nat.le_trans HBS.out (HB1.out.trans (HG5.out.mono (Nat.le_trans HBS.out HB1.out.size))).size) fun j hj => Nat.le_trans (Nat.le_trans HBS.out HB1.out.size) (HO5.out.lt j hj).1
                have hlen : (lk.l.take i ++ lk.l.drop (i + 1)).length = i + (lk.l.length - (i + 1)) := by rw [List.length_append, List.length_take, List.length_drop, Nat.min_eq_left (Nat.le_of_lt HIL.out)]
                have hs : (⟨A6, c6, lk.l.take i ++ lk.l.drop (i + 1)⟩ : Sl SkeyD).Own w6 base 42 4 skeyCells K := ⟨by
                  show OwnR w6 base _ 4 A6 c6 (lk.l.take i ++ lk.l.drop (i + 1)).length _
                  rw [hlen, rowsV_append]
                  have h := HO6.out.mono (Nat.le_trans HBS.out HB1.out.size)
                  simpa using h, by
                  show (lk.l.take i ++ lk.l.drop (i + 1)).length ≤ K
                  rw [hlen]
                  have := HKL.out
                  have := HIL.out
                  omega⟩
                have hv : (⟨A6, c6, lk.l.take i ++ lk.l.drop (i + 1)⟩ : Sl SkeyD).v = .slice A6 (i + (lk.l.length - (i + 1))) c6 := by
                  show Value.slice A6 (lk.l.take i ++ lk.l.drop (i + 1)).length c6 = _
                  rw [hlen]
                exact ⟨_, 0, rfl, (H1.out.keys_put HKB.out hs hw7 (by rw [hv]; exact hb7)).more (Nat.le_succ K), hw7.below hbg H1.out.hg (Nat.le_trans HBS.out hbg.size), .other HQD.out (fun h => h)⟩)
              go_ret
              exact HFN.out
          · have e11 : (kd == (11 : Int)) = false := by simpa using h11
            clear h11
            have HFN := Lib.hid (show DoPostR d o base g K w (.returned (.int .i64 0)) wr from ⟨d, 0, rfl, H1.out.more (Nat.le_succ K), HB1.out, .other HQD.out (fun h => h)⟩)
            go_wp2_with fail
            go_ret
            exact HFN.out
end Go.Proofs.YtilhhigdegccgaaDoor
