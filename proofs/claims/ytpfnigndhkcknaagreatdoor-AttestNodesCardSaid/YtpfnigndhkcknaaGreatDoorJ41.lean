/-
  Joined texts: Jn2 Lsb.
-/
import Derived.Test.YtpfnigndhkcknaaGreatDoorJ37
import Derived.Test.YtpfnigndhkcknaaGreatDoorJ6
import Derived.Test.YtpfnigndhkcknaaGreatDoorJ7
/-
  Walk: brevetref15.joins (OpToken, OpJoin).
-/
namespace Go.Proofs.YtpfnigndhkcknaaGreatDoor
set_option linter.unusedSimpArgs false
set_option linter.unusedVariables false
open Go.RowKit
theorem opC_join (o : OpD) : (((opC o).toList.drop 8).take 4).toArray = joinCells o.join := rfl
theorem opC_node (o : OpD) : (((opC o).toList.drop 12).take 5).toArray = nodeCells o.node := rfl
theorem LW.join_add {u u' v : World} {base g K : Nat} {d : LedD} {k : JoinD} {A' : Option Addr} {c' : Nat} (h : LW u base g K d) (ho : OwnR u' base 38 4 A' c' (d.joins.l.length + 1) (rowsV joinCells d.joins.l ++ (joinCells k).toList))
    (hg : u.grownBy u' (Value.slice d.joins.A d.joins.l.length d.joins.c).ownBlock) (hw : Wrote g u' v) (hb : Blk v g 33 ((ledCells d).setIfInBounds 3 (.slice A' (d.joins.l.length + 1) c'))) : LW v base g (K + 1) { d with joins := ⟨A', c', d.joins.l ++ [k]⟩ } := by
  have hk := keepBut_grown h.ll.joins.own hg
  have hl : LL u' base (K + 1) { d with joins := ⟨A', c', d.joins.l ++ [k]⟩ } := (h.ll.more (Nat.le_succ K)).keepJ hk ⟨by
    rw [rowsV_append, rowsV_one, List.length_append]
    exact ho, by have := h.ll.joins.len; show (d.joins.l ++ [k]).length ≤ K + 1; rw [List.length_append, List.length_singleton]; omega⟩
  refine LW.put (h.box.keep hk (by decide)) h.hg hl hw ?_
  unfold ledCells
  have e : (⟨A', c', d.joins.l ++ [k]⟩ : Sl JoinD).v = .slice A' (d.joins.l.length + 1) c' := by
    show Value.slice A' (d.joins.l ++ [k]).length c' = _
    rw [List.length_append]
    rfl
  rw [e]
  exact hb
theorem LW.join_field {u u' : World} {base g K b : Nat} {d : LedD} {s : Sl JoinD} {cs : Array Value} (h : LW u base g K d) (hb : Blk u b 38 cs) (hw : Wrote b u u') (hs : s.Own u' base 38 4 joinCells K) (he : s.v = d.joins.v) : LW u' base g K { d with joins := s } :=
  ⟨by
    have h1 := h.box.keep (KeepBut.of_wrote hw hb) (by decide)
    unfold ledCells at h1 ⊢
    rw [he]
    exact h1, h.hg, h.ll.keepJ (KeepBut.of_wrote hw hb) hs⟩
set_option maxRecDepth 100000 in
set_option maxHeartbeats 8000000 in
theorem joins15_any (d : LedD) (o : OpD) (base g K : Nat) (w : World) (h : LW w base g K d) (hK : K ≤ 900) (ho : OpIn w o) :
    Calls Tryz.prog 51 #[.pointer (some ⟨g, 0, none⟩), .agg (opC o)] w (DoPost base g K w) := by
  have huj := Tryz.underlying38
  have hun := Tryz.underlying40
  obtain ⟨W0, hW0⟩ : ∃ W0, W0 = w.alloc (.cells (opC o) 47) := ⟨_, rfl⟩
  have hb0 : Below w.heap.size w W0 := by rw [hW0]; exact (Below.refl _ w).alloc (Nat.le_refl _) _
  have hbs : base ≤ w.heap.size := Nat.le_of_lt (Nat.lt_of_le_of_lt h.hg h.box.lt)
  have HBS := Lib.hid hbs
  have HB0 := Lib.hid (hb0.mono hbs)
  have HK0 := Lib.hid (show Blk W0 w.heap.size 47 (opC o) by rw [hW0]; exact Blk.new _ _ _)
  have H0 := Lib.hid (h.below hb0)
  have HW0 := Lib.hid hW0
  have HKK := Lib.hid hK
  have CJ := Lib.hid (join15_any o.join ho.jname ho.jtext W0)
  have HNN := Lib.hid ho.nname
  obtain ⟨lj, hlj⟩ : ∃ lj, lj = d.joins := ⟨_, rfl⟩
  have HLJ := Lib.hid hlj
  have HJL := Lib.hid (show lj.l.length ≤ K by rw [hlj]; exact H0.out.ll.joins.len)
  have hjl : (lj.l.length : Int) ≤ 900 := by have := HJL.out; omega
  have b0 : W0.cell? ⟨w.heap.size, 0, none⟩ = some (.int .i64 o.kind) := HK0.out.cell 0
  have b2 : W0.cell? ⟨w.heap.size, 2, none⟩ = some (.string o.name) := HK0.out.cell 2
  clear hW0 hb0 h ho hbs hK hlj
  go_enter Tryz.func51, Tryz.ntmps51
  go_upto_region 1 with (fail)
  rw [show w.alloc (.cells (opC o) 47) = W0 from HW0.out.symm]
  generalize Value.agg (opC o) = AV
  obtain ⟨kd, hkd⟩ : ∃ kd, kd = o.kind := ⟨_, rfl⟩
  have HKD := Lib.hid hkd
  rw [← hkd] at b0
  clear hkd
  go_upto_if 14 with (fail)
  go_cut [6] (fun v wx => (∃ s : ByteArray, v = .string s) ∧ Below W0.heap.size W0 wx)
  case first =>
    by_cases h3 : kd = 3
    · have e3 : (kd == (3 : Int)) = true := by simp [h3]
      clear h3
      go_wp2_with (refine wpList_get_part (r := joinCells o.join) (k := 8) (n := 4) HK0.out (by simp [opC]) (opC_join _) rfl rfl rfl huj rfl joinT_size ?_)
      refine calls_then CJ.out ?_
      rintro e w1 ⟨⟨b, rfl⟩, hb1⟩
      have HB1 := Lib.hid hb1
      obtain ⟨us, hus⟩ : ∃ us, us = o.join.used := ⟨_, rfl⟩
      have b11 : w1.cell? ⟨w.heap.size, 11, none⟩ = some (.bool us) := by rw [hus]; exact (HK0.out.below hb1 HK0.out.lt).cell 11
      have b8 : w1.cell? ⟨w.heap.size, 8, none⟩ = some (.string o.join.text) := (HK0.out.below hb1 HK0.out.lt).cell 8
      have HNO := Lib.hid (DoPost.no (w := w) (H0.out.below hb1) (HB0.out.trans (hb1.mono (Nat.le_trans HBS.out HB0.out.size))))
      clear hb1 hus
      cases b with
      | false =>
        go_wp2_with fail
        go_ret
        exact HNO.out _
      | true =>
        cases us with
        | true =>
          go_wp2_with fail
          go_ret
          exact HNO.out _
        | false =>
          go_wp2_with fail
          go_meet
          exact ⟨⟨_, rfl⟩, HB1.out⟩
    · have e3 : (kd == (3 : Int)) = false := by simpa using h3
      clear h3
      go_wp2_with fail
      go_meet
      exact ⟨⟨_, rfl⟩, Below.refl _ _⟩
  case rest =>
  obtain ⟨⟨s, rfl⟩, hbc⟩ := hcut
  have H1 := Lib.hid (H0.out.below hbc)
  have HB1 := Lib.hid (HB0.out.trans (hbc.mono (Nat.le_trans HBS.out HB0.out.size)))
  have HK1 := Lib.hid (HK0.out.below hbc HK0.out.lt)
  have a3 : wc.cell? ⟨g, 3, none⟩ = some (.slice lj.A lj.l.length lj.c) := by rw [HLJ.out]; exact H1.out.box.cell 3
  have b0 : wc.cell? ⟨w.heap.size, 0, none⟩ = some (.int .i64 kd) := by rw [HKD.out]; exact HK1.out.cell 0
  have HJO := Lib.hid (show lj.Own wc base 38 4 joinCells K by rw [HLJ.out]; exact H1.out.ll.joins)
  clear hbc CJ H0 HB0 HK0
  go_wp2_with fail
  go_loopw [5, 8] (fun at_ x wr => ∃ (xi z : Int), -1 ≤ xi ∧ xi < (lj.l.length : Int) ∧ x = .int .i64 xi ∧ at_ = .int .i64 z ∧ (z = -1 ∨ ∃ j : Nat, j < lj.l.length ∧ z = (j : Int)) ∧ wr = wc) (fun _ x _ => (intOf x + 1).toNat)
  case atStart => exact ⟨(lj.l.length : Int) - 1, -1, by omega, by omega, by go_num, rfl, .inl rfl, rfl⟩
  case round =>
    obtain ⟨xi, z, hx1, hx2, rfl, rfl, hz, rfl⟩ := hrel
    have HZ := Lib.hid hz
    clear hz
    by_cases hx0 : 0 ≤ xi
    · obtain ⟨i, rfl⟩ : ∃ i : Nat, xi = (i : Int) := ⟨xi.toNat, by omega⟩
      have hlt : i < lj.l.length := by omega
      obtain ⟨ad, hA, -, hcell⟩ := rd_rows (f := joinCells) (m := 4) (fun _ => rfl) (by decide) HJO.out.own.row.rd hlt
      rw [hA] at a3
      obtain ⟨X, hX⟩ : ∃ X, X = lj.l[i] := ⟨_, rfl⟩
      rw [← hX] at hcell
      have d0 : wr.cell? (ad.add (i * 4)) = some (.string X.text) := hcell 0 _ rfl
      have HLT := Lib.hid hlt
      clear hX hcell hlt hA hx1
      obtain ⟨q, hq⟩ : ∃ q, (X.text.toList == s.toList) = q := ⟨_, rfl⟩
      cases q with
      | true =>
        go_wp2_with fail
        go_roundw
        case rel => exact ⟨(i : Int) - 1, (i : Int), by omega, by omega, by go_num, rfl, .inr ⟨i, HLT.out, rfl⟩, by trivial⟩
        case measure => first | (simp [intOf]; done) | (simp [intOf]; omega)
      | false =>
        go_wp2_with fail
        go_roundw
        case rel => exact ⟨(i : Int) - 1, z, by omega, by omega, by go_num, rfl, HZ.out, by trivial⟩
        case measure => first | (simp [intOf]; done) | (simp [intOf]; omega)
    · have HNO1 := Lib.hid (DoPost.no (w := w) H1.out HB1.out)
      have HNO2 := Lib.hid (fun (m : Nat) => DoPost.no (w := w) (H1.out.below (below_drewN9 (Below.refl _ wr) m)) (below_drewN9 HB1.out m))
      clear hx1 hx2
      by_cases h3 : kd = 3
      · have e3 : (kd == (3 : Int)) = true := by simp [h3]
        clear h3
        by_cases hz0 : 0 ≤ z
        · go_wp2_with fail
          go_ret
          exact HNO1.out _
        · by_cases h16 : (16 : Int) ≤ (lj.l.length : Int)
          · go_wp2_with fail
            go_ret
            exact HNO1.out _
          · go_wp2_with fail
            have HC0 : Below wr.heap.size wr wr.drew := (Below.refl _ _).drew
            have HJR := Lib.hid (show OwnR wr base 38 4 lj.A lj.c lj.l.length (rowsV joinCells lj.l) from HJO.out.own)
            apply wp_region_seqp (fun u => Below wr.heap.size wr u) (fun i => i == 0) (fun u u' => Below u.heap.size u u') [_, _, _, _, _, _, _, undef] (gOf [(7, fun v u => ∃ ad, v = .slice (some ⟨ad, 0, none⟩) 1 1 ∧ Blk u ad 38 (joinCells o.join))]) 8 (by kernel_rfl) (by kernel_rfl) (by decide) (by kernel_rfl) (fun i h => by simp only [beq_iff_eq] at h; subst h; rfl) (stabL_of _ ⟨(fun _ _ _ h h0 => by obtain ⟨ga, e, hb⟩ := h0; exact ⟨ga, e, hb.below h hb.lt⟩), trivial⟩) HC0
            simp only [List.take_succ_cons, List.take_zero, List.drop_succ_cons, List.drop_zero]
            iterate 4
              first
              | (apply SeqH.pure; rfl; rfl; rfl; rfl; (simp only [act_put, act_put_none, List.setIfInBounds_toArray, List.set_cons_zero, List.set_cons_succ]; rfl); (intro w1 E hE; go_wp2; exact .mk hE))
              | (apply SeqH.step; rfl; (first | (apply SeqG.next; rfl; rfl; rfl)); (simp only [act_put, act_put_none, List.setIfInBounds_toArray, List.set_cons_zero, List.set_cons_succ]; rfl); (intro w1 hC1 hf E hE; go_wp2; exact .mk (hE _ hC1 (Below.refl _ _))); refine SeqG.nil ?_)
            apply SeqH.step
            · rfl
            apply SeqG.next
            · rfl
            · rfl
            · rfl
            · simp only [act_put, act_put_none, List.setIfInBounds_toArray, List.set_cons_zero, List.set_cons_succ]
              rfl
            · intro w1 hC1 hf E hE
              have d0 := (hC1.cell (p := ⟨g, 3, none⟩) H1.out.box.lt).trans a3
              go_wp2
              exact .mk (hE _ hC1 (Below.refl _ _))
            refine SeqG.nil ?_
            iterate 1
              (apply SeqH.step; rfl; (first | (apply SeqG.next; rfl; rfl; rfl)); (simp only [act_put, act_put_none, List.setIfInBounds_toArray, List.set_cons_zero, List.set_cons_succ]; rfl); (intro w1 hC1 hf E hE; go_wp2; exact .mk (hE _ hC1 (Below.refl _ _))); refine SeqG.nil ?_)
            apply SeqH.step
            · rfl
            apply SeqG.next
            · rfl
            · rfl
            · rfl
            · simp only [act_put, act_put_none, List.setIfInBounds_toArray, List.set_cons_zero, List.set_cons_succ]
              rfl
            · intro w1 hC1 hf E hE
              refine wpList_get_part (r := joinCells o.join) (k := 8) (n := 4) (HK1.out.below hC1 HK1.out.lt) (by simp [opC]) (opC_join _) rfl rfl rfl huj rfl joinT_size ?_
              go_wp2_with fail
              exact .mk (hE _ hC1 (Below.refl _ _))
            refine SeqG.nil ?_
            apply SeqH.step
            · rfl
            apply SeqG.some
            · rfl
            · rfl
            · intro w1 hC1 hf E hE
              simp only [act_put, act_put_none, List.setIfInBounds_toArray, List.set_cons_zero, List.set_cons_succ] at hE
              unfold joinCells
              go_wp2
              exact .mk (hE _ _ ⟨_, rfl, Blk.new _ _ _⟩ (hC1.alloc hC1.size _) ((Below.refl _ _).alloc (Nat.le_refl _) _))
            intro x7
            simp only [act_put, act_put_none, List.setIfInBounds_toArray, List.set_cons_zero, List.set_cons_succ]
            refine SeqG.nil ?_
            refine SeqH.nil ?_
            intro w1 hC1 hf
            have f7 := (hf 7 (of_decide_eq_true (by kernel_rfl))).1 rfl
            clear hf
            refine SeqT.step rfl ?_
            intro E hE
            simp only [act_put, act_put_none, List.setIfInBounds_toArray, List.set_cons_zero, List.set_cons_succ] at hE
            obtain ⟨ga, hx7, hb7⟩ := f7
            have HB7 := Lib.hid hb7
            have HBC := Lib.hid hC1
            clear hb7
            simp only [hx7] at hE ⊢
            refine wpList_append_r (m := 1) (news := (joinCells o.join).toList) sl_joins rfl rfl (HJR.out.below hC1) rfl rfl rfl (Rd.of_blk (l := (joinCells o.join).toList) HB7.out HB7.out.lt) (by simp [joinCells, Value.oneCell']) (by unfold maxLen; omega) (by omega) (Nat.le_trans (Nat.le_trans HBS.out HB1.out.size) hC1.size) ?_
            intro A8 c8 w8 ho8 hg8 hn8
            have HO8 := Lib.hid ho8
            have HG8 := Lib.hid hg8
            clear ho8 hg8 hn8
            go_wp2_with fail
            refine .mk (hE _ _ ?_)
            clear hE E
            refine SeqT.step rfl ?_
            intro E hE
            simp only [act_put, act_put_none, List.setIfInBounds_toArray, List.set_cons_zero, List.set_cons_succ] at hE
            go_wp2
            refine .mk (hE _ _ ?_)
            clear hE E
            refine SeqT.step rfl ?_
            intro E hE
            simp only [act_put, act_put_none, List.setIfInBounds_toArray, List.set_cons_zero, List.set_cons_succ] at hE
            go_wp2
            refine .mk (hE _ _ ?_)
            clear hE E
            refine SeqT.step rfl ?_
            intro E hE
            simp only [act_put, act_put_none, List.setIfInBounds_toArray, List.set_cons_zero, List.set_cons_succ] at hE
            refine wpList_put_cell (i := 3) ((H1.out.below HBC.out).box.keep (keepBut_grown (HJR.out.below HBC.out) HG8.out) (by decide)) rfl rfl rfl rfl (by kernel_rfl) (by simp [ledCells]) rfl ?_
            intro w9 hb9 hw9
            have HB9 := Lib.hid hb9
            have HW9 := Lib.hid hw9
            clear hb9 hw9
            go_wp2_with fail
            refine .mk (hE undef _ ?_)
            clear hE E
            refine SeqT.nil ?_
            have HFN := Lib.hid (show DoPost base g K w (.returned (.int .i64 0)) w9 by
              have hbg : Below base w w8 := (HB1.out.trans (HBC.out.mono (Nat.le_trans HBS.out HB1.out.size))).grown HG8.out (Nat.le_trans HBS.out (HB1.out.trans (HBC.out.mono (Nat.le_trans HBS.out HB1.out.size))).size) fun j hj => (HJR.out.lt j hj).1
              have hl := (H1.out.below HBC.out).join_add (k := o.join) (A' := A8) (c' := c8) (by rw [← HLJ.out]; exact HO8.out) (by rw [← HLJ.out]; exact HG8.out) HW9.out (by rw [← HLJ.out]; exact HB9.out)
              exact ⟨_, 0, rfl, hl, HW9.out.below hbg H1.out.hg (Nat.le_trans HBS.out hbg.size)⟩)
            clear hC1 HC0
            go_wp2_with fail
            go_ret
            exact HFN.out
      · have e3 : (kd == (3 : Int)) = false := by simpa using h3
        clear h3
        by_cases hz0 : z < 0
        · go_wp2_with fail
          go_ret
          exact HNO1.out _
        · obtain ⟨i, hi, hzi⟩ : ∃ j : Nat, j < lj.l.length ∧ z = (j : Int) := by
            rcases HZ.out with h | h
            · omega
            · exact h
          subst hzi
          obtain ⟨ad, hA, -, hcell⟩ := rd_rows (f := joinCells) (m := 4) (fun _ => rfl) (by decide) HJO.out.own.row.rd hi
          rw [hA] at a3
          obtain ⟨X, hX⟩ : ∃ X, X = lj.l[i] := ⟨_, rfl⟩
          rw [← hX] at hcell
          obtain ⟨us, hus⟩ : ∃ us, us = X.used := ⟨_, rfl⟩
          have d3 : wr.cell? ⟨(ad.add (i * 4)).block, (ad.add (i * 4)).off + 3, none⟩ = some (.bool us) := by rw [hus]; exact hcell 3 _ rfl
          have d1 : wr.cell? ⟨(ad.add (i * 4)).block, (ad.add (i * 4)).off + 1, none⟩ = some (.string X.name) := hcell 1 _ rfl
          have b12 : wr.cell? ⟨w.heap.size, 12, none⟩ = some (.string o.node.name) := HK1.out.cell 12
          have hi0 : (0 : Int) ≤ (i : Int) := by omega
          have hil : (i : Int) < (lj.l.length : Int) := by omega
          have HIL := Lib.hid hi
          have HAA := Lib.hid hA
          clear hX hcell hus hz0 hi hA
          cases us with
          | true =>
            go_wp2_with fail
            go_ret
            exact HNO1.out _
          | false =>
            obtain ⟨q, hq⟩ : ∃ q, (X.name.toList == o.node.name.toList) = q := ⟨_, rfl⟩
            cases q with
            | false =>
              go_wp2_with fail
              go_quiet (fail)
              go_wp2_with fail
              go_ret
              exact HNO2.out _ _
            | true =>
              go_wp2_with fail
              go_quiet (fail)
              generalize hn3 : wr.drewN _ = w3
              have H3 := Lib.hid (show LW w3 base g K d by rw [← hn3]; exact H1.out.below (below_drewN9 (Below.refl _ _) _))
              have HB3 := Lib.hid (show Below base w w3 by rw [← hn3]; exact below_drewN9 HB1.out _)
              have HK3 := Lib.hid (show Blk w3 w.heap.size 47 (opC o) by rw [← hn3]; exact HK1.out)
              clear hn3 d3 d1
              go_wp2_with (refine wpList_get_part (r := nodeCells o.node) (k := 12) (n := 5) HK3.out (by simp [opC]) (opC_node _) rfl rfl rfl hun rfl nodeT_size ?_)
              refine calls_then (putNode_any d o.node base g K w3 H3.out HKK.out HNN.out) ?_
              rintro e w4 ⟨sn, f, rfl, hl4, hb4⟩
              have H4 := Lib.hid hl4
              have HB4 := Lib.hid (HB3.out.trans hb4)
              clear hl4 hb4
              by_cases hf : f = 0
              · subst hf
                have HJ4 := Lib.hid (show lj.Own w4 base 38 4 joinCells (K + 1) by rw [HLJ.out]; exact H4.out.ll.joins)
                have a3 : w4.cell? ⟨g, 3, none⟩ = some (.slice (some ad) lj.l.length lj.c) := by
                  rw [← HAA.out, HLJ.out]
                  exact H4.out.box.cell 3
                obtain ⟨ad2, cur, hA2, hbase, hblt, hblk, hoff, hput⟩ := ownR_ad_r (f := joinCells) (m := 4) (fun _ => rfl) HJ4.out.own HIL.out (j := 3) (by decide)
                rw [HAA.out] at hA2
                injection hA2 with hA2
                subst hA2
                obtain ⟨Y, hY⟩ : ∃ Y, Y = lj.l[i]'HIL.out := ⟨_, rfl⟩
                have HBK := Lib.hid hblk
                have HOF := Lib.hid hoff
                have HFN := Lib.hid (show ∀ u, Blk u (ad.add (i * 4)).block 38 (cur.setIfInBounds ((ad.add (i * 4)).off + 3) (.bool true)) → Wrote (ad.add (i * 4)).block w4 u → DoPost base g K w (.returned (.int .i64 0)) u from fun u hb hw => by
                  have hs : (⟨lj.A, lj.c, lj.l.set i ⟨Y.text, Y.name, Y.exp, true⟩⟩ : Sl JoinD).Own u base 38 4 joinCells (K + 1) := ⟨by
                    have h := hput (.bool true) ⟨Y.text, Y.name, Y.exp, true⟩ u (by rw [← hY]; rfl) hb
                    show OwnR u base _ 4 lj.A lj.c (lj.l.set i _).length _
                    rw [List.length_set]
                    exact h, by show (lj.l.set i _).length ≤ K + 1; rw [List.length_set]; have := HJL.out; omega⟩
                  have hv : (⟨lj.A, lj.c, lj.l.set i ⟨Y.text, Y.name, Y.exp, true⟩⟩ : Sl JoinD).v = d.joins.v := by
                    rw [← HLJ.out]
                    show Value.slice lj.A (lj.l.set i _).length lj.c = _
                    rw [List.length_set]
                    rfl
                  exact ⟨_, 0, rfl, H4.out.join_field hblk hw hs hv, hw.below HB4.out hbase (Nat.le_trans HBS.out HB4.out.size)⟩)
                clear hput hY hblk hoff hbase hblt
                go_wp2_with (refine wpList_put_cell HBK.out rfl rfl rfl rfl (by kernel_rfl) HOF.out rfl ?_; intro w6 hb6 hw6)
                go_ret
                exact HFN.out _ hb6 hw6
              · have hf' : (f == (0 : Int)) = false := by simpa using hf
                have HFN := Lib.hid (show DoPost base g K w (.returned (.int .i64 f)) w4 from ⟨_, f, rfl, H4.out, HB4.out⟩)
                clear hf
                go_wp2_with fail
                go_ret
                exact HFN.out
end Go.Proofs.YtpfnigndhkcknaaGreatDoor
/-
  Walk: brevetref15.bans (a list with one in its place, or more). (Printed by gen/lst20.py.)
-/
namespace Go.Proofs.YtpfnigndhkcknaaGreatDoor
set_option linter.unusedSimpArgs false
set_option linter.unusedVariables false
open Go.RowKit
set_option maxRecDepth 100000 in
set_option maxHeartbeats 4000000 in
theorem bans15_any (l : List ByteArray) (hl : l.length ≤ 1000) (z : ByteArray) (gone : Bool) (A : Option Addr) (c B : Nat) (w : World) (hr : Rd w B A (rowsV strCell l)) (hB : B ≤ w.heap.size) :
    Calls Tryz.prog 71 #[.slice A l.length c, .string z, .bool gone] w (ListPost 9 1 strCell l z w) := by
  obtain ⟨W0, hW0⟩ : ∃ W0, W0 = w := ⟨_, rfl⟩
  have HB0 := Lib.hid (show Below w.heap.size w W0 by rw [hW0]; exact Below.refl _ _)
  have HW0 := Lib.hid hW0
  obtain ⟨n, hn⟩ : ∃ n, n = l.length := ⟨_, rfl⟩
  have HN := Lib.hid hn
  have HR := Lib.hid (hr.below (HB0.out.mono hB))
  have HBB := Lib.hid (Nat.le_trans hB HB0.out.size)
  have hn' : (n : Int) ≤ 1000 := by omega
  rw [← hn]
  clear hW0 hr hB hl hn
  go_enter Tryz.func71, Tryz.ntmps71
  rw [← HW0.out]
  go_wp2_with fail
  go_loopw [7, 8, 9] (fun out dv i wr => ∃ (k : Nat) (A1 : Option Addr) (c1 : Nat) (xs : List ByteArray) (dn : Bool), k ≤ n ∧ out = .slice A1 xs.length c1 ∧ dv = .bool dn ∧ i = .int .i64 (k : Int) ∧ OwnR wr W0.heap.size 9 1 A1 c1 xs.length (rowsV strCell xs) ∧ Below W0.heap.size W0 wr ∧ xs.length ≤ k + dn.toNat ∧ ∀ x ∈ xs, x ∈ l ∨ x = z) (fun _ _ i _ => n - (intOf i).toNat)
  case atStart => exact ⟨0, none, 0, [], gone, by omega, rfl, rfl, rfl, OwnR.nil _ _ _ _, Below.refl _ _, by simp, fun x hx => by cases hx⟩
  case round =>
    obtain ⟨k, A1, c1, xs, dn, hk, rfl, rfl, rfl, hown, hbel, hlen, hmem⟩ := hrel
    have HOWN := Lib.hid hown
    have HBEL := Lib.hid hbel
    have HLEN := Lib.hid hlen
    have HMEM := Lib.hid hmem
    have hxl : xs.length ≤ 1001 := by have : dn.toNat ≤ 1 := by cases dn <;> simp
                                      omega
    clear hown hbel hlen hmem
    by_cases hlt : k < n
    · have hkl : k < l.length := by rw [← HN.out]; exact hlt
      have hi1 : (0 : Int) ≤ (k : Int) := by omega
      have hi2 : (k : Int) < (n : Int) := by omega
      obtain ⟨ad, hA, hadb, hcell⟩ := rd_rows (f := strCell) (m := 1) (fun _ => rfl) (by decide) HR.out hkl
      subst hA
      obtain ⟨X, hX⟩ : ∃ X, X = l[k] := ⟨_, rfl⟩
      rw [← hX] at hcell
      have HX := Lib.hid (show X ∈ l by rw [hX]; exact List.getElem_mem hkl)
      have HC := Lib.hid (show ∀ u, Below W0.heap.size W0 u → ∀ j v, (strCell X).toList[j]? = some v → u.cell? ((ad.add (k * 1)).add j) = some v from fun u hu j v hv => by
        rw [hu.cell (p := (ad.add (k * 1)).add j) (by rw [block_of_add, block_of_add]; exact Nat.lt_of_lt_of_le hadb HBB.out)]
        exact hcell j v (by simpa using hv))
      have HD := Lib.hid (show ∀ u, Below W0.heap.size W0 u → u.cell? (ad.add k) = some (.string X) ∧ True from fun u hu => ⟨(by have h := HC.out u hu 0 _ rfl; rw [show k * 1 = k from Nat.mul_one k] at h; exact h), trivial⟩)
      obtain ⟨q, hqq⟩ : ∃ q, Op.bytesLess X.toList z.toList = q := ⟨_, rfl⟩
      obtain ⟨r, hrr⟩ : ∃ r, (X.toList == z.toList) = r := ⟨_, rfl⟩
      have HLT := Lib.hid hlt
      clear hX hcell hadb hkl hlt
      go_upto_region 6 with (fail)
      go_cut [26] (fun v wx => (∃ b, v = .bool b ∧ (b = true → dn = false)) ∧ wx = wr)
      case first =>
        obtain ⟨d0, d2⟩ := HD.out wr HBEL.out
        cases dn with
        | true =>
          go_wp2_with fail
          go_meet
          exact ⟨⟨false, rfl, by simp⟩, rfl⟩
        | false =>
          cases q with
          | true =>
            go_wp2_with fail
            go_meet
            exact ⟨⟨false, rfl, by simp⟩, rfl⟩
          | false =>
            go_wp2_with fail
            go_meet
            exact ⟨⟨true, rfl, by simp⟩, rfl⟩
      case rest =>
      obtain ⟨⟨b, rfl, hb⟩, rfl⟩ := hcut
      have HBD := HBEL
      have HOD := HOWN
      have HBF := Lib.hid hb
      clear hb hqq
      go_upto_if 26 with (fail)
      go_cut [7, 8] (fun out dv wx => ∃ (A2 : Option Addr) (c2 : Nat) (ys : List ByteArray) (dn2 : Bool), out = .slice A2 ys.length c2 ∧ dv = .bool dn2 ∧ OwnR wx W0.heap.size 9 1 A2 c2 ys.length (rowsV strCell ys) ∧ Below W0.heap.size W0 wx ∧ ys.length ≤ k + dn2.toNat ∧ ∀ x ∈ ys, x ∈ l ∨ x = z)
      case first =>
        cases b with
        | false =>
          go_wp2_with fail
          go_meet
          exact ⟨A1, c1, xs, dn, rfl, rfl, HOD.out, HBD.out, HLEN.out, HMEM.out⟩
        | true =>
          obtain rfl : dn = false := HBF.out rfl
          go_wp2_with (first
            | (refine wpList_append_r1 (ys := [.string z]) sl_strz rfl rfl HOD.out rfl rfl rfl rfl (by simp [Value.oneCell']) (by unfold maxLen; omega) (by omega) HBD.out.size ?_; intro A5 c5 w5 hown5 hgr5 hn5))
          go_meet
          exact ⟨A5, c5, xs ++ [z], true, by simp, rfl, by rw [rowsV_append, rowsV_one, List.length_append]; exact hown5, HBD.out.grown hgr5 HBD.out.size (fun j hj => (HOD.out.lt j hj).1), by have := HLEN.out; simp at this ⊢; omega, fun x hx => by
            rcases List.mem_append.1 hx with h | h
            · exact HMEM.out x h
            · exact .inr (by simpa using h)⟩
      case rest =>
      obtain ⟨A2, c2, ys, dn2, rfl, rfl, hown2, hbel2, hlen2, hmem2⟩ := hcut
      have HOWN2 := Lib.hid hown2
      have HBEL2 := Lib.hid hbel2
      have HLEN2 := Lib.hid hlen2
      have HMEM2 := Lib.hid hmem2
      have hyl : ys.length ≤ 1001 := by have : dn2.toNat ≤ 1 := by cases dn2 <;> simp
                                        omega
      clear hown2 hbel2 hlen2 hmem2
      obtain ⟨d0, d2⟩ := HD.out _ HBEL2.out
      cases r with
      | true =>
          go_wp2_with fail
          go_roundw
          case rel => exact ⟨k + 1, A2, c2, ys, dn2, HLT.out, rfl, rfl, by go_num, HOWN2.out, HBEL2.out, by have := HLEN2.out; omega, HMEM2.out⟩
          case measure => have := HLT.out; simp [intOf]; omega
      | false =>
          go_wp2_with (first
            | (refine wpList_append_r1 (ys := [.string X]) sl_strz rfl rfl HOWN2.out rfl rfl rfl rfl (by simp [Value.oneCell']) (by unfold maxLen; omega) (by omega) HBEL2.out.size ?_; intro A5 c5 w5 hown5 hgr5 hn5))
          go_roundw
          case rel => exact ⟨k + 1, A5, c5, ys ++ [X], dn2, HLT.out, by simp, rfl, by go_num, by rw [rowsV_append, rowsV_one, List.length_append]; exact hown5, Below.grown HBEL2.out hgr5 (Below.size HBEL2.out) (fun j hj => (HOWN2.out.lt j hj).1), by have := HLEN2.out; simp; omega, fun x hx => by
            rcases List.mem_append.1 hx with h | h
            · exact HMEM2.out x h
            · exact .inl (by have e : x = X := by simpa using h
                             rw [e]; exact HX.out)⟩
          case measure => have := HLT.out; simp [intOf]; omega
    · obtain rfl : k = n := by omega
      clear hlt
      cases dn with
      | true =>
        go_wp2_with fail
        go_ret
        exact ⟨A1, c1, xs, rfl, by have := HLEN.out; have := HN.out; simp at *; omega, HMEM.out, HOWN.out, HBEL.out⟩
      | false =>
        go_wp2_with (first
          | (refine wpList_append_r1 (ys := [.string z]) sl_strz rfl rfl HOWN.out rfl rfl rfl rfl (by simp [Value.oneCell']) (by unfold maxLen; omega) (by omega) HBEL.out.size ?_; intro A5 c5 w5 hown5 hgr5 hn5))
        go_ret
        exact ⟨A5, c5, xs ++ [z], by simp, by have := HLEN.out; have := HN.out; simp at *; omega, fun x hx => by
          rcases List.mem_append.1 hx with h | h
          · exact HMEM.out x h
          · exact .inr (by simpa using h), (by rw [rowsV_append, rowsV_one, List.length_append]; exact hown5), HBEL.out.grown hgr5 HBEL.out.size (fun j hj => (HOWN.out.lt j hj).1)⟩
end Go.Proofs.YtpfnigndhkcknaaGreatDoor
