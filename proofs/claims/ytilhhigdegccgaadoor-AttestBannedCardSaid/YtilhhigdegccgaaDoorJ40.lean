/-
  Joined texts: Fo3.
-/
import Derived.Test.YtilhhigdegccgaaDoorJ32
import Derived.Test.YtilhhigdegccgaaDoorJ34
/-
  Walk: brevetref15.foreign, and what it does to tokens and nodes. (Printed by gen/conv3.py.)
-/
namespace Go.Proofs.YtilhhigdegccgaaDoor
set_option linter.unusedSimpArgs false
set_option linter.unusedVariables false
open Go.RowKit
set_option maxRecDepth 100000 in
set_option maxHeartbeats 8000000 in
theorem foreign15r_any (d : LedD) (o : OpD) (base g K : Nat) (w : World) (h : LW w base g K d) (hK : K ≤ 900) (ho : OpIn w o) (hkd : o.kind ≠ 4 ∧ o.kind ≠ 5) :
    Calls Tryd.prog 43 #[.pointer (some ⟨g, 0, none⟩), .agg (opC o)] w (DoPostR d o base g K w) := by
  have HQD := Lib.hid hkd
  clear hkd
  have hubu := Tryd.underlying45
  obtain ⟨W0, hW0⟩ : ∃ W0, W0 = w.alloc (.cells (opC o) 47) := ⟨_, rfl⟩
  have hb0 : Below w.heap.size w W0 := by rw [hW0]; exact (Below.refl _ w).alloc (Nat.le_refl _) _
  have hbs : base ≤ w.heap.size := Nat.le_of_lt (Nat.lt_of_le_of_lt h.hg h.box.lt)
  have HBS := Lib.hid hbs
  have HB0 := Lib.hid (hb0.mono hbs)
  have HK0 := Lib.hid (show Blk W0 w.heap.size 47 (opC o) by rw [hW0]; exact Blk.new _ _ _)
  have H0 := Lib.hid (h.below hb0)
  have HW0 := Lib.hid hW0
  have HKK := Lib.hid hK
  have HBI := Lib.hid (ho.bun.grow hb0)
  have CM := Lib.hid (may15_any o.bun W0 (ho.bun.grow hb0))
  obtain ⟨lu, hlu⟩ : ∃ lu, lu = d.buns := ⟨_, rfl⟩
  have HLU := Lib.hid hlu
  have HUL := Lib.hid (show lu.l.length ≤ K by rw [hlu]; exact H0.out.ll.buns.len)
  have hul : (lu.l.length : Int) ≤ 900 := by have := HUL.out; omega
  have b0 : W0.cell? ⟨w.heap.size, 0, none⟩ = some (.int .i64 o.kind) := HK0.out.cell 0
  have b2 : W0.cell? ⟨w.heap.size, 2, none⟩ = some (.string o.name) := HK0.out.cell 2
  clear hW0 hb0 h ho hbs hK hlu
  go_enter Tryd.func43, Tryd.ntmps43
  go_upto_region 1 with (fail)
  rw [show w.alloc (.cells (opC o) 47) = W0 from HW0.out.symm]
  generalize Value.agg (opC o) = AV
  obtain ⟨kd, hkd⟩ : ∃ kd, kd = o.kind := ⟨_, rfl⟩
  have HKD := Lib.hid hkd
  rw [← hkd] at b0
  clear hkd
  -- the name, or the bundle's
  go_upto_if 13 with (fail)
  go_cut [5] (fun v wx => (∃ s : ByteArray, v = .string s) ∧ Below W0.heap.size W0 wx)
  case first =>
    by_cases h12 : kd = 12
    · have e12 : (kd == (12 : Int)) = true := by simp [h12]
      clear h12
      go_wp2_with (refine wpList_get_part (r := bunCells o.bun) (k := 21) (n := 3) HK0.out (by simp [opC]) (opC_bun _) rfl rfl rfl hubu rfl bunT_size ?_)
      refine calls_then CM.out ?_
      rintro e w1 ⟨⟨b, rfl⟩, hb1⟩
      have HB1 := Lib.hid hb1
      have b21 : w1.cell? ⟨w.heap.size, 21, none⟩ = some (.string o.bun.dom) := (HK0.out.below hb1 HK0.out.lt).cell 21
      have HNO := Lib.hid (DoPostR.no (w := w) HQD.out (H0.out.below hb1) (HB0.out.trans (hb1.mono (Nat.le_trans HBS.out HB0.out.size))))
      clear hb1
      cases b with
      | false =>
        go_wp2_with fail
        go_ret
        exact HNO.out _
      | true =>
        go_wp2_with fail
        go_meet
        exact ⟨⟨_, rfl⟩, HB1.out⟩
    · have e12 : (kd == (12 : Int)) = false := by simpa using h12
      clear h12
      go_wp2_with fail
      go_meet
      exact ⟨⟨_, rfl⟩, Below.refl _ _⟩
  case rest =>
  obtain ⟨⟨s, rfl⟩, hbc⟩ := hcut
  have H1 := Lib.hid (H0.out.below hbc)
  have HB1 := Lib.hid (HB0.out.trans (hbc.mono (Nat.le_trans HBS.out HB0.out.size)))
  have HK1 := Lib.hid (HK0.out.below hbc HK0.out.lt)
  have HBI1 := Lib.hid (HBI.out.grow hbc)
  have a5 : wc.cell? ⟨g, 5, none⟩ = some (.slice lu.A lu.l.length lu.c) := by rw [HLU.out]; exact H1.out.box.cell 5
  have b0 : wc.cell? ⟨w.heap.size, 0, none⟩ = some (.int .i64 kd) := by rw [HKD.out]; exact HK1.out.cell 0
  have HUO := Lib.hid (show lu.Own wc base 45 3 bunCells K by rw [HLU.out]; exact H1.out.ll.buns)
  clear hbc CM HBI H0 HB0 HK0
  go_wp2_with fail
  go_loopw [7, 8] (fun at_ x wr => ∃ (i : Nat) (z : Int), i ≤ lu.l.length ∧ x = .int .i64 (i : Int) ∧ at_ = .int .i64 z ∧ (z = -1 ∨ ∃ j : Nat, j < lu.l.length ∧ z = (j : Int)) ∧ wr = wc) (fun _ x _ => lu.l.length - (intOf x).toNat)
  case atStart => exact ⟨0, -1, Nat.zero_le _, rfl, rfl, .inl rfl, rfl⟩
  case round =>
    obtain ⟨i, z, hi, rfl, rfl, hz, rfl⟩ := hrel
    have HZ := Lib.hid hz
    clear hz
    by_cases hlt : i < lu.l.length
    · have hlt' : (i : Int) < (lu.l.length : Int) := by omega
      have hi0 : (0 : Int) ≤ (i : Int) := by omega
      obtain ⟨ad, hA, -, hcell⟩ := rd_rows (f := bunCells) (m := 3) (fun _ => rfl) (by decide) HUO.out.own.row.rd hlt
      rw [hA] at a5
      obtain ⟨X, hX⟩ : ∃ X, X = lu.l[i] := ⟨_, rfl⟩
      rw [← hX] at hcell
      have d0 : wr.cell? (ad.add (i * 3)) = some (.string X.dom) := hcell 0 _ rfl
      have HLT := Lib.hid hlt
      clear hX hcell hlt hA
      obtain ⟨q, hq⟩ : ∃ q, (X.dom.toList == s.toList) = q := ⟨_, rfl⟩
      cases q with
      | true =>
        go_wp2_with fail
        go_roundw
        case rel => exact ⟨i + 1, (i : Int), HLT.out, by go_num, rfl, .inr ⟨i, HLT.out, rfl⟩, by trivial⟩
        case measure => have := HLT.out; simp [intOf]; omega
      | false =>
        go_wp2_with fail
        go_roundw
        case rel => exact ⟨i + 1, z, HLT.out, by go_num, rfl, HZ.out, by trivial⟩
        case measure => have := HLT.out; simp [intOf]; omega
    · have hlt' : ¬ (i : Int) < (lu.l.length : Int) := by omega
      have HNO1 := Lib.hid (DoPostR.no (w := w) HQD.out H1.out HB1.out)
      have HNO2 := Lib.hid (fun (m : Nat) => DoPostR.no (w := w) HQD.out (H1.out.below (below_drewN9 (Below.refl _ wr) m)) (below_drewN9 HB1.out m))
      clear hlt
      by_cases h13 : kd = 13
      · have e13 : (kd == (13 : Int)) = true := by simp [h13]
        clear h13
        by_cases hz0 : z < 0
        · go_wp2_with fail
          go_ret
          exact HNO1.out _
        · have CB := Lib.hid (show Calls Tryd.prog 64 #[.slice lu.A lu.l.length lu.c, .agg #[.string s, .int .i64 0, .slice none 0 0], .bool true] wr (ListPost 45 3 bunCells lu.l ⟨s, 0, none, 0, 0⟩ wr) from
            bundles15_any lu.l (by have := HUL.out; have := HKK.out; omega) ⟨s, 0, none, 0, 0⟩ true lu.A lu.c wr.heap.size wr HUO.out.own.row.rd (Nat.le_refl _))
          go_wp2_with fail
          refine calls_then CB.out ?_
          rintro e w5 ⟨A5, c5, xs, rfl, hlen5, hmem5, hown5, hb5⟩
          have H5 := Lib.hid (H1.out.below hb5)
          have HB5 := Lib.hid (HB1.out.trans (hb5.mono (Nat.le_trans HBS.out HB1.out.size)))
          have HOW := Lib.hid (show (⟨A5, c5, xs⟩ : Sl BunD).Own w5 base 45 3 bunCells (K + 1) from ⟨hown5.mono (Nat.le_trans HBS.out HB1.out.size), by have := HUL.out; show xs.length ≤ K + 1; omega⟩)
          have HBO := Lib.hid (show ∀ x ∈ xs, BunOk w5 x from fun x hx => by
            rcases hmem5 x hx with hx | rfl
            · exact H5.out.ll.bunOk x (by rw [← HLU.out]; exact hx)
            · exact ⟨Nat.le_refl _, Nat.zero_le _, [], rfl, Row.nil _ _ _ _⟩)
          clear hlen5 hmem5 hown5 hb5
          go_wp2_with (refine wpList_put_cell (i := 5) H5.out.box rfl rfl rfl rfl (by kernel_rfl) (by simp [ledCells]) rfl ?_; intro w6 hb6 hw6)
          have HFN := Lib.hid (show DoPostR d o base g K w (.returned (.int .i64 0)) w6 from ⟨_, 0, rfl, (H5.out.more (Nat.le_succ K)).buns_put (s := ⟨A5, c5, xs⟩) HOW.out HBO.out hw6 hb6, hw6.below HB5.out H1.out.hg (Nat.le_trans HBS.out HB5.out.size), .other HQD.out (fun h => h)⟩)
          go_ret
          exact HFN.out
      · have e13 : (kd == (13 : Int)) = false := by simpa using h13
        clear h13
        have b22 : wr.cell? ⟨w.heap.size, 22, none⟩ = some (.int .i64 o.bun.num) := HK1.out.cell 22
        go_wp2_with fail
        go_cut [72] (fun v wx => (∃ b, v = .bool b) ∧ ∃ m, wx = wr.drewN m)
        case first =>
          by_cases hz0 : z < 0
          · have hz1 : decide (0 ≤ z) = false := decide_eq_false (by omega)
            have hz2 : ¬ 0 ≤ z := by omega
            go_wp2_with fail
            go_quiet (fail)
            go_wp2_with fail
            go_meet
            exact ⟨⟨_, rfl⟩, _, rfl⟩
          · obtain ⟨j, hj, hzj⟩ : ∃ j : Nat, j < lu.l.length ∧ z = (j : Int) := by
              rcases HZ.out with h | h
              · omega
              · exact h
            subst hzj
            have hj0 : (0 : Int) ≤ (j : Int) := by omega
            have hjl : (j : Int) < (lu.l.length : Int) := by omega
            obtain ⟨ad, hA, -, hcell⟩ := rd_rows (f := bunCells) (m := 3) (fun _ => rfl) (by decide) HUO.out.own.row.rd hj
            rw [hA] at a5
            obtain ⟨X, hX⟩ : ∃ X, X = lu.l[j] := ⟨_, rfl⟩
            rw [← hX] at hcell
            have d1 : wr.cell? ⟨(ad.add (j * 3)).block, (ad.add (j * 3)).off + 1, none⟩ = some (.int .i64 X.num) := hcell 1 _ rfl
            clear hX hcell hj hA hz0
            go_wp2_with fail
            go_quiet (fail)
            go_wp2_with fail
            go_meet
            exact ⟨⟨_, rfl⟩, _, rfl⟩
        case rest =>
        obtain ⟨⟨bq, rfl⟩, md, hwq⟩ := hcut
        rename_i wq
        have H3 := Lib.hid (show LW wc base g K d by rw [hwq]; exact H1.out.below (below_drewN9 (Below.refl _ _) _))
        have HB3 := Lib.hid (show Below base w wc by rw [hwq]; exact below_drewN9 HB1.out _)
        have HK3 := Lib.hid (show Blk wc w.heap.size 47 (opC o) by rw [hwq]; exact HK1.out)
        have HBI3 := Lib.hid (show BunIn wc o.bun by rw [hwq]; exact HBI1.out.grow (below_drewN9 (Below.refl _ _) _))
        have a5 : wc.cell? ⟨g, 5, none⟩ = some (.slice lu.A lu.l.length lu.c) := by rw [HLU.out]; exact H3.out.box.cell 5
        have HNO3 := Lib.hid (DoPostR.no (w := w) HQD.out H3.out HB3.out)
        have HUO3 := Lib.hid (show lu.Own wc base 45 3 bunCells K by rw [HLU.out]; exact H3.out.ll.buns)
        clear hwq
        cases bq with
        | true =>
          go_wp2_with fail
          go_ret
          exact HNO3.out _
        | false =>
          by_cases hfull : z < 0 ∧ (3 : Int) ≤ (lu.l.length : Int)
          · obtain ⟨h1, h2⟩ := hfull
            go_wp2_with fail
            go_ret
            exact HNO3.out _
          · have hor : ¬ z < 0 ∨ (z < 0 ∧ ¬ (3 : Int) ≤ (lu.l.length : Int)) := by omega
            have CB := Lib.hid (show ∀ u, Below wc.heap.size wc u → Calls Tryd.prog 64 #[.slice lu.A lu.l.length lu.c, .agg (bunCells o.bun), .bool false] u (ListPost 45 3 bunCells lu.l o.bun u) from fun u hu =>
              bundles15_any lu.l (by have := HUL.out; have := HKK.out; omega) o.bun false lu.A lu.c wc.heap.size u (HUO3.out.own.row.rd.below hu) hu.size)
            clear hfull
            go_upto_region 20 with (fail)
            go_cut [82] (fun v wx => v = .bool false ∧ wx = wc)
            case first =>
              rcases hor with hor | ⟨hor, hor2⟩
              · have hor' : decide (z < 0) = false := decide_eq_false hor
                go_wp2_with fail
                go_meet
                exact ⟨by simp, rfl⟩
              · go_wp2_with fail
                go_meet
                exact ⟨by simp [hor2], rfl⟩
            case rest =>
            obtain ⟨rfl, rfl⟩ := hcut
            go_wp2_with fail
            have HC0 : Below wc.heap.size wc wc.drew := (Below.refl _ _).drew
            apply wp_region_seqp (fun u => Below wc.heap.size wc u) (fun i => i == 0) (fun u u' => Below u.heap.size u u') [_, _, _, _, _, _, _] (gOf []) 7 (by kernel_rfl) (by kernel_rfl) (by decide) (by kernel_rfl) (fun i h => by simp only [beq_iff_eq] at h; subst h; rfl) (stabL_of _ trivial) HC0
            simp only [List.take_succ_cons, List.take_zero, List.drop_succ_cons, List.drop_zero]
            iterate 4
              first
              | (apply SeqH.pure; rfl; rfl; rfl; rfl; (simp only [act_put, act_put_none, List.setIfInBounds_toArray, List.set_cons_zero, List.set_cons_succ]; rfl); (intro w1 E hE; go_wp2; exact .mk hE))
              | (apply SeqH.step; rfl; (first | (apply SeqG.next; rfl; rfl; rfl)); (simp only [act_put, act_put_none, List.setIfInBounds_toArray, List.set_cons_zero, List.set_cons_succ]; rfl); (intro w1 hC1 hf E hE; go_wp2; exact .mk (hE _ hC1 (Below.refl _ _))); refine SeqG.nil ?_)
            apply SeqH.step
            · rfl
            apply SeqG.next
            · rfl
            · rfl
            · rfl
            · simp only [act_put, act_put_none, List.setIfInBounds_toArray, List.set_cons_zero, List.set_cons_succ]
              rfl
            · intro w1 hC1 hf E hE
              have d0 := (hC1.cell (p := ⟨g, 5, none⟩) H3.out.box.lt).trans a5
              go_wp2
              exact .mk (hE _ hC1 (Below.refl _ _))
            refine SeqG.nil ?_
            iterate 1
              (apply SeqH.step; rfl; (first | (apply SeqG.next; rfl; rfl; rfl)); (simp only [act_put, act_put_none, List.setIfInBounds_toArray, List.set_cons_zero, List.set_cons_succ]; rfl); (intro w1 hC1 hf E hE; go_wp2; exact .mk (hE _ hC1 (Below.refl _ _))); refine SeqG.nil ?_)
            apply SeqH.step
            · rfl
            apply SeqG.next
            · rfl
            · rfl
            · rfl
            · simp only [act_put, act_put_none, List.setIfInBounds_toArray, List.set_cons_zero, List.set_cons_succ]
              rfl
            · intro w1 hC1 hf E hE
              refine wpList_get_part (r := bunCells o.bun) (k := 21) (n := 3) (HK3.out.below hC1 HK3.out.lt) (by simp [opC]) (opC_bun _) rfl rfl rfl hubu rfl bunT_size ?_
              go_wp2_with fail
              exact .mk (hE _ hC1 (Below.refl _ _))
            refine SeqG.nil ?_
            refine SeqH.nil ?_
            intro w1 hC1 hf
            clear hf
            refine SeqT.step rfl ?_
            intro E hE
            simp only [act_put, act_put_none, List.setIfInBounds_toArray, List.set_cons_zero, List.set_cons_succ] at hE
            go_wp2_with fail
            refine calls_then (CB.out _ hC1) ?_
            rintro e w5 ⟨A5, c5, xs, rfl, hlen5, hmem5, hown5, hb5⟩
            have HL5 := Lib.hid hlen5
            have HM5 := Lib.hid hmem5
            have HO5 := Lib.hid (hown5.mono hC1.size)
            have HB5 := Lib.hid (hC1.trans (hb5.mono hC1.size))
            clear hlen5 hmem5 hown5 hb5
            go_wp2_with fail
            refine .mk (hE _ _ ?_)
            clear hE E
            refine SeqT.step rfl ?_
            intro E hE
            simp only [act_put, act_put_none, List.setIfInBounds_toArray, List.set_cons_zero, List.set_cons_succ] at hE
            go_wp2
            refine .mk (hE _ _ ?_)
            clear hE E
            refine SeqT.step rfl ?_
            intro E hE
            simp only [act_put, act_put_none, List.setIfInBounds_toArray, List.set_cons_zero, List.set_cons_succ] at hE
            go_wp2
            refine .mk (hE _ _ ?_)
            clear hE E
            refine SeqT.step rfl ?_
            intro E hE
            simp only [act_put, act_put_none, List.setIfInBounds_toArray, List.set_cons_zero, List.set_cons_succ] at hE
            have H5 := Lib.hid (H3.out.below HB5.out)
            refine wpList_put_cell (i := 5) H5.out.box rfl rfl rfl rfl (by kernel_rfl) (by simp [ledCells]) rfl ?_
            intro w6 hb6 hw6
            have HB6 := Lib.hid hb6
            have HW6 := Lib.hid hw6
            clear hb6 hw6
            go_wp2_with fail
            refine .mk (hE undef _ ?_)
            clear hE E
            refine SeqT.nil ?_
            have HFN := Lib.hid (show DoPostR d o base g K w (.returned (.int .i64 0)) w6 from ⟨_, 0, rfl, (H5.out.more (Nat.le_succ K)).buns_put (s := ⟨A5, c5, xs⟩) ⟨HO5.out.mono (Nat.le_trans HBS.out HB3.out.size), by have := HL5.out; have := HUL.out; show xs.length ≤ K + 1; omega⟩ (fun x hx => by
              rcases HM5.out x hx with hx | rfl
              · exact H5.out.ll.bunOk x (by rw [← HLU.out]; exact hx)
              · exact (HBI3.out.grow HB5.out).ok) HW6.out HB6.out, HW6.out.below (HB3.out.trans (HB5.out.mono (Nat.le_trans HBS.out HB3.out.size))) H3.out.hg (Nat.le_trans HBS.out (HB3.out.trans (HB5.out.mono (Nat.le_trans HBS.out HB3.out.size))).size), .other HQD.out (fun h => h)⟩)
            clear hC1 HC0
            go_wp2_with fail
            go_ret
            exact HFN.out
end Go.Proofs.YtilhhigdegccgaaDoor
