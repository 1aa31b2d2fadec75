/-
  Joined texts: Fo2 Lse.
-/
import Derived.Test.YtpfnigndhkcknaaGreatDoorJ37
import Derived.Test.YtpfnigndhkcknaaGreatDoorJ43
import Derived.Test.YtpfnigndhkcknaaGreatDoorJ44
import Derived.Test.YtpfnigndhkcknaaGreatDoorJ6
import Derived.Test.YtpfnigndhkcknaaGreatDoorJ7
/-
  Walk: brevetref15.foreign (OpBundle, OpUnbind).
-/
namespace Go.Proofs.YtpfnigndhkcknaaGreatDoor
set_option linter.unusedSimpArgs false
set_option linter.unusedVariables false
open Go.RowKit
theorem LW.buns_put {u u' : World} {base g K : Nat} {d : LedD} {s : Sl BunD} (h : LW u base g K d) (hs : s.Own u base 45 3 bunCells K) (ho : ∀ x ∈ s.l, BunOk u x) (hw : Wrote g u u') (hb : Blk u' g 33 ((ledCells d).setIfInBounds 5 s.v)) : LW u' base g K { d with buns := s } :=
  LW.put h.box h.hg (h.ll.setBuns hs ho) hw hb
theorem bs_toBs (x : ByteArray) : Js.bs x.data.toList = x := by
  apply ByteArray.ext
  simp [Js.bs]
theorem may15_any (b : BunD) (w : World) (h : BunIn w b) : Calls Tryz.prog 73 #[.agg (bunCells b)] w (SomeBB w) := by
  obtain ⟨h0, h1, h2, l, h3, h4, h5⟩ := h
  have hrow : rowsV Js.kCell (l.map fun k => (k.kid.data.toList, k.x.data.toList)) = rowsV jwkCells l := by
    clear h3 h4 h5
    induction l with
    | nil => rfl
    | cons x r ih =>
      rw [List.map_cons, rowsV_cons_r, rowsV_cons_r, ih]
      simp [Js.kCell, jwkCells, bs_toBs]
  have hc := Js.rmay_any b.dom.data.toList b.num (l.map fun k => (k.kid.data.toList, k.x.data.toList)) b.kA b.kc w.heap.size w (by rw [hrow]; exact h5.rd) (Nat.le_refl _) (by show b.dom.size ≤ 100000; omega) (by rw [List.length_map, h3]; omega) (fun k hk => by
    obtain ⟨x, hx, rfl⟩ := List.mem_map.1 hk
    have := h4 x hx
    have h6 : x.x.data.toList.length = x.x.size := rfl
    show (x.x.data.toList.length : Int) ≤ _
    omega)
  have he : Js.bC b.dom.data.toList b.num b.kA (l.map fun k => (k.kid.data.toList, k.x.data.toList)).length b.kc = bunCells b := by
    rw [List.length_map, h3]
    simp [Js.bC, bunCells, bs_toBs]
  rw [he] at hc
  exact hc.mono fun e w' h => ⟨⟨_, h.1⟩, h.2⟩
theorem opC_bun (o : OpD) : (((opC o).toList.drop 21).take 3).toArray = bunCells o.bun := rfl
set_option maxRecDepth 100000 in
set_option maxHeartbeats 8000000 in
theorem foreign15_any (d : LedD) (o : OpD) (base g K : Nat) (w : World) (h : LW w base g K d) (hK : K ≤ 900) (ho : OpIn w o) :
    Calls Tryz.prog 55 #[.pointer (some ⟨g, 0, none⟩), .agg (opC o)] w (DoPost base g K w) := by
  have hubu := Tryz.underlying45
  obtain ⟨W0, hW0⟩ : ∃ W0, W0 = w.alloc (.cells (opC o) 47) := ⟨_, rfl⟩
  have hb0 : Below w.heap.size w W0 := by rw [hW0]; exact (Below.refl _ w).alloc (Nat.le_refl _) _
  have hbs : base ≤ w.heap.size := Nat.le_of_lt (Nat.lt_of_le_of_lt h.hg h.box.lt)
  have HBS := Lib.hid hbs
  have HB0 := Lib.hid (hb0.mono hbs)
  have HK0 := Lib.hid (show Blk W0 w.heap.size 47 (opC o) by rw [hW0]; exact Blk.new _ _ _)
  have H0 := Lib.hid (h.below hb0)
  have HW0 := Lib.hid hW0
  have HKK := Lib.hid hK
  have HBI := Lib.hid (ho.bun.grow hb0)
  have CM := Lib.hid (may15_any o.bun W0 (ho.bun.grow hb0))
  obtain ⟨lu, hlu⟩ : ∃ lu, lu = d.buns := ⟨_, rfl⟩
  have HLU := Lib.hid hlu
  have HUL := Lib.hid (show lu.l.length ≤ K by rw [hlu]; exact H0.out.ll.buns.len)
  have hul : (lu.l.length : Int) ≤ 900 := by have := HUL.out; omega
  have b0 : W0.cell? ⟨w.heap.size, 0, none⟩ = some (.int .i64 o.kind) := HK0.out.cell 0
  have b2 : W0.cell? ⟨w.heap.size, 2, none⟩ = some (.string o.name) := HK0.out.cell 2
  clear hW0 hb0 h ho hbs hK hlu
  go_enter Tryz.func55, Tryz.ntmps55
  go_upto_region 1 with (fail)
  rw [show w.alloc (.cells (opC o) 47) = W0 from HW0.out.symm]
  generalize Value.agg (opC o) = AV
  obtain ⟨kd, hkd⟩ : ∃ kd, kd = o.kind := ⟨_, rfl⟩
  have HKD := Lib.hid hkd
  rw [← hkd] at b0
  clear hkd
  -- the name, or the bundle's
  go_upto_if 13 with (fail)
  go_cut [5] (fun v wx => (∃ s : ByteArray, v = .string s) ∧ Below W0.heap.size W0 wx)
  case first =>
    by_cases h12 : kd = 12
    · have e12 : (kd == (12 : Int)) = true := by simp [h12]
      clear h12
      go_wp2_with (refine wpList_get_part (r := bunCells o.bun) (k := 21) (n := 3) HK0.out (by simp [opC]) (opC_bun _) rfl rfl rfl hubu rfl bunT_size ?_)
      refine calls_then CM.out ?_
      rintro e w1 ⟨⟨b, rfl⟩, hb1⟩
      have HB1 := Lib.hid hb1
      have b21 : w1.cell? ⟨w.heap.size, 21, none⟩ = some (.string o.bun.dom) := (HK0.out.below hb1 HK0.out.lt).cell 21
      have HNO := Lib.hid (DoPost.no (w := w) (H0.out.below hb1) (HB0.out.trans (hb1.mono (Nat.le_trans HBS.out HB0.out.size))))
      clear hb1
      cases b with
      | false =>
        go_wp2_with fail
        go_ret
        exact HNO.out _
      | true =>
        go_wp2_with fail
        go_meet
        exact ⟨⟨_, rfl⟩, HB1.out⟩
    · have e12 : (kd == (12 : Int)) = false := by simpa using h12
      clear h12
      go_wp2_with fail
      go_meet
      exact ⟨⟨_, rfl⟩, Below.refl _ _⟩
  case rest =>
  obtain ⟨⟨s, rfl⟩, hbc⟩ := hcut
  have H1 := Lib.hid (H0.out.below hbc)
  have HB1 := Lib.hid (HB0.out.trans (hbc.mono (Nat.le_trans HBS.out HB0.out.size)))
  have HK1 := Lib.hid (HK0.out.below hbc HK0.out.lt)
  have HBI1 := Lib.hid (HBI.out.grow hbc)
  have a5 : wc.cell? ⟨g, 5, none⟩ = some (.slice lu.A lu.l.length lu.c) := by rw [HLU.out]; exact H1.out.box.cell 5
  have b0 : wc.cell? ⟨w.heap.size, 0, none⟩ = some (.int .i64 kd) := by rw [HKD.out]; exact HK1.out.cell 0
  have HUO := Lib.hid (show lu.Own wc base 45 3 bunCells K by rw [HLU.out]; exact H1.out.ll.buns)
  clear hbc CM HBI H0 HB0 HK0
  go_wp2_with fail
  go_loopw [7, 8] (fun at_ x wr => ∃ (i : Nat) (z : Int), i ≤ lu.l.length ∧ x = .int .i64 (i : Int) ∧ at_ = .int .i64 z ∧ (z = -1 ∨ ∃ j : Nat, j < lu.l.length ∧ z = (j : Int)) ∧ wr = wc) (fun _ x _ => lu.l.length - (intOf x).toNat)
  case atStart => exact ⟨0, -1, Nat.zero_le _, rfl, rfl, .inl rfl, rfl⟩
  case round =>
    obtain ⟨i, z, hi, rfl, rfl, hz, rfl⟩ := hrel
    have HZ := Lib.hid hz
    clear hz
    by_cases hlt : i < lu.l.length
    · have hlt' : (i : Int) < (lu.l.length : Int) := by omega
      have hi0 : (0 : Int) ≤ (i : Int) := by omega
      obtain ⟨ad, hA, -, hcell⟩ := rd_rows (f := bunCells) (m := 3) (fun _ => rfl) (by decide) HUO.out.own.row.rd hlt
      rw [hA] at a5
      obtain ⟨X, hX⟩ : ∃ X, X = lu.l[i] := ⟨_, rfl⟩
      rw [← hX] at hcell
      have d0 : wr.cell? (ad.add (i * 3)) = some (.string X.dom) := hcell 0 _ rfl
      have HLT := Lib.hid hlt
      clear hX hcell hlt hA
      obtain ⟨q, hq⟩ : ∃ q, (X.dom.toList == s.toList) = q := ⟨_, rfl⟩
      cases q with
      | true =>
        go_wp2_with fail
        go_roundw
        case rel => exact ⟨i + 1, (i : Int), HLT.out, by go_num, rfl, .inr ⟨i, HLT.out, rfl⟩, by trivial⟩
        case measure => have := HLT.out; simp [intOf]; omega
      | false =>
        go_wp2_with fail
        go_roundw
        case rel => exact ⟨i + 1, z, HLT.out, by go_num, rfl, HZ.out, by trivial⟩
        case measure => have := HLT.out; simp [intOf]; omega
    · have hlt' : ¬ (i : Int) < (lu.l.length : Int) := by omega
      have HNO1 := Lib.hid (DoPost.no (w := w) H1.out HB1.out)
      have HNO2 := Lib.hid (fun (m : Nat) => DoPost.no (w := w) (H1.out.below (below_drewN9 (Below.refl _ wr) m)) (below_drewN9 HB1.out m))
      clear hlt
      by_cases h13 : kd = 13
      · have e13 : (kd == (13 : Int)) = true := by simp [h13]
        clear h13
        by_cases hz0 : z < 0
        · go_wp2_with fail
          go_ret
          exact HNO1.out _
        · have CB := Lib.hid (show Calls Tryz.prog 74 #[.slice lu.A lu.l.length lu.c, .agg #[.string s, .int .i64 0, .slice none 0 0], .bool true] wr (ListPost 45 3 bunCells lu.l ⟨s, 0, none, 0, 0⟩ wr) from
            bundles15_any lu.l (by have := HUL.out; have := HKK.out; omega) ⟨s, 0, none, 0, 0⟩ true lu.A lu.c wr.heap.size wr HUO.out.own.row.rd (Nat.le_refl _))
          go_wp2_with fail
          refine calls_then CB.out ?_
          rintro e w5 ⟨A5, c5, xs, rfl, hlen5, hmem5, hown5, hb5⟩
          have H5 := Lib.hid (H1.out.below hb5)
          have HB5 := Lib.hid (HB1.out.trans (hb5.mono (Nat.le_trans HBS.out HB1.out.size)))
          have HOW := Lib.hid (show (⟨A5, c5, xs⟩ : Sl BunD).Own w5 base 45 3 bunCells (K + 1) from ⟨hown5.mono (Nat.le_trans HBS.out HB1.out.size), by have := HUL.out; show xs.length ≤ K + 1; omega⟩)
          have HBO := Lib.hid (show ∀ x ∈ xs, BunOk w5 x from fun x hx => by
            rcases hmem5 x hx with hx | rfl
            · exact H5.out.ll.bunOk x (by rw [← HLU.out]; exact hx)
            · exact ⟨Nat.le_refl _, Nat.zero_le _, [], rfl, Row.nil _ _ _ _⟩)
          clear hlen5 hmem5 hown5 hb5
          go_wp2_with (refine wpList_put_cell (i := 5) H5.out.box rfl rfl rfl rfl (by kernel_rfl) (by simp [ledCells]) rfl ?_; intro w6 hb6 hw6)
          have HFN := Lib.hid (show DoPost base g K w (.returned (.int .i64 0)) w6 from ⟨_, 0, rfl, (H5.out.more (Nat.le_succ K)).buns_put (s := ⟨A5, c5, xs⟩) HOW.out HBO.out hw6 hb6, hw6.below HB5.out H1.out.hg (Nat.le_trans HBS.out HB5.out.size)⟩)
          go_ret
          exact HFN.out
      · have e13 : (kd == (13 : Int)) = false := by simpa using h13
        clear h13
        have b22 : wr.cell? ⟨w.heap.size, 22, none⟩ = some (.int .i64 o.bun.num) := HK1.out.cell 22
        go_wp2_with fail
        go_cut [72] (fun v wx => (∃ b, v = .bool b) ∧ ∃ m, wx = wr.drewN m)
        case first =>
          by_cases hz0 : z < 0
          · have hz1 : decide (0 ≤ z) = false := decide_eq_false (by omega)
            have hz2 : ¬ 0 ≤ z := by omega
            go_wp2_with fail
            go_quiet (fail)
            go_wp2_with fail
            go_meet
            exact ⟨⟨_, rfl⟩, _, rfl⟩
          · obtain ⟨j, hj, hzj⟩ : ∃ j : Nat, j < lu.l.length ∧ z = (j : Int) := by
              rcases HZ.out with h | h
              · omega
              · exact h
            subst hzj
            have hj0 : (0 : Int) ≤ (j : Int) := by omega
            have hjl : (j : Int) < (lu.l.length : Int) := by omega
            obtain ⟨ad, hA, -, hcell⟩ := rd_rows (f := bunCells) (m := 3) (fun _ => rfl) (by decide) HUO.out.own.row.rd hj
            rw [hA] at a5
            obtain ⟨X, hX⟩ : ∃ X, X = lu.l[j] := ⟨_, rfl⟩
            rw [← hX] at hcell
            have d1 : wr.cell? ⟨(ad.add (j * 3)).block, (ad.add (j * 3)).off + 1, none⟩ = some (.int .i64 X.num) := hcell 1 _ rfl
            clear hX hcell hj hA hz0
            go_wp2_with fail
            go_quiet (fail)
            go_wp2_with fail
            go_meet
            exact ⟨⟨_, rfl⟩, _, rfl⟩
        case rest =>
        obtain ⟨⟨bq, rfl⟩, md, hwq⟩ := hcut
        rename_i wq
        have H3 := Lib.hid (show LW wc base g K d by rw [hwq]; exact H1.out.below (below_drewN9 (Below.refl _ _) _))
        have HB3 := Lib.hid (show Below base w wc by rw [hwq]; exact below_drewN9 HB1.out _)
        have HK3 := Lib.hid (show Blk wc w.heap.size 47 (opC o) by rw [hwq]; exact HK1.out)
        have HBI3 := Lib.hid (show BunIn wc o.bun by rw [hwq]; exact HBI1.out.grow (below_drewN9 (Below.refl _ _) _))
        have a5 : wc.cell? ⟨g, 5, none⟩ = some (.slice lu.A lu.l.length lu.c) := by rw [HLU.out]; exact H3.out.box.cell 5
        have HNO3 := Lib.hid (DoPost.no (w := w) H3.out HB3.out)
        have HUO3 := Lib.hid (show lu.Own wc base 45 3 bunCells K by rw [HLU.out]; exact H3.out.ll.buns)
        clear hwq
        cases bq with
        | true =>
          go_wp2_with fail
          go_ret
          exact HNO3.out _
        | false =>
          by_cases hfull : z < 0 ∧ (3 : Int) ≤ (lu.l.length : Int)
          · obtain ⟨h1, h2⟩ := hfull
            go_wp2_with fail
            go_ret
            exact HNO3.out _
          · have hor : ¬ z < 0 ∨ (z < 0 ∧ ¬ (3 : Int) ≤ (lu.l.length : Int)) := by omega
            have CB := Lib.hid (show ∀ u, Below wc.heap.size wc u → Calls Tryz.prog 74 #[.slice lu.A lu.l.length lu.c, .agg (bunCells o.bun), .bool false] u (ListPost 45 3 bunCells lu.l o.bun u) from fun u hu =>
              bundles15_any lu.l (by have := HUL.out; have := HKK.out; omega) o.bun false lu.A lu.c wc.heap.size u (HUO3.out.own.row.rd.below hu) hu.size)
            clear hfull
            go_upto_region 20 with (fail)
            go_cut [82] (fun v wx => v = .bool false ∧ wx = wc)
            case first =>
              rcases hor with hor | ⟨hor, hor2⟩
              · have hor' : decide (z < 0) = false := decide_eq_false hor
                go_wp2_with fail
                go_meet
                exact ⟨by simp, rfl⟩
              · go_wp2_with fail
                go_meet
                exact ⟨by simp [hor2], rfl⟩
            case rest =>
            obtain ⟨rfl, rfl⟩ := hcut
            go_wp2_with fail
            have HC0 : Below wc.heap.size wc wc.drew := (Below.refl _ _).drew
            apply wp_region_seqp (fun u => Below wc.heap.size wc u) (fun i => i == 0) (fun u u' => Below u.heap.size u u') [_, _, _, _, _, _, _] (gOf []) 7 (by kernel_rfl) (by kernel_rfl) (by decide) (by kernel_rfl) (fun i h => by simp only [beq_iff_eq] at h; subst h; rfl) (stabL_of _ trivial) HC0
            simp only [List.take_succ_cons, List.take_zero, List.drop_succ_cons, List.drop_zero]
            iterate 4
              first
              | (apply SeqH.pure; rfl; rfl; rfl; rfl; (simp only [act_put, act_put_none, List.setIfInBounds_toArray, List.set_cons_zero, List.set_cons_succ]; rfl); (intro w1 E hE; go_wp2; exact .mk hE))
              | (apply SeqH.step; rfl; (first | (apply SeqG.next; rfl; rfl; rfl)); (simp only [act_put, act_put_none, List.setIfInBounds_toArray, List.set_cons_zero, List.set_cons_succ]; rfl); (intro w1 hC1 hf E hE; go_wp2; exact .mk (hE _ hC1 (Below.refl _ _))); refine SeqG.nil ?_)
            apply SeqH.step
            · rfl
            apply SeqG.next
            · rfl
            · rfl
            · rfl
            · simp only [act_put, act_put_none, List.setIfInBounds_toArray, List.set_cons_zero, List.set_cons_succ]
              rfl
            · intro w1 hC1 hf E hE
              have d0 := (hC1.cell (p := ⟨g, 5, none⟩) H3.out.box.lt).trans a5
              go_wp2
              exact .mk (hE _ hC1 (Below.refl _ _))
            refine SeqG.nil ?_
            iterate 1
              (apply SeqH.step; rfl; (first | (apply SeqG.next; rfl; rfl; rfl)); (simp only [act_put, act_put_none, List.setIfInBounds_toArray, List.set_cons_zero, List.set_cons_succ]; rfl); (intro w1 hC1 hf E hE; go_wp2; exact .mk (hE _ hC1 (Below.refl _ _))); refine SeqG.nil ?_)
            apply SeqH.step
            · rfl
            apply SeqG.next
            · rfl
            · rfl
            · rfl
            · simp only [act_put, act_put_none, List.setIfInBounds_toArray, List.set_cons_zero, List.set_cons_succ]
              rfl
            · intro w1 hC1 hf E hE
              refine wpList_get_part (r := bunCells o.bun) (k := 21) (n := 3) (HK3.out.below hC1 HK3.out.lt) (by simp [opC]) (opC_bun _) rfl rfl rfl hubu rfl bunT_size ?_
              go_wp2_with fail
              exact .mk (hE _ hC1 (Below.refl _ _))
            refine SeqG.nil ?_
            refine SeqH.nil ?_
            intro w1 hC1 hf
            clear hf
            refine SeqT.step rfl ?_
            intro E hE
            simp only [act_put, act_put_none, List.setIfInBounds_toArray, List.set_cons_zero, List.set_cons_succ] at hE
            go_wp2_with fail
            refine calls_then (CB.out _ hC1) ?_
            rintro e w5 ⟨A5, c5, xs, rfl, hlen5, hmem5, hown5, hb5⟩
            have HL5 := Lib.hid hlen5
            have HM5 := Lib.hid hmem5
            have HO5 := Lib.hid (hown5.mono hC1.size)
            have HB5 := Lib.hid (hC1.trans (hb5.mono hC1.size))
            clear hlen5 hmem5 hown5 hb5
            go_wp2_with fail
            refine .mk (hE _ _ ?_)
            clear hE E
            refine SeqT.step rfl ?_
            intro E hE
            simp only [act_put, act_put_none, List.setIfInBounds_toArray, List.set_cons_zero, List.set_cons_succ] at hE
            go_wp2
            refine .mk (hE _ _ ?_)
            clear hE E
            refine SeqT.step rfl ?_
            intro E hE
            simp only [act_put, act_put_none, List.setIfInBounds_toArray, List.set_cons_zero, List.set_cons_succ] at hE
            go_wp2
            refine .mk (hE _ _ ?_)
            clear hE E
            refine SeqT.step rfl ?_
            intro E hE
            simp only [act_put, act_put_none, List.setIfInBounds_toArray, List.set_cons_zero, List.set_cons_succ] at hE
            have H5 := Lib.hid (H3.out.below HB5.out)
            refine wpList_put_cell (i := 5) H5.out.box rfl rfl rfl rfl (by kernel_rfl) (by simp [ledCells]) rfl ?_
            intro w6 hb6 hw6
            have HB6 := Lib.hid hb6
            have HW6 := Lib.hid hw6
            clear hb6 hw6
            go_wp2_with fail
            refine .mk (hE undef _ ?_)
            clear hE E
            refine SeqT.nil ?_
            have HFN := Lib.hid (show DoPost base g K w (.returned (.int .i64 0)) w6 from ⟨_, 0, rfl, (H5.out.more (Nat.le_succ K)).buns_put (s := ⟨A5, c5, xs⟩) ⟨HO5.out.mono (Nat.le_trans HBS.out HB3.out.size), by have := HL5.out; have := HUL.out; show xs.length ≤ K + 1; omega⟩ (fun x hx => by
              rcases HM5.out x hx with hx | rfl
              · exact H5.out.ll.bunOk x (by rw [← HLU.out]; exact hx)
              · exact (HBI3.out.grow HB5.out).ok) HW6.out HB6.out, HW6.out.below (HB3.out.trans (HB5.out.mono (Nat.le_trans HBS.out HB3.out.size))) H3.out.hg (Nat.le_trans HBS.out (HB3.out.trans (HB5.out.mono (Nat.le_trans HBS.out HB3.out.size))).size)⟩)
            clear hC1 HC0
            go_wp2_with fail
            go_ret
            exact HFN.out
end Go.Proofs.YtpfnigndhkcknaaGreatDoor
/-
  Walk: brevetref15.entries (a list with one in its place, or more). (Printed by gen/lst20.py.)
-/
namespace Go.Proofs.YtpfnigndhkcknaaGreatDoor
set_option linter.unusedSimpArgs false
set_option linter.unusedVariables false
open Go.RowKit
set_option maxRecDepth 100000 in
set_option maxHeartbeats 4000000 in
theorem entries15_any (l : List EntD) (hl : l.length ≤ 1000) (z : EntD) (A : Option Addr) (c B : Nat) (w : World) (hr : Rd w B A (rowsV entCells l)) (hB : B ≤ w.heap.size) :
    Calls Tryz.prog 50 #[.slice A l.length c, .agg (entCells z)] w (ListPost 36 5 entCells l z w) := by
  have hu := Tryz.underlying36
  obtain ⟨W0, hW0⟩ : ∃ W0, W0 = w.alloc (.cells (entCells z) 36) := ⟨_, rfl⟩
  have HB0 := Lib.hid (show Below w.heap.size w W0 by rw [hW0]; exact (Below.refl _ w).alloc (Nat.le_refl _) _)
  have HK := Lib.hid (show Blk W0 w.heap.size 36 (entCells z) by rw [hW0]; exact Blk.new _ _ _)
  have HW0 := Lib.hid hW0
  obtain ⟨n, hn⟩ : ∃ n, n = l.length := ⟨_, rfl⟩
  have HN := Lib.hid hn
  have HR := Lib.hid (hr.below (HB0.out.mono hB))
  have HBB := Lib.hid (Nat.le_trans hB HB0.out.size)
  have hn' : (n : Int) ≤ 1000 := by omega
  rw [← hn]
  clear hW0 hr hB hl hn
  go_enter Tryz.func50, Tryz.ntmps50
  go_upto_region 1 with (fail)
  rw [show w.alloc (.cells (entCells z) 36) = W0 from HW0.out.symm]
  generalize Value.agg (entCells z) = AV
  go_wp2_with fail
  go_loopw [5, 6, 7] (fun out dv i wr => ∃ (k : Nat) (A1 : Option Addr) (c1 : Nat) (xs : List EntD) (dn : Bool), k ≤ n ∧ out = .slice A1 xs.length c1 ∧ dv = .bool dn ∧ i = .int .i64 (k : Int) ∧ OwnR wr W0.heap.size 36 5 A1 c1 xs.length (rowsV entCells xs) ∧ Below W0.heap.size W0 wr ∧ xs.length ≤ k + dn.toNat ∧ ∀ x ∈ xs, x ∈ l ∨ x = z) (fun _ _ i _ => n - (intOf i).toNat)
  case atStart => exact ⟨0, none, 0, [], false, by omega, rfl, rfl, rfl, OwnR.nil _ _ _ _, Below.refl _ _, by simp, fun x hx => by cases hx⟩
  case round =>
    obtain ⟨k, A1, c1, xs, dn, hk, rfl, rfl, rfl, hown, hbel, hlen, hmem⟩ := hrel
    have HOWN := Lib.hid hown
    have HBEL := Lib.hid hbel
    have HLEN := Lib.hid hlen
    have HMEM := Lib.hid hmem
    have hxl : xs.length ≤ 1001 := by have : dn.toNat ≤ 1 := by cases dn <;> simp
                                      omega
    clear hown hbel hlen hmem
    by_cases hlt : k < n
    · have hkl : k < l.length := by rw [← HN.out]; exact hlt
      have hi1 : (0 : Int) ≤ (k : Int) := by omega
      have hi2 : (k : Int) < (n : Int) := by omega
      obtain ⟨ad, hA, hadb, hcell⟩ := rd_rows (f := entCells) (m := 5) (fun _ => rfl) (by decide) HR.out hkl
      subst hA
      obtain ⟨X, hX⟩ : ∃ X, X = l[k] := ⟨_, rfl⟩
      rw [← hX] at hcell
      have HX := Lib.hid (show X ∈ l by rw [hX]; exact List.getElem_mem hkl)
      have HC := Lib.hid (show ∀ u, Below W0.heap.size W0 u → ∀ j v, (entCells X).toList[j]? = some v → u.cell? ((ad.add (k * 5)).add j) = some v from fun u hu j v hv => by
        rw [hu.cell (p := (ad.add (k * 5)).add j) (by rw [block_of_add, block_of_add]; exact Nat.lt_of_lt_of_le hadb HBB.out)]
        exact hcell j v (by simpa using hv))
      have HD := Lib.hid (show ∀ u, Below W0.heap.size W0 u → u.cell? (ad.add (k * 5)) = some (.int .i64 X.n) ∧ u.cell? ⟨w.heap.size, 0, none⟩ = some (.int .i64 z.n) from fun u hu => ⟨HC.out u hu 0 _ rfl, (HK.out.below hu HK.out.lt).cell 0⟩)
      have HLT := Lib.hid hlt
      clear hX hcell hadb hkl hlt
      go_upto_region 6 with (fail)
      go_cut [25] (fun v wx => (∃ b, v = .bool b ∧ (b = true → dn = false)) ∧ ∃ m, wx = wr.drewN m)
      case first =>
        obtain ⟨d0, d2⟩ := HD.out wr HBEL.out
        cases dn with
        | true =>
          go_wp2_with fail
          go_quiet (fail)
          go_wp2_with fail
          go_meet
          exact ⟨⟨false, rfl, by simp⟩, _, rfl⟩
        | false =>
          by_cases hq : z.n ≤ X.n
          · go_wp2_with fail
            go_quiet (fail)
            go_wp2_with fail
            go_meet
            exact ⟨⟨true, by simp [hq], by simp⟩, _, rfl⟩
          · go_wp2_with fail
            go_quiet (fail)
            go_wp2_with fail
            go_meet
            exact ⟨⟨false, by simp [hq], by simp⟩, _, rfl⟩
      case rest =>
      obtain ⟨⟨b, rfl, hb⟩, md, rfl⟩ := hcut
      have HBD := Lib.hid (below_drewN9 HBEL.out md)
      have HOD := Lib.hid (show OwnR (wr.drewN md) W0.heap.size 36 5 A1 c1 xs.length (rowsV entCells xs) from HOWN.out)
      have HBF := Lib.hid hb
      clear hb
      go_upto_if 25 with (fail)
      go_cut [5, 6] (fun out dv wx => ∃ (A2 : Option Addr) (c2 : Nat) (ys : List EntD) (dn2 : Bool), out = .slice A2 ys.length c2 ∧ dv = .bool dn2 ∧ OwnR wx W0.heap.size 36 5 A2 c2 ys.length (rowsV entCells ys) ∧ Below W0.heap.size W0 wx ∧ ys.length ≤ k + dn2.toNat ∧ ∀ x ∈ ys, x ∈ l ∨ x = z)
      case first =>
        cases b with
        | false =>
          go_wp2_with fail
          go_meet
          exact ⟨A1, c1, xs, dn, rfl, rfl, HOD.out, HBD.out, HLEN.out, HMEM.out⟩
        | true =>
          obtain rfl : dn = false := HBF.out rfl
          go_wp2_with (first
            | (refine wpList_get_box (x := .tmp 3) (cs := #[.int .i64 z.n, .string z.path, .string z.parent, .int .i64 z.ttl, .slice z.sA z.sn z.sc]) (HK.out.below HBD.out HK.out.lt) rfl rfl rfl hu rfl entT_size ?_)
            | (refine wpList_append_r1 (ys := [.int .i64 z.n, .string z.path, .string z.parent, .int .i64 z.ttl, .slice z.sA z.sn z.sc]) sl_ents rfl rfl HOD.out rfl rfl rfl rfl (by simp [Value.oneCell']) (by unfold maxLen; omega) (by omega) HBD.out.size ?_; intro A5 c5 w5 hown5 hgr5 hn5))
          go_meet
          exact ⟨A5, c5, xs ++ [z], true, by simp, rfl, by rw [rowsV_append, rowsV_one, List.length_append]; exact hown5, HBD.out.grown hgr5 HBD.out.size (fun j hj => (HOD.out.lt j hj).1), by have := HLEN.out; simp at this ⊢; omega, fun x hx => by
            rcases List.mem_append.1 hx with h | h
            · exact HMEM.out x h
            · exact .inr (by simpa using h)⟩
      case rest =>
      obtain ⟨A2, c2, ys, dn2, rfl, rfl, hown2, hbel2, hlen2, hmem2⟩ := hcut
      have HOWN2 := Lib.hid hown2
      have HBEL2 := Lib.hid hbel2
      have HLEN2 := Lib.hid hlen2
      have HMEM2 := Lib.hid hmem2
      have hyl : ys.length ≤ 1001 := by have : dn2.toNat ≤ 1 := by cases dn2 <;> simp
                                        omega
      clear hown2 hbel2 hlen2 hmem2
      obtain ⟨d0, d2⟩ := HD.out _ HBEL2.out
      by_cases hr : (X.n == z.n) = true
      · have hr' : X.n = z.n := by simpa using hr
        · go_wp2_with fail
          go_quiet (fail)
          go_wp2_with fail
          go_roundw
          case rel => exact ⟨k + 1, A2, c2, ys, dn2, HLT.out, rfl, rfl, by go_num, HOWN2.out, (below_drewN9 HBEL2.out _), by have := HLEN2.out; omega, HMEM2.out⟩
          case measure => have := HLT.out; simp [intOf]; omega
      · have hr' : (X.n == z.n) = false := by simpa using hr
        ·
          go_wp2_with fail
          go_quiet (fail)
          go_wp2_with (first
            | (refine wpList_get_rd (r := [.int .i64 X.n, .string X.path, .string X.parent, .int .i64 X.ttl, .slice X.sA X.sn X.sc]) (fun j u hj => HC.out _ (below_drewN9 HBEL2.out _) j u hj) rfl rfl rfl hu rfl entT_size ?_)
            | (refine wpList_append_r1 (ys := [.int .i64 X.n, .string X.path, .string X.parent, .int .i64 X.ttl, .slice X.sA X.sn X.sc]) sl_ents rfl rfl (show OwnR (World.drewN _ _) W0.heap.size 36 5 A2 c2 ys.length (rowsV entCells ys) from HOWN2.out) rfl rfl rfl rfl (by simp [Value.oneCell']) (by unfold maxLen; omega) (by omega) (below_drewN9 HBEL2.out _).size ?_; intro A5 c5 w5 hown5 hgr5 hn5))
          go_roundw
          case rel => exact ⟨k + 1, A5, c5, ys ++ [X], dn2, HLT.out, by simp, rfl, by go_num, by rw [rowsV_append, rowsV_one, List.length_append]; exact hown5, Below.grown (below_drewN9 HBEL2.out _) hgr5 (Below.size (below_drewN9 HBEL2.out _)) (fun j hj => (HOWN2.out.lt j hj).1), by have := HLEN2.out; simp; omega, fun x hx => by
            rcases List.mem_append.1 hx with h | h
            · exact HMEM2.out x h
            · exact .inl (by have e : x = X := by simpa using h
                             rw [e]; exact HX.out)⟩
          case measure => have := HLT.out; simp [intOf]; omega
    · obtain rfl : k = n := by omega
      clear hlt
      cases dn with
      | true =>
        go_wp2_with fail
        go_ret
        exact ⟨A1, c1, xs, rfl, by have := HLEN.out; have := HN.out; simp at *; omega, HMEM.out, HOWN.out.mono HB0.out.size, HB0.out.trans (HBEL.out.mono HB0.out.size)⟩
      | false =>
        go_wp2_with (first
          | (refine wpList_get_box (x := .tmp 3) (cs := #[.int .i64 z.n, .string z.path, .string z.parent, .int .i64 z.ttl, .slice z.sA z.sn z.sc]) (HK.out.below HBEL.out HK.out.lt) rfl rfl rfl hu rfl entT_size ?_)
          | (refine wpList_append_r1 (ys := [.int .i64 z.n, .string z.path, .string z.parent, .int .i64 z.ttl, .slice z.sA z.sn z.sc]) sl_ents rfl rfl HOWN.out rfl rfl rfl rfl (by simp [Value.oneCell']) (by unfold maxLen; omega) (by omega) HBEL.out.size ?_; intro A5 c5 w5 hown5 hgr5 hn5))
        go_ret
        exact ⟨A5, c5, xs ++ [z], by simp, by have := HLEN.out; have := HN.out; simp at *; omega, fun x hx => by
          rcases List.mem_append.1 hx with h | h
          · exact HMEM.out x h
          · exact .inr (by simpa using h), OwnR.mono (by rw [rowsV_append, rowsV_one, List.length_append]; exact hown5) HB0.out.size, HB0.out.trans ((HBEL.out.grown hgr5 HBEL.out.size (fun j hj => (HOWN.out.lt j hj).1)).mono HB0.out.size)⟩
end Go.Proofs.YtpfnigndhkcknaaGreatDoor
