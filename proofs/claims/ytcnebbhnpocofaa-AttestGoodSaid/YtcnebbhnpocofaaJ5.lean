/-
  Joined texts: Fo2 Lse Do2 Ap2 Lg2.
-/
import Derived.Test.YtcnebbhnpocofaaJ4
import Derived.Test.YtcnebbhnpocofaaJ1
import Derived.Test.YtcnebbhnpocofaaJ3
/-
  Walk: brevetref15.foreign (OpBundle, OpUnbind).
-/
namespace Go.Proofs.Ytcnebbhnpocofaa
set_option linter.unusedSimpArgs false
set_option linter.unusedVariables false
open Go.RowKit

theorem box_neF {u : World} {g g' : Nat} {t t' : TypeId} {cs cs' : Array Value} (h : Blk u g t cs) (h' : Blk u g' t' cs') (ht : t ≠ t') : g ≠ g' := fun he => by
  subst he
  unfold Blk at h h'
  rw [h] at h'
  injection h' with h'
  injection h' with _ h' _
  exact ht h'
theorem LW.buns_put {u u' : World} {base g K : Nat} {d : LedD} {s : Sl BunD} (h : LW u base g K d) (hs : s.Own u base 45 3 bunCells K) (ho : ∀ x ∈ s.l, BunOk u x) (hw : Wrote g u u') (hb : Blk u' g 33 ((ledCells d).setIfInBounds 5 s.v)) : LW u' base g K { d with buns := s } :=
  LW.put h.box h.hg (h.ll.setBuns hs ho) hw hb
theorem bs_toBs (x : ByteArray) : Js.bs x.data.toList = x := by
  apply ByteArray.ext
  simp [Js.bs]
/-- May, of a bundle that was handed in -/
theorem may15_any (b : BunD) (w : World) (h : BunIn w b) : Calls Try.prog 61 #[.agg (bunCells b)] w (SomeBB w) := by
  obtain ⟨h0, h1, h2, l, h3, h4, h5⟩ := h
  have hrow : rowsV Js.kCell (l.map fun k => (k.kid.data.toList, k.x.data.toList)) = rowsV jwkCells l := by
    clear h3 h4 h5
    induction l with
    | nil => rfl
    | cons x r ih =>
      rw [List.map_cons, rowsV_cons_r, rowsV_cons_r, ih]
      simp [Js.kCell, jwkCells, bs_toBs]
  have hc := Js.rmay_any b.dom.data.toList b.num (l.map fun k => (k.kid.data.toList, k.x.data.toList)) b.kA b.kc w.heap.size w (by rw [hrow]; exact h5.rd) (Nat.le_refl _) (by show b.dom.size ≤ 100000; omega) (by rw [List.length_map, h3]; omega) (fun k hk => by
    obtain ⟨x, hx, rfl⟩ := List.mem_map.1 hk
    have := h4 x hx
    have h6 : x.x.data.toList.length = x.x.size := rfl
    show (x.x.data.toList.length : Int) ≤ _
    omega)
  have he : Js.bC b.dom.data.toList b.num b.kA (l.map fun k => (k.kid.data.toList, k.x.data.toList)).length b.kc = bunCells b := by
    rw [List.length_map, h3]
    simp [Js.bC, bunCells, bs_toBs]
  rw [he] at hc
  exact hc.mono fun e w' h => ⟨⟨_, h.1⟩, h.2⟩
theorem opC_bun (o : OpD) : (((opC o).toList.drop 21).take 3).toArray = bunCells o.bun := rfl
set_option maxRecDepth 100000 in
set_option maxHeartbeats 8000000 in
theorem foreign15_any (d : LedD) (o : OpD) (base g K : Nat) (w : World) (h : LW w base g K d) (hK : K ≤ 900) (ho : OpIn w o) :
    Calls Try.prog 48 #[.pointer (some ⟨g, 0, none⟩), .agg (opC o)] w (DoPost base g K w) := by
  have hubu := Try.underlying45
  obtain ⟨W0, hW0⟩ : ∃ W0, W0 = w.alloc (.cells (opC o) 47) := ⟨_, rfl⟩
  have hb0 : Below w.heap.size w W0 := by rw [hW0]; exact (Below.refl _ w).alloc (Nat.le_refl _) _
  have hbs : base ≤ w.heap.size := Nat.le_of_lt (Nat.lt_of_le_of_lt h.hg h.box.lt)
  have HBS := Lib.hid hbs
  have HB0 := Lib.hid (hb0.mono hbs)
  have HK0 := Lib.hid (show Blk W0 w.heap.size 47 (opC o) by rw [hW0]; exact Blk.new _ _ _)
  have H0 := Lib.hid (h.below hb0)
  have HW0 := Lib.hid hW0
  have HKK := Lib.hid hK
  have HBI := Lib.hid (ho.bun.grow hb0)
  have CM := Lib.hid (may15_any o.bun W0 (ho.bun.grow hb0))
  obtain ⟨lu, hlu⟩ : ∃ lu, lu = d.buns := ⟨_, rfl⟩
  have HLU := Lib.hid hlu
  have HUL := Lib.hid (show lu.l.length ≤ K by rw [hlu]; exact H0.out.ll.buns.len)
  have hul : (lu.l.length : Int) ≤ 900 := by have := HUL.out; omega
  have b0 : W0.cell? ⟨w.heap.size, 0, none⟩ = some (.int .i64 o.kind) := HK0.out.cell 0
  have b2 : W0.cell? ⟨w.heap.size, 2, none⟩ = some (.string o.name) := HK0.out.cell 2
  clear hW0 hb0 h ho hbs hK hlu
  go_enter Try.func48, Try.ntmps48
  go_upto_region 1 with (fail)
  rw [show w.alloc (.cells (opC o) 47) = W0 from HW0.out.symm]
  generalize Value.agg (opC o) = AV
  obtain ⟨kd, hkd⟩ : ∃ kd, kd = o.kind := ⟨_, rfl⟩
  have HKD := Lib.hid hkd
  rw [← hkd] at b0
  clear hkd
  -- the name, or the bundle's
  go_upto_if 13 with (fail)
  go_cut [5] (fun v wx => (∃ s : ByteArray, v = .string s) ∧ Below W0.heap.size W0 wx)
  case first =>
    by_cases h12 : kd = 12
    · have e12 : (kd == (12 : Int)) = true := by simp [h12]
      clear h12
      go_wp2_with (refine wpList_get_part (r := bunCells o.bun) (k := 21) (n := 3) HK0.out (by simp [opC]) (opC_bun _) rfl rfl rfl hubu rfl bunT_size ?_)
      refine calls_then CM.out ?_
      rintro e w1 ⟨⟨b, rfl⟩, hb1⟩
      have HB1 := Lib.hid hb1
      have b21 : w1.cell? ⟨w.heap.size, 21, none⟩ = some (.string o.bun.dom) := (HK0.out.below hb1 HK0.out.lt).cell 21
      have HNO := Lib.hid (DoPost.no (w := w) (H0.out.below hb1) (HB0.out.trans (hb1.mono (Nat.le_trans HBS.out HB0.out.size))))
      clear hb1
      cases b with
      | false =>
        go_wp2_with fail
        go_ret
        exact HNO.out _
      | true =>
        go_wp2_with fail
        go_meet
        exact ⟨⟨_, rfl⟩, HB1.out⟩
    · have e12 : (kd == (12 : Int)) = false := by simpa using h12
      clear h12
      go_wp2_with fail
      go_meet
      exact ⟨⟨_, rfl⟩, Below.refl _ _⟩
  case rest =>
  obtain ⟨⟨s, rfl⟩, hbc⟩ := hcut
  have H1 := Lib.hid (H0.out.below hbc)
  have HB1 := Lib.hid (HB0.out.trans (hbc.mono (Nat.le_trans HBS.out HB0.out.size)))
  have HK1 := Lib.hid (HK0.out.below hbc HK0.out.lt)
  have HBI1 := Lib.hid (HBI.out.grow hbc)
  have a5 : wc.cell? ⟨g, 5, none⟩ = some (.slice lu.A lu.l.length lu.c) := by rw [HLU.out]; exact H1.out.box.cell 5
  have b0 : wc.cell? ⟨w.heap.size, 0, none⟩ = some (.int .i64 kd) := by rw [HKD.out]; exact HK1.out.cell 0
  have HUO := Lib.hid (show lu.Own wc base 45 3 bunCells K by rw [HLU.out]; exact H1.out.ll.buns)
  clear hbc CM HBI H0 HB0 HK0
  go_wp2_with fail
  go_loopw [7, 8] (fun at_ x wr => ∃ (i : Nat) (z : Int), i ≤ lu.l.length ∧ x = .int .i64 (i : Int) ∧ at_ = .int .i64 z ∧ (z = -1 ∨ ∃ j : Nat, j < lu.l.length ∧ z = (j : Int)) ∧ wr = wc) (fun _ x _ => lu.l.length - (intOf x).toNat)
  case atStart => exact ⟨0, -1, Nat.zero_le _, rfl, rfl, .inl rfl, rfl⟩
  case round =>
    obtain ⟨i, z, hi, rfl, rfl, hz, rfl⟩ := hrel
    have HZ := Lib.hid hz
    clear hz
    by_cases hlt : i < lu.l.length
    · have hlt' : (i : Int) < (lu.l.length : Int) := by omega
      have hi0 : (0 : Int) ≤ (i : Int) := by omega
      obtain ⟨ad, hA, -, hcell⟩ := rd_rows (f := bunCells) (m := 3) (fun _ => rfl) (by decide) HUO.out.own.row.rd hlt
      rw [hA] at a5
      obtain ⟨X, hX⟩ : ∃ X, X = lu.l[i] := ⟨_, rfl⟩
      rw [← hX] at hcell
      have d0 : wr.cell? (ad.add (i * 3)) = some (.string X.dom) := hcell 0 _ rfl
      have HLT := Lib.hid hlt
      clear hX hcell hlt hA
      obtain ⟨q, hq⟩ : ∃ q, (X.dom.toList == s.toList) = q := ⟨_, rfl⟩
      cases q with
      | true =>
        go_wp2_with fail
        go_roundw
        case rel => exact ⟨i + 1, (i : Int), HLT.out, by go_num, rfl, .inr ⟨i, HLT.out, rfl⟩, by trivial⟩
        case measure => have := HLT.out; simp [intOf]; omega
      | false =>
        go_wp2_with fail
        go_roundw
        case rel => exact ⟨i + 1, z, HLT.out, by go_num, rfl, HZ.out, by trivial⟩
        case measure => have := HLT.out; simp [intOf]; omega
    · have hlt' : ¬ (i : Int) < (lu.l.length : Int) := by omega
      have HNO1 := Lib.hid (DoPost.no (w := w) H1.out HB1.out)
      have HNO2 := Lib.hid (fun (m : Nat) => DoPost.no (w := w) (H1.out.below (below_drewN9 (Below.refl _ wr) m)) (below_drewN9 HB1.out m))
      clear hlt
      by_cases h13 : kd = 13
      · have e13 : (kd == (13 : Int)) = true := by simp [h13]
        clear h13
        by_cases hz0 : z < 0
        · go_wp2_with fail
          go_ret
          exact HNO1.out _
        · have CB := Lib.hid (show Calls Try.prog 62 #[.slice lu.A lu.l.length lu.c, .agg #[.string s, .int .i64 0, .slice none 0 0], .bool true] wr (ListPost 45 3 bunCells lu.l ⟨s, 0, none, 0, 0⟩ wr) from
            bundles15_any lu.l (by have := HUL.out; have := HKK.out; omega) ⟨s, 0, none, 0, 0⟩ true lu.A lu.c wr.heap.size wr HUO.out.own.row.rd (Nat.le_refl _))
          go_wp2_with fail
          refine calls_then CB.out ?_
          rintro e w5 ⟨A5, c5, xs, rfl, hlen5, hmem5, hown5, hb5⟩
          have H5 := Lib.hid (H1.out.below hb5)
          have HB5 := Lib.hid (HB1.out.trans (hb5.mono (Nat.le_trans HBS.out HB1.out.size)))
          have HOW := Lib.hid (show (⟨A5, c5, xs⟩ : Sl BunD).Own w5 base 45 3 bunCells (K + 1) from ⟨hown5.mono (Nat.le_trans HBS.out HB1.out.size), by have := HUL.out; show xs.length ≤ K + 1; omega⟩)
          have HBO := Lib.hid (show ∀ x ∈ xs, BunOk w5 x from fun x hx => by
            rcases hmem5 x hx with hx | rfl
            · exact H5.out.ll.bunOk x (by rw [← HLU.out]; exact hx)
            · exact ⟨Nat.le_refl _, Nat.zero_le _, [], rfl, Row.nil _ _ _ _⟩)
          clear hlen5 hmem5 hown5 hb5
          go_wp2_with (refine wpList_put_cell (i := 5) H5.out.box rfl rfl rfl rfl (by kernel_rfl) (by simp [ledCells]) rfl ?_; intro w6 hb6 hw6)
          have HFN := Lib.hid (show DoPost base g K w (.returned (.int .i64 0)) w6 from ⟨_, 0, rfl, (H5.out.more (Nat.le_succ K)).buns_put (s := ⟨A5, c5, xs⟩) HOW.out HBO.out hw6 hb6, hw6.below HB5.out H1.out.hg (Nat.le_trans HBS.out HB5.out.size)⟩)
          go_ret
          exact HFN.out
      · have e13 : (kd == (13 : Int)) = false := by simpa using h13
        clear h13
        have b22 : wr.cell? ⟨w.heap.size, 22, none⟩ = some (.int .i64 o.bun.num) := HK1.out.cell 22
        go_wp2_with fail
        go_cut [72] (fun v wx => (∃ b, v = .bool b) ∧ ∃ m, wx = wr.drewN m)
        case first =>
          by_cases hz0 : z < 0
          · have hz1 : decide (0 ≤ z) = false := decide_eq_false (by omega)
            have hz2 : ¬ 0 ≤ z := by omega
            go_wp2_with fail
            go_quiet (fail)
            go_wp2_with fail
            go_meet
            exact ⟨⟨_, rfl⟩, _, rfl⟩
          · obtain ⟨j, hj, hzj⟩ : ∃ j : Nat, j < lu.l.length ∧ z = (j : Int) := by
              rcases HZ.out with h | h
              · omega
              · exact h
            subst hzj
            have hj0 : (0 : Int) ≤ (j : Int) := by omega
            have hjl : (j : Int) < (lu.l.length : Int) := by omega
            obtain ⟨ad, hA, -, hcell⟩ := rd_rows (f := bunCells) (m := 3) (fun _ => rfl) (by decide) HUO.out.own.row.rd hj
            rw [hA] at a5
            obtain ⟨X, hX⟩ : ∃ X, X = lu.l[j] := ⟨_, rfl⟩
            rw [← hX] at hcell
            have d1 : wr.cell? ⟨(ad.add (j * 3)).block, (ad.add (j * 3)).off + 1, none⟩ = some (.int .i64 X.num) := hcell 1 _ rfl
            clear hX hcell hj hA hz0
            go_wp2_with fail
            go_quiet (fail)
            go_wp2_with fail
            go_meet
            exact ⟨⟨_, rfl⟩, _, rfl⟩
        case rest =>
        obtain ⟨⟨bq, rfl⟩, md, hwq⟩ := hcut
        rename_i wq
        have H3 := Lib.hid (show LW wc base g K d by rw [hwq]; exact H1.out.below (below_drewN9 (Below.refl _ _) _))
        have HB3 := Lib.hid (show Below base w wc by rw [hwq]; exact below_drewN9 HB1.out _)
        have HK3 := Lib.hid (show Blk wc w.heap.size 47 (opC o) by rw [hwq]; exact HK1.out)
        have HBI3 := Lib.hid (show BunIn wc o.bun by rw [hwq]; exact HBI1.out.grow (below_drewN9 (Below.refl _ _) _))
        have a5 : wc.cell? ⟨g, 5, none⟩ = some (.slice lu.A lu.l.length lu.c) := by rw [HLU.out]; exact H3.out.box.cell 5
        have HNO3 := Lib.hid (DoPost.no (w := w) H3.out HB3.out)
        have HUO3 := Lib.hid (show lu.Own wc base 45 3 bunCells K by rw [HLU.out]; exact H3.out.ll.buns)
        clear hwq
        cases bq with
        | true =>
          go_wp2_with fail
          go_ret
          exact HNO3.out _
        | false =>
          by_cases hfull : z < 0 ∧ (3 : Int) ≤ (lu.l.length : Int)
          · obtain ⟨h1, h2⟩ := hfull
            go_wp2_with fail
            go_ret
            exact HNO3.out _
          · have hor : ¬ z < 0 ∨ (z < 0 ∧ ¬ (3 : Int) ≤ (lu.l.length : Int)) := by omega
            have CB := Lib.hid (show ∀ u, Below wc.heap.size wc u → Calls Try.prog 62 #[.slice lu.A lu.l.length lu.c, .agg (bunCells o.bun), .bool false] u (ListPost 45 3 bunCells lu.l o.bun u) from fun u hu =>
              bundles15_any lu.l (by have := HUL.out; have := HKK.out; omega) o.bun false lu.A lu.c wc.heap.size u (HUO3.out.own.row.rd.below hu) hu.size)
            clear hfull
            go_upto_region 20 with (fail)
            go_cut [82] (fun v wx => v = .bool false ∧ wx = wc)
            case first =>
              rcases hor with hor | ⟨hor, hor2⟩
              · have hor' : decide (z < 0) = false := decide_eq_false hor
                go_wp2_with fail
                go_meet
                exact ⟨by simp, rfl⟩
              · go_wp2_with fail
                go_meet
                exact ⟨by simp [hor2], rfl⟩
            case rest =>
            obtain ⟨rfl, rfl⟩ := hcut
            go_wp2_with fail
            have HC0 : Below wc.heap.size wc wc.drew := (Below.refl _ _).drew
            apply wp_region_seqp (fun u => Below wc.heap.size wc u) (fun i => i == 0) (fun u u' => Below u.heap.size u u') [_, _, _, _, _, _, _] (gOf []) 7 (by kernel_rfl) (by kernel_rfl) (by decide) (by kernel_rfl) (fun i h => by simp only [beq_iff_eq] at h; subst h; rfl) (stabL_of _ trivial) HC0
            simp only [List.take_succ_cons, List.take_zero, List.drop_succ_cons, List.drop_zero]
            iterate 4
              first
              | (apply SeqH.pure; rfl; rfl; rfl; rfl; (simp only [act_put, act_put_none, List.setIfInBounds_toArray, List.set_cons_zero, List.set_cons_succ]; rfl); (intro w1 E hE; go_wp2; exact .mk hE))
              | (apply SeqH.step; rfl; (first | (apply SeqG.next; rfl; rfl; rfl)); (simp only [act_put, act_put_none, List.setIfInBounds_toArray, List.set_cons_zero, List.set_cons_succ]; rfl); (intro w1 hC1 hf E hE; go_wp2; exact .mk (hE _ hC1 (Below.refl _ _))); refine SeqG.nil ?_)
            apply SeqH.step
            · rfl
            apply SeqG.next
            · rfl
            · rfl
            · rfl
            · simp only [act_put, act_put_none, List.setIfInBounds_toArray, List.set_cons_zero, List.set_cons_succ]
              rfl
            · intro w1 hC1 hf E hE
              have d0 := (hC1.cell (p := ⟨g, 5, none⟩) H3.out.box.lt).trans a5
              go_wp2
              exact .mk (hE _ hC1 (Below.refl _ _))
            refine SeqG.nil ?_
            iterate 1
              (apply SeqH.step; rfl; (first | (apply SeqG.next; rfl; rfl; rfl)); (simp only [act_put, act_put_none, List.setIfInBounds_toArray, List.set_cons_zero, List.set_cons_succ]; rfl); (intro w1 hC1 hf E hE; go_wp2; exact .mk (hE _ hC1 (Below.refl _ _))); refine SeqG.nil ?_)
            apply SeqH.step
            · rfl
            apply SeqG.next
            · rfl
            · rfl
            · rfl
            · simp only [act_put, act_put_none, List.setIfInBounds_toArray, List.set_cons_zero, List.set_cons_succ]
              rfl
            · intro w1 hC1 hf E hE
              refine wpList_get_part (r := bunCells o.bun) (k := 21) (n := 3) (HK3.out.below hC1 HK3.out.lt) (by simp [opC]) (opC_bun _) rfl rfl rfl hubu rfl bunT_size ?_
              go_wp2_with fail
              exact .mk (hE _ hC1 (Below.refl _ _))
            refine SeqG.nil ?_
            refine SeqH.nil ?_
            intro w1 hC1 hf
            clear hf
            refine SeqT.step rfl ?_
            intro E hE
            simp only [act_put, act_put_none, List.setIfInBounds_toArray, List.set_cons_zero, List.set_cons_succ] at hE
            go_wp2_with fail
            refine calls_then (CB.out _ hC1) ?_
            rintro e w5 ⟨A5, c5, xs, rfl, hlen5, hmem5, hown5, hb5⟩
            have HL5 := Lib.hid hlen5
            have HM5 := Lib.hid hmem5
            have HO5 := Lib.hid (hown5.mono hC1.size)
            have HB5 := Lib.hid (hC1.trans (hb5.mono hC1.size))
            clear hlen5 hmem5 hown5 hb5
            go_wp2_with fail
            refine .mk (hE _ _ ?_)
            clear hE E
            refine SeqT.step rfl ?_
            intro E hE
            simp only [act_put, act_put_none, List.setIfInBounds_toArray, List.set_cons_zero, List.set_cons_succ] at hE
            go_wp2
            refine .mk (hE _ _ ?_)
            clear hE E
            refine SeqT.step rfl ?_
            intro E hE
            simp only [act_put, act_put_none, List.setIfInBounds_toArray, List.set_cons_zero, List.set_cons_succ] at hE
            go_wp2
            refine .mk (hE _ _ ?_)
            clear hE E
            refine SeqT.step rfl ?_
            intro E hE
            simp only [act_put, act_put_none, List.setIfInBounds_toArray, List.set_cons_zero, List.set_cons_succ] at hE
            have H5 := Lib.hid (H3.out.below HB5.out)
            refine wpList_put_cell (i := 5) H5.out.box rfl rfl rfl rfl (by kernel_rfl) (by simp [ledCells]) rfl ?_
            intro w6 hb6 hw6
            have HB6 := Lib.hid hb6
            have HW6 := Lib.hid hw6
            clear hb6 hw6
            go_wp2_with fail
            refine .mk (hE undef _ ?_)
            clear hE E
            refine SeqT.nil ?_
            have HFN := Lib.hid (show DoPost base g K w (.returned (.int .i64 0)) w6 from ⟨_, 0, rfl, (H5.out.more (Nat.le_succ K)).buns_put (s := ⟨A5, c5, xs⟩) ⟨HO5.out.mono (Nat.le_trans HBS.out HB3.out.size), by have := HL5.out; have := HUL.out; show xs.length ≤ K + 1; omega⟩ (fun x hx => by
              rcases HM5.out x hx with hx | rfl
              · exact H5.out.ll.bunOk x (by rw [← HLU.out]; exact hx)
              · exact (HBI3.out.grow HB5.out).ok) HW6.out HB6.out, HW6.out.below (HB3.out.trans (HB5.out.mono (Nat.le_trans HBS.out HB3.out.size))) H3.out.hg (Nat.le_trans HBS.out (HB3.out.trans (HB5.out.mono (Nat.le_trans HBS.out HB3.out.size))).size)⟩)
            clear hC1 HC0
            go_wp2_with fail
            go_ret
            exact HFN.out
end Go.Proofs.Ytcnebbhnpocofaa
/-
  Walk: brevetref15.entries (a list with one in its place, or more). (Printed by gen/lst20.py.)
-/
namespace Go.Proofs.Ytcnebbhnpocofaa
set_option linter.unusedSimpArgs false
set_option linter.unusedVariables false
open Go.RowKit

set_option maxRecDepth 100000 in
set_option maxHeartbeats 4000000 in
theorem entries15_any (l : List EntD) (hl : l.length ≤ 1000) (z : EntD) (A : Option Addr) (c B : Nat) (w : World) (hr : Rd w B A (rowsV entCells l)) (hB : B ≤ w.heap.size) :
    Calls Try.prog 43 #[.slice A l.length c, .agg (entCells z)] w (ListPost 36 5 entCells l z w) := by
  have hu := Try.underlying36
  obtain ⟨W0, hW0⟩ : ∃ W0, W0 = w.alloc (.cells (entCells z) 36) := ⟨_, rfl⟩
  have HB0 := Lib.hid (show Below w.heap.size w W0 by rw [hW0]; exact (Below.refl _ w).alloc (Nat.le_refl _) _)
  have HK := Lib.hid (show Blk W0 w.heap.size 36 (entCells z) by rw [hW0]; exact Blk.new _ _ _)
  have HW0 := Lib.hid hW0
  obtain ⟨n, hn⟩ : ∃ n, n = l.length := ⟨_, rfl⟩
  have HN := Lib.hid hn
  have HR := Lib.hid (hr.below (HB0.out.mono hB))
  have HBB := Lib.hid (Nat.le_trans hB HB0.out.size)
  have hn' : (n : Int) ≤ 1000 := by omega
  rw [← hn]
  clear hW0 hr hB hl hn
  go_enter Try.func43, Try.ntmps43
  go_upto_region 1 with (fail)
  rw [show w.alloc (.cells (entCells z) 36) = W0 from HW0.out.symm]
  generalize Value.agg (entCells z) = AV
  go_wp2_with fail
  go_loopw [5, 6, 7] (fun out dv i wr => ∃ (k : Nat) (A1 : Option Addr) (c1 : Nat) (xs : List EntD) (dn : Bool), k ≤ n ∧ out = .slice A1 xs.length c1 ∧ dv = .bool dn ∧ i = .int .i64 (k : Int) ∧ OwnR wr W0.heap.size 36 5 A1 c1 xs.length (rowsV entCells xs) ∧ Below W0.heap.size W0 wr ∧ xs.length ≤ k + dn.toNat ∧ ∀ x ∈ xs, x ∈ l ∨ x = z) (fun _ _ i _ => n - (intOf i).toNat)
  case atStart => exact ⟨0, none, 0, [], false, by omega, rfl, rfl, rfl, OwnR.nil _ _ _ _, Below.refl _ _, by simp, fun x hx => by cases hx⟩
  case round =>
    obtain ⟨k, A1, c1, xs, dn, hk, rfl, rfl, rfl, hown, hbel, hlen, hmem⟩ := hrel
    have HOWN := Lib.hid hown
    have HBEL := Lib.hid hbel
    have HLEN := Lib.hid hlen
    have HMEM := Lib.hid hmem
    have hxl : xs.length ≤ 1001 := by have : dn.toNat ≤ 1 := by cases dn <;> simp
                                      omega
    clear hown hbel hlen hmem
    by_cases hlt : k < n
    · have hkl : k < l.length := by rw [← HN.out]; exact hlt
      have hi1 : (0 : Int) ≤ (k : Int) := by omega
      have hi2 : (k : Int) < (n : Int) := by omega
      obtain ⟨ad, hA, hadb, hcell⟩ := rd_rows (f := entCells) (m := 5) (fun _ => rfl) (by decide) HR.out hkl
      subst hA
      obtain ⟨X, hX⟩ : ∃ X, X = l[k] := ⟨_, rfl⟩
      rw [← hX] at hcell
      have HX := Lib.hid (show X ∈ l by rw [hX]; exact List.getElem_mem hkl)
      have HC := Lib.hid (show ∀ u, Below W0.heap.size W0 u → ∀ j v, (entCells X).toList[j]? = some v → u.cell? ((ad.add (k * 5)).add j) = some v from fun u hu j v hv => by
        rw [hu.cell (p := (ad.add (k * 5)).add j) (by rw [block_of_add, block_of_add]; exact Nat.lt_of_lt_of_le hadb HBB.out)]
        exact hcell j v (by simpa using hv))
      have HD := Lib.hid (show ∀ u, Below W0.heap.size W0 u → u.cell? (ad.add (k * 5)) = some (.int .i64 X.n) ∧ u.cell? ⟨w.heap.size, 0, none⟩ = some (.int .i64 z.n) from fun u hu => ⟨HC.out u hu 0 _ rfl, (HK.out.below hu HK.out.lt).cell 0⟩)
      have HLT := Lib.hid hlt
      clear hX hcell hadb hkl hlt
      go_upto_region 6 with (fail)
      go_cut [25] (fun v wx => (∃ b, v = .bool b ∧ (b = true → dn = false)) ∧ ∃ m, wx = wr.drewN m)
      case first =>
        obtain ⟨d0, d2⟩ := HD.out wr HBEL.out
        cases dn with
        | true =>
          go_wp2_with fail
          go_quiet (fail)
          go_wp2_with fail
          go_meet
          exact ⟨⟨false, rfl, by simp⟩, _, rfl⟩
        | false =>
          by_cases hq : z.n ≤ X.n
          · go_wp2_with fail
            go_quiet (fail)
            go_wp2_with fail
            go_meet
            exact ⟨⟨true, by simp [hq], by simp⟩, _, rfl⟩
          · go_wp2_with fail
            go_quiet (fail)
            go_wp2_with fail
            go_meet
            exact ⟨⟨false, by simp [hq], by simp⟩, _, rfl⟩
      case rest =>
      obtain ⟨⟨b, rfl, hb⟩, md, rfl⟩ := hcut
      have HBD := Lib.hid (below_drewN9 HBEL.out md)
      have HOD := Lib.hid (show OwnR (wr.drewN md) W0.heap.size 36 5 A1 c1 xs.length (rowsV entCells xs) from HOWN.out)
      have HBF := Lib.hid hb
      clear hb
      go_upto_if 25 with (fail)
      go_cut [5, 6] (fun out dv wx => ∃ (A2 : Option Addr) (c2 : Nat) (ys : List EntD) (dn2 : Bool), out = .slice A2 ys.length c2 ∧ dv = .bool dn2 ∧ OwnR wx W0.heap.size 36 5 A2 c2 ys.length (rowsV entCells ys) ∧ Below W0.heap.size W0 wx ∧ ys.length ≤ k + dn2.toNat ∧ ∀ x ∈ ys, x ∈ l ∨ x = z)
      case first =>
        cases b with
        | false =>
          go_wp2_with fail
          go_meet
          exact ⟨A1, c1, xs, dn, rfl, rfl, HOD.out, HBD.out, HLEN.out, HMEM.out⟩
        | true =>
          obtain rfl : dn = false := HBF.out rfl
          go_wp2_with (first
            | (refine wpList_get_box (x := .tmp 3) (cs := #[.int .i64 z.n, .string z.path, .string z.parent, .int .i64 z.ttl, .slice z.sA z.sn z.sc]) (HK.out.below HBD.out HK.out.lt) rfl rfl rfl hu rfl entT_size ?_)
            | (refine wpList_append_r1 (ys := [.int .i64 z.n, .string z.path, .string z.parent, .int .i64 z.ttl, .slice z.sA z.sn z.sc]) sl_ents rfl rfl HOD.out rfl rfl rfl rfl (by simp [Value.oneCell']) (by unfold maxLen; omega) (by omega) HBD.out.size ?_; intro A5 c5 w5 hown5 hgr5 hn5))
          go_meet
          exact ⟨A5, c5, xs ++ [z], true, by simp, rfl, by rw [rowsV_append, rowsV_one, List.length_append]; exact hown5, HBD.out.grown hgr5 HBD.out.size (fun j hj => (HOD.out.lt j hj).1), by have := HLEN.out; simp at this ⊢; omega, fun x hx => by
            rcases List.mem_append.1 hx with h | h
            · exact HMEM.out x h
            · exact .inr (by simpa using h)⟩
      case rest =>
      obtain ⟨A2, c2, ys, dn2, rfl, rfl, hown2, hbel2, hlen2, hmem2⟩ := hcut
      have HOWN2 := Lib.hid hown2
      have HBEL2 := Lib.hid hbel2
      have HLEN2 := Lib.hid hlen2
      have HMEM2 := Lib.hid hmem2
      have hyl : ys.length ≤ 1001 := by have : dn2.toNat ≤ 1 := by cases dn2 <;> simp
                                        omega
      clear hown2 hbel2 hlen2 hmem2
      obtain ⟨d0, d2⟩ := HD.out _ HBEL2.out
      by_cases hr : (X.n == z.n) = true
      · have hr' : X.n = z.n := by simpa using hr
        · go_wp2_with fail
          go_quiet (fail)
          go_wp2_with fail
          go_roundw
          case rel => exact ⟨k + 1, A2, c2, ys, dn2, HLT.out, rfl, rfl, by go_num, HOWN2.out, (below_drewN9 HBEL2.out _), by have := HLEN2.out; omega, HMEM2.out⟩
          case measure => have := HLT.out; simp [intOf]; omega
      · have hr' : (X.n == z.n) = false := by simpa using hr
        ·
          go_wp2_with fail
          go_quiet (fail)
          go_wp2_with (first
            | (refine wpList_get_rd (r := [.int .i64 X.n, .string X.path, .string X.parent, .int .i64 X.ttl, .slice X.sA X.sn X.sc]) (fun j u hj => HC.out _ (below_drewN9 HBEL2.out _) j u hj) rfl rfl rfl hu rfl entT_size ?_)
            | (refine wpList_append_r1 (ys := [.int .i64 X.n, .string X.path, .string X.parent, .int .i64 X.ttl, .slice X.sA X.sn X.sc]) sl_ents rfl rfl (show OwnR (World.drewN _ _) W0.heap.size 36 5 A2 c2 ys.length (rowsV entCells ys) from HOWN2.out) rfl rfl rfl rfl (by simp [Value.oneCell']) (by unfold maxLen; omega) (by omega) (below_drewN9 HBEL2.out _).size ?_; intro A5 c5 w5 hown5 hgr5 hn5))
          go_roundw
          case rel => exact ⟨k + 1, A5, c5, ys ++ [X], dn2, HLT.out, by simp, rfl, by go_num, by rw [rowsV_append, rowsV_one, List.length_append]; exact hown5, Below.grown (below_drewN9 HBEL2.out _) hgr5 (Below.size (below_drewN9 HBEL2.out _)) (fun j hj => (HOWN2.out.lt j hj).1), by have := HLEN2.out; simp; omega, fun x hx => by
            rcases List.mem_append.1 hx with h | h
            · exact HMEM2.out x h
            · exact .inl (by have e : x = X := by simpa using h
                             rw [e]; exact HX.out)⟩
          case measure => have := HLT.out; simp [intOf]; omega
    · obtain rfl : k = n := by omega
      clear hlt
      cases dn with
      | true =>
        go_wp2_with fail
        go_ret
        exact ⟨A1, c1, xs, rfl, by have := HLEN.out; have := HN.out; simp at *; omega, HMEM.out, HOWN.out.mono HB0.out.size, HB0.out.trans (HBEL.out.mono HB0.out.size)⟩
      | false =>
        go_wp2_with (first
          | (refine wpList_get_box (x := .tmp 3) (cs := #[.int .i64 z.n, .string z.path, .string z.parent, .int .i64 z.ttl, .slice z.sA z.sn z.sc]) (HK.out.below HBEL.out HK.out.lt) rfl rfl rfl hu rfl entT_size ?_)
          | (refine wpList_append_r1 (ys := [.int .i64 z.n, .string z.path, .string z.parent, .int .i64 z.ttl, .slice z.sA z.sn z.sc]) sl_ents rfl rfl HOWN.out rfl rfl rfl rfl (by simp [Value.oneCell']) (by unfold maxLen; omega) (by omega) HBEL.out.size ?_; intro A5 c5 w5 hown5 hgr5 hn5))
        go_ret
        exact ⟨A5, c5, xs ++ [z], by simp, by have := HLEN.out; have := HN.out; simp at *; omega, fun x hx => by
          rcases List.mem_append.1 hx with h | h
          · exact HMEM.out x h
          · exact .inr (by simpa using h), OwnR.mono (by rw [rowsV_append, rowsV_one, List.length_append]; exact hown5) HB0.out.size, HB0.out.trans ((HBEL.out.grown hgr5 HBEL.out.size (fun j hj => (HOWN.out.lt j hj).1)).mono HB0.out.size)⟩
end Go.Proofs.Ytcnebbhnpocofaa
/-
  Walk: brevetref15.does.
-/
namespace Go.Proofs.Ytcnebbhnpocofaa
set_option linter.unusedSimpArgs false
set_option linter.unusedVariables false
open Go.RowKit

theorem opC_ent (o : OpD) : (((opC o).toList.drop 3).take 5).toArray = entCells o.ent := rfl
theorem LW.ents_put {u u' v : World} {base g K : Nat} {d : LedD} {s : Sl EntD} (h : LW u base g K d) (hk : KeepBut 36 u u') (hs : s.Own u' base 36 5 entCells K) (ho : ∀ x ∈ s.l, EntOk u' x) (hw : Wrote g u' v) (hb : Blk v g 33 ((ledCells d).setIfInBounds 0 s.v)) : LW v base g K { d with ents := s } :=
  LW.put (h.box.keep hk (by decide)) h.hg ⟨hs, h.ll.nodes.keep hk (by decide), h.ll.bans.keep hk (by decide), h.ll.joins.keep hk (by decide), h.ll.keys.keep hk (by decide), h.ll.buns.keep hk (by decide), ho, fun x hx => (h.ll.bunOk x hx).keep hk (by decide)⟩ hw hb
theorem DoPost.of {base g K : Nat} {w u : World} {e : Ending} {w' : World} (h : DoPost base g K u e w') (hb : Below base w u) : DoPost base g K w e w' := by
  obtain ⟨d', f, h1, h2, h3⟩ := h
  exact ⟨d', f, h1, h2, hb.trans h3⟩
theorem opO_size : (Try.prog.info? 47).map (·.size) = some 24 := by kernel_rfl
set_option maxRecDepth 100000 in
set_option maxHeartbeats 8000000 in
theorem does15_any (d : LedD) (o : OpD) (base g K : Nat) (w : World) (h : LW w base g K d) (hK : K ≤ 900) (ho : OpIn w o) :
    Calls Try.prog 31 #[.pointer (some ⟨g, 0, none⟩), .agg (opC o)] w (DoPost base g K w) := by
  have hue := Try.underlying36
  have hun := Try.underlying40
  have huo := Try.underlying47
  obtain ⟨W0, hW0⟩ : ∃ W0, W0 = w.alloc (.cells (opC o) 47) := ⟨_, rfl⟩
  have hb0 : Below w.heap.size w W0 := by rw [hW0]; exact (Below.refl _ w).alloc (Nat.le_refl _) _
  have hbs : base ≤ w.heap.size := Nat.le_of_lt (Nat.lt_of_le_of_lt h.hg h.box.lt)
  have HBS := Lib.hid hbs
  have HB0 := Lib.hid (hb0.mono hbs)
  have HK0 := Lib.hid (show Blk W0 w.heap.size 47 (opC o) by rw [hW0]; exact Blk.new _ _ _)
  have H0 := Lib.hid (h.below hb0)
  have HW0 := Lib.hid hW0
  have HKK := Lib.hid hK
  have HOI := Lib.hid (ho.grow hb0)
  obtain ⟨le, hle⟩ : ∃ le, le = d.ents := ⟨_, rfl⟩
  have HLE := Lib.hid hle
  have HEL := Lib.hid (show le.l.length ≤ K by rw [hle]; exact H0.out.ll.ents.len)
  have hel : (le.l.length : Int) ≤ 900 := by have := HEL.out; omega
  have HNO1 := Lib.hid (DoPost.no (w := w) H0.out HB0.out)
  have a0 : W0.cell? ⟨g, 0, none⟩ = some (.slice le.A le.l.length le.c) := by rw [hle]; exact H0.out.box.cell 0
  have b0 : W0.cell? ⟨w.heap.size, 0, none⟩ = some (.int .i64 o.kind) := HK0.out.cell 0
  have b1 : W0.cell? ⟨w.heap.size, 1, none⟩ = some (.int .i64 o.n) := HK0.out.cell 1
  clear hW0 hb0 h hbs hK ho hle
  go_enter Try.func31, Try.ntmps31
  go_upto_region 1 with (fail)
  rw [show w.alloc (.cells (opC o) 47) = W0 from HW0.out.symm]
  obtain ⟨AV, hAV⟩ : ∃ AV, AV = Value.agg (opC o) := ⟨_, rfl⟩
  rw [← hAV]
  have HAV := Lib.hid hAV
  obtain ⟨kd, hkd⟩ : ∃ kd, kd = o.kind := ⟨_, rfl⟩
  rw [← hkd] at b0
  clear hkd hAV
  by_cases h1 : kd = 1
  · subst h1
    go_wp2_with (refine wpList_get_part (r := entCells o.ent) (k := 3) (n := 5) HK0.out (by simp [opC]) (opC_ent _) rfl rfl rfl hue rfl entT_size ?_)
    refine calls_then (entry15_any o.ent W0 HOI.out.ent) ?_
    rintro e w1 ⟨⟨b, rfl⟩, hb1⟩
    have H1 := Lib.hid (H0.out.below hb1)
    have HB1 := Lib.hid (HB0.out.trans (hb1.mono (Nat.le_trans HBS.out HB0.out.size)))
    have HK1 := Lib.hid (HK0.out.below hb1 HK0.out.lt)
    have HEI := Lib.hid (HOI.out.ent.grow hb1)
    have HNO := Lib.hid (DoPost.no (w := w) H1.out HB1.out)
    have a0 : w1.cell? ⟨g, 0, none⟩ = some (.slice le.A le.l.length le.c) := by rw [HLE.out]; exact H1.out.box.cell 0
    clear hb1
    cases b with
    | false =>
      go_wp2_with fail
      go_ret
      exact HNO.out _
    | true =>
      have CE := Lib.hid (show ∀ u, Below w1.heap.size w1 u → Calls Try.prog 43 #[.slice le.A le.l.length le.c, .agg (entCells o.ent)] u (ListPost 36 5 entCells le.l o.ent u) from fun u hu => by
        have hno : le.Own w1 base 36 5 entCells K := by rw [HLE.out]; exact H1.out.ll.ents
        exact entries15_any le.l (by have := HEL.out; have := HKK.out; omega) o.ent le.A le.c w1.heap.size u (hno.own.row.rd.below hu) hu.size)
      obtain ⟨wq, hwq⟩ : ∃ wq, wq = w1 := ⟨_, rfl⟩
      rw [← hwq] at H1 HB1 HK1 HEI a0 CE ⊢
      clear hwq HNO
      go_wp2_with fail
      have HC0 : Below wq.heap.size wq wq.drew := (Below.refl _ _).drew
      apply wp_region_seqh (fun u => Below wq.heap.size wq u) (fun u u' => Below u.heap.size u u') [_, _, _, _, _, _] (gOf []) 6 (by kernel_rfl) (by kernel_rfl) (by decide) (by kernel_rfl) (stabL_of _ trivial) HC0
      simp only [List.take_succ_cons, List.take_zero, List.drop_succ_cons, List.drop_zero]
      iterate 3
        ((first | (apply SeqG.next; rfl; rfl; rfl)); (simp only [act_put, act_put_none, List.setIfInBounds_toArray, List.set_cons_zero, List.set_cons_succ]; rfl); (intro w1 hC1 hf E hE; go_wp2; exact .mk (hE _ hC1 (Below.refl _ _))))
      apply SeqG.next
      · rfl
      · rfl
      · rfl
      · simp only [act_put, act_put_none, List.setIfInBounds_toArray, List.set_cons_zero, List.set_cons_succ]
        rfl
      · intro w1 hC1 hf E hE
        have d0 := (hC1.cell (p := ⟨g, 0, none⟩) H1.out.box.lt).trans a0
        go_wp2
        exact .mk (hE _ hC1 (Below.refl _ _))
      iterate 1
        ((first | (apply SeqG.next; rfl; rfl; rfl)); (simp only [act_put, act_put_none, List.setIfInBounds_toArray, List.set_cons_zero, List.set_cons_succ]; rfl); (intro w1 hC1 hf E hE; go_wp2; exact .mk (hE _ hC1 (Below.refl _ _))))
      apply SeqG.next
      · rfl
      · rfl
      · rfl
      · simp only [act_put, act_put_none, List.setIfInBounds_toArray, List.set_cons_zero, List.set_cons_succ]
        rfl
      · intro w1 hC1 hf E hE
        refine wpList_get_part (r := entCells o.ent) (k := 3) (n := 5) (HK1.out.below hC1 HK1.out.lt) (by simp [opC]) (opC_ent _) rfl rfl rfl hue rfl entT_size ?_
        go_wp2_with fail
        exact .mk (hE _ hC1 (Below.refl _ _))
      refine SeqG.nil ?_
      intro w1 hC1 hf
      clear hf
      refine SeqT.step rfl ?_
      intro E hE
      simp only [act_put, act_put_none, List.setIfInBounds_toArray, List.set_cons_zero, List.set_cons_succ] at hE
      go_wp2_with fail
      refine calls_then (CE.out _ hC1) ?_
      rintro e w5 ⟨A5, c5, xs, rfl, hlen5, hmem5, hown5, hb5⟩
      have HL5 := Lib.hid hlen5
      have HM5 := Lib.hid hmem5
      have HO5 := Lib.hid (hown5.mono hC1.size)
      have HB5 := Lib.hid (hC1.trans (hb5.mono hC1.size))
      clear hlen5 hmem5 hown5 hb5
      go_wp2_with fail
      refine .mk (hE _ _ ?_)
      clear hE E
      refine SeqT.step rfl ?_
      intro E hE
      simp only [act_put, act_put_none, List.setIfInBounds_toArray, List.set_cons_zero, List.set_cons_succ] at hE
      go_wp2
      refine .mk (hE _ _ ?_)
      clear hE E
      refine SeqT.nil ?_
      have H5 := Lib.hid (H1.out.below HB5.out)
      have HB6 := Lib.hid (HB1.out.trans (HB5.out.mono (Nat.le_trans HBS.out HB1.out.size)))
      have HNO5 := Lib.hid (DoPost.no (w := w) H5.out HB6.out)
      have hxl : (xs.length : Int) ≤ 1000 := by have := HL5.out; have := HEL.out; have := HKK.out; omega
      clear hC1 HC0
      by_cases h24 : (24 : Int) < (xs.length : Int)
      · go_wp2_with fail
        go_ret
        exact HNO5.out _
      · go_wp2_with (refine wpList_put_cell (i := 0) H5.out.box rfl rfl rfl rfl (by kernel_rfl) (by simp [ledCells]) rfl ?_; intro w7 hb7 hw7)
        have HFN := Lib.hid (show DoPost base g K w (.returned (.int .i64 0)) w7 from ⟨_, 0, rfl, (H5.out.more (Nat.le_succ K)).ents_put (s := ⟨A5, c5, xs⟩) (KeepBut.refl _ _) ⟨HO5.out.mono (Nat.le_trans HBS.out HB1.out.size), by have := HL5.out; have := HEL.out; show xs.length ≤ K + 1; omega⟩ (fun x hx => by
          rcases HM5.out x hx with hx | rfl
          · exact H5.out.ll.entOk x (by rw [← HLE.out]; exact hx)
          · exact (HEI.out.grow HB5.out).ok) hw7 hb7, hw7.below HB6.out H1.out.hg (Nat.le_trans HBS.out HB6.out.size)⟩)
        go_ret
        exact HFN.out
  have e1 : (kd == (1 : Int)) = false := by simpa using h1
  clear h1
  by_cases h2 : kd = 2
  · subst h2
    go_wp2_with fail
    go_loopw [7] (fun x wr => ∃ i : Nat, i ≤ le.l.length ∧ x = .int .i64 (i : Int) ∧ ∃ m, wr = W0.drewN m) (fun x _ => le.l.length - (intOf x).toNat)
    case atStart => exact ⟨0, Nat.zero_le _, rfl, 0, rfl⟩
    case round =>
      obtain ⟨i, hi, rfl, mm, rfl⟩ := hrel
      have HEO := Lib.hid (show le.Own W0 base 36 5 entCells K by rw [HLE.out]; exact H0.out.ll.ents)
      have H1 := Lib.hid (fun (m : Nat) => show LW (W0.drewN m) base g K d from H0.out.below (below_drewN9 (Below.refl _ _) m))
      have HB1 := Lib.hid (fun (m : Nat) => show Below base w (W0.drewN m) from below_drewN9 HB0.out m)
      by_cases hlt : i < le.l.length
      · have hlt' : (i : Int) < (le.l.length : Int) := by omega
        have hi0 : (0 : Int) ≤ (i : Int) := by omega
        obtain ⟨ad, hA, -, hcell⟩ := rd_rows (f := entCells) (m := 5) (fun _ => rfl) (by decide) HEO.out.own.row.rd hlt
        have HAA := Lib.hid hA
        obtain ⟨X, hX⟩ : ∃ X, X = le.l[i] := ⟨_, rfl⟩
        rw [← hX] at hcell
        have d0 : W0.cell? (ad.add (i * 5)) = some (.int .i64 X.n) := hcell 0 _ rfl
        have HLT := Lib.hid hlt
        by_cases hq : (X.n == o.n) = true
        · have hq2 : X.n = o.n := by simpa using hq
          have hcap := HEO.out.own.cap
          have HS1 := Lib.hid (slice_h_r (P := Try.prog) und_ents size_ents le.A le.l.length le.c i (by omega))
          have HS2 := Lib.hid (slice_l_r (P := Try.prog) und_ents size_ents le.A le.l.length le.c (i + 1) hlt)
          have HR1 := Lib.hid (rd_take_r (f := entCells) (m := 5) (fun _ => rfl) HEO.out.own.row.rd i)
          have HR2 := Lib.hid (show ∀ u, Below W0.heap.size W0 u → Rd u W0.heap.size (cutM 5 le.A le.c (i + 1)) (rowsV entCells (le.l.drop (i + 1))) from fun u hu => (rd_drop_r (f := entCells) (m := 5) (fun _ => rfl) HEO.out.own.row.rd hcap hlt).below hu)
          have HL1 := Lib.hid (show (rowsV entCells (le.l.take i)).length = i * 5 by rw [rowsV_len (f := entCells) (m := 5) (fun _ => rfl), List.length_take, Nat.min_eq_left (Nat.le_of_lt hlt)])
          have HL2 := Lib.hid (show (rowsV entCells (le.l.drop (i + 1))).length = (le.l.length - (i + 1)) * 5 by rw [rowsV_len (f := entCells) (m := 5) (fun _ => rfl), List.length_drop])
          have hi9 : i ≤ 900 := by have := HEL.out; have := HKK.out; omega
          have hl9 : le.l.length - (i + 1) ≤ 900 := by have := HEL.out; have := HKK.out; omega
          rw [hA] at a0
          clear hX hcell hlt
          go_wp2_with fail
          go_quiet (fail)
          generalize hn3 : World.drewN _ _ = w3
          have HN3 := Lib.hid (show ∃ m, w3 = W0.drewN m from ⟨_, by rw [← hn3, World.drewN_drewN]⟩)
          have H3 := Lib.hid (show LW w3 base g K d by obtain ⟨m, h⟩ := HN3.out; rw [h]; exact H1.out m)
          have HB3 := Lib.hid (show Below base w w3 by obtain ⟨m, h⟩ := HN3.out; rw [h]; exact HB1.out m)
          have HU3 := Lib.hid (show w3.heap.size = W0.heap.size ∧ Below W0.heap.size W0 w3 by obtain ⟨m, h⟩ := HN3.out; rw [h]; exact ⟨rfl, below_drewN9 (Below.refl _ _) m⟩)
          have a0 : w3.cell? ⟨g, 0, none⟩ = some (.slice le.A le.l.length le.c) := by rw [HLE.out]; exact H3.out.box.cell 0
          have HNL := Lib.hid (OwnR.nil w3 w3.heap.size 36 5)
          clear hn3 d0 hA
          go_wp2_with (first
            | ((with_reducible apply wpList_slice_k (x := .tmp 58)); (case ho => exact rfl); (case hgd => exact rfl); (case hr => exact HS1.out _))
            | ((with_reducible apply wpList_append_r (x := .tmp 60) (m := i) (news := rowsV entCells (le.l.take i)) sl_ents); (case ho => exact rfl); (case hgd => exact rfl); (case hown => exact HNL.out); (case hs => exact rfl); (case hx => exact rfl); (case hl => exact HL1.out); (case hr => exact HR1.out.below HU3.out.2); (case h1 => exact rowsV_mem entCells_one _); (case h63 => (unfold maxLen; omega)); (case hbytes => omega); (case hbase => exact Nat.le_refl _); intro A5 c5 w5 ho5 hg5 hn5; simp only [Nat.zero_add] at ho5 ⊢; have HO5 := Lib.hid ho5; have HG5 := Lib.hid (show Below w3.heap.size w3 w5 from ⟨hg5.os, hg5.tape, hg5.output, hg5.size, fun b hb => hg5.block b hb (by simp [Value.ownBlock])⟩); clear ho5 hg5 hn5; have a0 : w5.cell? ⟨g, 0, none⟩ = some (.slice le.A le.l.length le.c) := by rw [HLE.out]; exact (H3.out.box.below HG5.out H3.out.box.lt).cell 0)
            | ((with_reducible apply wpList_slice_k (x := .tmp 67) (lo := some (.tmp 69))); (case ho => exact rfl); (case hgd => exact rfl); (case hr => exact HS2.out _))
            | ((with_reducible apply wpList_append_r (x := .tmp 70) (m := le.l.length - (i + 1)) (news := rowsV entCells (le.l.drop (i + 1))) sl_ents); (case ho => exact rfl); (case hgd => exact rfl); (case hown => exact HO5.out); (case hs => exact rfl); (case hx => exact rfl); (case hl => exact HL2.out); (case hr => exact HR2.out _ (HU3.out.2.trans (HU3.out.1 ▸ HG5.out))); (case h1 => exact rowsV_mem entCells_one _); (case h63 => (unfold maxLen; omega)); (case hbytes => omega); (case hbase => exact HG5.out.size); intro A6 c6 w6 ho6 hg6 hn6; have HO6 := Lib.hid ho6; have HG6 := Lib.hid hg6; have HKB := Lib.hid ((KeepBut.of_below (e := 36) HG5.out).trans (keepBut_grown HO5.out hg6)); clear ho6 hg6 hn6)
            | (refine wpList_put_cell (i := 0) (H3.out.box.keep HKB.out (by decide)) rfl rfl rfl rfl (by kernel_rfl) (by simp [ledCells]) rfl ?_; intro w7 hb7 hw7))
          have HFN := Lib.hid (show DoPost base g K w (.returned (.int .i64 0)) w7 by
            have hbg : Below base w w6 := (HB3.out.trans (HG5.out.mono (Nat.le_trans HBS.out HB3.out.size))).grown HG6.out (Nat.le_trans HBS.out (HB3.out.trans (HG5.out.mono (Nat.le_trans HBS.out HB3.out.size))).size) fun j hj => Nat.le_trans (Nat.le_trans HBS.out HB3.out.size) (HO5.out.lt j hj).1
            have hlen : (le.l.take i ++ le.l.drop (i + 1)).length = i + (le.l.length - (i + 1)) := by rw [List.length_append, List.length_take, List.length_drop, Nat.min_eq_left (Nat.le_of_lt HLT.out)]
            have hs : (⟨A6, c6, le.l.take i ++ le.l.drop (i + 1)⟩ : Sl EntD).Own w6 base 36 5 entCells K := ⟨by
              show OwnR w6 base _ 5 A6 c6 (le.l.take i ++ le.l.drop (i + 1)).length _
              rw [hlen, rowsV_append]
              have h := HO6.out.mono (Nat.le_trans HBS.out HB3.out.size)
              simpa using h, by
              show (le.l.take i ++ le.l.drop (i + 1)).length ≤ K
              rw [hlen]
              have := HEL.out
              have := HLT.out
              omega⟩
            have hv : (⟨A6, c6, le.l.take i ++ le.l.drop (i + 1)⟩ : Sl EntD).v = .slice A6 (i + (le.l.length - (i + 1))) c6 := by
              show Value.slice A6 (le.l.take i ++ le.l.drop (i + 1)).length c6 = _
              rw [hlen]
            have hoe : ∀ x ∈ le.l.take i ++ le.l.drop (i + 1), EntOk w6 x := fun x hx => by
              have hx2 : x ∈ d.ents.l := by
                rw [← HLE.out]
                rcases List.mem_append.1 hx with hx | hx
                · exact List.mem_of_mem_take hx
                · exact List.mem_of_mem_drop hx
              exact (H3.out.ll.entOk x hx2).keep HKB.out (by decide)
            exact ⟨_, 0, rfl, (H3.out.ents_put HKB.out hs hoe hw7 (by rw [hv]; exact hb7)).more (Nat.le_succ K), hw7.below hbg H3.out.hg (Nat.le_trans HBS.out hbg.size)⟩)
          go_ret
          exact HFN.out
        · have hq' : (X.n == o.n) = false := by simpa using hq
          rw [hA] at a0
          clear hX hcell hlt hq hA
          go_wp2_with fail
          go_quiet (fail)
          go_wp2_with fail
          go_roundw
          case rel => exact ⟨i + 1, HLT.out, by go_num, _, rfl⟩
          case measure => have := HLT.out; simp [intOf]; omega
      · have hlt' : ¬ (i : Int) < (le.l.length : Int) := by omega
        have HFN := Lib.hid (show DoPost base g K w (.returned (.int .i64 7)) (W0.drewN mm) from DoPost.no (H1.out mm) (HB1.out mm) 7)
        clear hlt
        go_wp2_with fail
        go_ret
        exact HFN.out
  have e2 : (kd == (2 : Int)) = false := by simpa using h2
  clear h2
  have HGB := Lib.hid (fun (Q : Prop) (h : Q) => h)
  by_cases hj : kd = 3 ∨ kd = 4
  · have hfin : Calls Try.prog 44 #[.pointer (some ⟨g, 0, none⟩), .agg (opC o)] W0 (DoPost base g K W0) := joins15_any d o base g K W0 H0.out HKK.out HOI.out
    have HC := Lib.hid hfin
    clear hfin
    rcases hj with rfl | rfl
    · go_wp2_with (refine wpList_get_box (x := .tmp 3) (cs := opC o) HK0.out rfl rfl rfl huo rfl opO_size ?_)
      refine calls_then HC.out ?_
      intro e w1 hp
      have HP := Lib.hid (hp.of HB0.out)
      obtain ⟨d', f, rfl, _⟩ := hp
      go_wp2_with fail
      go_ret
      exact HP.out
    · go_wp2_with (refine wpList_get_box (x := .tmp 3) (cs := opC o) HK0.out rfl rfl rfl huo rfl opO_size ?_)
      refine calls_then HC.out ?_
      intro e w1 hp
      have HP := Lib.hid (hp.of HB0.out)
      obtain ⟨d', f, rfl, _⟩ := hp
      go_wp2_with fail
      go_ret
      exact HP.out
  have e3 : (kd == (3 : Int)) = false := by simp; omega
  have e4 : (kd == (4 : Int)) = false := by simp; omega
  clear hj
  by_cases h5 : kd = 5
  · subst h5
    have HC := Lib.hid (putNode_any d o.node base g K W0 H0.out HKK.out HOI.out.nname)
    go_wp2_with (refine wpList_get_part (r := nodeCells o.node) (k := 12) (n := 5) HK0.out (by simp [opC]) (opC_node _) rfl rfl rfl hun rfl nodeT_size ?_)
    refine calls_then HC.out ?_
    intro e w1 hp
    have HP := Lib.hid (hp.post.of HB0.out)
    obtain ⟨s', f, rfl, _⟩ := hp
    go_wp2_with fail
    go_ret
    exact HP.out
  have e5 : (kd == (5 : Int)) = false := by simpa using h5
  clear h5
  by_cases hj : kd = 6 ∨ kd = 7 ∨ kd = 8 ∨ kd = 14
  · have HC := Lib.hid (names15_any d o base g K W0 H0.out HKK.out HOI.out)
    rcases hj with rfl | rfl | rfl | rfl
    all_goals
      go_wp2_with (refine wpList_get_box (x := .tmp 3) (cs := opC o) HK0.out rfl rfl rfl huo rfl opO_size ?_)
      refine calls_then HC.out ?_
      intro e w1 hp
      have HP := Lib.hid (hp.of HB0.out)
      obtain ⟨d', f, rfl, _⟩ := hp
      go_wp2_with fail
      go_ret
      exact HP.out
  have e6 : (kd == (6 : Int)) = false := by simp; omega
  have e7 : (kd == (7 : Int)) = false := by simp; omega
  have e8 : (kd == (8 : Int)) = false := by simp; omega
  have e14 : (kd == (14 : Int)) = false := by simp; omega
  clear hj
  by_cases hj : kd = 9 ∨ kd = 10 ∨ kd = 11
  · have HC := Lib.hid (keys15_any d o base g K W0 H0.out HKK.out)
    rcases hj with rfl | rfl | rfl
    all_goals
      go_wp2_with (refine wpList_get_box (x := .tmp 3) (cs := opC o) HK0.out rfl rfl rfl huo rfl opO_size ?_)
      refine calls_then HC.out ?_
      intro e w1 hp
      have HP := Lib.hid (hp.of HB0.out)
      obtain ⟨d', f, rfl, _⟩ := hp
      go_wp2_with fail
      go_ret
      exact HP.out
  have e9 : (kd == (9 : Int)) = false := by simp; omega
  have e10 : (kd == (10 : Int)) = false := by simp; omega
  have e11 : (kd == (11 : Int)) = false := by simp; omega
  clear hj
  by_cases hj : kd = 12 ∨ kd = 13
  · have HC := Lib.hid (foreign15_any d o base g K W0 H0.out HKK.out HOI.out)
    rcases hj with rfl | rfl
    all_goals
      go_wp2_with (refine wpList_get_box (x := .tmp 3) (cs := opC o) HK0.out rfl rfl rfl huo rfl opO_size ?_)
      refine calls_then HC.out ?_
      intro e w1 hp
      have HP := Lib.hid (hp.of HB0.out)
      obtain ⟨d', f, rfl, _⟩ := hp
      go_wp2_with fail
      go_ret
      exact HP.out
  have e12 : (kd == (12 : Int)) = false := by simp; omega
  have e13 : (kd == (13 : Int)) = false := by simp; omega
  clear hj
  go_wp2_with fail
  go_ret
  exact HNO1.out _
end Go.Proofs.Ytcnebbhnpocofaa
/-
  Walk: brevetref15.Apply.
-/
namespace Go.Proofs.Ytcnebbhnpocofaa
set_option linter.unusedSimpArgs false
set_option linter.unusedVariables false
open Go.RowKit

/-- what Apply gives -/
def ApPost (K : Nat) (w : World) (e : Ending) (w' : World) : Prop := ∃ (d' : LedD) (f : Int), e = .returned (.tuple #[.agg (ledCells d'), .int .i64 f]) ∧ LedOk w' (K + 1) d' ∧ Below w.heap.size w w'
theorem LedOk.wrote {u u' : World} {K g : Nat} {d : LedD} {cs : Array Value} (h : LedOk u K d) (hb : Blk u g 33 cs) (hw : Wrote g u u') : LedOk u' K d := h.box (KeepBut.of_wrote hw hb)
set_option maxRecDepth 100000 in
set_option maxHeartbeats 4000000 in
theorem apply15_any (d : LedD) (o : OpD) (K : Nat) (w : World) (h : LedOk w K d) (hK : K ≤ 900) (ho : OpIn w o) :
    Calls Try.prog 16 #[.agg (ledCells d), .agg (opC o)] w (ApPost K w) := by
  have hul := Try.underlying33
  have huo := Try.underlying47
  obtain ⟨W0, hW0⟩ : ∃ W0, W0 = ((w.alloc (.cells (ledCells d) 33)).alloc (.cells (opC o) 47)).alloc (.cells (ledCells zLed) 33) := ⟨_, rfl⟩
  have hb0 : Below w.heap.size w W0 := by rw [hW0]; exact (((Below.refl _ w).alloc (Nat.le_refl _) _).alloc (by simp) _).alloc (by simp; omega) _
  have HB0 := Lib.hid hb0
  have HK0 := Lib.hid (show Blk W0 w.heap.size 33 (ledCells d) by rw [hW0]; exact ((Blk.new _ _ _).alloc _).alloc _)
  have HO0 := Lib.hid (show Blk W0 (w.heap.size + 1) 47 (opC o) by rw [hW0]; have := (Blk.new (w.alloc (.cells (ledCells d) 33)) 47 (opC o)).alloc (.cells (ledCells zLed) 33); simpa using this)
  have HZ0 := Lib.hid (show Blk W0 (w.heap.size + 2) 33 (ledCells zLed) by rw [hW0]; have := Blk.new ((w.alloc (.cells (ledCells d) 33)).alloc (.cells (opC o) 47)) 33 (ledCells zLed); simpa using this)
  have HS0 := Lib.hid (show W0.heap.size = w.heap.size + 3 by rw [hW0]; simp)
  have HW0 := Lib.hid hW0
  have HOK := Lib.hid (h.grow hb0)
  have HOI := Lib.hid (ho.grow hb0)
  have HKK := Lib.hid hK
  have CC := Lib.hid (copy15_any d K W0 (h.grow hb0) hK)
  clear hW0 h ho hb0 hK
  go_enter Try.func16, Try.ntmps16
  go_upto_region 1 with (fail)
  rw [show ((w.alloc (.cells (ledCells d) 33)).alloc (.cells (opC o) 47)).alloc (.cells #[.slice none 0 0, .slice none 0 0, .slice none 0 0, .slice none 0 0, .slice none 0 0, .slice none 0 0] 33) = W0 from HW0.out.symm]
  generalize hAV : Value.agg (ledCells d) = AV
  generalize hAO : Value.agg (opC o) = AO
  rw [hAV] at CC
  go_wp2_with (refine wpList_get_box (x := .tmp 2) (cs := ledCells d) HK0.out rfl rfl rfl hul rfl ledT2_size ?_)
  refine calls_then CC.out ?_
  rintro e w1 ⟨d1, rfl, hll, hb1⟩
  have HLL := Lib.hid hll
  have HB1 := Lib.hid hb1
  have HK1 := Lib.hid (HK0.out.below hb1 HK0.out.lt)
  have HO1 := Lib.hid (HO0.out.below hb1 HO0.out.lt)
  have HZ1 := Lib.hid (HZ0.out.below hb1 HZ0.out.lt)
  have HOK1 := Lib.hid (HOK.out.grow hb1)
  have HOI1 := Lib.hid (HOI.out.grow hb1)
  clear hll hb1 CC
  go_upto_region 2 with (refine wpList_put_box (cells := ledCells d1) (Blk.new _ _ _) rfl rfl rfl rfl ledT2_size rfl (ledCells_one _) ?_; intro w2 hb2 hw2)
  have hbw2 : Below w1.heap.size w1 w2 := box_low9 hw2
  obtain ⟨H, hH⟩ : ∃ H, H = w1.heap.size := ⟨_, rfl⟩
  rw [← hH] at hb2 ⊢
  have HLW := Lib.hid (show LW w2 W0.heap.size H K d1 from ⟨hb2, by rw [hH]; exact HB1.out.size, HLL.out.below hbw2⟩)
  have HB2 := Lib.hid (show Below W0.heap.size W0 w2 from HB1.out.trans (hbw2.mono HB1.out.size))
  have HK2 := Lib.hid (HK1.out.below hbw2 HK1.out.lt)
  have HO2 := Lib.hid (HO1.out.below hbw2 HO1.out.lt)
  have HZ2 := Lib.hid (HZ1.out.below hbw2 HZ1.out.lt)
  have HOK2 := Lib.hid (HOK1.out.grow hbw2)
  have HOI2 := Lib.hid (HOI1.out.grow hbw2)
  clear hb2 hw2 hbw2 hH
  have CD := Lib.hid (does15_any d1 o W0.heap.size H K w2 HLW.out HKK.out HOI2.out)
  rw [hAO] at CD
  go_wp2_with (refine wpList_get_box (x := .tmp 3) (cs := opC o) HO2.out rfl rfl rfl huo rfl opO_size ?_)
  refine calls_then CD.out ?_
  rintro e w3 ⟨d3, f, rfl, hl3, hb3⟩
  have HL3 := Lib.hid hl3
  have HK3 := Lib.hid (HK2.out.below hb3 HK0.out.lt)
  have HZ3 := Lib.hid (HZ2.out.below hb3 HZ0.out.lt)
  have HB3 := Lib.hid (HB0.out.trans ((HB2.out.trans hb3).mono HB0.out.size))
  have HOK3 := Lib.hid (show LedOk w3 K d from HOK.out.grow (HB2.out.trans hb3))
  clear hl3 hb3
  by_cases hf : f = 0
  · subst hf
    go_wp2_with (first
      | refine wpList_get_box (x := .tmp 6) (cs := ledCells d3) HL3.out.box rfl rfl rfl hul rfl ledT2_size ?_
      | (refine wpList_put_box (x := .tmp 4) (cells := ledCells d3) HZ3.out rfl rfl rfl rfl ledT2_size rfl (ledCells_one _) ?_; intro w9 hb9 hw9))
    have HB9 := Lib.hid hb9
    have HFN := Lib.hid (show ApPost K w (.returned (.tuple #[.agg (ledCells d3), .int .i64 0])) w9 from ⟨d3, 0, rfl, (HL3.out.ll.wrote HZ3.out hw9).ok, hw9.below HB3.out (by omega) HB3.out.size⟩)
    refine bodyPost_ret (results_box_tmp (P := Try.prog) rfl rfl HB9.out hul rfl ledT2_size) rfl ?_
    exact HFN.out
  · have hf' : (f == (0 : Int)) = false := by simpa using hf
    clear hf hAV hAO
    go_wp2_with (first
      | refine wpList_get_box (x := .tmp 2) (cs := ledCells d) HK3.out rfl rfl rfl hul rfl ledT2_size ?_
      | (refine wpList_put_box (x := .tmp 4) (cells := ledCells d) HZ3.out rfl rfl rfl rfl ledT2_size rfl (ledCells_one _) ?_; intro w9 hb9 hw9))
    have HB9 := Lib.hid hb9
    have HFN := Lib.hid (show ApPost K w (.returned (.tuple #[.agg (ledCells d), .int .i64 f])) w9 from ⟨d, f, rfl, (HOK3.out.wrote HZ3.out hw9).more (Nat.le_succ K), hw9.below HB3.out (by omega) HB3.out.size⟩)
    refine bodyPost_ret (results_box_tmp (P := Try.prog) rfl rfl HB9.out hul rfl ledT2_size) rfl ?_
    exact HFN.out
end Go.Proofs.Ytcnebbhnpocofaa
/-
  Walk: brevetref20.Ledger.
-/
namespace Go.Proofs.Ytcnebbhnpocofaa
set_option linter.unusedSimpArgs false
set_option linter.unusedVariables false
open Go.RowKit

/-- a ledger that operations make -/
def LgPost (w : World) (e : Ending) (w' : World) : Prop := ∃ d : LedD, e = .returned (.agg (ledCells d)) ∧ LedOk w' 20 d ∧ Below w.heap.size w w'
set_option maxRecDepth 100000 in
set_option maxHeartbeats 4000000 in
theorem ledger20_any (l : List OpD) (A : Option Addr) (c B : Nat) (w : World) (hr : Rd w B A (rowsV opC l)) (hs : ∀ o ∈ l, OpSee w B o) (hB : B ≤ w.heap.size) (hl : (l.length : Int) ≤ 9223372036854775807) :
    Calls Try.prog 6 #[.slice A l.length c] w (LgPost w) := by
  have hul := Try.underlying33
  have huo := Try.underlying47
  obtain ⟨n, hn⟩ : ∃ n, n = l.length := ⟨_, rfl⟩
  rw [← hn] at hl ⊢
  have HN := Lib.hid hn
  have HR := Lib.hid hr
  have HSE := Lib.hid hs
  have HBB := Lib.hid hB
  obtain ⟨W0, hW0⟩ : ∃ W0, W0 = (w.alloc (.cells (ledCells zLed) 33)).alloc (.cells (ledCells zLed) 33) := ⟨_, rfl⟩
  have hb0 : Below w.heap.size w W0 := by rw [hW0]; exact ((Below.refl _ w).alloc (Nat.le_refl _) _).alloc (by simp) _
  have HB0 := Lib.hid hb0
  have HZ0 := Lib.hid (show Blk W0 w.heap.size 33 (ledCells zLed) by rw [hW0]; exact (Blk.new _ _ _).alloc _)
  have HL0 := Lib.hid (show Blk W0 (w.heap.size + 1) 33 (ledCells zLed) by rw [hW0]; have := Blk.new (w.alloc (.cells (ledCells zLed) 33)) 33 (ledCells zLed); simpa using this)
  have HW0 := Lib.hid hW0
  obtain ⟨mn, hmn⟩ : ∃ mn, mn = min n 20 := ⟨_, rfl⟩
  have HMN := Lib.hid hmn
  clear hr hs hB hn hW0 hb0 hmn
  go_enter Try.func6, Try.ntmps6
  go_upto_region 2 with (fail)
  rw [show (w.alloc (.cells #[.slice none 0 0, .slice none 0 0, .slice none 0 0, .slice none 0 0, .slice none 0 0, .slice none 0 0] 33)).alloc (.cells #[.slice none 0 0, .slice none 0 0, .slice none 0 0, .slice none 0 0, .slice none 0 0, .slice none 0 0] 33) = W0 from HW0.out.symm]
  go_wp2_with fail
  go_loopw [4] (fun x wr => ∃ (i : Nat) (d : LedD), i ≤ mn ∧ x = .int .i64 (i : Int) ∧ LedOk wr i d ∧ Blk wr (w.heap.size + 1) 33 (ledCells d) ∧ Blk wr w.heap.size 33 (ledCells zLed) ∧ Below w.heap.size w wr) (fun x _ => mn - (intOf x).toNat)
  case atStart => exact ⟨0, zLed, Nat.zero_le _, rfl, zLed_ok _, HL0.out, HZ0.out, HB0.out⟩
  case round =>
    obtain ⟨i, d, hi, rfl, hok, hlb, hzb, hbw⟩ := hrel
    have HOK := Lib.hid hok
    have HLB := Lib.hid hlb
    have HZB := Lib.hid hzb
    have HBW := Lib.hid hbw
    clear hok hlb hzb hbw
    by_cases hlt : i < mn
    · have h1 : (i : Int) < (n : Int) := by have := HMN.out; omega
      have h2 : (i : Int) < 20 := by have := HMN.out; omega
      have hi0 : (0 : Int) ≤ (i : Int) := by omega
      have hil : i < l.length := by have := HMN.out; rw [← HN.out]; omega
      obtain ⟨ad, hA, -, hcell⟩ := rd_rows (f := opC) (m := 24) (fun _ => rfl) (by decide) (HR.out.below (HBW.out.mono HBB.out)) hil
      subst hA
      obtain ⟨X, hX⟩ : ∃ X, X = l[i] := ⟨_, rfl⟩
      rw [← hX] at hcell
      have HCL := Lib.hid (show ∀ u, Below w.heap.size w u → ∀ j v, (opC X).toList[j]? = some v → u.cell? ((ad.add (i * 24)).add j) = some v from fun u hu j v hv => by
        obtain ⟨ad', e, -, hc⟩ := rd_rows (f := opC) (m := 24) (fun _ => rfl) (by decide) (HR.out.below (hu.mono HBB.out)) hil
        injection e with e
        subst e
        rw [← hX] at hc
        exact hc j v (by simpa using hv))
      have HCT := Lib.hid (show ∀ u, Below w.heap.size w u → Calls Try.prog 17 #[.agg (opC X)] u (CtPost u) from fun u hu => by
        obtain ⟨⟨l1, h1, h2⟩, ⟨l2, h3, h4⟩, h5, h6⟩ := HSE.out X (by rw [hX]; exact List.getElem_mem hil)
        exact cut15_any X B u ⟨⟨l1, h1, h2.below (hu.mono HBB.out)⟩, ⟨l2, h3, h4.below (hu.mono HBB.out)⟩, h5, h6⟩ (Nat.le_trans HBB.out hu.size))
      have HLT := Lib.hid hlt
      have hi20 : i ≤ 900 := by omega
      have CA := Lib.hid (show ∀ u o', LedOk u i d → OpIn u o' → Calls Try.prog 16 #[.agg (ledCells d), .agg (opC o')] u (ApPost i u) from fun u o' hu ho => apply15_any d o' i u hu hi20 ho)
      clear hX hcell hil hlt
      go_wp2_with fail
      have HC0 : Below w.heap.size w wr.drew := HBW.out.drew
      have hdw : Below wr.heap.size wr wr.drew := (Below.refl _ _).drew
      have HI0 : Blk wr.drew (w.heap.size + 1) 33 (ledCells d) ∧ Blk wr.drew w.heap.size 33 (ledCells zLed) ∧ LedOk wr.drew i d := ⟨HLB.out.below hdw HLB.out.lt, HZB.out.below hdw HZB.out.lt, HOK.out.grow hdw⟩
      refine wp_region_list (fun u => Below w.heap.size w u) (fun | false => (fun u => Blk u (w.heap.size + 1) 33 (ledCells d) ∧ Blk u w.heap.size 33 (ledCells zLed) ∧ LedOk u i d) | true => (fun _ => True)) (fun | false, i => i == 10 | true, _ => false)
        [fun z _ => z 0 = .agg (ledCells d),
         fun z _ => z 1 = .slice (some ad) n c,
         fun z _ => z 2 = .int .i64 (i : Int),
         fun z _ => z 3 = .pointer (some (ad.add (i * 24))),
         fun z _ => z 4 = .agg (opC X),
         fun z u => (fun v u => ∃ o', v = .agg (opC o') ∧ OpIn u o') (z 5) u,
         fun z u => (fun v u => ∃ (d2 : LedD) (f : Int), v = .tuple #[.agg (ledCells d2), .int .i64 f] ∧ LedOk u (i + 1) d2) (z 6) u,
         fun z u => (fun v u => ∃ (d2 : LedD) (f : Int), v = .tuple #[.agg (ledCells d2), .int .i64 f] ∧ LedOk u (i + 1) d2) (z 7) u,
         fun z u => (fun v u => ∃ d2 : LedD, v = .agg (ledCells d2) ∧ LedOk u (i + 1) d2) (z 8) u,
         fun _ _ => True,
         fun z u => ∃ d2 : LedD, LedOk u (i + 1) d2 ∧ Blk u (w.heap.size + 1) 33 (ledCells d2) ∧ Blk u w.heap.size 33 (ledCells zLed)]
        [Eq, Eq, Eq, Eq, Eq, fun u u' => Below u.heap.size u u', fun u u' => Below u.heap.size u u', Eq, Eq, Eq, KeepBut 33]
        (fun i k => (i == 10 && k == 5) || (i == 10 && k == 6) || (i == 10 && k == 8)) [(0, some 16), (1, some 17), (2, some 18), (3, some 19), (4, some 20), (5, some 21), (6, some 22), (7, some 15), (8, some 23), (9, some 24), (10, none)] (by kernel_rfl) (by kernel_rfl) rfl (fun _ => rfl) ?_ ?_ ?_ ?_ ?_ ?_
      · exact HC0
      · intro m; cases m; exact HI0; exact trivial
      · intro m; cases m
        · exact ⟨.inr (fun _ _ h h0 => h ▸ h0), .inr (fun _ _ h h0 => h ▸ h0), .inr (fun _ _ h h0 => h ▸ h0), .inr (fun _ _ h h0 => h ▸ h0), .inr (fun _ _ h h0 => h ▸ h0), .inr (fun _ _ h h0 => ⟨h0.1.below h h0.1.lt, h0.2.1.below h h0.2.1.lt, h0.2.2.grow h⟩), .inr (fun _ _ h h0 => ⟨h0.1.below h h0.1.lt, h0.2.1.below h h0.2.1.lt, h0.2.2.grow h⟩), .inr (fun _ _ h h0 => h ▸ h0), .inr (fun _ _ h h0 => h ▸ h0), .inr (fun _ _ h h0 => h ▸ h0), .inl rfl, trivial⟩
        · exact ⟨.inr (fun _ _ h h0 => h ▸ h0), .inr (fun _ _ h h0 => h ▸ h0), .inr (fun _ _ h h0 => h ▸ h0), .inr (fun _ _ h h0 => h ▸ h0), .inr (fun _ _ h h0 => h ▸ h0), .inr (fun _ _ _ h => h), .inr (fun _ _ _ h => h), .inr (fun _ _ h h0 => h ▸ h0), .inr (fun _ _ h h0 => h ▸ h0), .inr (fun _ _ h h0 => h ▸ h0), .inr (fun _ _ _ h => h), trivial⟩
      · exact ⟨⟨.inl rfl, .inr (.inr (.inr (fun _ _ _ _ _ h => h))), .inr (.inr (.inr (fun _ _ _ _ _ h => h))), .inr (.inr (.inr (fun _ _ _ _ _ h => h))), .inr (.inr (.inr (fun _ _ _ _ _ h => h))), .inr (.inr (.inr (fun _ _ _ _ h h0 => by cases h; exact h0))), .inr (.inr (.inl rfl)), .inr (.inr (.inl rfl)), .inr (.inr (.inl rfl)), .inr (.inr (.inl rfl)), .inr (.inr (.inl rfl)), trivial⟩,
          ⟨.inr (.inr (.inr (fun _ _ _ _ _ h => h))), .inl rfl, .inr (.inr (.inr (fun _ _ _ _ _ h => h))), .inr (.inr (.inl rfl)), .inr (.inr (.inl rfl)), .inr (.inr (.inl rfl)), .inr (.inr (.inr (fun _ _ _ _ h h0 => by cases h; exact h0))), .inr (.inr (.inr (fun _ _ _ _ h h0 => by cases h; exact h0))), .inr (.inr (.inr (fun _ _ _ _ h h0 => by cases h; exact h0))), .inr (.inr (.inr (fun _ _ _ _ _ _ => trivial))), .inr (.inr (.inl rfl)), trivial⟩,
          ⟨.inr (.inr (.inr (fun _ _ _ _ _ h => h))), .inr (.inr (.inr (fun _ _ _ _ _ h => h))), .inl rfl, .inr (.inr (.inl rfl)), .inr (.inr (.inl rfl)), .inr (.inr (.inl rfl)), .inr (.inr (.inr (fun _ _ _ _ h h0 => by cases h; exact h0))), .inr (.inr (.inr (fun _ _ _ _ h h0 => by cases h; exact h0))), .inr (.inr (.inr (fun _ _ _ _ h h0 => by cases h; exact h0))), .inr (.inr (.inr (fun _ _ _ _ _ _ => trivial))), .inr (.inr (.inl rfl)), trivial⟩,
          ⟨.inr (.inr (.inr (fun _ _ _ _ _ h => h))), .inr (.inr (.inr (fun _ _ _ _ _ h => h))), .inr (.inr (.inr (fun _ _ _ _ _ h => h))), .inl rfl, .inr (.inr (.inl rfl)), .inr (.inr (.inl rfl)), .inr (.inr (.inl rfl)), .inr (.inr (.inr (fun _ _ _ _ h h0 => by cases h; exact h0))), .inr (.inr (.inr (fun _ _ _ _ h h0 => by cases h; exact h0))), .inr (.inr (.inr (fun _ _ _ _ _ _ => trivial))), .inr (.inr (.inl rfl)), trivial⟩,
          ⟨.inr (.inr (.inr (fun _ _ _ _ _ h => h))), .inr (.inr (.inr (fun _ _ _ _ _ h => h))), .inr (.inr (.inr (fun _ _ _ _ _ h => h))), .inr (.inr (.inr (fun _ _ _ _ _ h => h))), .inl rfl, .inr (.inr (.inl rfl)), .inr (.inr (.inl rfl)), .inr (.inr (.inl rfl)), .inr (.inr (.inr (fun _ _ _ _ h h0 => by cases h; exact h0))), .inr (.inr (.inr (fun _ _ _ _ _ _ => trivial))), .inr (.inr (.inl rfl)), trivial⟩,
          ⟨.inr (.inr (.inr (fun _ _ _ _ _ h => h))), .inr (.inr (.inr (fun _ _ _ _ _ h => h))), .inr (.inr (.inr (fun _ _ _ _ _ h => h))), .inr (.inr (.inr (fun _ _ _ _ _ h => h))), .inr (.inr (.inr (fun _ _ _ _ _ h => h))), .inl rfl, .inr (.inr (.inl rfl)), .inr (.inr (.inl rfl)), .inr (.inr (.inl rfl)), .inr (.inr (.inl rfl)), .inr (.inr (.inl rfl)), trivial⟩,
          ⟨.inr (.inr (.inr (fun _ _ _ _ _ h => h))), .inr (.inr (.inr (fun _ _ _ _ _ h => h))), .inr (.inr (.inr (fun _ _ _ _ _ h => h))), .inr (.inr (.inr (fun _ _ _ _ _ h => h))), .inr (.inr (.inr (fun _ _ _ _ _ h => h))), .inr (.inr (.inr (fun _ _ _ _ h h0 => by obtain ⟨o', e, hi⟩ := h0; exact ⟨o', e, hi.grow h⟩))), .inl rfl, .inr (.inr (.inl rfl)), .inr (.inr (.inl rfl)), .inr (.inr (.inl rfl)), .inr (.inr (.inl rfl)), trivial⟩,
          ⟨.inr (.inr (.inr (fun _ _ _ _ _ h => h))), .inr (.inr (.inr (fun _ _ _ _ _ h => h))), .inr (.inr (.inr (fun _ _ _ _ _ h => h))), .inr (.inr (.inr (fun _ _ _ _ _ h => h))), .inr (.inr (.inr (fun _ _ _ _ _ h => h))), .inr (.inr (.inr (fun _ _ _ _ h h0 => by cases h; exact h0))), .inr (.inr (.inr (fun _ _ _ _ h h0 => by cases h; exact h0))), .inl rfl, .inr (.inr (.inl rfl)), .inr (.inr (.inl rfl)), .inr (.inr (.inl rfl)), trivial⟩,
          ⟨.inr (.inr (.inr (fun _ _ _ _ _ h => h))), .inr (.inr (.inr (fun _ _ _ _ _ h => h))), .inr (.inr (.inr (fun _ _ _ _ _ h => h))), .inr (.inr (.inr (fun _ _ _ _ _ h => h))), .inr (.inr (.inr (fun _ _ _ _ _ h => h))), .inr (.inr (.inr (fun _ _ _ _ h h0 => by cases h; exact h0))), .inr (.inr (.inr (fun _ _ _ _ h h0 => by cases h; exact h0))), .inr (.inr (.inr (fun _ _ _ _ h h0 => by cases h; exact h0))), .inl rfl, .inr (.inr (.inr (fun _ _ _ _ _ _ => trivial))), .inr (.inr (.inl rfl)), trivial⟩,
          ⟨.inr (.inr (.inr (fun _ _ _ _ _ h => h))), .inr (.inr (.inr (fun _ _ _ _ _ h => h))), .inr (.inr (.inr (fun _ _ _ _ _ h => h))), .inr (.inr (.inr (fun _ _ _ _ _ h => h))), .inr (.inr (.inr (fun _ _ _ _ _ h => h))), .inr (.inr (.inr (fun _ _ _ _ h h0 => by cases h; exact h0))), .inr (.inr (.inr (fun _ _ _ _ h h0 => by cases h; exact h0))), .inr (.inr (.inr (fun _ _ _ _ h h0 => by cases h; exact h0))), .inr (.inr (.inr (fun _ _ _ _ h h0 => by cases h; exact h0))), .inl rfl, .inr (.inr (.inr (fun _ _ _ _ h h0 => by cases h; exact h0))), trivial⟩,
          ⟨.inr (.inr (.inr (fun _ _ _ _ _ h => h))), .inr (.inr (.inr (fun _ _ _ _ _ h => h))), .inr (.inr (.inr (fun _ _ _ _ _ h => h))), .inr (.inr (.inr (fun _ _ _ _ _ h => h))), .inr (.inr (.inr (fun _ _ _ _ _ h => h))), .inr (.inl rfl), .inr (.inl rfl), .inr (.inr (.inr (fun _ _ _ _ h h0 => by obtain ⟨d2, f, e, hi⟩ := h0; exact ⟨d2, f, e, hi.box h⟩))), .inr (.inl rfl), .inr (.inr (.inr (fun _ _ _ _ _ _ => trivial))), .inl rfl, trivial⟩, trivial⟩
      · refine ⟨?_, ?_, ?_, ?_, ?_, ?_, ?_, ?_, ?_, ?_, ?_, trivial⟩
        · -- 0: Op.load 33 (Operand.tmp 3)
          refine step_plain [] (fun _ => rfl) rfl ?_
          intro w1 vals hC1 hi0 hf E hE
          have hI1 : (fun u => Blk u (w.heap.size + 1) 33 (ledCells d) ∧ Blk u w.heap.size 33 (ledCells zLed) ∧ LedOk u i d) w1 := hi0 false rfl
          try dsimp only at hI1
          clear hi0
          clear hf
          have HI1 := Lib.hid hI1
          clear hI1
          simp only [puts, act_put, act_put_none, List.setIfInBounds_toArray, List.set_cons_zero, List.set_cons_succ] at hE ⊢
          refine wpList_get_box (cs := ledCells d) HI1.out.1 rfl rfl rfl hul rfl ledT2_size ?_
          go_wp2_with fail
          exact .mk (hE _ _ rfl hC1 rfl)
        · -- 1: Op.move (Operand.tmp 0)
          refine step_plain [] (fun _ => rfl) rfl ?_
          intro w1 vals hC1 hi0 hf E hE
          have hI1 : (fun u => Blk u (w.heap.size + 1) 33 (ledCells d) ∧ Blk u w.heap.size 33 (ledCells zLed) ∧ LedOk u i d) w1 := hi0 false rfl
          try dsimp only at hI1
          clear hi0
          clear hf
          clear hI1
          simp only [puts, act_put, act_put_none, List.setIfInBounds_toArray, List.set_cons_zero, List.set_cons_succ] at hE ⊢
          go_wp2
          exact .mk (hE _ _ rfl hC1 rfl)
        · -- 2: Op.move (Operand.tmp 4)
          refine step_plain [] (fun _ => rfl) rfl ?_
          intro w1 vals hC1 hi0 hf E hE
          have hI1 : (fun u => Blk u (w.heap.size + 1) 33 (ledCells d) ∧ Blk u w.heap.size 33 (ledCells zLed) ∧ LedOk u i d) w1 := hi0 false rfl
          try dsimp only at hI1
          clear hi0
          clear hf
          clear hI1
          simp only [puts, act_put, act_put_none, List.setIfInBounds_toArray, List.set_cons_zero, List.set_cons_succ] at hE ⊢
          go_wp2
          exact .mk (hE _ _ rfl hC1 rfl)
        · -- 3: Op.indexAddr 22 (Operand.tmp 17) (Operand.tmp 18)
          refine step_plain [(1, some 17), (2, some 18)] (fun _ => rfl) rfl ?_
          intro w1 vals hC1 hi0 hf E hE
          have hI1 : (fun u => Blk u (w.heap.size + 1) 33 (ledCells d) ∧ Blk u w.heap.size 33 (ledCells zLed) ∧ LedOk u i d) w1 := hi0 false rfl
          try dsimp only at hI1
          clear hi0
          have f1 : vals 1 = .slice (some ad) n c := hf 1 rfl
          have f2 : vals 2 = .int .i64 (i : Int) := hf 2 rfl
          try dsimp only at f1 f2
          clear hf
          clear hI1
          simp only [puts, act_put, act_put_none, List.setIfInBounds_toArray, List.set_cons_zero, List.set_cons_succ, f1, f2] at hE ⊢
          clear f1 f2
          go_wp2
          exact .mk (hE _ _ rfl hC1 rfl)
        · -- 4: Op.load 47 (Operand.tmp 19)
          refine step_plain [(3, some 19)] (fun _ => rfl) rfl ?_
          intro w1 vals hC1 hi0 hf E hE
          have hI1 : (fun u => Blk u (w.heap.size + 1) 33 (ledCells d) ∧ Blk u w.heap.size 33 (ledCells zLed) ∧ LedOk u i d) w1 := hi0 false rfl
          try dsimp only at hI1
          clear hi0
          have f3 : vals 3 = .pointer (some (ad.add (i * 24))) := hf 3 rfl
          try dsimp only at f3
          clear hf
          clear hI1
          simp only [puts, act_put, act_put_none, List.setIfInBounds_toArray, List.set_cons_zero, List.set_cons_succ, f3] at hE ⊢
          clear f3
          refine wpList_get_rd (r := (opC X).toList) (HCL.out _ hC1) rfl rfl rfl huo rfl opO_size ?_
          go_wp2_with fail
          exact .mk (hE _ _ rfl hC1 rfl)
        · -- 5: Op.call { callee := Callee.value (Operand.func 17), args := #[Operand.tmp 20], argTypes := #[47] }
          refine step_plain [(4, some 20)] (fun _ => rfl) rfl ?_
          intro w1 vals hC1 hi0 hf E hE
          have hI1 : (fun u => Blk u (w.heap.size + 1) 33 (ledCells d) ∧ Blk u w.heap.size 33 (ledCells zLed) ∧ LedOk u i d) w1 := hi0 false rfl
          try dsimp only at hI1
          clear hi0
          have f4 : vals 4 = .agg (opC X) := hf 4 rfl
          try dsimp only at f4
          clear hf
          clear hI1
          simp only [puts, act_put, act_put_none, List.setIfInBounds_toArray, List.set_cons_zero, List.set_cons_succ, f4] at hE ⊢
          clear f4
          go_wp2_with fail
          refine calls_then (HCT.out _ hC1) ?_
          rintro e w2 ⟨o', rfl, hin, hb2⟩
          have HIN := Lib.hid hin
          clear hin
          go_wp2_with fail
          exact .mk (hE _ _ ⟨o', rfl, HIN.out⟩ (hC1.trans (hb2.mono hC1.size)) hb2)
        · -- 6: Op.call { callee := Callee.value (Operand.func 16), args := #[Operand.tmp 16, Operand.tmp 21], argTypes := #[3
          refine step_plain [(0, some 16), (5, some 21), (5, some 21)] (fun _ => rfl) rfl ?_
          intro w1 vals hC1 hi0 hf E hE
          have hI1 : (fun u => Blk u (w.heap.size + 1) 33 (ledCells d) ∧ Blk u w.heap.size 33 (ledCells zLed) ∧ LedOk u i d) w1 := hi0 false rfl
          try dsimp only at hI1
          clear hi0
          have f0 : vals 0 = .agg (ledCells d) := hf 0 rfl
          have f5 : (fun v u => ∃ o', v = .agg (opC o') ∧ OpIn u o') (vals 5) w1 := hf 5 rfl
          try dsimp only at f0 f5
          clear hf
          have HI1 := Lib.hid hI1
          clear hI1
          obtain ⟨o', hx5, hin⟩ := f5
          have HIN := Lib.hid hin
          clear hin
          simp only [puts, act_put, act_put_none, List.setIfInBounds_toArray, List.set_cons_zero, List.set_cons_succ, f0, hx5] at hE ⊢
          clear f0
          clear hx5
          go_wp2_with fail
          refine calls_then (CA.out _ o' HI1.out.2.2 HIN.out) ?_
          rintro e w2 ⟨d2, f, rfl, hok2, hb2⟩
          have HOK2 := Lib.hid hok2
          clear hok2
          go_wp2_with fail
          exact .mk (hE _ _ ⟨d2, f, rfl, HOK2.out⟩ (hC1.trans (hb2.mono hC1.size)) hb2)
        · -- 7: Op.move (Operand.tmp 22)
          refine step_plain [(6, some 22)] (fun _ => rfl) rfl ?_
          intro w1 vals hC1 hi0 hf E hE
          have hI1 : (fun u => Blk u (w.heap.size + 1) 33 (ledCells d) ∧ Blk u w.heap.size 33 (ledCells zLed) ∧ LedOk u i d) w1 := hi0 false rfl
          try dsimp only at hI1
          clear hi0
          have f6 : (fun v u => ∃ (d2 : LedD) (f : Int), v = .tuple #[.agg (ledCells d2), .int .i64 f] ∧ LedOk u (i + 1) d2) (vals 6) w1 := hf 6 rfl
          try dsimp only at f6
          clear hf
          clear hI1
          obtain ⟨d2, f, hx6, hok2⟩ := f6
          have HOK2 := Lib.hid hok2
          clear hok2
          simp only [puts, act_put, act_put_none, List.setIfInBounds_toArray, List.set_cons_zero, List.set_cons_succ, hx6] at hE ⊢
          clear hx6
          go_wp2
          exact .mk (hE _ _ ⟨d2, f, rfl, HOK2.out⟩ hC1 rfl)
        · -- 8: Op.extract (Operand.tmp 15) 0
          refine step_plain [(7, some 15)] (fun _ => rfl) rfl ?_
          intro w1 vals hC1 hi0 hf E hE
          have hI1 : (fun u => Blk u (w.heap.size + 1) 33 (ledCells d) ∧ Blk u w.heap.size 33 (ledCells zLed) ∧ LedOk u i d) w1 := hi0 false rfl
          try dsimp only at hI1
          clear hi0
          have f7 : (fun v u => ∃ (d2 : LedD) (f : Int), v = .tuple #[.agg (ledCells d2), .int .i64 f] ∧ LedOk u (i + 1) d2) (vals 7) w1 := hf 7 rfl
          try dsimp only at f7
          clear hf
          clear hI1
          obtain ⟨d2, f, hx7, hok2⟩ := f7
          have HOK2 := Lib.hid hok2
          clear hok2
          simp only [puts, act_put, act_put_none, List.setIfInBounds_toArray, List.set_cons_zero, List.set_cons_succ, hx7] at hE ⊢
          clear hx7
          go_wp2
          exact .mk (hE _ _ ⟨d2, rfl, HOK2.out⟩ hC1 rfl)
        · -- 9: Op.extract (Operand.tmp 15) 1
          refine step_plain [(7, some 15)] (fun _ => rfl) rfl ?_
          intro w1 vals hC1 hi0 hf E hE
          clear hi0
          have f7 : (fun v u => ∃ (d2 : LedD) (f : Int), v = .tuple #[.agg (ledCells d2), .int .i64 f] ∧ LedOk u (i + 1) d2) (vals 7) w1 := hf 7 rfl
          try dsimp only at f7
          clear hf
          obtain ⟨d2, f, hx7, hok2⟩ := f7
          clear hok2
          simp only [puts, act_put, act_put_none, List.setIfInBounds_toArray, List.set_cons_zero, List.set_cons_succ, hx7] at hE ⊢
          clear hx7
          go_wp2
          exact .mk (hE _ _ trivial hC1 rfl)
        · -- 10: Op.store 33 (Operand.tmp 3) (Operand.tmp 23)
          refine step_plain [(8, some 23), (6, some 22), (0, some 16), (1, some 17), (2, some 18), (3, some 19), (4, some 20), (5, some 21), (6, some 22), (7, some 15), (8, some 23)] (fun _ => rfl) rfl ?_
          intro w1 vals hC1 hi0 hf E hE
          have hI1 : (fun u => Blk u (w.heap.size + 1) 33 (ledCells d) ∧ Blk u w.heap.size 33 (ledCells zLed) ∧ LedOk u i d) w1 := hi0 false rfl
          try dsimp only at hI1
          clear hi0
          have f0 : vals 0 = .agg (ledCells d) := hf 0 rfl
          have f1 : vals 1 = .slice (some ad) n c := hf 1 rfl
          have f2 : vals 2 = .int .i64 (i : Int) := hf 2 rfl
          have f3 : vals 3 = .pointer (some (ad.add (i * 24))) := hf 3 rfl
          have f4 : vals 4 = .agg (opC X) := hf 4 rfl
          have f5 : (fun v u => ∃ o', v = .agg (opC o') ∧ OpIn u o') (vals 5) w1 := hf 5 rfl
          have f6 : (fun v u => ∃ (d2 : LedD) (f : Int), v = .tuple #[.agg (ledCells d2), .int .i64 f] ∧ LedOk u (i + 1) d2) (vals 6) w1 := hf 6 rfl
          have f7 : (fun v u => ∃ (d2 : LedD) (f : Int), v = .tuple #[.agg (ledCells d2), .int .i64 f] ∧ LedOk u (i + 1) d2) (vals 7) w1 := hf 7 rfl
          have f8 : (fun v u => ∃ d2 : LedD, v = .agg (ledCells d2) ∧ LedOk u (i + 1) d2) (vals 8) w1 := hf 8 rfl
          try dsimp only at f0 f1 f2 f3 f4 f5 f6 f7 f8
          clear hf
          have HI1 := Lib.hid hI1
          clear hI1
          obtain ⟨d2, hx8, hok2⟩ := f8
          have HOK2 := Lib.hid hok2
          clear hok2
          simp only [puts, act_put, act_put_none, List.setIfInBounds_toArray, List.set_cons_zero, List.set_cons_succ, f0, f1, f2, f3, f4, hx8] at hE ⊢
          clear f0 f1 f2 f3 f4
          clear hx8
          refine wpList_put_box (cells := ledCells d2) HI1.out.1 rfl rfl rfl rfl ledT2_size rfl (ledCells_one _) ?_
          intro w3 hb3 hw3
          go_wp2_with fail
          exact .mk (hE undef _ ⟨d2, HOK2.out.wrote HI1.out.1 hw3, hb3, hw3.blk HI1.out.2.1 (by omega)⟩ (hw3.below hC1 (by omega) hC1.size) (KeepBut.of_wrote hw3 HI1.out.1))
      intro w1 vals hC1 hf
      have f0 : vals 0 = .agg (ledCells d) := hf 0 (by decide) rfl
      have f1 : vals 1 = .slice (some ad) n c := hf 1 (by decide) rfl
      have f2 : vals 2 = .int .i64 (i : Int) := hf 2 (by decide) rfl
      have f3 : vals 3 = .pointer (some (ad.add (i * 24))) := hf 3 (by decide) rfl
      have f4 : vals 4 = .agg (opC X) := hf 4 (by decide) rfl
      have f7 : (fun v u => ∃ (d2 : LedD) (f : Int), v = .tuple #[.agg (ledCells d2), .int .i64 f] ∧ LedOk u (i + 1) d2) (vals 7) w1 := hf 7 (by decide) rfl
      have f10 : (fun z u => ∃ d2 : LedD, LedOk u (i + 1) d2 ∧ Blk u (w.heap.size + 1) 33 (ledCells d2) ∧ Blk u w.heap.size 33 (ledCells zLed)) vals w1 := hf 10 (by decide) rfl
      try dsimp only at f0 f1 f2 f3 f4 f7 f10
      clear hf
      simp only [puts, act_put, act_put_none, List.setIfInBounds_toArray, List.set_cons_zero, List.set_cons_succ, f0, f1, f2, f3, f4]
      clear f0 f1 f2 f3 f4
      generalize vals 5 = x5 at *
      generalize vals 6 = x6 at *
      generalize vals 7 = x7 at *
      generalize vals 8 = x8 at *
      generalize vals 9 = x9 at *
      obtain ⟨d2, hok2, hb2, hz2⟩ := f10
      have HFN := Lib.hid (show LedOk w1 (i + 1) d2 ∧ Blk w1 (w.heap.size + 1) 33 (ledCells d2) ∧ Blk w1 w.heap.size 33 (ledCells zLed) ∧ Below w.heap.size w w1 from ⟨hok2, hb2, hz2, hC1⟩)
      clear hC1 HC0 HI0 hok2 hb2 hz2 hdw
      go_wp2_with fail
      go_roundw
      case rel => exact ⟨i + 1, d2, HLT.out, by go_num, HFN.out⟩
      case measure => have := HLT.out; simp [intOf]; omega
    · have hor : ¬ ((i : Int) < (n : Int)) ∨ ((i : Int) < (n : Int) ∧ ¬ (i : Int) < 20) := by have := HMN.out; omega
      have HI20 := Lib.hid (show i ≤ 20 by have := HMN.out; omega)
      clear hlt
      rcases hor with hor | ⟨hor, hor2⟩
      · go_wp2_with (first
          | refine wpList_get_box (x := .tmp 3) (cs := ledCells d) HLB.out rfl rfl rfl hul rfl ledT2_size ?_
          | (refine wpList_put_box (x := .tmp 2) (cells := ledCells d) HZB.out rfl rfl rfl rfl ledT2_size rfl (ledCells_one _) ?_; intro w9 hb9 hw9))
        have HB9 := Lib.hid hb9
        have HFN := Lib.hid (show LgPost w (.returned (.agg (ledCells d))) w9 from ⟨d, rfl, (HOK.out.wrote HZB.out hw9).more HI20.out, hw9.below HBW.out (Nat.le_refl _) HBW.out.size⟩)
        refine bodyPost_ret (results_box (P := Try.prog) rfl rfl HB9.out hul rfl ledT2_size) rfl ?_
        exact HFN.out
      · go_wp2_with (first
          | refine wpList_get_box (x := .tmp 3) (cs := ledCells d) HLB.out rfl rfl rfl hul rfl ledT2_size ?_
          | (refine wpList_put_box (x := .tmp 2) (cells := ledCells d) HZB.out rfl rfl rfl rfl ledT2_size rfl (ledCells_one _) ?_; intro w9 hb9 hw9))
        have HB9 := Lib.hid hb9
        have HFN := Lib.hid (show LgPost w (.returned (.agg (ledCells d))) w9 from ⟨d, rfl, (HOK.out.wrote HZB.out hw9).more HI20.out, hw9.below HBW.out (Nat.le_refl _) HBW.out.size⟩)
        refine bodyPost_ret (results_box (P := Try.prog) rfl rfl HB9.out hul rfl ledT2_size) rfl ?_
        exact HFN.out
end Go.Proofs.Ytcnebbhnpocofaa
