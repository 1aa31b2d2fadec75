/-
  Joined texts: Do3 Ap3.
-/
import Derived.Test.YtilhhigdegccgaaDoorJ33
import Derived.Test.YtilhhigdegccgaaDoorJ35
import Derived.Test.YtilhhigdegccgaaDoorJ38
import Derived.Test.YtilhhigdegccgaaDoorJ39
import Derived.Test.YtilhhigdegccgaaDoorJ40
/-
  Walk: brevetref15.does, and what it does to tokens and nodes. (Printed by gen/conv3.py.)
-/
namespace Go.Proofs.YtilhhigdegccgaaDoor
set_option linter.unusedSimpArgs false
set_option linter.unusedVariables false
open Go.RowKit
theorem NdPostR.post {base g K : Nat} {d : LedD} {o : OpD} {w w' : World} {e : Ending} (h : NdPostR d o.node base g K w e w') (hk : o.kind = 5) : DoPostR d o base g K w e w' := by
  obtain ⟨s, f, h1, h2, h3, h4⟩ := h
  exact ⟨_, f, h1, h2, h3, ⟨fun hi => h4.inv hi, fun _ a b => h4.done a b, fun e => by rw [hk] at e; cases e⟩⟩
set_option maxRecDepth 100000 in
set_option maxHeartbeats 8000000 in
theorem does15r_any (d : LedD) (o : OpD) (base g K : Nat) (w : World) (h : LW w base g K d) (hK : K ≤ 900) (ho : OpIn w o) :
    Calls Tryd.prog 26 #[.pointer (some ⟨g, 0, none⟩), .agg (opC o)] w (DoPostR d o base g K w) := by
  have hue := Tryd.underlying36
  have hun := Tryd.underlying40
  have huo := Tryd.underlying47
  obtain ⟨W0, hW0⟩ : ∃ W0, W0 = w.alloc (.cells (opC o) 47) := ⟨_, rfl⟩
  have hb0 : Below w.heap.size w W0 := by rw [hW0]; exact (Below.refl _ w).alloc (Nat.le_refl _) _
  have hbs : base ≤ w.heap.size := Nat.le_of_lt (Nat.lt_of_le_of_lt h.hg h.box.lt)
  have HBS := Lib.hid hbs
  have HB0 := Lib.hid (hb0.mono hbs)
  have HK0 := Lib.hid (show Blk W0 w.heap.size 47 (opC o) by rw [hW0]; exact Blk.new _ _ _)
  have H0 := Lib.hid (h.below hb0)
  have HW0 := Lib.hid hW0
  have HKK := Lib.hid hK
  have HOI := Lib.hid (ho.grow hb0)
  obtain ⟨le, hle⟩ : ∃ le, le = d.ents := ⟨_, rfl⟩
  have HLE := Lib.hid hle
  have HEL := Lib.hid (show le.l.length ≤ K by rw [hle]; exact H0.out.ll.ents.len)
  have hel : (le.l.length : Int) ≤ 900 := by have := HEL.out; omega
  have HNO1 := Lib.hid (fun (hk : o.kind ≠ 4 ∧ o.kind ≠ 5) => DoPostR.no (w := w) hk H0.out HB0.out)
  have a0 : W0.cell? ⟨g, 0, none⟩ = some (.slice le.A le.l.length le.c) := by rw [hle]; exact H0.out.box.cell 0
  have b0 : W0.cell? ⟨w.heap.size, 0, none⟩ = some (.int .i64 o.kind) := HK0.out.cell 0
  have b1 : W0.cell? ⟨w.heap.size, 1, none⟩ = some (.int .i64 o.n) := HK0.out.cell 1
  clear hW0 hb0 h hbs hK ho hle
  go_enter Tryd.func26, Tryd.ntmps26
  go_upto_region 1 with (fail)
  rw [show w.alloc (.cells (opC o) 47) = W0 from HW0.out.symm]
  obtain ⟨AV, hAV⟩ : ∃ AV, AV = Value.agg (opC o) := ⟨_, rfl⟩
  rw [← hAV]
  have HAV := Lib.hid hAV
  obtain ⟨kd, hkd⟩ : ∃ kd, kd = o.kind := ⟨_, rfl⟩
  rw [← hkd] at b0
  have HKQ := Lib.hid hkd
  clear hkd hAV
  by_cases h1 : kd = 1
  · subst h1
    have HQD := Lib.hid (show o.kind ≠ 4 ∧ o.kind ≠ 5 by rw [← HKQ.out]; decide)
    go_wp2_with (refine wpList_get_part (r := entCells o.ent) (k := 3) (n := 5) HK0.out (by simp [opC]) (opC_ent _) rfl rfl rfl hue rfl entT_size ?_)
    refine calls_then (entry15_any o.ent W0 HOI.out.ent) ?_
    rintro e w1 ⟨⟨b, rfl⟩, hb1⟩
    have H1 := Lib.hid (H0.out.below hb1)
    have HB1 := Lib.hid (HB0.out.trans (hb1.mono (Nat.le_trans HBS.out HB0.out.size)))
    have HK1 := Lib.hid (HK0.out.below hb1 HK0.out.lt)
    have HEI := Lib.hid (HOI.out.ent.grow hb1)
    have HNO := Lib.hid (DoPostR.no (w := w) HQD.out H1.out HB1.out)
    have a0 : w1.cell? ⟨g, 0, none⟩ = some (.slice le.A le.l.length le.c) := by rw [HLE.out]; exact H1.out.box.cell 0
    clear hb1
    cases b with
    | false =>
      go_wp2_with fail
      go_ret
      exact HNO.out _
    | true =>
      have CE := Lib.hid (show ∀ u, Below w1.heap.size w1 u → Calls Tryd.prog 38 #[.slice le.A le.l.length le.c, .agg (entCells o.ent)] u (ListPost 36 5 entCells le.l o.ent u) from fun u hu => by
        have hno : le.Own w1 base 36 5 entCells K := by rw [HLE.out]; exact H1.out.ll.ents
        exact entries15_any le.l (by have := HEL.out; have := HKK.out; omega) o.ent le.A le.c w1.heap.size u (hno.own.row.rd.below hu) hu.size)
      obtain ⟨wq, hwq⟩ : ∃ wq, wq = w1 := ⟨_, rfl⟩
      rw [← hwq] at H1 HB1 HK1 HEI a0 CE ⊢
      clear hwq HNO
      go_wp2_with fail
      have HC0 : Below wq.heap.size wq wq.drew := (Below.refl _ _).drew
      apply wp_region_seqh (fun u => Below wq.heap.size wq u) (fun u u' => Below u.heap.size u u') [_, _, _, _, _, _] (gOf []) 6 (by kernel_rfl) (by kernel_rfl) (by decide) (by kernel_rfl) (stabL_of _ trivial) HC0
      simp only [List.take_succ_cons, List.take_zero, List.drop_succ_cons, List.drop_zero]
      iterate 3
        ((first | (apply SeqG.next; rfl; rfl; rfl)); (simp only [act_put, act_put_none, List.setIfInBounds_toArray, List.set_cons_zero, List.set_cons_succ]; rfl); (intro w1 hC1 hf E hE; go_wp2; exact .mk (hE _ hC1 (Below.refl _ _))))
      apply SeqG.next
      · rfl
      · rfl
      · rfl
      · simp only [act_put, act_put_none, List.setIfInBounds_toArray, List.set_cons_zero, List.set_cons_succ]
        rfl
      · intro w1 hC1 hf E hE
        have d0 := (hC1.cell (p := ⟨g, 0, none⟩) H1.out.box.lt).trans a0
        go_wp2
        exact .mk (hE _ hC1 (Below.refl _ _))
      iterate 1
        ((first | (apply SeqG.next; rfl; rfl; rfl)); (simp only [act_put, act_put_none, List.setIfInBounds_toArray, List.set_cons_zero, List.set_cons_succ]; rfl); (intro w1 hC1 hf E hE; go_wp2; exact .mk (hE _ hC1 (Below.refl _ _))))
      apply SeqG.next
      · rfl
      · rfl
      · rfl
      · simp only [act_put, act_put_none, List.setIfInBounds_toArray, List.set_cons_zero, List.set_cons_succ]
        rfl
      · intro w1 hC1 hf E hE
        refine wpList_get_part (r := entCells o.ent) (k := 3) (n := 5) (HK1.out.below hC1 HK1.out.lt) (by simp [opC]) (opC_ent _) rfl rfl rfl hue rfl entT_size ?_
        go_wp2_with fail
        exact .mk (hE _ hC1 (Below.refl _ _))
      refine SeqG.nil ?_
      intro w1 hC1 hf
      clear hf
      refine SeqT.step rfl ?_
      intro E hE
      simp only [act_put, act_put_none, List.setIfInBounds_toArray, List.set_cons_zero, List.set_cons_succ] at hE
      go_wp2_with fail
      refine calls_then (CE.out _ hC1) ?_
      rintro e w5 ⟨A5, c5, xs, rfl, hlen5, hmem5, hown5, hb5⟩
      have HL5 := Lib.hid hlen5
      have HM5 := Lib.hid hmem5
      have HO5 := Lib.hid (hown5.mono hC1.size)
      have HB5 := Lib.hid (hC1.trans (hb5.mono hC1.size))
      clear hlen5 hmem5 hown5 hb5
      go_wp2_with fail
      refine .mk (hE _ _ ?_)
      clear hE E
      refine SeqT.step rfl ?_
      intro E hE
      simp only [act_put, act_put_none, List.setIfInBounds_toArray, List.set_cons_zero, List.set_cons_succ] at hE
      go_wp2
      refine .mk (hE _ _ ?_)
      clear hE E
      refine SeqT.nil ?_
      have H5 := Lib.hid (H1.out.below HB5.out)
      have HB6 := Lib.hid (HB1.out.trans (HB5.out.mono (Nat.le_trans HBS.out HB1.out.size)))
      have HNO5 := Lib.hid (DoPostR.no (w := w) HQD.out H5.out HB6.out)
      have hxl : (xs.length : Int) ≤ 1000 := by have := HL5.out; have := HEL.out; have := HKK.out; omega
      clear hC1 HC0
      by_cases h24 : (24 : Int) < (xs.length : Int)
      · go_wp2_with fail
        go_ret
        exact HNO5.out _
      · go_wp2_with (refine wpList_put_cell (i := 0) H5.out.box rfl rfl rfl rfl (by kernel_rfl) (by simp [ledCells]) rfl ?_; intro w7 hb7 hw7)
        have HFN := Lib.hid (show DoPostR d o base g K w (.returned (.int .i64 0)) w7 from ⟨_, 0, rfl, (H5.out.more (Nat.le_succ K)).ents_put (s := ⟨A5, c5, xs⟩) (KeepBut.refl _ _) ⟨HO5.out.mono (Nat.le_trans HBS.out HB1.out.size), by have := HL5.out; have := HEL.out; show xs.length ≤ K + 1; omega⟩ (fun x hx => by
          rcases HM5.out x hx with hx | rfl
          · exact H5.out.ll.entOk x (by rw [← HLE.out]; exact hx)
          · exact (HEI.out.grow HB5.out).ok) hw7 hb7, hw7.below HB6.out H1.out.hg (Nat.le_trans HBS.out HB6.out.size), .other HQD.out (fun h => h)⟩)
        go_ret
        exact HFN.out
  have e1 : (kd == (1 : Int)) = false := by simpa using h1
  clear h1
  by_cases h2 : kd = 2
  · subst h2
    have HQD := Lib.hid (show o.kind ≠ 4 ∧ o.kind ≠ 5 by rw [← HKQ.out]; decide)
    go_wp2_with fail
    go_loopw [7] (fun x wr => ∃ i : Nat, i ≤ le.l.length ∧ x = .int .i64 (i : Int) ∧ ∃ m, wr = W0.drewN m) (fun x _ => le.l.length - (intOf x).toNat)
    case atStart => exact ⟨0, Nat.zero_le _, rfl, 0, rfl⟩
    case round =>
      obtain ⟨i, hi, rfl, mm, rfl⟩ := hrel
      have HEO := Lib.hid (show le.Own W0 base 36 5 entCells K by rw [HLE.out]; exact H0.out.ll.ents)
      have H1 := Lib.hid (fun (m : Nat) => show LW (W0.drewN m) base g K d from H0.out.below (below_drewN9 (Below.refl _ _) m))
      have HB1 := Lib.hid (fun (m : Nat) => show Below base w (W0.drewN m) from below_drewN9 HB0.out m)
      by_cases hlt : i < le.l.length
      · have hlt' : (i : Int) < (le.l.length : Int) := by omega
        have hi0 : (0 : Int) ≤ (i : Int) := by omega
        obtain ⟨ad, hA, -, hcell⟩ := rd_rows (f := entCells) (m := 5) (fun _ => rfl) (by decide) HEO.out.own.row.rd hlt
        have HAA := Lib.hid hA
        obtain ⟨X, hX⟩ : ∃ X, X = le.l[i] := ⟨_, rfl⟩
        rw [← hX] at hcell
        have d0 : W0.cell? (ad.add (i * 5)) = some (.int .i64 X.n) := hcell 0 _ rfl
        have HLT := Lib.hid hlt
        by_cases hq : (X.n == o.n) = true
        · have hq2 : X.n = o.n := by simpa using hq
          have hcap := HEO.out.own.cap
          have HS1 := Lib.hid (slice_h_r (P := Tryd.prog) und_ents size_ents le.A le.l.length le.c i (by omega))
          have HS2 := Lib.hid (slice_l_r (P := Tryd.prog) und_ents size_ents le.A le.l.length le.c (i + 1) hlt)
          have HR1 := Lib.hid (rd_take_r (f := entCells) (m := 5) (fun _ => rfl) HEO.out.own.row.rd i)
          have HR2 := Lib.hid (show ∀ u, Below W0.heap.size W0 u → Rd u W0.heap.size (cutM 5 le.A le.c (i + 1)) (rowsV entCells (le.l.drop (i + 1))) from fun u hu => (rd_drop_r (f := entCells) (m := 5) (fun _ => rfl) HEO.out.own.row.rd hcap hlt).below hu)
          have HL1 := Lib.hid (show (rowsV entCells (le.l.take i)).length = i * 5 by rw [rowsV_len (f := entCells) (m := 5) (fun _ => rfl), List.length_take, Nat.min_eq_left (Nat.le_of_lt hlt)])
          have HL2 := Lib.hid (show (rowsV entCells (le.l.drop (i + 1))).length = (le.l.length - (i + 1)) * 5 by rw [rowsV_len (f := entCells) (m := 5) (fun _ => rfl), List.length_drop])
          have hi9 : i ≤ 900 := by have := HEL.out; have := HKK.out; omega
          have hl9 : le.l.length - (i + 1) ≤ 900 := by have := HEL.out; have := HKK.out; omega
          rw [hA] at a0
          clear hX hcell hlt
          go_wp2_with fail
          go_quiet (fail)
          generalize hn3 : World.drewN _ _ = w3
          have HN3 := Lib.hid (show ∃ m, w3 = W0.drewN m from ⟨_, by rw [← hn3, World.drewN_drewN]⟩)
          have H3 := Lib.hid (show LW w3 base g K d by obtain ⟨m, h⟩ := HN3.out; rw [h]; exact H1.out m)
          have HB3 := Lib.hid (show Below base w w3 by obtain ⟨m, h⟩ := HN3.out; rw [h]; exact HB1.out m)
          have HU3 := Lib.hid (show w3.heap.size = W0.heap.size ∧ Below W0.heap.size W0 w3 by obtain ⟨m, h⟩ := HN3.out; rw [h]; exact ⟨rfl, below_drewN9 (Below.refl _ _) m⟩)
          have a0 : w3.cell? ⟨g, 0, none⟩ = some (.slice le.A le.l.length le.c) := by rw [HLE.out]; exact H3.out.box.cell 0
          have HNL := Lib.hid (OwnR.nil w3 w3.heap.size 36 5)
          clear hn3 d0 hA
          go_wp2_with (first
            | ((with_reducible apply wpList_slice_k (x := .tmp 58)); (case ho => exact rfl); (case hgd => exact rfl); (case hr => exact HS1.out _))
            | ((with_reducible apply wpList_append_r (x := .tmp 60) (m := i) (news := rowsV entCells (le.l.take i)) sl_ents); (case ho => exact rfl); (case hgd => exact rfl); (case hown => exact HNL.out); (case hs => exact rfl); (case hx => exact rfl); (case hl => exact HL1.out); (case hr => exact HR1.out.below HU3.out.2); (case h1 => exact rowsV_mem entCells_one _); (case h63 => (unfold maxLen; omega)); (case hbytes => omega); (case hbase => exact Nat.le_refl _); intro A5 c5 w5 ho5 hg5 hn5; simp only [Nat.zero_add] at ho5 ⊢; have HO5 := Lib.hid ho5; have HG5 := Lib.hid (show Below w3.heap.size w3 w5 from ⟨hg5.os, hg5.tape, hg5.output, hg5.size, fun b hb => hg5.block b hb (by simp [Value.ownBlock])⟩); clear ho5 hg5 hn5; have a0 : w5.cell? ⟨g, 0, none⟩ = some (.slice le.A le.l.length le.c) := by rw [HLE.out]; exact (H3.out.box.below HG5.out H3.out.box.lt).cell 0)
            | ((with_reducible apply wpList_slice_k (x := .tmp 67) (lo := some (.tmp 69))); (case ho => exact rfl); (case hgd => exact rfl); (case hr => exact HS2.out _))
            | ((with_reducible apply wpList_append_r (x := .tmp 70) (m := le.l.length - (i + 1)) (news := rowsV entCells (le.l.drop (i + 1))) sl_ents); (case ho => exact rfl); (case hgd => exact rfl); (case hown => exact HO5.out); (case hs => exact rfl); (case hx => exact rfl); (case hl => exact HL2.out); (case hr => exact HR2.out _ (HU3.out.2.trans (HU3.out.1 ▸ HG5.out))); (case h1 => exact rowsV_mem entCells_one _); (case h63 => (unfold maxLen; omega)); (case hbytes => omega); (case hbase => exact HG5.out.size); intro A6 c6 w6 ho6 hg6 hn6; have HO6 := Lib.hid ho6; have HG6 := Lib.hid hg6; have HKB := Lib.hid ((KeepBut.of_below (e := 36) HG5.out).trans (keepBut_grown HO5.out hg6)); clear ho6 hg6 hn6)
            | (refine wpList_put_cell (i := 0) (H3.out.box.keep HKB.out (by decide)) rfl rfl rfl rfl (by kernel_rfl) (by simp [ledCells]) rfl ?_; intro w7 hb7 hw7))
          have HFN := Lib.hid (show DoPostR d o base g K w (.returned (.int .i64 0)) w7 by
            have hbg : Below base w w6 := (HB3.out.trans (HG5.out.mono (Nat.le_trans HBS.out HB3.out.size))).grown HG6.out (Nat.le_trans HBS.out (HB3.out.trans (HG5.out.mono (Nat.le_trans HBS.out HB3.out.size))).size) fun j hj => Nat.le_trans (Nat.le_trans HBS.out HB3.out.size) (HO5.out.lt j hj).1
            have hlen : (le.l.take i ++ le.l.drop (i + 1)).length = i + (le.l.length - (i + 1)) := by rw [List.length_append, List.length_take, List.length_drop, Nat.min_eq_left (Nat.le_of_lt HLT.out)]
            have hs : (⟨A6, c6, le.l.take i ++ le.l.drop (i + 1)⟩ : Sl EntD).Own w6 base 36 5 entCells K := ⟨by
              show OwnR w6 base _ 5 A6 c6 (le.l.take i ++ le.l.drop (i + 1)).length _
              rw [hlen, rowsV_append]
              have h := HO6.out.mono (Nat.le_trans HBS.out HB3.out.size)
              simpa using h, by
              show (le.l.take i ++ le.l.drop (i + 1)).length ≤ K
              rw [hlen]
              have := HEL.out
              have := HLT.out
              omega⟩
            have hv : (⟨A6, c6, le.l.take i ++ le.l.drop (i + 1)⟩ : Sl EntD).v = .slice A6 (i + (le.l.length - (i + 1))) c6 := by
              show Value.slice A6 (le.l.take i ++ le.l.drop (i + 1)).length c6 = _
              rw [hlen]
            have hoe : ∀ x ∈ le.l.take i ++ le.l.drop (i + 1), EntOk w6 x := fun x hx => by
              have hx2 : x ∈ d.ents.l := by
                rw [← HLE.out]
                rcases List.mem_append.1 hx with hx | hx
                · exact List.mem_of_mem_take hx
                · exact List.mem_of_mem_drop hx
              exact (H3.out.ll.entOk x hx2).keep HKB.out (by decide)
            exact ⟨_, 0, rfl, (H3.out.ents_put HKB.out hs hoe hw7 (by rw [hv]; exact hb7)).more (Nat.le_succ K), hw7.below hbg H3.out.hg (Nat.le_trans HBS.out hbg.size), .other HQD.out (fun h => h)⟩)
          go_ret
          exact HFN.out
        · have hq' : (X.n == o.n) = false := by simpa using hq
          rw [hA] at a0
          clear hX hcell hlt hq hA
          go_wp2_with fail
          go_quiet (fail)
          go_wp2_with fail
          go_roundw
          case rel => exact ⟨i + 1, HLT.out, by go_num, _, rfl⟩
          case measure => have := HLT.out; simp [intOf]; omega
      · have hlt' : ¬ (i : Int) < (le.l.length : Int) := by omega
        have HFN := Lib.hid (show DoPostR d o base g K w (.returned (.int .i64 7)) (W0.drewN mm) from DoPostR.no HQD.out (H1.out mm) (HB1.out mm) 7)
        clear hlt
        go_wp2_with fail
        go_ret
        exact HFN.out
  have e2 : (kd == (2 : Int)) = false := by simpa using h2
  clear h2
  have HGB := Lib.hid (fun (Q : Prop) (h : Q) => h)
  by_cases hj : kd = 3 ∨ kd = 4
  · have hfin : Calls Tryd.prog 39 #[.pointer (some ⟨g, 0, none⟩), .agg (opC o)] W0 (DoPostR d o base g K W0) := joins15r_any d o base g K W0 H0.out HKK.out HOI.out (by rw [← HKQ.out]; exact hj)
    have HC := Lib.hid hfin
    clear hfin
    rcases hj with rfl | rfl
    · go_wp2_with (refine wpList_get_box (x := .tmp 3) (cs := opC o) HK0.out rfl rfl rfl huo rfl opO_size ?_)
      refine calls_then HC.out ?_
      intro e w1 hp
      have HP := Lib.hid (hp.of HB0.out)
      obtain ⟨d', f, rfl, _⟩ := hp
      go_wp2_with fail
      go_ret
      exact HP.out
    · go_wp2_with (refine wpList_get_box (x := .tmp 3) (cs := opC o) HK0.out rfl rfl rfl huo rfl opO_size ?_)
      refine calls_then HC.out ?_
      intro e w1 hp
      have HP := Lib.hid (hp.of HB0.out)
      obtain ⟨d', f, rfl, _⟩ := hp
      go_wp2_with fail
      go_ret
      exact HP.out
  have e3 : (kd == (3 : Int)) = false := by simp; omega
  have e4 : (kd == (4 : Int)) = false := by simp; omega
  clear hj
  by_cases h5 : kd = 5
  · subst h5
    have HC := Lib.hid (putNodeR_any d o.node base g K W0 H0.out HKK.out HOI.out.nname)
    go_wp2_with (refine wpList_get_part (r := nodeCells o.node) (k := 12) (n := 5) HK0.out (by simp [opC]) (opC_node _) rfl rfl rfl hun rfl nodeT_size ?_)
    refine calls_then HC.out ?_
    intro e w1 hp
    have HP := Lib.hid ((hp.post HKQ.out.symm).of HB0.out)
    obtain ⟨s', f, rfl, _⟩ := hp
    go_wp2_with fail
    go_ret
    exact HP.out
  have e5 : (kd == (5 : Int)) = false := by simpa using h5
  clear h5
  by_cases hj : kd = 6 ∨ kd = 7 ∨ kd = 8 ∨ kd = 14
  · have HC := Lib.hid (names15r_any d o base g K W0 H0.out HKK.out HOI.out (by rw [← HKQ.out]; omega))
    rcases hj with rfl | rfl | rfl | rfl
    all_goals
      go_wp2_with (refine wpList_get_box (x := .tmp 3) (cs := opC o) HK0.out rfl rfl rfl huo rfl opO_size ?_)
      refine calls_then HC.out ?_
      intro e w1 hp
      have HP := Lib.hid (hp.of HB0.out)
      obtain ⟨d', f, rfl, _⟩ := hp
      go_wp2_with fail
      go_ret
      exact HP.out
  have e6 : (kd == (6 : Int)) = false := by simp; omega
  have e7 : (kd == (7 : Int)) = false := by simp; omega
  have e8 : (kd == (8 : Int)) = false := by simp; omega
  have e14 : (kd == (14 : Int)) = false := by simp; omega
  clear hj
  by_cases hj : kd = 9 ∨ kd = 10 ∨ kd = 11
  · have HC := Lib.hid (keys15r_any d o base g K W0 H0.out HKK.out (by rw [← HKQ.out]; omega))
    rcases hj with rfl | rfl | rfl
    all_goals
      go_wp2_with (refine wpList_get_box (x := .tmp 3) (cs := opC o) HK0.out rfl rfl rfl huo rfl opO_size ?_)
      refine calls_then HC.out ?_
      intro e w1 hp
      have HP := Lib.hid (hp.of HB0.out)
      obtain ⟨d', f, rfl, _⟩ := hp
      go_wp2_with fail
      go_ret
      exact HP.out
  have e9 : (kd == (9 : Int)) = false := by simp; omega
  have e10 : (kd == (10 : Int)) = false := by simp; omega
  have e11 : (kd == (11 : Int)) = false := by simp; omega
  clear hj
  by_cases hj : kd = 12 ∨ kd = 13
  · have HC := Lib.hid (foreign15r_any d o base g K W0 H0.out HKK.out HOI.out (by rw [← HKQ.out]; omega))
    rcases hj with rfl | rfl
    all_goals
      go_wp2_with (refine wpList_get_box (x := .tmp 3) (cs := opC o) HK0.out rfl rfl rfl huo rfl opO_size ?_)
      refine calls_then HC.out ?_
      intro e w1 hp
      have HP := Lib.hid (hp.of HB0.out)
      obtain ⟨d', f, rfl, _⟩ := hp
      go_wp2_with fail
      go_ret
      exact HP.out
  have e12 : (kd == (12 : Int)) = false := by simp; omega
  have e13 : (kd == (13 : Int)) = false := by simp; omega
  clear hj
  have HQ9 := Lib.hid (show o.kind ≠ 4 ∧ o.kind ≠ 5 by rw [← HKQ.out]; simp at e4 e5; exact ⟨e4, e5⟩)
  go_wp2_with fail
  go_ret
  exact HNO1.out HQ9.out _
end Go.Proofs.YtilhhigdegccgaaDoor
/-
  Walk: brevetref15.Apply, and what it does to tokens and nodes. (Printed by gen/conv3.py.)
-/
namespace Go.Proofs.YtilhhigdegccgaaDoor
set_option linter.unusedSimpArgs false
set_option linter.unusedVariables false
open Go.RowKit
theorem DoRel.of_copy {d d1 d' : LedD} {o : OpD} {f : Int} (h : DoRel d1 o d' f) (hn : d1.nodes.l = d.nodes.l) (hb : d1.bans.l = d.bans.l) (hj : d1.joins.l = d.joins.l) : DoRel d o d' f := by
  refine ⟨fun hi => h.inv ⟨by rw [hj]; exact hi.1, by rw [hn]; exact hi.2⟩, fun hk h1 h2 => ?_, fun hk j h1 h2 h3 h4 h5 => ?_⟩
  · have := h.node hk h1 (by rw [hb]; exact h2)
    unfold NodeDone at this ⊢
    rw [← hb]; exact this
  · have := h.join hk j (by rw [hj]; exact h1) h2 h3 h4 (by rw [hb]; exact h5)
    unfold NodeDone at this ⊢
    rw [← hb]; exact this
theorem DoRel.back {d d' : LedD} {o : OpD} {f : Int} (h : DoRel d o d' f) (hf : ¬ f = 0) : DoRel d o d f :=
  ⟨fun h => h, fun hk h1 h2 => (h.node hk h1 h2).elim (fun h => absurd h.1 hf) .inr, fun hk j h1 h2 h3 h4 h5 => (h.join hk j h1 h2 h3 h4 h5).elim (fun h => absurd h.1 hf) .inr⟩
def ApPostR (d : LedD) (o : OpD) (K : Nat) (w : World) (e : Ending) (w' : World) : Prop := ∃ (d' : LedD) (f : Int), e = .returned (.tuple #[.agg (ledCells d'), .int .i64 f]) ∧ LedOk w' (K + 1) d' ∧ Below w.heap.size w w' ∧ DoRel d o d' f
set_option maxRecDepth 100000 in
set_option maxHeartbeats 4000000 in
theorem apply15r_any (d : LedD) (o : OpD) (K : Nat) (w : World) (h : LedOk w K d) (hK : K ≤ 900) (ho : OpIn w o) :
    Calls Tryd.prog 9 #[.agg (ledCells d), .agg (opC o)] w (ApPostR d o K w) := by
  have hul := Tryd.underlying33
  have huo := Tryd.underlying47
  obtain ⟨W0, hW0⟩ : ∃ W0, W0 = ((w.alloc (.cells (ledCells d) 33)).alloc (.cells (opC o) 47)).alloc (.cells (ledCells zLed) 33) := ⟨_, rfl⟩
  have hb0 : Below w.heap.size w W0 := by rw [hW0]; exact (((Below.refl _ w).alloc (Nat.le_refl _) _).alloc (by simp) _).alloc (by simp; omega) _
  have HB0 := Lib.hid hb0
  have HK0 := Lib.hid (show Blk W0 w.heap.size 33 (ledCells d) by rw [hW0]; exact ((Blk.new _ _ _).alloc _).alloc _)
  have HO0 := Lib.hid (show Blk W0 (w.heap.size + 1) 47 (opC o) by rw [hW0]; have := (Blk.new (w.alloc (.cells (ledCells d) 33)) 47 (opC o)).alloc (.cells (ledCells zLed) 33); simpa using this)
  have HZ0 := Lib.hid (show Blk W0 (w.heap.size + 2) 33 (ledCells zLed) by rw [hW0]; have := Blk.new ((w.alloc (.cells (ledCells d) 33)).alloc (.cells (opC o) 47)) 33 (ledCells zLed); simpa using this)
  have HS0 := Lib.hid (show W0.heap.size = w.heap.size + 3 by rw [hW0]; simp)
  have HW0 := Lib.hid hW0
  have HOK := Lib.hid (h.grow hb0)
  have HOI := Lib.hid (ho.grow hb0)
  have HKK := Lib.hid hK
  have CC := Lib.hid (copy15r_any d K W0 (h.grow hb0) hK)
  clear hW0 h ho hb0 hK
  go_enter Tryd.func9, Tryd.ntmps9
  go_upto_region 1 with (fail)
  rw [show ((w.alloc (.cells (ledCells d) 33)).alloc (.cells (opC o) 47)).alloc (.cells #[.slice none 0 0, .slice none 0 0, .slice none 0 0, .slice none 0 0, .slice none 0 0, .slice none 0 0] 33) = W0 from HW0.out.symm]
  generalize hAV : Value.agg (ledCells d) = AV
  generalize hAO : Value.agg (opC o) = AO
  rw [hAV] at CC
  go_wp2_with (refine wpList_get_box (x := .tmp 2) (cs := ledCells d) HK0.out rfl rfl rfl hul rfl ledT2_size ?_)
  refine calls_then CC.out ?_
  rintro e w1 ⟨d1, rfl, hll, hb1, hen, heb, hej⟩
  have HEQ := Lib.hid (show d1.nodes.l = d.nodes.l ∧ d1.bans.l = d.bans.l ∧ d1.joins.l = d.joins.l from ⟨hen, heb, hej⟩)
  clear hen heb hej
  have HLL := Lib.hid hll
  have HB1 := Lib.hid hb1
  have HK1 := Lib.hid (HK0.out.below hb1 HK0.out.lt)
  have HO1 := Lib.hid (HO0.out.below hb1 HO0.out.lt)
  have HZ1 := Lib.hid (HZ0.out.below hb1 HZ0.out.lt)
  have HOK1 := Lib.hid (HOK.out.grow hb1)
  have HOI1 := Lib.hid (HOI.out.grow hb1)
  clear hll hb1 CC
  go_upto_region 2 with (refine wpList_put_box (cells := ledCells d1) (Blk.new _ _ _) rfl rfl rfl rfl ledT2_size rfl (ledCells_one _) ?_; intro w2 hb2 hw2)
  have hbw2 : Below w1.heap.size w1 w2 := box_low9 hw2
  obtain ⟨H, hH⟩ : ∃ H, H = w1.heap.size := ⟨_, rfl⟩
  rw [← hH] at hb2 ⊢
  have HLW := Lib.hid (show LW w2 W0.heap.size H K d1 from ⟨hb2, by rw [hH]; exact HB1.out.size, HLL.out.below hbw2⟩)
  have HB2 := Lib.hid (show Below W0.heap.size W0 w2 from HB1.out.trans (hbw2.mono HB1.out.size))
  have HK2 := Lib.hid (HK1.out.below hbw2 HK1.out.lt)
  have HO2 := Lib.hid (HO1.out.below hbw2 HO1.out.lt)
  have HZ2 := Lib.hid (HZ1.out.below hbw2 HZ1.out.lt)
  have HOK2 := Lib.hid (HOK1.out.grow hbw2)
  have HOI2 := Lib.hid (HOI1.out.grow hbw2)
  clear hb2 hw2 hbw2 hH
  have CD := Lib.hid (does15r_any d1 o W0.heap.size H K w2 HLW.out HKK.out HOI2.out)
  rw [hAO] at CD
  go_wp2_with (refine wpList_get_box (x := .tmp 3) (cs := opC o) HO2.out rfl rfl rfl huo rfl opO_size ?_)
  refine calls_then CD.out ?_
  rintro e w3 ⟨d3, f, rfl, hl3, hb3, hrl⟩
  have HRL := Lib.hid (hrl.of_copy HEQ.out.1 HEQ.out.2.1 HEQ.out.2.2)
  clear hrl
  have HL3 := Lib.hid hl3
  have HK3 := Lib.hid (HK2.out.below hb3 HK0.out.lt)
  have HZ3 := Lib.hid (HZ2.out.below hb3 HZ0.out.lt)
  have HB3 := Lib.hid (HB0.out.trans ((HB2.out.trans hb3).mono HB0.out.size))
  have HOK3 := Lib.hid (show LedOk w3 K d from HOK.out.grow (HB2.out.trans hb3))
  clear hl3 hb3
  by_cases hf : f = 0
  · subst hf
    go_wp2_with (first
      | refine wpList_get_box (x := .tmp 6) (cs := ledCells d3) HL3.out.box rfl rfl rfl hul rfl ledT2_size ?_
      | (refine wpList_put_box (x := .tmp 4) (cells := ledCells d3) HZ3.out rfl rfl rfl rfl ledT2_size rfl (ledCells_one _) ?_; intro w9 hb9 hw9))
    have HB9 := Lib.hid hb9
    have HFN := Lib.hid (show ApPostR d o K w (.returned (.tuple #[.agg (ledCells d3), .int .i64 0])) w9 from ⟨d3, 0, rfl, (HL3.out.ll.wrote HZ3.out hw9).ok, hw9.below HB3.out (by omega) HB3.out.size, HRL.out⟩)
    refine bodyPost_ret (results_box_tmp (P := Tryd.prog) rfl rfl HB9.out hul rfl ledT2_size) rfl ?_
    exact HFN.out
  · have hf' : (f == (0 : Int)) = false := by simpa using hf
    have HF0 := Lib.hid hf
    clear hf hAV hAO
    go_wp2_with (first
      | refine wpList_get_box (x := .tmp 2) (cs := ledCells d) HK3.out rfl rfl rfl hul rfl ledT2_size ?_
      | (refine wpList_put_box (x := .tmp 4) (cells := ledCells d) HZ3.out rfl rfl rfl rfl ledT2_size rfl (ledCells_one _) ?_; intro w9 hb9 hw9))
    have HB9 := Lib.hid hb9
    have HFN := Lib.hid (show ApPostR d o K w (.returned (.tuple #[.agg (ledCells d), .int .i64 f])) w9 from ⟨d, f, rfl, (HOK3.out.wrote HZ3.out hw9).more (Nat.le_succ K), hw9.below HB3.out (by omega) HB3.out.size, HRL.out.back HF0.out⟩)
    refine bodyPost_ret (results_box_tmp (P := Tryd.prog) rfl rfl HB9.out hul rfl ledT2_size) rfl ?_
    exact HFN.out
end Go.Proofs.YtilhhigdegccgaaDoor
