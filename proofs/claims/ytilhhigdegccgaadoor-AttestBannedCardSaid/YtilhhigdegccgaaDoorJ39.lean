/-
  Joined texts: Nm3.
-/
import Derived.Test.YtilhhigdegccgaaDoorJ30
import Derived.Test.YtilhhigdegccgaaDoorJ36
/-
  Walk: brevetref15.names, and what it does to tokens and nodes. (Printed by gen/conv3.py.)
-/
namespace Go.Proofs.YtilhhigdegccgaaDoor
set_option linter.unusedSimpArgs false
set_option linter.unusedVariables false
open Go.RowKit
set_option maxRecDepth 100000 in
set_option maxHeartbeats 8000000 in
theorem names15r_any (d : LedD) (o : OpD) (base g K : Nat) (w : World) (h : LW w base g K d) (hK : K ≤ 900) (ho : OpIn w o) (hkd : o.kind ≠ 4 ∧ o.kind ≠ 5) :
    Calls Tryd.prog 41 #[.pointer (some ⟨g, 0, none⟩), .agg (opC o)] w (DoPostR d o base g K w) := by
  have HQD := Lib.hid hkd
  clear hkd
  obtain ⟨W0, hW0⟩ : ∃ W0, W0 = w.alloc (.cells (opC o) 47) := ⟨_, rfl⟩
  have hb0 : Below w.heap.size w W0 := by rw [hW0]; exact (Below.refl _ w).alloc (Nat.le_refl _) _
  have hbs : base ≤ w.heap.size := Nat.le_of_lt (Nat.lt_of_le_of_lt h.hg h.box.lt)
  have HBS := Lib.hid hbs
  have HB0 := Lib.hid (hb0.mono hbs)
  have HK0 := Lib.hid (show Blk W0 w.heap.size 47 (opC o) by rw [hW0]; exact Blk.new _ _ _)
  have H0 := Lib.hid (h.below hb0)
  have HW0 := Lib.hid hW0
  have HKK := Lib.hid hK
  have CAG := Lib.hid (fun (u : World) => agent9_any o.name ho.name u)
  obtain ⟨lb, hlb⟩ : ∃ lb, lb = d.bans := ⟨_, rfl⟩
  obtain ⟨ln, hln⟩ : ∃ ln, ln = d.nodes := ⟨_, rfl⟩
  have HLB := Lib.hid hlb
  have HLN := Lib.hid hln
  have HBO := Lib.hid (show lb.Own W0 base 9 1 strCell K by rw [hlb]; exact H0.out.ll.bans)
  have HNO := Lib.hid (show ln.Own W0 base 40 5 nodeCells K by rw [hln]; exact H0.out.ll.nodes)
  have CH := Lib.hid (fun (m : Nat) => show Calls Tryd.prog 58 #[.slice lb.A lb.l.length lb.c, .string o.name] (W0.drewN m) (fun e w' => e = .returned (.bool (hasB lb.l o.name)) ∧ w' = W0.drewN m) from (has9_any lb.l (by have := HBO.out.len; have := HKK.out; omega) o.name lb.A lb.c W0.heap.size (W0.drewN m) (by rw [← rowsV_str]; exact HBO.out.own.row.rd)).mono fun e w' h => ⟨h.1, h.2.symm⟩)
  obtain ⟨q, hq⟩ : ∃ q, q = hasB lb.l o.name := ⟨_, rfl⟩
  rw [← hq] at CH
  obtain ⟨z, hz⟩ : ∃ z, z = atN ln.l o.name := ⟨_, rfl⟩
  have HZE := Lib.hid hz
  have HZ := Lib.hid (show z = -1 ∨ ∃ i : Nat, i < ln.l.length ∧ z = (i : Int) by rw [hz]; exact atN_or _ _)
  have hll : (ln.l.length : Int) ≤ 900 := by have := HNO.out.len; omega
  have hlb' : (lb.l.length : Int) ≤ 900 := by have := HBO.out.len; omega
  have HNL := Lib.hid HNO.out.len
  have HBL := Lib.hid HBO.out.len
  have a1 : W0.cell? ⟨g, 1, none⟩ = some (.slice ln.A ln.l.length ln.c) := by rw [hln]; exact H0.out.box.cell 1
  have a2 : W0.cell? ⟨g, 2, none⟩ = some (.slice lb.A lb.l.length lb.c) := by rw [hlb]; exact H0.out.box.cell 2
  have b0 : W0.cell? ⟨w.heap.size, 0, none⟩ = some (.int .i64 o.kind) := HK0.out.cell 0
  have b1 : W0.cell? ⟨w.heap.size, 1, none⟩ = some (.int .i64 o.n) := HK0.out.cell 1
  have b2 : W0.cell? ⟨w.heap.size, 2, none⟩ = some (.string o.name) := HK0.out.cell 2
  clear hW0 hb0 h ho hbs hK hlb hln hq hz
  go_enter Tryd.func41, Tryd.ntmps41
  go_upto_region 1 with (fail)
  rw [show w.alloc (.cells (opC o) 47) = W0 from HW0.out.symm]
  generalize Value.agg (opC o) = AV
  go_quiet (refine Calls.quiet_of_same (CH.out _))
  generalize hn0 : W0.drewN _ = w1
  have H1 := Lib.hid (show LW w1 base g K d by rw [← hn0]; exact H0.out.below (below_drewN9 (Below.refl _ _) _))
  have HB1 := Lib.hid (show Below base w w1 by rw [← hn0]; exact below_drewN9 HB0.out _)
  have HK1 := Lib.hid (show Blk w1 w.heap.size 47 (opC o) by rw [← hn0]; exact HK0.out)
  have a1 : w1.cell? ⟨g, 1, none⟩ = some (.slice ln.A ln.l.length ln.c) := by rw [HLN.out]; exact H1.out.box.cell 1
  have b2 : w1.cell? ⟨w.heap.size, 2, none⟩ = some (.string o.name) := HK1.out.cell 2
  have CA := Lib.hid (fun (m : Nat) => show Calls Tryd.prog 59 #[.slice ln.A ln.l.length ln.c, .string o.name] (w1.drewN m) (fun e w' => e = .returned (.int .i64 z) ∧ w' = w1.drewN m) by
    have hno : ln.Own w1 base 40 5 nodeCells K := by rw [HLN.out]; exact H1.out.ll.nodes
    have h := hasNode_any ln.l o.name ln.A ln.c w1.heap.size (w1.drewN m) hno.own.row.rd (by have := hno.len; have := HKK.out; omega)
    rw [← HZE.out] at h
    exact h)
  clear hn0
  go_wp2_with fail
  go_quiet (refine Calls.quiet_of_same (CA.out _))
  generalize hn1 : w1.drewN _ = w2
  have H2 := Lib.hid (show LW w2 base g K d by rw [← hn1]; exact H1.out.below (below_drewN9 (Below.refl _ _) _))
  have HB2 := Lib.hid (show Below base w w2 by rw [← hn1]; exact below_drewN9 HB1.out _)
  have HK2 := Lib.hid (show Blk w2 w.heap.size 47 (opC o) by rw [← hn1]; exact HK1.out)
  have a1 : w2.cell? ⟨g, 1, none⟩ = some (.slice ln.A ln.l.length ln.c) := by rw [HLN.out]; exact H2.out.box.cell 1
  have a2 : w2.cell? ⟨g, 2, none⟩ = some (.slice lb.A lb.l.length lb.c) := by rw [HLB.out]; exact H2.out.box.cell 2
  have b0 : w2.cell? ⟨w.heap.size, 0, none⟩ = some (.int .i64 o.kind) := HK2.out.cell 0
  have b1 : w2.cell? ⟨w.heap.size, 1, none⟩ = some (.int .i64 o.n) := HK2.out.cell 1
  have b2 : w2.cell? ⟨w.heap.size, 2, none⟩ = some (.string o.name) := HK2.out.cell 2
  have HNO2 := Lib.hid (fun (m : Nat) => DoPostR.no (w := w) HQD.out (H2.out.below (below_drewN9 (Below.refl _ w2) m)) (below_drewN9 HB2.out m))
  have HNO1 := Lib.hid (DoPostR.no (w := w) HQD.out H2.out HB2.out)
  clear hn1 CH CA HBO HNO H0 HB0 HK0
  obtain ⟨kd, hkd⟩ : ∃ kd, kd = o.kind := ⟨_, rfl⟩
  rw [← hkd] at b0
  clear hkd
  by_cases h6 : kd = 6
  · have e6 : (kd == (6 : Int)) = true := by simp [h6]
    clear h6
    go_wp2_with fail
    refine calls_then (CAG.out _) ?_
    rintro e w3 ⟨⟨b, rfl⟩, rfl⟩
    cases b with
    | false =>
      go_wp2_with fail
      go_ret
      exact HNO1.out _
    | true =>
      cases q with
      | true =>
        go_wp2_with fail
        go_ret
        exact HNO1.out _
      | false =>
        by_cases h8 : (8 : Int) ≤ (lb.l.length : Int)
        · go_wp2_with fail
          go_ret
          exact HNO1.out _
        · go_wp2_with fail
          have CLB := Lib.hid (show ∀ u, Below w2.heap.size w2 u → Calls Tryd.prog 61 #[.slice lb.A lb.l.length lb.c, .string o.name, .bool false] u (ListPost 9 1 strCell lb.l o.name u) from fun u hu => by
            have hno : lb.Own w2 base 9 1 strCell K := by rw [HLB.out]; exact H2.out.ll.bans
            exact bans15_any lb.l (by have := hno.len; have := HKK.out; omega) o.name false lb.A lb.c w2.heap.size u (hno.own.row.rd.below hu) hu.size)
          have HC0 : Below w2.heap.size w2 w2.drew := (Below.refl _ _).drew
          apply wp_region_seqp (fun u => Below w2.heap.size w2 u) (fun i => i == 0) (fun u u' => Below u.heap.size u u') [_, _, _, _, _, _, _] (gOf []) 7 (by kernel_rfl) (by kernel_rfl) (by decide) (by kernel_rfl) (fun i h => by simp only [beq_iff_eq] at h; subst h; rfl) (stabL_of _ trivial) HC0
          simp only [List.take_succ_cons, List.take_zero, List.drop_succ_cons, List.drop_zero]
          iterate 4
            first
            | (apply SeqH.pure; rfl; rfl; rfl; rfl; (simp only [act_put, act_put_none, List.setIfInBounds_toArray, List.set_cons_zero, List.set_cons_succ]; rfl); (intro w1 E hE; go_wp2; exact .mk hE))
            | (apply SeqH.step; rfl; (first | (apply SeqG.next; rfl; rfl; rfl)); (simp only [act_put, act_put_none, List.setIfInBounds_toArray, List.set_cons_zero, List.set_cons_succ]; rfl); (intro w1 hC1 hf E hE; go_wp2; exact .mk (hE _ hC1 (Below.refl _ _))); refine SeqG.nil ?_)
          apply SeqH.step
          · rfl
          apply SeqG.next
          · rfl
          · rfl
          · rfl
          · simp only [act_put, act_put_none, List.setIfInBounds_toArray, List.set_cons_zero, List.set_cons_succ]
            rfl
          · intro w1 hC1 hf E hE
            have d0 := (hC1.cell (p := ⟨g, 2, none⟩) H2.out.box.lt).trans a2
            go_wp2
            exact .mk (hE _ hC1 (Below.refl _ _))
          refine SeqG.nil ?_
          iterate 1
            (apply SeqH.step; rfl; (first | (apply SeqG.next; rfl; rfl; rfl)); (simp only [act_put, act_put_none, List.setIfInBounds_toArray, List.set_cons_zero, List.set_cons_succ]; rfl); (intro w1 hC1 hf E hE; go_wp2; exact .mk (hE _ hC1 (Below.refl _ _))); refine SeqG.nil ?_)
          apply SeqH.step
          · rfl
          apply SeqG.next
          · rfl
          · rfl
          · rfl
          · simp only [act_put, act_put_none, List.setIfInBounds_toArray, List.set_cons_zero, List.set_cons_succ]
            rfl
          · intro w1 hC1 hf E hE
            have d0 := (hC1.cell (p := ⟨w.heap.size, 2, none⟩) HK2.out.lt).trans b2
            go_wp2
            exact .mk (hE _ hC1 (Below.refl _ _))
          refine SeqG.nil ?_
          refine SeqH.nil ?_
          intro w1 hC1 hf
          clear hf
          refine SeqT.step rfl ?_
          intro E hE
          simp only [act_put, act_put_none, List.setIfInBounds_toArray, List.set_cons_zero, List.set_cons_succ] at hE
          go_wp2_with fail
          refine calls_then (CLB.out _ hC1) ?_
          rintro e w5 ⟨A5, c5, xs, rfl, hlen5, _, hown5, hb5⟩
          have HL5 := Lib.hid hlen5
          have HO5 := Lib.hid (hown5.mono hC1.size)
          have HB5 := Lib.hid (hC1.trans (hb5.mono hC1.size))
          clear hlen5 hown5 hb5
          go_wp2_with fail
          refine .mk (hE _ _ ?_)
          clear hE E
          refine SeqT.step rfl ?_
          intro E hE
          simp only [act_put, act_put_none, List.setIfInBounds_toArray, List.set_cons_zero, List.set_cons_succ] at hE
          go_wp2
          refine .mk (hE _ _ ?_)
          clear hE E
          refine SeqT.step rfl ?_
          intro E hE
          simp only [act_put, act_put_none, List.setIfInBounds_toArray, List.set_cons_zero, List.set_cons_succ] at hE
          go_wp2
          refine .mk (hE _ _ ?_)
          clear hE E
          refine SeqT.step rfl ?_
          intro E hE
          simp only [act_put, act_put_none, List.setIfInBounds_toArray, List.set_cons_zero, List.set_cons_succ] at hE
          have H5 := Lib.hid (H2.out.below HB5.out)
          refine wpList_put_cell (i := 2) H5.out.box rfl rfl rfl rfl (by kernel_rfl) (by simp [ledCells]) rfl ?_
          intro w6 hb6 hw6
          have HB6 := Lib.hid hb6
          have HW6 := Lib.hid hw6
          clear hb6 hw6
          go_wp2_with fail
          refine .mk (hE undef _ ?_)
          clear hE E
          refine SeqT.nil ?_
          have H7 := Lib.hid ((H5.out.more (Nat.le_succ K)).bans_put (s := ⟨A5, c5, xs⟩) ⟨HO5.out.mono (Nat.le_trans HBS.out HB2.out.size), by have := HL5.out; have := HBL.out; show xs.length ≤ K + 1; omega⟩ HW6.out HB6.out)
          have HB7 := Lib.hid (HW6.out.below (HB2.out.trans (HB5.out.mono (Nat.le_trans HBS.out HB2.out.size))) H2.out.hg (Nat.le_trans HBS.out (HB2.out.trans (HB5.out.mono (Nat.le_trans HBS.out HB2.out.size))).size))
          have HK7 := Lib.hid (HW6.out.blk (HK2.out.below HB5.out HK2.out.lt) (box_ne HK2.out H2.out.box (by decide)))
          clear hC1 HC0
          have a1 : w6.cell? ⟨g, 1, none⟩ = some (.slice ln.A ln.l.length ln.c) := by rw [HLN.out]; exact H7.out.box.cell 1
          have b2 : w6.cell? ⟨w.heap.size, 2, none⟩ = some (.string o.name) := HK7.out.cell 2
          go_wp2_with fail
          have CLN := Lib.hid (show ∀ u, Below w6.heap.size w6 u → Calls Tryd.prog 60 #[.slice ln.A ln.l.length ln.c, .agg #[.string o.name, .string ⟨#[]⟩, .int .i64 0, .int .i64 0, .string ⟨#[]⟩], .bool true] u (ListPostN ln.l ⟨o.name, ⟨#[]⟩, 0, 0, ⟨#[]⟩⟩ true u) from fun u hu => by
            have hno : ln.Own w6 base 40 5 nodeCells (K + 1) := by rw [HLN.out]; exact H7.out.ll.nodes
            exact nodes15r_any ln.l (by have := hno.len; have := HKK.out; omega) ⟨o.name, ⟨#[]⟩, 0, 0, ⟨#[]⟩⟩ true ln.A ln.c w6.heap.size u (hno.own.row.rd.below hu) hu.size)
          have HC0 : Below w6.heap.size w6 w6.drew := (Below.refl _ _).drew
          apply wp_region_seqp (fun u => Below w6.heap.size w6 u) (fun i => i == 0) (fun u u' => Below u.heap.size u u') [_, _, _, _, _, _, _, _] (gOf []) 8 (by kernel_rfl) (by kernel_rfl) (by decide) (by kernel_rfl) (fun i h => by simp only [beq_iff_eq] at h; subst h; rfl) (stabL_of _ trivial) HC0
          simp only [List.take_succ_cons, List.take_zero, List.drop_succ_cons, List.drop_zero]
          iterate 4
            first
            | (apply SeqH.pure; rfl; rfl; rfl; rfl; (simp only [act_put, act_put_none, List.setIfInBounds_toArray, List.set_cons_zero, List.set_cons_succ]; rfl); (intro w1 E hE; go_wp2; exact .mk hE))
            | (apply SeqH.step; rfl; (first | (apply SeqG.next; rfl; rfl; rfl)); (simp only [act_put, act_put_none, List.setIfInBounds_toArray, List.set_cons_zero, List.set_cons_succ]; rfl); (intro w1 hC1 hf E hE; go_wp2; exact .mk (hE _ hC1 (Below.refl _ _))); refine SeqG.nil ?_)
          apply SeqH.step
          · rfl
          apply SeqG.next
          · rfl
          · rfl
          · rfl
          · simp only [act_put, act_put_none, List.setIfInBounds_toArray, List.set_cons_zero, List.set_cons_succ]
            rfl
          · intro w1 hC1 hf E hE
            have d0 := (hC1.cell (p := ⟨g, 1, none⟩) H7.out.box.lt).trans a1
            go_wp2
            exact .mk (hE _ hC1 (Below.refl _ _))
          refine SeqG.nil ?_
          iterate 1
            (apply SeqH.step; rfl; (first | (apply SeqG.next; rfl; rfl; rfl)); (simp only [act_put, act_put_none, List.setIfInBounds_toArray, List.set_cons_zero, List.set_cons_succ]; rfl); (intro w1 hC1 hf E hE; go_wp2; exact .mk (hE _ hC1 (Below.refl _ _))); refine SeqG.nil ?_)
          apply SeqH.step
          · rfl
          apply SeqG.next
          · rfl
          · rfl
          · rfl
          · simp only [act_put, act_put_none, List.setIfInBounds_toArray, List.set_cons_zero, List.set_cons_succ]
            rfl
          · intro w1 hC1 hf E hE
            have d0 := (hC1.cell (p := ⟨w.heap.size, 2, none⟩) HK7.out.lt).trans b2
            go_wp2
            exact .mk (hE _ hC1 (Below.refl _ _))
          refine SeqG.nil ?_
          iterate 1
            (apply SeqH.step; rfl; (first | (apply SeqG.next; rfl; rfl; rfl)); (simp only [act_put, act_put_none, List.setIfInBounds_toArray, List.set_cons_zero, List.set_cons_succ]; rfl); (intro w1 hC1 hf E hE; go_wp2; exact .mk (hE _ hC1 (Below.refl _ _))); refine SeqG.nil ?_)
          refine SeqH.nil ?_
          intro w1 hC1 hf
          clear hf
          refine SeqT.step rfl ?_
          intro E hE
          simp only [act_put, act_put_none, List.setIfInBounds_toArray, List.set_cons_zero, List.set_cons_succ] at hE
          go_wp2_with fail
          refine calls_then (CLN.out _ hC1) ?_
          rintro e w8 ⟨A8, c8, zs, rfl, hlen8, hmn8, hown8, hb8⟩
          have HMN := Lib.hid hmn8
          clear hmn8
          have HL8 := Lib.hid hlen8
          have HO8 := Lib.hid (hown8.mono hC1.size)
          have HB8 := Lib.hid (hC1.trans (hb8.mono hC1.size))
          clear hlen8 hown8 hb8
          go_wp2_with fail
          refine .mk (hE _ _ ?_)
          clear hE E
          refine SeqT.step rfl ?_
          intro E hE
          simp only [act_put, act_put_none, List.setIfInBounds_toArray, List.set_cons_zero, List.set_cons_succ] at hE
          go_wp2
          refine .mk (hE _ _ ?_)
          clear hE E
          refine SeqT.step rfl ?_
          intro E hE
          simp only [act_put, act_put_none, List.setIfInBounds_toArray, List.set_cons_zero, List.set_cons_succ] at hE
          go_wp2
          refine .mk (hE _ _ ?_)
          clear hE E
          refine SeqT.step rfl ?_
          intro E hE
          simp only [act_put, act_put_none, List.setIfInBounds_toArray, List.set_cons_zero, List.set_cons_succ] at hE
          have H8 := Lib.hid (H7.out.below HB8.out)
          refine wpList_put_cell (i := 1) H8.out.box rfl rfl rfl rfl (by kernel_rfl) (by simp [ledCells]) rfl ?_
          intro w9 hb9 hw9
          have HB9 := Lib.hid hb9
          have HW9 := Lib.hid hw9
          clear hb9 hw9
          go_wp2_with fail
          refine .mk (hE undef _ ?_)
          clear hE E
          refine SeqT.nil ?_
          have HFN := Lib.hid (show DoPostR d o base g K w (.returned (.int .i64 0)) w9 from ⟨_, 0, rfl, (H8.out.more (by omega)).nodes_put (s := ⟨A8, c8, zs⟩) ⟨HO8.out.mono (Nat.le_trans HBS.out HB7.out.size), by have := HL8.out; have := HNL.out; show zs.length ≤ K + 1; omega⟩ HW9.out HB9.out,
            HW9.out.below (HB7.out.trans (HB8.out.mono (Nat.le_trans HBS.out HB7.out.size))) H7.out.hg (Nat.le_trans HBS.out (HB7.out.trans (HB8.out.mono (Nat.le_trans HBS.out HB7.out.size))).size), .other HQD.out (fun h => ⟨h.1, fun n hn => h.2 n (by have := (HMN.out.2.2 rfl).2 n hn; rw [HLN.out] at this; exact this)⟩)⟩)
          clear hC1 HC0
          go_wp2_with fail
          go_ret
          exact HFN.out
  have e6 : (kd == (6 : Int)) = false := by simpa using h6
  clear h6
  by_cases h7 : kd = 7
  · have e7 : (kd == (7 : Int)) = true := by simp [h7]
    clear h7
    cases q with
    | false =>
      go_wp2_with fail
      go_ret
      exact HNO1.out _
    | true =>
      go_wp2_with fail
      have CLB := Lib.hid (show ∀ u, Below w2.heap.size w2 u → Calls Tryd.prog 61 #[.slice lb.A lb.l.length lb.c, .string o.name, .bool true] u (ListPost 9 1 strCell lb.l o.name u) from fun u hu => by
        have hno : lb.Own w2 base 9 1 strCell K := by rw [HLB.out]; exact H2.out.ll.bans
        exact bans15_any lb.l (by have := hno.len; have := HKK.out; omega) o.name true lb.A lb.c w2.heap.size u (hno.own.row.rd.below hu) hu.size)
      have HC0 : Below w2.heap.size w2 w2.drew := (Below.refl _ _).drew
      apply wp_region_seqp (fun u => Below w2.heap.size w2 u) (fun i => i == 0) (fun u u' => Below u.heap.size u u') [_, _, _, _, _, _, _] (gOf []) 7 (by kernel_rfl) (by kernel_rfl) (by decide) (by kernel_rfl) (fun i h => by simp only [beq_iff_eq] at h; subst h; rfl) (stabL_of _ trivial) HC0
      simp only [List.take_succ_cons, List.take_zero, List.drop_succ_cons, List.drop_zero]
      iterate 4
        first
        | (apply SeqH.pure; rfl; rfl; rfl; rfl; (simp only [act_put, act_put_none, List.setIfInBounds_toArray, List.set_cons_zero, List.set_cons_succ]; rfl); (intro w1 E hE; go_wp2; exact .mk hE))
        | (apply SeqH.step; rfl; (first | (apply SeqG.next; rfl; rfl; rfl)); (simp only [act_put, act_put_none, List.setIfInBounds_toArray, List.set_cons_zero, List.set_cons_succ]; rfl); (intro w1 hC1 hf E hE; go_wp2; exact .mk (hE _ hC1 (Below.refl _ _))); refine SeqG.nil ?_)
      apply SeqH.step
      · rfl
      apply SeqG.next
      · rfl
      · rfl
      · rfl
      · simp only [act_put, act_put_none, List.setIfInBounds_toArray, List.set_cons_zero, List.set_cons_succ]
        rfl
      · intro w1 hC1 hf E hE
        have d0 := (hC1.cell (p := ⟨g, 2, none⟩) H2.out.box.lt).trans a2
        go_wp2
        exact .mk (hE _ hC1 (Below.refl _ _))
      refine SeqG.nil ?_
      iterate 1
        (apply SeqH.step; rfl; (first | (apply SeqG.next; rfl; rfl; rfl)); (simp only [act_put, act_put_none, List.setIfInBounds_toArray, List.set_cons_zero, List.set_cons_succ]; rfl); (intro w1 hC1 hf E hE; go_wp2; exact .mk (hE _ hC1 (Below.refl _ _))); refine SeqG.nil ?_)
      apply SeqH.step
      · rfl
      apply SeqG.next
      · rfl
      · rfl
      · rfl
      · simp only [act_put, act_put_none, List.setIfInBounds_toArray, List.set_cons_zero, List.set_cons_succ]
        rfl
      · intro w1 hC1 hf E hE
        have d0 := (hC1.cell (p := ⟨w.heap.size, 2, none⟩) HK2.out.lt).trans b2
        go_wp2
        exact .mk (hE _ hC1 (Below.refl _ _))
      refine SeqG.nil ?_
      refine SeqH.nil ?_
      intro w1 hC1 hf
      clear hf
      refine SeqT.step rfl ?_
      intro E hE
      simp only [act_put, act_put_none, List.setIfInBounds_toArray, List.set_cons_zero, List.set_cons_succ] at hE
      go_wp2_with fail
      refine calls_then (CLB.out _ hC1) ?_
      rintro e w5 ⟨A5, c5, xs, rfl, hlen5, _, hown5, hb5⟩
      have HL5 := Lib.hid hlen5
      have HO5 := Lib.hid (hown5.mono hC1.size)
      have HB5 := Lib.hid (hC1.trans (hb5.mono hC1.size))
      clear hlen5 hown5 hb5
      go_wp2_with fail
      refine .mk (hE _ _ ?_)
      clear hE E
      refine SeqT.step rfl ?_
      intro E hE
      simp only [act_put, act_put_none, List.setIfInBounds_toArray, List.set_cons_zero, List.set_cons_succ] at hE
      go_wp2
      refine .mk (hE _ _ ?_)
      clear hE E
      refine SeqT.step rfl ?_
      intro E hE
      simp only [act_put, act_put_none, List.setIfInBounds_toArray, List.set_cons_zero, List.set_cons_succ] at hE
      go_wp2
      refine .mk (hE _ _ ?_)
      clear hE E
      refine SeqT.step rfl ?_
      intro E hE
      simp only [act_put, act_put_none, List.setIfInBounds_toArray, List.set_cons_zero, List.set_cons_succ] at hE
      have H5 := Lib.hid (H2.out.below HB5.out)
      refine wpList_put_cell (i := 2) H5.out.box rfl rfl rfl rfl (by kernel_rfl) (by simp [ledCells]) rfl ?_
      intro w6 hb6 hw6
      have HB6 := Lib.hid hb6
      have HW6 := Lib.hid hw6
      clear hb6 hw6
      go_wp2_with fail
      refine .mk (hE undef _ ?_)
      clear hE E
      refine SeqT.nil ?_
      have H7 := Lib.hid ((H5.out.more (Nat.le_succ K)).bans_put (s := ⟨A5, c5, xs⟩) ⟨HO5.out.mono (Nat.le_trans HBS.out HB2.out.size), by have := HL5.out; have := HBL.out; show xs.length ≤ K + 1; omega⟩ HW6.out HB6.out)
      have HB7 := Lib.hid (HW6.out.below (HB2.out.trans (HB5.out.mono (Nat.le_trans HBS.out HB2.out.size))) H2.out.hg (Nat.le_trans HBS.out (HB2.out.trans (HB5.out.mono (Nat.le_trans HBS.out HB2.out.size))).size))
      have HK7 := Lib.hid (HW6.out.blk (HK2.out.below HB5.out HK2.out.lt) (box_ne HK2.out H2.out.box (by decide)))
      clear hC1 HC0
      have HFN := Lib.hid (show DoPostR d o base g K w (.returned (.int .i64 0)) w6 from ⟨_, 0, rfl, H7.out, HB7.out, .other HQD.out (fun h => h)⟩)
      go_wp2_with fail
      go_ret
      exact HFN.out
  have e7 : (kd == (7 : Int)) = false := by simpa using h7
  clear h7
  by_cases h8 : kd = 8
  · have e8 : (kd == (8 : Int)) = true := by simp [h8]
    clear h8
    by_cases hz0 : z < 0
    · go_wp2_with fail
      go_ret
      exact HNO1.out _
    · go_wp2_with fail
      have CLN := Lib.hid (show ∀ u, Below w2.heap.size w2 u → Calls Tryd.prog 60 #[.slice ln.A ln.l.length ln.c, .agg #[.string o.name, .string ⟨#[]⟩, .int .i64 0, .int .i64 0, .string ⟨#[]⟩], .bool true] u (ListPostN ln.l ⟨o.name, ⟨#[]⟩, 0, 0, ⟨#[]⟩⟩ true u) from fun u hu => by
        have hno : ln.Own w2 base 40 5 nodeCells K := by rw [HLN.out]; exact H2.out.ll.nodes
        exact nodes15r_any ln.l (by have := hno.len; have := HKK.out; omega) ⟨o.name, ⟨#[]⟩, 0, 0, ⟨#[]⟩⟩ true ln.A ln.c w2.heap.size u (hno.own.row.rd.below hu) hu.size)
      have HC0 : Below w2.heap.size w2 w2.drew := (Below.refl _ _).drew
      apply wp_region_seqp (fun u => Below w2.heap.size w2 u) (fun i => i == 0) (fun u u' => Below u.heap.size u u') [_, _, _, _, _, _, _, _] (gOf []) 8 (by kernel_rfl) (by kernel_rfl) (by decide) (by kernel_rfl) (fun i h => by simp only [beq_iff_eq] at h; subst h; rfl) (stabL_of _ trivial) HC0
      simp only [List.take_succ_cons, List.take_zero, List.drop_succ_cons, List.drop_zero]
      iterate 4
        first
        | (apply SeqH.pure; rfl; rfl; rfl; rfl; (simp only [act_put, act_put_none, List.setIfInBounds_toArray, List.set_cons_zero, List.set_cons_succ]; rfl); (intro w1 E hE; go_wp2; exact .mk hE))
        | (apply SeqH.step; rfl; (first | (apply SeqG.next; rfl; rfl; rfl)); (simp only [act_put, act_put_none, List.setIfInBounds_toArray, List.set_cons_zero, List.set_cons_succ]; rfl); (intro w1 hC1 hf E hE; go_wp2; exact .mk (hE _ hC1 (Below.refl _ _))); refine SeqG.nil ?_)
      apply SeqH.step
      · rfl
      apply SeqG.next
      · rfl
      · rfl
      · rfl
      · simp only [act_put, act_put_none, List.setIfInBounds_toArray, List.set_cons_zero, List.set_cons_succ]
        rfl
      · intro w1 hC1 hf E hE
        have d0 := (hC1.cell (p := ⟨g, 1, none⟩) H2.out.box.lt).trans a1
        go_wp2
        exact .mk (hE _ hC1 (Below.refl _ _))
      refine SeqG.nil ?_
      iterate 1
        (apply SeqH.step; rfl; (first | (apply SeqG.next; rfl; rfl; rfl)); (simp only [act_put, act_put_none, List.setIfInBounds_toArray, List.set_cons_zero, List.set_cons_succ]; rfl); (intro w1 hC1 hf E hE; go_wp2; exact .mk (hE _ hC1 (Below.refl _ _))); refine SeqG.nil ?_)
      apply SeqH.step
      · rfl
      apply SeqG.next
      · rfl
      · rfl
      · rfl
      · simp only [act_put, act_put_none, List.setIfInBounds_toArray, List.set_cons_zero, List.set_cons_succ]
        rfl
      · intro w1 hC1 hf E hE
        have d0 := (hC1.cell (p := ⟨w.heap.size, 2, none⟩) HK2.out.lt).trans b2
        go_wp2
        exact .mk (hE _ hC1 (Below.refl _ _))
      refine SeqG.nil ?_
      iterate 1
        (apply SeqH.step; rfl; (first | (apply SeqG.next; rfl; rfl; rfl)); (simp only [act_put, act_put_none, List.setIfInBounds_toArray, List.set_cons_zero, List.set_cons_succ]; rfl); (intro w1 hC1 hf E hE; go_wp2; exact .mk (hE _ hC1 (Below.refl _ _))); refine SeqG.nil ?_)
      refine SeqH.nil ?_
      intro w1 hC1 hf
      clear hf
      refine SeqT.step rfl ?_
      intro E hE
      simp only [act_put, act_put_none, List.setIfInBounds_toArray, List.set_cons_zero, List.set_cons_succ] at hE
      go_wp2_with fail
      refine calls_then (CLN.out _ hC1) ?_
      rintro e w8 ⟨A8, c8, zs, rfl, hlen8, hmn8, hown8, hb8⟩
      have HMN := Lib.hid hmn8
      clear hmn8
      have HL8 := Lib.hid hlen8
      have HO8 := Lib.hid (hown8.mono hC1.size)
      have HB8 := Lib.hid (hC1.trans (hb8.mono hC1.size))
      clear hlen8 hown8 hb8
      go_wp2_with fail
      refine .mk (hE _ _ ?_)
      clear hE E
      refine SeqT.step rfl ?_
      intro E hE
      simp only [act_put, act_put_none, List.setIfInBounds_toArray, List.set_cons_zero, List.set_cons_succ] at hE
      go_wp2
      refine .mk (hE _ _ ?_)
      clear hE E
      refine SeqT.step rfl ?_
      intro E hE
      simp only [act_put, act_put_none, List.setIfInBounds_toArray, List.set_cons_zero, List.set_cons_succ] at hE
      go_wp2
      refine .mk (hE _ _ ?_)
      clear hE E
      refine SeqT.step rfl ?_
      intro E hE
      simp only [act_put, act_put_none, List.setIfInBounds_toArray, List.set_cons_zero, List.set_cons_succ] at hE
      have H8 := Lib.hid (H2.out.below HB8.out)
      refine wpList_put_cell (i := 1) H8.out.box rfl rfl rfl rfl (by kernel_rfl) (by simp [ledCells]) rfl ?_
      intro w9 hb9 hw9
      have HB9 := Lib.hid hb9
      have HW9 := Lib.hid hw9
      clear hb9 hw9
      go_wp2_with fail
      refine .mk (hE undef _ ?_)
      clear hE E
      refine SeqT.nil ?_
      have HFN := Lib.hid (show DoPostR d o base g K w (.returned (.int .i64 0)) w9 from ⟨_, 0, rfl, (H8.out.more (by omega)).nodes_put (s := ⟨A8, c8, zs⟩) ⟨HO8.out.mono (Nat.le_trans HBS.out HB2.out.size), by have := HL8.out; have := HNL.out; show zs.length ≤ K + 1; omega⟩ HW9.out HB9.out,
        HW9.out.below (HB2.out.trans (HB8.out.mono (Nat.le_trans HBS.out HB2.out.size))) H2.out.hg (Nat.le_trans HBS.out (HB2.out.trans (HB8.out.mono (Nat.le_trans HBS.out HB2.out.size))).size), .other HQD.out (fun h => ⟨h.1, fun n hn => h.2 n (by have := (HMN.out.2.2 rfl).2 n hn; rw [HLN.out] at this; exact this)⟩)⟩)
      clear hC1 HC0
      go_wp2_with fail
      go_ret
      exact HFN.out
  have e8 : (kd == (8 : Int)) = false := by simpa using h8
  clear h8
  by_cases h14 : kd = 14
  · have e14 : (kd == (14 : Int)) = true := by simp [h14]
    clear h14
    by_cases hz0 : z < 0
    · go_wp2_with fail
      go_ret
      exact HNO1.out _
    · obtain ⟨i, hi, hzi⟩ : ∃ i : Nat, i < ln.l.length ∧ z = (i : Int) := by
        rcases HZ.out with h | h
        · omega
        · exact h
      subst hzi
      have hno : ln.Own w2 base 40 5 nodeCells K := by rw [HLN.out]; exact H2.out.ll.nodes
      obtain ⟨ad, cur, hA, hbase, hblt, hblk, hoff, hput⟩ := ownR_ad_r (f := nodeCells) (m := 5) (fun _ => rfl) hno.own hi (j := 3) (by decide)
      obtain ⟨ad', hA', -, hcell⟩ := rd_rows (f := nodeCells) (m := 5) (fun _ => rfl) (by decide) hno.own.row.rd hi
      rw [hA] at hA' a1
      injection hA' with hA'
      subst hA'
      obtain ⟨X, hX⟩ : ∃ X, X = ln.l[i] := ⟨_, rfl⟩
      rw [← hX] at hcell
      have c3 : w2.cell? ⟨(ad.add (i * 5)).block, (ad.add (i * 5)).off + 3, none⟩ = some (.int .i64 X.seq) := hcell 3 _ rfl
      have HPT := Lib.hid (show ∀ u, Blk u (ad.add (i * 5)).block 40 (cur.setIfInBounds ((ad.add (i * 5)).off + 3) (.int .i64 o.n)) → (⟨ln.A, ln.c, ln.l.set i ⟨X.name, X.key, X.exp, o.n, X.doc⟩⟩ : Sl NodeD).Own u base 40 5 nodeCells K from fun u hb => ⟨by
        have h := hput (.int .i64 o.n) ⟨X.name, X.key, X.exp, o.n, X.doc⟩ u (by rw [← hX]; rfl) hb
        show OwnR u base _ 5 ln.A ln.c (ln.l.set i _).length _
        rw [List.length_set]
        exact h, by show (ln.l.set i _).length ≤ K; rw [List.length_set]; exact HNL.out⟩)
      have HBK := Lib.hid (show ∀ u, Below w2.heap.size w2 u → Blk u (ad.add (i * 5)).block 40 cur from fun u hu => hblk.below hu hblt)
      have HOF := Lib.hid hoff
      have HBA := Lib.hid hbase
      have hi0 : (0 : Int) ≤ (i : Int) := by omega
      have hil : (i : Int) < (ln.l.length : Int) := by omega
      have HXM := Lib.hid (show X ∈ d.nodes.l by rw [hX, ← HLN.out]; exact List.getElem_mem _)
      have HSV := Lib.hid (show ∀ k, (⟨ln.A, ln.c, ln.l.set i k⟩ : Sl NodeD).v = d.nodes.v from fun k => by
        rw [← HLN.out]
        show Value.slice ln.A (ln.l.set i k).length ln.c = _
        rw [List.length_set]
        rfl)
      clear hno hput hcell hX hi hblk hbase hoff hblt hA hz0
      by_cases hs : o.n ≤ X.seq
      · go_wp2_with fail
        go_quiet (fail)
        go_wp2_with fail
        go_ret
        exact HNO2.out _ _
      · have hs' : decide (o.n ≤ X.seq) = false := decide_eq_false hs
        by_cases hm : 1099511627776 < o.n
        · go_wp2_with fail
          go_quiet (fail)
          go_wp2_with fail
          go_ret
          exact HNO2.out _ _
        · have HSX := Lib.hid (show X.seq < o.n ∧ o.n ≤ 1099511627776 from ⟨by omega, by omega⟩)
          go_wp2_with fail
          go_quiet (fail)
          generalize hn3 : w2.drewN _ = w3
          have H3 := Lib.hid (show LW w3 base g K d by rw [← hn3]; exact H2.out.below (below_drewN9 (Below.refl _ _) _))
          have HB3 := Lib.hid (show Below base w w3 by rw [← hn3]; exact below_drewN9 HB2.out _)
          have HK3 := Lib.hid (show Blk w3 w.heap.size 47 (opC o) by rw [← hn3]; exact HK2.out)
          have HBK3 := Lib.hid (show ∀ u, Below w3.heap.size w3 u → Blk u (ad.add (i * 5)).block 40 cur from fun u hu => HBK.out u (by
            have hs : w3.heap.size = w2.heap.size := by rw [← hn3]; rfl
            rw [← hs]
            have hd : Below w3.heap.size w2 w3 := by rw [hs, ← hn3]; exact below_drewN9 (Below.refl _ _) _
            exact hd.trans hu))
          have a1 : w3.cell? ⟨g, 1, none⟩ = some (.slice (some ad) ln.l.length ln.c) := by rw [← hn3]; exact a1
          have b1 : w3.cell? ⟨w.heap.size, 1, none⟩ = some (.int .i64 o.n) := HK3.out.cell 1
          clear hn3 c3
          go_wp2_with fail
          have HC0 : Below w3.heap.size w3 w3.drew := (Below.refl _ _).drew
          apply wp_region_seqh (fun u => Below w3.heap.size w3 u) (fun u u' => Below u.heap.size u u') [_, _, _, _, _, _, _, _, _] (gOf []) 9 (by kernel_rfl) (by kernel_rfl) (by decide) (by kernel_rfl) (stabL_of _ trivial) HC0
          simp only [List.take_succ_cons, List.take_zero, List.drop_succ_cons, List.drop_zero]
          iterate 3
            ((first | (apply SeqG.next; rfl; rfl; rfl)); (simp only [act_put, act_put_none, List.setIfInBounds_toArray, List.set_cons_zero, List.set_cons_succ]; rfl); (intro w1 hC1 hf E hE; go_wp2; exact .mk (hE _ hC1 (Below.refl _ _))))
          apply SeqG.next
          · rfl
          · rfl
          · rfl
          · simp only [act_put, act_put_none, List.setIfInBounds_toArray, List.set_cons_zero, List.set_cons_succ]
            rfl
          · intro w1 hC1 hf E hE
            have d0 := (hC1.cell (p := ⟨g, 1, none⟩) H3.out.box.lt).trans a1
            go_wp2
            exact .mk (hE _ hC1 (Below.refl _ _))
          iterate 2
            ((first | (apply SeqG.next; rfl; rfl; rfl)); (simp only [act_put, act_put_none, List.setIfInBounds_toArray, List.set_cons_zero, List.set_cons_succ]; rfl); (intro w1 hC1 hf E hE; go_wp2; exact .mk (hE _ hC1 (Below.refl _ _))))
          apply SeqG.next
          · rfl
          · rfl
          · rfl
          · simp only [act_put, act_put_none, List.setIfInBounds_toArray, List.set_cons_zero, List.set_cons_succ]
            rfl
          · intro w1 hC1 hf E hE
            have d0 := (hC1.cell (p := ⟨w.heap.size, 1, none⟩) HK3.out.lt).trans b1
            go_wp2
            exact .mk (hE _ hC1 (Below.refl _ _))
          iterate 2
            ((first | (apply SeqG.next; rfl; rfl; rfl)); (simp only [act_put, act_put_none, List.setIfInBounds_toArray, List.set_cons_zero, List.set_cons_succ]; rfl); (intro w1 hC1 hf E hE; go_wp2; exact .mk (hE _ hC1 (Below.refl _ _))))
          refine SeqG.nil ?_
          intro w1 hC1 hf
          clear hf
          refine SeqT.step rfl ?_
          intro E hE
          simp only [act_put, act_put_none, List.setIfInBounds_toArray, List.set_cons_zero, List.set_cons_succ] at hE
          have HBC := Lib.hid hC1
          refine wpList_put_cell (HBK3.out _ hC1) rfl rfl rfl rfl (by kernel_rfl) HOF.out rfl ?_
          intro w6 hb6 hw6
          have HB6 := Lib.hid hb6
          have HW6 := Lib.hid hw6
          clear hb6 hw6
          go_wp2_with fail
          refine .mk (hE undef _ ?_)
          clear hE E
          refine SeqT.nil ?_
          have HFN := Lib.hid (show DoPostR d o base g K w (.returned (.int .i64 0)) w6 from
            ⟨_, 0, rfl, ((H3.out.below HBC.out).node_field (HBK3.out _ HBC.out) HW6.out (HPT.out _ HB6.out) (HSV.out _)).more (Nat.le_succ K),
              HW6.out.below (HB3.out.trans (HBC.out.mono (Nat.le_trans HBS.out HB3.out.size))) HBA.out (Nat.le_trans HBS.out (HB3.out.trans (HBC.out.mono (Nat.le_trans HBS.out HB3.out.size))).size), .other HQD.out (fun h => ⟨h.1, fun n hn => by
                rcases List.mem_or_eq_of_mem_set hn with hn | rfl
                · exact h.2 n (by rw [← HLN.out]; exact hn)
                · have hx := h.2 X HXM.out
                  exact ⟨hx.1, by have := hx.2.1; have := HSX.out.1; show 0 ≤ o.n; omega, HSX.out.2, hx.2.2.2⟩⟩)⟩)
          clear hC1 HC0
          go_wp2_with fail
          go_ret
          exact HFN.out
  have e14 : (kd == (14 : Int)) = false := by simpa using h14
  clear h14
  have HFN := Lib.hid (show DoPostR d o base g K w (.returned (.int .i64 0)) w2 from ⟨d, 0, rfl, H2.out.more (Nat.le_succ K), HB2.out, .other HQD.out (fun h => h)⟩)
  go_wp2_with fail
  go_ret
  exact HFN.out
end Go.Proofs.YtilhhigdegccgaaDoor
