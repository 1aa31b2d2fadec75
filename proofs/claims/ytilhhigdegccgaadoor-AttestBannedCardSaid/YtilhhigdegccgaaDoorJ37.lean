/-
  Joined texts: Nd3.
-/
import Derived.Test.YtilhhigdegccgaaDoorJ29
import Derived.Test.YtilhhigdegccgaaDoorJ36
/-
  Walk: brevetref15.putNode, and what it does to tokens and nodes. (Printed by gen/conv3.py.)
-/
namespace Go.Proofs.YtilhhigdegccgaaDoor
set_option linter.unusedSimpArgs false
set_option linter.unusedVariables false
open Go.RowKit
set_option maxRecDepth 100000 in
set_option maxHeartbeats 4000000 in
theorem putNodeR_any (d : LedD) (k : NodeD) (base g K : Nat) (w : World) (h : LW w base g K d) (hK : K ≤ 900) (hn : k.name.size ≤ 1000) :
    Calls Tryd.prog 40 #[.pointer (some ⟨g, 0, none⟩), .agg (nodeCells k)] w (NdPostR d k base g K w) := by
  have hu := Tryd.underlying40
  obtain ⟨W0, hW0⟩ : ∃ W0, W0 = w.alloc (.cells (nodeCells k) 40) := ⟨_, rfl⟩
  have hb0 : Below w.heap.size w W0 := by rw [hW0]; exact (Below.refl _ w).alloc (Nat.le_refl _) _
  have hbs : base ≤ w.heap.size := Nat.le_of_lt (Nat.lt_of_le_of_lt h.hg h.box.lt)
  have HBS := Lib.hid hbs
  have HB0 := Lib.hid (hb0.mono hbs)
  have HKB := Lib.hid (show Blk W0 w.heap.size 40 (nodeCells k) by rw [hW0]; exact Blk.new _ _ _)
  have H0 := Lib.hid (h.below hb0)
  have HW0 := Lib.hid hW0
  have CN := Lib.hid (node15r_any k hn W0)
  obtain ⟨b, hbb⟩ : ∃ b, b = nodB k := ⟨_, rfl⟩
  rw [← hbb] at CN
  have HNB := Lib.hid hbb
  clear hbb
  have HKK := Lib.hid hK
  clear hW0 hb0 h hn hbs
  go_enter Tryd.func40, Tryd.ntmps40
  go_upto_region 1 with (fail)
  rw [show w.alloc (.cells (nodeCells k) 40) = W0 from HW0.out.symm]
  generalize hAV : Value.agg (nodeCells k) = AV
  rw [hAV] at CN
  go_wp2_with (refine wpList_get_box (x := .tmp 3) (cs := nodeCells k) HKB.out rfl rfl rfl hu rfl nodeT_size ?_)
  refine calls_then CN.out ?_
  rintro e w1 ⟨rfl, hb1⟩
  have H1 := Lib.hid (H0.out.below hb1)
  have HB1 := Lib.hid (HB0.out.trans (hb1.mono (Nat.le_trans HBS.out HB0.out.size)))
  have HK1 := Lib.hid (HKB.out.below hb1 HKB.out.lt)
  clear hb1 CN
  cases b with
  | false =>
    go_wp2_with fail
    go_ret
    exact NdPostR.no H1.out HB1.out 1 (by decide) (fun h _ => by rw [← HNB.out] at h; cases h)
  | true =>
    obtain ⟨lb, hlb⟩ : ∃ lb, lb = d.bans := ⟨_, rfl⟩
    obtain ⟨ln, hln⟩ : ∃ ln, ln = d.nodes := ⟨_, rfl⟩
    have a1 : w1.cell? ⟨g, 1, none⟩ = some (.slice ln.A ln.l.length ln.c) := by rw [hln]; exact H1.out.box.cell 1
    have a2 : w1.cell? ⟨g, 2, none⟩ = some (.slice lb.A lb.l.length lb.c) := by rw [hlb]; exact H1.out.box.cell 2
    have b0 : w1.cell? ⟨w.heap.size, 0, none⟩ = some (.string k.name) := HK1.out.cell 0
    have HNO := Lib.hid (show ln.Own w1 base 40 5 nodeCells K by rw [hln]; exact H1.out.ll.nodes)
    have HBO := Lib.hid (show lb.Own w1 base 9 1 strCell K by rw [hlb]; exact H1.out.ll.bans)
    have CH := Lib.hid (fun (m : Nat) => show Calls Tryd.prog 58 #[.slice lb.A lb.l.length lb.c, .string k.name] (w1.drewN m) (fun e w' => e = .returned (.bool (hasB lb.l k.name)) ∧ w' = w1.drewN m) from (has9_any lb.l (by have := HBO.out.len; have := HKK.out; omega) k.name lb.A lb.c w1.heap.size (w1.drewN m) (by rw [← rowsV_str]; exact HBO.out.own.row.rd)).mono fun e w' h => ⟨h.1, h.2.symm⟩)
    obtain ⟨q, hq⟩ : ∃ q, q = hasB lb.l k.name := ⟨_, rfl⟩
    rw [← hq] at CH
    have HQB := Lib.hid (show q = hasB d.bans.l k.name by rw [hq, hlb])
    obtain ⟨z, hz⟩ : ∃ z, z = atN ln.l k.name := ⟨_, rfl⟩
    have HZ := Lib.hid (show z = -1 ∨ ∃ i : Nat, i < ln.l.length ∧ z = (i : Int) by rw [hz]; exact atN_or _ _)
    have hnl : (ln.l.length : Int) ≤ 900 := by have := HNO.out.len; have := HKK.out; omega
    have HLN := Lib.hid hln
    have HZE := Lib.hid hz
    clear hlb hln hq hz
    go_wp2_with fail
    go_quiet (refine Calls.quiet_of_same (CH.out _))
    cases q with
    | true =>
      go_wp2_with fail
      go_ret
      exact NdPostR.no (H1.out.below (below_drewN9 (Below.refl _ _) _)) (below_drewN9 HB1.out _) 21 (by decide) (fun _ h => by rw [← HQB.out] at h; cases h)
    | false =>
      obtain ⟨w2, hw2⟩ : ∃ w2, w2 = w1.drewN nq := ⟨_, rfl⟩
      rw [← hw2]
      have H2 := Lib.hid (show LW w2 base g K d by rw [hw2]; exact H1.out.below (below_drewN9 (Below.refl _ _) _))
      have HB2 := Lib.hid (show Below base w w2 by rw [hw2]; exact below_drewN9 HB1.out _)
      have HK2 := Lib.hid (show Blk w2 w.heap.size 40 (nodeCells k) by rw [hw2]; exact HK1.out)
      have HNO2 := Lib.hid (show ln.Own w2 base 40 5 nodeCells K by rw [HLN.out]; exact H2.out.ll.nodes)
      have CA := Lib.hid (fun (m : Nat) => show Calls Tryd.prog 59 #[.slice ln.A ln.l.length ln.c, .string k.name] (w2.drewN m) (fun e w' => e = .returned (.int .i64 z) ∧ w' = w2.drewN m) by
        have h := hasNode_any ln.l k.name ln.A ln.c w2.heap.size (w2.drewN m) HNO2.out.own.row.rd (by have := HNO2.out.len; have := HKK.out; omega)
        rw [← HZE.out] at h
        exact h)
      have a1' : w2.cell? ⟨g, 1, none⟩ = some (.slice ln.A ln.l.length ln.c) := by rw [HLN.out]; exact H2.out.box.cell 1
      have b0' : w2.cell? ⟨w.heap.size, 0, none⟩ = some (.string k.name) := HK2.out.cell 0
      clear hw2 a1 a2 b0
      by_cases hfull : z < 0 ∧ (4 : Int) ≤ (ln.l.length : Int)
      · obtain ⟨h1, h2⟩ := hfull
        go_wp2_with fail
        go_quiet (refine Calls.quiet_of_same (CA.out _))
        go_wp2_with fail
        go_ret
        exact NdPostR.no (H2.out.below (below_drewN9 (Below.refl _ _) _)) (below_drewN9 HB2.out _) 6 (by decide) (fun _ _ => rfl)
      · go_wp2_with fail
        go_cut [34] (fun v wx => v = .bool false ∧ ∃ m, wx = w2.drewN m)
        case first =>
          by_cases h1 : z < 0
          · have h2 : ¬ (4 : Int) ≤ (ln.l.length : Int) := fun h => hfull ⟨h1, h⟩
            clear hfull
            go_wp2_with fail
            go_quiet (refine Calls.quiet_of_same (CA.out _))
            go_wp2_with fail
            go_meet
            exact ⟨by simp [h2], _, rfl⟩
          · have h1' : decide (z < 0) = false := decide_eq_false h1
            clear hfull
            go_wp2_with fail
            go_quiet (refine Calls.quiet_of_same (CA.out _))
            go_wp2_with fail
            go_meet
            exact ⟨by simp, _, rfl⟩
        case rest =>
        obtain ⟨rfl, md, hwc⟩ := hcut
        have H3 := Lib.hid (show LW wc base g K d by rw [hwc]; exact H2.out.below (below_drewN9 (Below.refl _ _) _))
        have HB3 := Lib.hid (show Below base w wc by rw [hwc]; exact below_drewN9 HB2.out _)
        have HK3 := Lib.hid (show Blk wc w.heap.size 40 (nodeCells k) by rw [hwc]; exact HK2.out)
        have a1 : wc.cell? ⟨g, 1, none⟩ = some (.slice ln.A ln.l.length ln.c) := by rw [HLN.out]; exact H3.out.box.cell 1
        have CL := Lib.hid (show ∀ u, Below wc.heap.size wc u → Calls Tryd.prog 60 #[.slice ln.A ln.l.length ln.c, AV, .bool false] u (ListPostN ln.l k false u) from fun u hu => by
          rw [← hAV]
          have hno : ln.Own wc base 40 5 nodeCells K := by rw [HLN.out]; exact H3.out.ll.nodes
          exact nodes15r_any ln.l (by have := hno.len; have := HKK.out; omega) k false ln.A ln.c wc.heap.size u (hno.own.row.rd.below hu) hu.size)
        have HLL := Lib.hid (show ln.l.length ≤ K by rw [HLN.out]; exact H3.out.ll.nodes.len)
        clear hwc hfull a1' b0' HNO2 H2 HB2 HK2 CA
        go_wp2_with fail
        have HC0 : Below wc.heap.size wc wc.drew := (Below.refl _ _).drew
        apply wp_region_seqp (fun u => Below wc.heap.size wc u) (fun i => i == 0) (fun u u' => Below u.heap.size u u') [_, _, _, _, _, _] (gOf []) 6 (by kernel_rfl) (by kernel_rfl) (by decide) (by kernel_rfl) (fun i h => by simp only [beq_iff_eq] at h; subst h; rfl) (stabL_of _ trivial) HC0
        simp only [List.take_succ_cons, List.take_zero, List.drop_succ_cons, List.drop_zero]
        iterate 4
          first
          | (apply SeqH.pure; rfl; rfl; rfl; rfl; (simp only [act_put, act_put_none, List.setIfInBounds_toArray, List.set_cons_zero, List.set_cons_succ]; rfl); (intro w1 E hE; go_wp2; exact .mk hE))
          | (apply SeqH.step; rfl; (first | (apply SeqG.next; rfl; rfl; rfl)); (simp only [act_put, act_put_none, List.setIfInBounds_toArray, List.set_cons_zero, List.set_cons_succ]; rfl); (intro w1 hC1 hf E hE; go_wp2; exact .mk (hE _ hC1 (Below.refl _ _))); refine SeqG.nil ?_)
        apply SeqH.step
        · rfl
        apply SeqG.next
        · rfl
        · rfl
        · rfl
        · simp only [act_put, act_put_none, List.setIfInBounds_toArray, List.set_cons_zero, List.set_cons_succ]
          rfl
        · intro w1 hC1 hf E hE
          have d0 := (hC1.cell (p := ⟨g, 1, none⟩) H3.out.box.lt).trans a1
          go_wp2
          exact .mk (hE _ hC1 (Below.refl _ _))
        refine SeqG.nil ?_
        apply SeqH.step
        · rfl
        apply SeqG.next
        · rfl
        · rfl
        · rfl
        · simp only [act_put, act_put_none, List.setIfInBounds_toArray, List.set_cons_zero, List.set_cons_succ]
          rfl
        · intro w1 hC1 hf E hE
          refine wpList_get_box (cs := nodeCells k) (HK3.out.below hC1 HK3.out.lt) rfl rfl rfl hu rfl nodeT_size ?_
          rw [hAV]
          go_wp2_with fail
          exact .mk (hE _ hC1 (Below.refl _ _))
        refine SeqG.nil ?_
        refine SeqH.nil ?_
        intro w1 hC1 hf
        clear hf
        refine SeqT.step rfl ?_
        intro E hE
        simp only [act_put, act_put_none, List.setIfInBounds_toArray, List.set_cons_zero, List.set_cons_succ] at hE
        go_wp2_with fail
        refine calls_then (CL.out _ hC1) ?_
        rintro e w5 ⟨A5, c5, xs, rfl, hlen5, hmn5, hown5, hb5⟩
        have HMN := Lib.hid hmn5
        clear hmn5
        have HL5 := Lib.hid hlen5
        have HO5 := Lib.hid (hown5.mono hC1.size)
        have HB5 := Lib.hid (hC1.trans (hb5.mono hC1.size))
        clear hlen5 hown5 hb5
        go_wp2_with fail
        refine .mk (hE _ _ ?_)
        clear hE E
        refine SeqT.step rfl ?_
        intro E hE
        simp only [act_put, act_put_none, List.setIfInBounds_toArray, List.set_cons_zero, List.set_cons_succ] at hE
        go_wp2
        refine .mk (hE _ _ ?_)
        clear hE E
        refine SeqT.step rfl ?_
        intro E hE
        simp only [act_put, act_put_none, List.setIfInBounds_toArray, List.set_cons_zero, List.set_cons_succ] at hE
        go_wp2
        refine .mk (hE _ _ ?_)
        clear hE E
        refine SeqT.step rfl ?_
        intro E hE
        simp only [act_put, act_put_none, List.setIfInBounds_toArray, List.set_cons_zero, List.set_cons_succ] at hE
        have H5 := Lib.hid (H3.out.below HB5.out)
        refine wpList_put_cell (i := 1) H5.out.box rfl rfl rfl rfl (by kernel_rfl) (by simp [ledCells]) rfl ?_
        intro w6 hb6 hw6
        have HB6 := Lib.hid hb6
        have HW6 := Lib.hid hw6
        clear hb6 hw6
        go_wp2_with fail
        refine .mk (hE undef _ ?_)
        clear hE E
        refine SeqT.nil ?_
        have HFN := Lib.hid (show NdPostR d k base g K w (.returned (.int .i64 0)) w6 from
          ⟨⟨A5, c5, xs⟩, 0, rfl, (H5.out.more (Nat.le_succ K)).nodes_put ⟨HO5.out.mono (Nat.le_trans HBS.out HB3.out.size), by have := HL5.out; have := HLL.out; show xs.length ≤ K + 1; omega⟩ HW6.out HB6.out,
            HW6.out.below (HB3.out.trans (HB5.out.mono (Nat.le_trans HBS.out HB3.out.size))) H3.out.hg (Nat.le_trans HBS.out (HB3.out.trans (HB5.out.mono (Nat.le_trans HBS.out HB3.out.size))).size), .inr ⟨rfl, HNB.out.symm, HQB.out.symm, HMN.out.find, fun x hx => by have := HMN.out.mem x hx; rw [HLN.out] at this; exact this⟩⟩)
        clear hC1 HC0
        go_wp2_with fail
        go_ret
        exact HFN.out
end Go.Proofs.YtilhhigdegccgaaDoor
