/-
  Joined texts: Jn3.
-/
import Derived.Test.YtilhhigdegccgaaDoorJ30
import Derived.Test.YtilhhigdegccgaaDoorJ37
/-
  Walk: brevetref15.joins, and what it does to tokens and nodes. (Printed by gen/jn3.py.)
-/
namespace Go.Proofs.YtilhhigdegccgaaDoor
set_option linter.unusedSimpArgs false
set_option linter.unusedVariables false
open Go.RowKit
def JcP (kd : Int) (o : OpD) (s : ByteArray) : Prop := (kd = 3 → Js.agentB o.join.name.data.toList = true) ∧ (kd ≠ 3 → s = o.name)
def AtP (l : List JoinD) (s : ByteArray) (m : Nat) (z : Int) : Prop :=
  (z = -1 ∧ ∀ (k : Nat) (h : k < l.length), m ≤ k → eqJ s (l[k]'h) = false) ∨ (∃ (j : Nat) (h : j < l.length), z = (j : Int) ∧ m ≤ j ∧ eqJ s (l[j]'h) = true ∧ ∀ (k : Nat) (h : k < l.length), m ≤ k → k < j → eqJ s (l[k]'h) = false)
theorem AtP.start (l : List JoinD) (s : ByteArray) {m : Nat} (hm : l.length ≤ m) : AtP l s m (-1) := .inl ⟨rfl, fun k h h2 => by omega⟩
theorem AtP.hit {l : List JoinD} {s : ByteArray} {i m : Nat} (h : i < l.length) (h1 : eqJ s (l[i]'h) = true) (hm : m = i) : AtP l s m (i : Int) := by
  subst hm
  exact .inr ⟨m, h, rfl, Nat.le_refl _, h1, fun k _ h2 h3 => by omega⟩
theorem AtP.miss {l : List JoinD} {s : ByteArray} {i m m' : Nat} {z : Int} (hz : AtP l s m z) (h : i < l.length) (h1 : eqJ s (l[i]'h) = false) (hm : m = i + 1) (hm' : m' = i) : AtP l s m' z := by
  subst hm hm'
  rcases hz with ⟨hz, hk⟩ | ⟨j, hj, hz, hmj, he, hk⟩
  · refine .inl ⟨hz, fun k h2 h3 => ?_⟩
    by_cases e : k = m'
    · subst e; exact h1
    · exact hk k h2 (by omega)
  · refine .inr ⟨j, hj, hz, by omega, he, fun k h2 h3 h4 => ?_⟩
    by_cases e : k = m'
    · subst e; exact h1
    · exact hk k h2 (by omega) h4
theorem AtP.or {l : List JoinD} {s : ByteArray} {m : Nat} {z : Int} (hz : AtP l s m z) : z = -1 ∨ ∃ j : Nat, j < l.length ∧ z = (j : Int) := by
  rcases hz with ⟨hz, _⟩ | ⟨j, hj, hz, _⟩
  · exact .inl hz
  · exact .inr ⟨j, hj, hz⟩
theorem AtP.none {l : List JoinD} {s : ByteArray} {z : Int} (hz : AtP l s 0 z) (h : z < 0) : l.find? (eqJ s) = none := by
  rcases hz with ⟨_, hk⟩ | ⟨j, hj, hz, _⟩
  · refine List.find?_eq_none.2 fun x hx => ?_
    obtain ⟨k, hk2, rfl⟩ := List.getElem_of_mem hx
    simp [hk k hk2 (Nat.zero_le _)]
  · omega
theorem AtP.find {l : List JoinD} {s : ByteArray} {i : Nat} (hz : AtP l s 0 (i : Int)) (h : i < l.length) : l.find? (eqJ s) = some (l[i]'h) := by
  rcases hz with ⟨hz, _⟩ | ⟨j, hj, hz, _, he, hk⟩
  · omega
  · obtain rfl : i = j := by omega
    refine find_at (eqJ s) (fun x hx => ?_) h he
    obtain ⟨k, hk2, rfl⟩ := List.getElem_of_mem hx
    rw [List.length_take] at hk2
    rw [List.getElem_take]
    exact hk k (by omega) (Nat.zero_le _) (by omega)
theorem InvP.add_join {d : LedD} {s : Sl JoinD} (h : InvP d) (hs : ∀ j ∈ s.l, j ∈ d.joins.l ∨ Js.agentB j.name.data.toList = true) : InvP { d with joins := s } :=
  ⟨fun j hj => (hs j hj).elim (h.1 j) id, h.2⟩
set_option maxRecDepth 100000 in
set_option maxHeartbeats 8000000 in
theorem joins15r_any (d : LedD) (o : OpD) (base g K : Nat) (w : World) (h : LW w base g K d) (hK : K ≤ 900) (ho : OpIn w o) (hk34 : o.kind = 3 ∨ o.kind = 4) :
    Calls Tryd.prog 39 #[.pointer (some ⟨g, 0, none⟩), .agg (opC o)] w (DoPostR d o base g K w) := by
  have HK34 := Lib.hid hk34
  clear hk34
  have huj := Tryd.underlying38
  have hun := Tryd.underlying40
  obtain ⟨W0, hW0⟩ : ∃ W0, W0 = w.alloc (.cells (opC o) 47) := ⟨_, rfl⟩
  have hb0 : Below w.heap.size w W0 := by rw [hW0]; exact (Below.refl _ w).alloc (Nat.le_refl _) _
  have hbs : base ≤ w.heap.size := Nat.le_of_lt (Nat.lt_of_le_of_lt h.hg h.box.lt)
  have HBS := Lib.hid hbs
  have HB0 := Lib.hid (hb0.mono hbs)
  have HK0 := Lib.hid (show Blk W0 w.heap.size 47 (opC o) by rw [hW0]; exact Blk.new _ _ _)
  have H0 := Lib.hid (h.below hb0)
  have HW0 := Lib.hid hW0
  have HKK := Lib.hid hK
  have CJ := Lib.hid (join15r_any o.join ho.jname ho.jtext W0)
  have HNN := Lib.hid ho.nname
  obtain ⟨lj, hlj⟩ : ∃ lj, lj = d.joins := ⟨_, rfl⟩
  have HLJ := Lib.hid hlj
  have HJL := Lib.hid (show lj.l.length ≤ K by rw [hlj]; exact H0.out.ll.joins.len)
  have hjl : (lj.l.length : Int) ≤ 900 := by have := HJL.out; omega
  have b0 : W0.cell? ⟨w.heap.size, 0, none⟩ = some (.int .i64 o.kind) := HK0.out.cell 0
  have b2 : W0.cell? ⟨w.heap.size, 2, none⟩ = some (.string o.name) := HK0.out.cell 2
  clear hW0 hb0 h ho hbs hK hlj
  go_enter Tryd.func39, Tryd.ntmps39
  go_upto_region 1 with (fail)
  rw [show w.alloc (.cells (opC o) 47) = W0 from HW0.out.symm]
  generalize Value.agg (opC o) = AV
  obtain ⟨kd, hkd⟩ : ∃ kd, kd = o.kind := ⟨_, rfl⟩
  have HKD := Lib.hid hkd
  rw [← hkd] at b0
  clear hkd
  go_upto_if 14 with (fail)
  go_cut [6] (fun v wx => (∃ s : ByteArray, v = .string s ∧ JcP kd o s) ∧ Below W0.heap.size W0 wx)
  case first =>
    by_cases h3 : kd = 3
    · have e3 : (kd == (3 : Int)) = true := by simp [h3]
      have HQ3 := Lib.hid (show kd = 3 ∧ (o.kind ≠ 4 ∧ o.kind ≠ 5) by rw [← HKD.out, h3]; decide)
      clear h3
      go_wp2_with (refine wpList_get_part (r := joinCells o.join) (k := 8) (n := 4) HK0.out (by simp [opC]) (opC_join _) rfl rfl rfl huj rfl joinT_size ?_)
      refine calls_then CJ.out ?_
      rintro e w1 ⟨⟨b, rfl, hjb⟩, hb1⟩
      have HJB := Lib.hid hjb
      clear hjb
      have HB1 := Lib.hid hb1
      obtain ⟨us, hus⟩ : ∃ us, us = o.join.used := ⟨_, rfl⟩
      have b11 : w1.cell? ⟨w.heap.size, 11, none⟩ = some (.bool us) := by rw [hus]; exact (HK0.out.below hb1 HK0.out.lt).cell 11
      have b8 : w1.cell? ⟨w.heap.size, 8, none⟩ = some (.string o.join.text) := (HK0.out.below hb1 HK0.out.lt).cell 8
      have HNO := Lib.hid (DoPostR.no (w := w) HQ3.out.2 (H0.out.below hb1) (HB0.out.trans (hb1.mono (Nat.le_trans HBS.out HB0.out.size))))
      clear hb1 hus
      cases b with
      | false =>
        go_wp2_with fail
        go_ret
        exact HNO.out _
      | true =>
        cases us with
        | true =>
          go_wp2_with fail
          go_ret
          exact HNO.out _
        | false =>
          go_wp2_with fail
          go_meet
          exact ⟨⟨_, rfl, fun _ => HJB.out (by first | rfl | trivial), fun h => absurd HQ3.out.1 h⟩, HB1.out⟩
    · have e3 : (kd == (3 : Int)) = false := by simpa using h3
      have HQ4 := Lib.hid h3
      clear h3
      go_wp2_with fail
      go_meet
      exact ⟨⟨_, rfl, fun h => absurd h HQ4.out, fun _ => rfl⟩, Below.refl _ _⟩
  case rest =>
  obtain ⟨⟨s, rfl, hjc⟩, hbc⟩ := hcut
  have HJC := Lib.hid hjc
  clear hjc
  have H1 := Lib.hid (H0.out.below hbc)
  have HB1 := Lib.hid (HB0.out.trans (hbc.mono (Nat.le_trans HBS.out HB0.out.size)))
  have HK1 := Lib.hid (HK0.out.below hbc HK0.out.lt)
  have a3 : wc.cell? ⟨g, 3, none⟩ = some (.slice lj.A lj.l.length lj.c) := by rw [HLJ.out]; exact H1.out.box.cell 3
  have b0 : wc.cell? ⟨w.heap.size, 0, none⟩ = some (.int .i64 kd) := by rw [HKD.out]; exact HK1.out.cell 0
  have HJO := Lib.hid (show lj.Own wc base 38 4 joinCells K by rw [HLJ.out]; exact H1.out.ll.joins)
  clear hbc CJ H0 HB0 HK0
  go_wp2_with fail
  go_loopw [5, 8] (fun at_ x wr => ∃ (xi z : Int), -1 ≤ xi ∧ xi < (lj.l.length : Int) ∧ x = .int .i64 xi ∧ at_ = .int .i64 z ∧ AtP lj.l s (xi + 1).toNat z ∧ wr = wc) (fun _ x _ => (intOf x + 1).toNat)
  case atStart => exact ⟨(lj.l.length : Int) - 1, -1, by omega, by omega, by go_num, rfl, AtP.start _ _ (by omega), rfl⟩
  case round =>
    obtain ⟨xi, z, hx1, hx2, rfl, rfl, hz, rfl⟩ := hrel
    have HZ := Lib.hid hz
    clear hz
    by_cases hx0 : 0 ≤ xi
    · obtain ⟨i, rfl⟩ : ∃ i : Nat, xi = (i : Int) := ⟨xi.toNat, by omega⟩
      have hlt : i < lj.l.length := by omega
      obtain ⟨ad, hA, -, hcell⟩ := rd_rows (f := joinCells) (m := 4) (fun _ => rfl) (by decide) HJO.out.own.row.rd hlt
      rw [hA] at a3
      obtain ⟨X, hX⟩ : ∃ X, X = lj.l[i] := ⟨_, rfl⟩
      rw [← hX] at hcell
      have d0 : wr.cell? (ad.add (i * 4)) = some (.string X.text) := hcell 0 _ rfl
      have HLT := Lib.hid hlt
      have HXT := Lib.hid (show ∀ h : i < lj.l.length, eqJ s (lj.l[i]'h) = (X.text.toList == s.toList) from fun _ => by rw [hX]; rfl)
      clear hX hcell hlt hA hx1
      obtain ⟨q, hq⟩ : ∃ q, (X.text.toList == s.toList) = q := ⟨_, rfl⟩
      cases q with
      | true =>
        go_wp2_with fail
        go_roundw
        case rel => exact ⟨(i : Int) - 1, (i : Int), by omega, by omega, by go_num, rfl, AtP.hit HLT.out (by rw [HXT.out]; exact hq) (by omega), by trivial⟩
        case measure => first | (simp [intOf]; done) | (simp [intOf]; omega)
      | false =>
        go_wp2_with fail
        go_roundw
        case rel => exact ⟨(i : Int) - 1, z, by omega, by omega, by go_num, rfl, HZ.out.miss (i := i) HLT.out (by rw [HXT.out]; exact hq) (by omega) (by omega), by trivial⟩
        case measure => first | (simp [intOf]; done) | (simp [intOf]; omega)
    · have HNO1 := Lib.hid (fun f (hr : DoRel d o d f) => show DoPostR d o base g K w (.returned (.int .i64 f)) wr from ⟨d, f, rfl, H1.out.more (Nat.le_succ K), HB1.out, hr⟩)
      have HNO2 := Lib.hid (fun (m : Nat) f (hr : DoRel d o d f) => show DoPostR d o base g K w (.returned (.int .i64 f)) (wr.drewN m) from ⟨d, f, rfl, (H1.out.below (below_drewN9 (Below.refl _ wr) m)).more (Nat.le_succ K), below_drewN9 HB1.out m, hr⟩)
      have HZ9 := Lib.hid (show AtP lj.l s 0 z by have h := HZ.out; rwa [show (xi + 1).toNat = 0 by omega] at h)
      have HR3 := Lib.hid (show kd = 3 → ∀ f, DoRel d o d f from fun h f => .other (by rw [← HKD.out, h]; decide) (fun h => h))
      have HR4 := Lib.hid (show kd ≠ 3 → ∀ f, (∀ j, lj.l.find? (eqJ s) = some j → j.used = false → (o.node.name.toList == j.name.toList) = true → False) → DoRel d o d f from fun h f hc => ⟨fun h => h, fun e => by rcases HK34.out with h2 | h2 <;> (rw [h2] at e; cases e), fun _ j h1 h2 h3 _ _ => (hc j (by rw [HLJ.out, HJC.out.2 h]; exact h1) h2 h3).elim⟩)
      clear hx1 hx2
      by_cases h3 : kd = 3
      · have e3 : (kd == (3 : Int)) = true := by simp [h3]
        have HK3 := Lib.hid h3
        clear h3
        by_cases hz0 : 0 ≤ z
        · go_wp2_with fail
          go_ret
          exact HNO1.out _ (HR3.out HK3.out _)
        · by_cases h16 : (16 : Int) ≤ (lj.l.length : Int)
          · go_wp2_with fail
            go_ret
            exact HNO1.out _ (HR3.out HK3.out _)
          · go_wp2_with fail
            have HC0 : Below wr.heap.size wr wr.drew := (Below.refl _ _).drew
            have HJR := Lib.hid (show OwnR wr base 38 4 lj.A lj.c lj.l.length (rowsV joinCells lj.l) from HJO.out.own)
            apply wp_region_seqp (fun u => Below wr.heap.size wr u) (fun i => i == 0) (fun u u' => Below u.heap.size u u') [_, _, _, _, _, _, _, undef] (gOf [(7, fun v u => ∃ ad, v = .slice (some ⟨ad, 0, none⟩) 1 1 ∧ Blk u ad 38 (joinCells o.join))]) 8 (by kernel_rfl) (by kernel_rfl) (by decide) (by kernel_rfl) (fun i h => by simp only [beq_iff_eq] at h; subst h; rfl) (stabL_of _ ⟨(fun _ _ _ h h0 => by obtain ⟨ga, e, hb⟩ := h0; exact ⟨ga, e, hb.below h hb.lt⟩), trivial⟩) HC0
            simp only [List.take_succ_cons, List.take_zero, List.drop_succ_cons, List.drop_zero]
            iterate 4
              first
              | (apply SeqH.pure; rfl; rfl; rfl; rfl; (simp only [act_put, act_put_none, List.setIfInBounds_toArray, List.set_cons_zero, List.set_cons_succ]; rfl); (intro w1 E hE; go_wp2; exact .mk hE))
              | (apply SeqH.step; rfl; (first | (apply SeqG.next; rfl; rfl; rfl)); (simp only [act_put, act_put_none, List.setIfInBounds_toArray, List.set_cons_zero, List.set_cons_succ]; rfl); (intro w1 hC1 hf E hE; go_wp2; exact .mk (hE _ hC1 (Below.refl _ _))); refine SeqG.nil ?_)
            apply SeqH.step
            · rfl
            apply SeqG.next
            · rfl
            · rfl
            · rfl
            · simp only [act_put, act_put_none, List.setIfInBounds_toArray, List.set_cons_zero, List.set_cons_succ]
              rfl
            · intro w1 hC1 hf E hE
              have d0 := (hC1.cell (p := ⟨g, 3, none⟩) H1.out.box.lt).trans a3
              go_wp2
              exact .mk (hE _ hC1 (Below.refl _ _))
            refine SeqG.nil ?_
            iterate 1
              (apply SeqH.step; rfl; (first | (apply SeqG.next; rfl; rfl; rfl)); (simp only [act_put, act_put_none, List.setIfInBounds_toArray, List.set_cons_zero, List.set_cons_succ]; rfl); (intro w1 hC1 hf E hE; go_wp2; exact .mk (hE _ hC1 (Below.refl _ _))); refine SeqG.nil ?_)
            apply SeqH.step
            · rfl
            apply SeqG.next
            · rfl
            · rfl
            · rfl
            · simp only [act_put, act_put_none, List.setIfInBounds_toArray, List.set_cons_zero, List.set_cons_succ]
              rfl
            · intro w1 hC1 hf E hE
              refine wpList_get_part (r := joinCells o.join) (k := 8) (n := 4) (HK1.out.below hC1 HK1.out.lt) (by simp [opC]) (opC_join _) rfl rfl rfl huj rfl joinT_size ?_
              go_wp2_with fail
              exact .mk (hE _ hC1 (Below.refl _ _))
            refine SeqG.nil ?_
            apply SeqH.step
            · rfl
            apply SeqG.some
            · rfl
            · rfl
            · intro w1 hC1 hf E hE
              simp only [act_put, act_put_none, List.setIfInBounds_toArray, List.set_cons_zero, List.set_cons_succ] at hE
              unfold joinCells
              go_wp2
              exact .mk (hE _ _ ⟨_, rfl, Blk.new _ _ _⟩ (hC1.alloc hC1.size _) ((Below.refl _ _).alloc (Nat.le_refl _) _))
            intro x7
            simp only [act_put, act_put_none, List.setIfInBounds_toArray, List.set_cons_zero, List.set_cons_succ]
            refine SeqG.nil ?_
            refine SeqH.nil ?_
            intro w1 hC1 hf
            have f7 := (hf 7 (of_decide_eq_true (by kernel_rfl))).1 rfl
            clear hf
            refine SeqT.step rfl ?_
            intro E hE
            simp only [act_put, act_put_none, List.setIfInBounds_toArray, List.set_cons_zero, List.set_cons_succ] at hE
            obtain ⟨ga, hx7, hb7⟩ := f7
            have HB7 := Lib.hid hb7
            have HBC := Lib.hid hC1
            clear hb7
            simp only [hx7] at hE ⊢
            refine wpList_append_r (m := 1) (news := (joinCells o.join).toList) sl_joins rfl rfl (HJR.out.below hC1) rfl rfl rfl (Rd.of_blk (l := (joinCells o.join).toList) HB7.out HB7.out.lt) (by simp [joinCells, Value.oneCell']) (by unfold maxLen; omega) (by omega) (Nat.le_trans (Nat.le_trans HBS.out HB1.out.size) hC1.size) ?_
            intro A8 c8 w8 ho8 hg8 hn8
            have HO8 := Lib.hid ho8
            have HG8 := Lib.hid hg8
            clear ho8 hg8 hn8
            go_wp2_with fail
            refine .mk (hE _ _ ?_)
            clear hE E
            refine SeqT.step rfl ?_
            intro E hE
            simp only [act_put, act_put_none, List.setIfInBounds_toArray, List.set_cons_zero, List.set_cons_succ] at hE
            go_wp2
            refine .mk (hE _ _ ?_)
            clear hE E
            refine SeqT.step rfl ?_
            intro E hE
            simp only [act_put, act_put_none, List.setIfInBounds_toArray, List.set_cons_zero, List.set_cons_succ] at hE
            go_wp2
            refine .mk (hE _ _ ?_)
            clear hE E
            refine SeqT.step rfl ?_
            intro E hE
            simp only [act_put, act_put_none, List.setIfInBounds_toArray, List.set_cons_zero, List.set_cons_succ] at hE
            refine wpList_put_cell (i := 3) ((H1.out.below HBC.out).box.keep (keepBut_grown (HJR.out.below HBC.out) HG8.out) (by decide)) rfl rfl rfl rfl (by kernel_rfl) (by simp [ledCells]) rfl ?_
            intro w9 hb9 hw9
            have HB9 := Lib.hid hb9
            have HW9 := Lib.hid hw9
            clear hb9 hw9
            go_wp2_with fail
            refine .mk (hE undef _ ?_)
            clear hE E
            refine SeqT.nil ?_
            have HFN := Lib.hid (show DoPostR d o base g K w (.returned (.int .i64 0)) w9 by
              have hbg : Below base w w8 := (HB1.out.trans (HBC.out.mono (Nat.le_trans HBS.out HB1.out.size))).grown HG8.out (Nat.le_trans HBS.out (HB1.out.trans (HBC.out.mono (Nat.le_trans HBS.out HB1.out.size))).size) fun j hj => (HJR.out.lt j hj).1
              have hl := (H1.out.below HBC.out).join_add (k := o.join) (A' := A8) (c' := c8) (by rw [← HLJ.out]; exact HO8.out) (by rw [← HLJ.out]; exact HG8.out) HW9.out (by rw [← HLJ.out]; exact HB9.out)
              exact ⟨_, 0, rfl, hl, HW9.out.below hbg H1.out.hg (Nat.le_trans HBS.out hbg.size), .other (by rw [← HKD.out, HK3.out]; decide) fun h => h.add_join fun j hj => by
                rcases List.mem_append.1 hj with hj | hj
                · exact .inl hj
                · have e : j = o.join := by simpa using hj
                  rw [e]; exact .inr (HJC.out.1 HK3.out)⟩)
            clear hC1 HC0
            go_wp2_with fail
            go_ret
            exact HFN.out
      · have e3 : (kd == (3 : Int)) = false := by simpa using h3
        have HK4 := Lib.hid h3
        clear h3
        by_cases hz0 : z < 0
        · have HRN := Lib.hid (show ∀ f, DoRel d o d f from fun f => HR4.out HK4.out f fun j h1 _ _ => by rw [HZ9.out.none hz0] at h1; cases h1)
          go_wp2_with fail
          go_ret
          exact HNO1.out _ (HRN.out _)
        · obtain ⟨i, hi, hzi⟩ : ∃ j : Nat, j < lj.l.length ∧ z = (j : Int) := by
            rcases HZ.out.or with h | h
            · omega
            · exact h
          subst hzi
          obtain ⟨ad, hA, -, hcell⟩ := rd_rows (f := joinCells) (m := 4) (fun _ => rfl) (by decide) HJO.out.own.row.rd hi
          rw [hA] at a3
          obtain ⟨X, hX⟩ : ∃ X, X = lj.l[i] := ⟨_, rfl⟩
          rw [← hX] at hcell
          obtain ⟨us, hus⟩ : ∃ us, us = X.used := ⟨_, rfl⟩
          have d3 : wr.cell? ⟨(ad.add (i * 4)).block, (ad.add (i * 4)).off + 3, none⟩ = some (.bool us) := by rw [hus]; exact hcell 3 _ rfl
          have d1 : wr.cell? ⟨(ad.add (i * 4)).block, (ad.add (i * 4)).off + 1, none⟩ = some (.string X.name) := hcell 1 _ rfl
          have b12 : wr.cell? ⟨w.heap.size, 12, none⟩ = some (.string o.node.name) := HK1.out.cell 12
          have hi0 : (0 : Int) ≤ (i : Int) := by omega
          have hil : (i : Int) < (lj.l.length : Int) := by omega
          have HIL := Lib.hid hi
          have HFX := Lib.hid (show lj.l.find? (eqJ s) = some X by rw [hX]; exact HZ9.out.find hi)
          have HXU := Lib.hid hus
          have HAA := Lib.hid hA
          clear hX hcell hus hz0 hi hA
          cases us with
          | true =>
            have HRN := Lib.hid (show ∀ f, DoRel d o d f from fun f => HR4.out HK4.out f fun j h1 h2 _ => by rw [HFX.out] at h1; cases h1; rw [← HXU.out] at h2; cases h2)
            go_wp2_with fail
            go_ret
            exact HNO1.out _ (HRN.out _)
          | false =>
            obtain ⟨q, hq⟩ : ∃ q, (X.name.toList == o.node.name.toList) = q := ⟨_, rfl⟩
            cases q with
            | false =>
              have HRN := Lib.hid (show ∀ f, DoRel d o d f from fun f => HR4.out HK4.out f fun j h1 _ h3 => by rw [HFX.out] at h1; cases h1; rw [show (o.node.name.toList == X.name.toList) = (X.name.toList == o.node.name.toList) from BEq.comm, hq] at h3; cases h3)
              go_wp2_with fail
              go_quiet (fail)
              go_wp2_with fail
              go_ret
              exact HNO2.out _ _ (HRN.out _)
            | true =>
              go_wp2_with fail
              go_quiet (fail)
              generalize hn3 : wr.drewN _ = w3
              have H3 := Lib.hid (show LW w3 base g K d by rw [← hn3]; exact H1.out.below (below_drewN9 (Below.refl _ _) _))
              have HB3 := Lib.hid (show Below base w w3 by rw [← hn3]; exact below_drewN9 HB1.out _)
              have HK3 := Lib.hid (show Blk w3 w.heap.size 47 (opC o) by rw [← hn3]; exact HK1.out)
              clear hn3 d3 d1
              go_wp2_with (refine wpList_get_part (r := nodeCells o.node) (k := 12) (n := 5) HK3.out (by simp [opC]) (opC_node _) rfl rfl rfl hun rfl nodeT_size ?_)
              refine calls_then (putNodeR_any d o.node base g K w3 H3.out HKK.out HNN.out) ?_
              rintro e w4 ⟨sn, f, rfl, hl4, hb4, hnr⟩
              have HNR := Lib.hid hnr
              clear hnr
              have H4 := Lib.hid hl4
              have HB4 := Lib.hid (HB3.out.trans hb4)
              clear hl4 hb4
              by_cases hf : f = 0
              · subst hf
                have HJ4 := Lib.hid (show lj.Own w4 base 38 4 joinCells (K + 1) by rw [HLJ.out]; exact H4.out.ll.joins)
                have a3 : w4.cell? ⟨g, 3, none⟩ = some (.slice (some ad) lj.l.length lj.c) := by
                  rw [← HAA.out, HLJ.out]
                  exact H4.out.box.cell 3
                obtain ⟨ad2, cur, hA2, hbase, hblt, hblk, hoff, hput⟩ := ownR_ad_r (f := joinCells) (m := 4) (fun _ => rfl) HJ4.out.own HIL.out (j := 3) (by decide)
                rw [HAA.out] at hA2
                injection hA2 with hA2
                subst hA2
                obtain ⟨Y, hY⟩ : ∃ Y, Y = lj.l[i]'HIL.out := ⟨_, rfl⟩
                have HBK := Lib.hid hblk
                have HOF := Lib.hid hoff
                have HFN := Lib.hid (show ∀ u, Blk u (ad.add (i * 4)).block 38 (cur.setIfInBounds ((ad.add (i * 4)).off + 3) (.bool true)) → Wrote (ad.add (i * 4)).block w4 u → DoPostR d o base g K w (.returned (.int .i64 0)) u from fun u hb hw => by
                  have hs : (⟨lj.A, lj.c, lj.l.set i ⟨Y.text, Y.name, Y.exp, true⟩⟩ : Sl JoinD).Own u base 38 4 joinCells (K + 1) := ⟨by
                    have h := hput (.bool true) ⟨Y.text, Y.name, Y.exp, true⟩ u (by rw [← hY]; rfl) hb
                    show OwnR u base _ 4 lj.A lj.c (lj.l.set i _).length _
                    rw [List.length_set]
                    exact h, by show (lj.l.set i _).length ≤ K + 1; rw [List.length_set]; have := HJL.out; omega⟩
                  have hv : (⟨lj.A, lj.c, lj.l.set i ⟨Y.text, Y.name, Y.exp, true⟩⟩ : Sl JoinD).v = d.joins.v := by
                    rw [← HLJ.out]
                    show Value.slice lj.A (lj.l.set i _).length lj.c = _
                    rw [List.length_set]
                    rfl
                  exact ⟨_, 0, rfl, H4.out.join_field hblk hw hs hv, hw.below HB4.out hbase (Nat.le_trans HBS.out HB4.out.size), ⟨fun h => (HNR.out.inv h).add_join (fun j hj => by
                    rcases List.mem_or_eq_of_mem_set hj with hj | rfl
                    · exact .inl (by show j ∈ d.joins.l; rw [← HLJ.out]; exact hj)
                    · exact .inr (h.1 Y (by rw [hY, ← HLJ.out]; exact List.getElem_mem _))), fun e => by rcases HK34.out with h2 | h2 <;> (rw [h2] at e; cases e), fun _ j _ _ _ h4 h5 => HNR.out.done h4 h5⟩⟩)
                clear hput hY hblk hoff hbase hblt
                go_wp2_with (refine wpList_put_cell HBK.out rfl rfl rfl rfl (by kernel_rfl) HOF.out rfl ?_; intro w6 hb6 hw6)
                go_ret
                exact HFN.out _ hb6 hw6
              · have hf' : (f == (0 : Int)) = false := by simpa using hf
                have HFN := Lib.hid (show DoPostR d o base g K w (.returned (.int .i64 f)) w4 from ⟨_, f, rfl, H4.out, HB4.out, ⟨fun h => HNR.out.inv h, fun e => by rcases HK34.out with h2 | h2 <;> (rw [h2] at e; cases e), fun _ j _ _ _ h4 h5 => HNR.out.done h4 h5⟩⟩)
                clear hf
                go_wp2_with fail
                go_ret
                exact HFN.out
end Go.Proofs.YtilhhigdegccgaaDoor
