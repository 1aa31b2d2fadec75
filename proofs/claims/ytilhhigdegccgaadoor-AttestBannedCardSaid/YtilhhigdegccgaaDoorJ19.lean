/-
  Joined texts: Root2.
-/
import Derived.Test.YtilhhigdegccgaaDoorJ18
import Derived.Test.YtilhhigdegccgaaDoorJ10
/-
  Walk: the reference's Root, the 2-th.
-/
namespace Go.Proofs.YtilhhigdegccgaaDoor.Sh
set_option linter.unusedSimpArgs false
set_option linter.unusedVariables false
open Go.RowKit
structure RtSt (w0 : World) (gt gx : Nat) (T : List Nat) (X : Nat) (u : World) : Prop where
  bel : Below gt w0 u
  t : Blk u gt 3 (wordsV .i64 T).toArray
  x : Blk u gx 3 (wordsV .i64 (digs 5 X)).toArray
  lt : gt < gx
theorem RtSt.next {w0 u u' : World} {gt gx X : Nat} {T : List Nat} (h : RtSt w0 gt gx T X u) (hb : Below u.heap.size u u') : RtSt w0 gt gx T X u' :=
  ⟨h.bel.trans (hb.mono (by have := h.t.lt; omega)), h.t.below hb h.t.lt, h.x.below hb h.x.lt, h.lt⟩
theorem RtSt.drew {w0 u : World} {gt gx X : Nat} {T : List Nat} (h : RtSt w0 gt gx T X u) : RtSt w0 gt gx T X u.drew := h.next (Below.refl _ _).drew
theorem RtSt.put {w0 u u' : World} {gt gx X X' : Nat} {T : List Nat} (h : RtSt w0 gt gx T X u) (hw : Wrote gx u u') (hb : Blk u' gx 3 (wordsV .i64 (digs 5 X')).toArray) : RtSt w0 gt gx T X' u' :=
  ⟨hw.below h.bel (by have := h.lt; omega) (by have := h.t.lt; omega), hw.blk h.t (by have := h.lt; omega), hb, h.lt⟩
set_option maxRecDepth 100000 in
set_option maxHeartbeats 4000000 in
theorem root2_any (p : Nat) (w : World) (hp : p < 65536) : Calls Tryd.prog 78 #[.int .i64 p, .int .i64 2] w fun e w' => e = .returned (.int .u64 (rootN p 2 : Nat)) ∧ Below w.heap.size w w' := by
  have hmkT : ∀ u : World, (Instr.makeSlice 91 (.int .i64 9) (.int .i64 9)).run Tryd.prog u = .ok (.slice (some ⟨u.heap.size, 0, none⟩) 9 9) (u.alloc (.cells (wordsV .i64 (digs 9 0)).toArray 3)) := fun _ => by kernel_rfl
  have hmk5 : ∀ u : World, (Instr.makeSlice 91 (.int .i64 5) (.int .i64 5)).run Tryd.prog u = .ok (.slice (some ⟨u.heap.size, 0, none⟩) 5 5) (u.alloc (.cells (wordsV .i64 (digs 5 0)).toArray 3)) := fun _ => by kernel_rfl
  have hb0 := Blk.new w 3 (wordsV .i64 (digs 9 0)).toArray
  have dT : (w.alloc (.cells (wordsV .i64 (digs 9 0)).toArray 3)).cell? ⟨w.heap.size, 8, none⟩ = some (.int .i64 0) := hb0.cell 8
  have fT := hb0.free 8
  have hset : (wordsV .i64 (digs 9 0)).set 8 (.int .i64 (p : Int)) = wordsV .i64 ((digs 9 0).set 8 p) := by simp [wordsV, List.map_set]
  obtain ⟨TL, hTL⟩ : ∃ x, x = (digs 9 0).set 8 p := ⟨_, rfl⟩
  have hTd : ∀ d ∈ TL, d < 65536 := by rw [hTL]; exact set_lt (digs_lt _ _) hp
  have hTv : dval TL = p * 65536 ^ 8 := by
    have h := dval_set (digs 9 0) 8 p (by rw [digs_length]; decide)
    rw [getD_dig _ _ (digs_lt _ _), dval_digs _ _ (by decide)] at h
    rw [hTL]
    simpa using h
  have hTl : TL.length = 9 := by rw [hTL, List.length_set, digs_length]
  rw [← hTL] at hset
  have HSET := Lib.hid hset
  have HTD := Lib.hid hTd
  have HTV := Lib.hid hTv
  have HTL := Lib.hid hTl
  clear hb0 hset hTL hTd hTv hTl
  have hpl : (p : Int) < 65536 := by omega
  clear hp
  go_enter Tryd.func78, Tryd.ntmps78
  go_wp2_with fail
  rw [HSET.out]
  obtain ⟨gt, hgt⟩ : ∃ x, x = w.heap.size := ⟨_, rfl⟩
  obtain ⟨gx, hgx⟩ : ∃ x, x = w.heap.size + 1 := ⟨_, rfl⟩
  have hst0 : RtSt w gt gx TL (rootX p 2 0) ((w.alloc (.cells (wordsV .i64 TL).toArray 3)).alloc (.cells (wordsV .i64 (digs 5 0)).toArray 3)) := by
    rw [hgt, hgx]
    exact ⟨(below_new _ _).alloc (by simp) _, (Blk.new _ _ _).alloc _, by have := Blk.new (w.alloc (.cells (wordsV .i64 TL).toArray 3)) 3 (wordsV .i64 (digs 5 0)).toArray; exact (by simpa using this : Blk _ (w.heap.size + 1) 3 (wordsV .i64 (digs 5 0)).toArray), by omega⟩
  rw [← hgx, ← hgt]
  have HGT := Lib.hid hgt
  clear hgt hgx hmkT hmk5 dT fT
  go_loopw [7] (fun i wr => ∃ n : Nat, n ≤ 69 ∧ i = .int .i64 (68 - (n : Int)) ∧ RtSt w gt gx TL (rootX p 2 n) wr) (fun i _ => (intOf i + 1).toNat)
  case atStart => exact ⟨0, by omega, rfl, hst0⟩
  case round =>
    obtain ⟨n, hn, rfl, hst⟩ := hrel
    clear hst0
    by_cases hlt : n < 69
    · obtain ⟨b, hb⟩ : ∃ b : Nat, (68 - (n : Int)) = (b : Int) := ⟨68 - n, by omega⟩
      rw [hb]
      have hbn : b + n = 68 := by omega
      obtain ⟨X, hX⟩ : ∃ x, x = rootX p 2 n := ⟨_, rfl⟩
      have hXl := rootX_lt p 2 n hn
      have hXd := rootX_dvd p 2 n hn
      have hnext : rootX p 2 (n + 1) = if p * 65536 ^ 8 < (X + 2 ^ b) ^ 2 then X else X + 2 ^ b := by
        rw [rootX, ← hX, show 68 - n = b by omega]
      rw [← hX] at hst hXl hXd
      rw [show 69 - n = b + 1 by omega] at hXl hXd
      obtain ⟨q, hq⟩ : ∃ q, q = b / 16 := ⟨_, rfl⟩
      obtain ⟨r, hr⟩ : ∃ r, r = b % 16 := ⟨_, rfl⟩
      have hq5 : q < 5 := by omega
      have hr16 : r < 16 := by omega
      have hX80 : X + 2 ^ b < 65536 ^ 5 := by
        have h2 : 2 ^ (b + 1) = 2 * 2 ^ b := by rw [Nat.pow_succ, Nat.mul_comm]
        have h3 : (2 : Nat) ^ 69 < 65536 ^ 5 := by decide
        omega
      obtain ⟨hda, hdl⟩ := dig_add (n := 5) (bit := b) (X := X) (by omega) (by omega) hXd
      rw [← hq, ← hr] at hda hdl
      obtain ⟨X1, hX1⟩ : ∃ x, x = X + 2 ^ b := ⟨_, rfl⟩
      obtain ⟨d0, hd0⟩ : ∃ x, x = (digs 5 X).getD q 0 := ⟨_, rfl⟩
      obtain ⟨D, hD⟩ : ∃ x, x = 2 ^ r := ⟨_, rfl⟩
      rw [← hX1, ← hd0, ← hD] at hda
      rw [← hd0, ← hD] at hdl
      rw [← hX1] at hnext hX80
      have hset1 : (wordsV .i64 (digs 5 X)).toArray.setIfInBounds q (.int .i64 ((d0 + D : Nat) : Int)) = (wordsV .i64 (digs 5 X1)).toArray := by rw [wordsV_set, hda]
      have hset2 : (wordsV .i64 (digs 5 X1)).toArray.setIfInBounds q (.int .i64 (d0 : Int)) = (wordsV .i64 (digs 5 X)).toArray := by
        rw [wordsV_set, ← hda, List.set_set, hd0]
        congr 2
        rw [List.getD_eq_getElem?_getD, List.getElem?_eq_getElem (by rw [digs_length]; exact hq5), Option.getD_some, List.set_getElem_self]
      have hc1 : (wordsV .i64 (digs 5 X))[q]? = some (.int .i64 (d0 : Int)) := by rw [hd0]; exact wordsV_at (by rw [digs_length]; exact hq5)
      have hc2 : (wordsV .i64 (digs 5 X1))[q]? = some (.int .i64 ((d0 + D : Nat) : Int)) := by
        rw [← hda, wordsV, List.getElem?_map, List.getElem?_set_self (by rw [digs_length]; exact hq5)]; rfl
      have hqb : (b : Int) / 16 = (q : Int) := by omega
      have hrb : (b : Int) % 16 = (r : Int) := by omega
      have hDl : D ≤ 32768 := by rw [hD]; exact Nat.pow_le_pow_right (n := 2) (by decide) (show r ≤ 15 by omega)
      have dx := hst.x.cell q
      rw [List.getElem?_toArray, hc1] at dx
      have fx := hst.x.free q
      have hd0l : d0 + D ≤ 65535 := by omega
      have HX := Lib.hid hX
      have HNEXT := Lib.hid hnext
      have HX80 := Lib.hid hX80
      have HX1 := Lib.hid hX1
      have HSET1 := Lib.hid hset1
      have HSET2 := Lib.hid hset2
      have HC2 := Lib.hid hc2
      have HD := Lib.hid hD
      have HST := Lib.hid hst
      have HB := Lib.hid hb
      have HBN := Lib.hid hbn
      have hb0 : (0 : Int) ≤ (b : Int) := by omega
      clear hb hbn hX hXl hXd hnext hq hr hX80 hda hdl hX1 hd0 hD hset1 hset2 hc1 hc2 hst hlt hn
      go_wp2_with fail
      go_loop [8, 9] (fun v i => ∃ j e : Nat, j ≤ r ∧ i = .int .i64 j ∧ e = 2 ^ j ∧ v = .int .i64 e) (fun _ i => r - (intOf i).toNat)
      case atStart => exact ⟨0, 1, by omega, rfl, rfl, rfl⟩
      case round =>
        obtain ⟨j, e, hj, rfl, he, rfl⟩ := hrel
        by_cases hjr : j < r
        · have hjr' : (j : Int) < (r : Int) := by omega
          have hel : e ≤ 16384 := by rw [he]; exact Nat.pow_le_pow_right (n := 2) (by decide) (show j ≤ 14 by omega)
          have HE := Lib.hid he
          clear he
          go_wp2_with fail
          exact ⟨⟨j + 1, 2 * e, by omega, by go_num, by rw [HE.out, Nat.pow_succ, Nat.mul_comm], by go_num⟩, by simp [intOf]; omega⟩
        · obtain rfl : j = r := by omega
          obtain rfl : e = D := by rw [he, HD.out]
          clear he
          go_wp2_with fail
          obtain ⟨w2, hw2⟩ : ∃ x, x = wr.setCell ⟨gx, q, none⟩ (.int .i64 ((d0 : Int) + (e : Int))) := ⟨_, rfl⟩
          have hst2 : RtSt w gt gx TL X1 w2 := by
            rw [hw2]
            refine HST.out.put (wrote_setCell_at _ _ _ _) ?_
            have h := blk_setCell_at (i := q) HST.out.x (.int .i64 ((d0 + e : Nat) : Int))
            rw [HSET1.out] at h
            exact h
          rw [← hw2]
          have hx2 := Rd.of_blk (B := w2.heap.size) hst2.x hst2.x.lt
          have hm := mulA_any (digs 5 X1) (digs 5 X1) (digs_lt _ _) (digs_lt _ _) _ _ 5 5 _ _ w2 hx2 hx2 (digs_length _ _) (digs_length _ _) (Nat.le_refl _) (Nat.le_refl _) (Nat.le_refl _) (Nat.le_refl _)
          refine calls_then hm ?_
          rintro e1 w3 ⟨g1, rfl, hg1, hb1, hbel1⟩
          rw [dval_digs 5 X1 HX80.out] at hb1
          have hst3 := hst2.next hbel1
          clear hw2 hst2 hx2 hm hbel1 hg1 dx fx HSET1 HST
          have HST3 := Lib.hid hst3
          have HB1 := Lib.hid hb1
          clear hst3 hb1
          go_wp2_with fail
          have hls := less_any TL (digs 10 (X1 * X1)) HTD.out (digs_lt _ _) (some ⟨gt, 0, none⟩) (some ⟨g1, 0, none⟩) 9 10 w3.heap.size w3.heap.size 9 10 w3 (Rd.of_blk HST3.out.t HST3.out.t.lt) (Rd.of_blk HB1.out HB1.out.lt) HTL.out (digs_length _ _) (by decide) (by decide) (Nat.le_refl _) (Nat.le_refl _)
          refine calls_then hls ?_
          rintro e1 w4 ⟨rfl, rfl⟩
          clear hls
          have hpw : X1 * X1 < 65536 ^ 10 := by have := HX80.out; exact Nat.lt_of_lt_of_le (Nat.mul_lt_mul'' this this) (by decide)
          rw [HTV.out, dval_digs _ _ hpw, show X1 * X1 = X1 ^ 2 by simp [Nat.pow_succ]]
          clear hpw
          have dx2 := HST3.out.x.cell q
          rw [List.getElem?_toArray, HC2.out] at dx2
          have fx2 := HST3.out.x.free q
          by_cases hmo : p * 65536 ^ 8 < X1 ^ 2
          · rw [decide_eq_true hmo]
            have hfin : RtSt w gt gx TL (rootX p 2 (n + 1)) (w3.setCell ⟨gx, q, none⟩ (.int .i64 (d0 : Int))) := by
              rw [HNEXT.out, if_pos hmo]
              refine HST3.out.put (wrote_setCell_at _ _ _ _) ?_
              have h := blk_setCell_at (i := q) HST3.out.x (.int .i64 (d0 : Int))
              rw [HSET2.out] at h
              exact h
            have HFIN := Lib.hid hfin
            clear hfin hmo
            go_wp2_with fail
            have := HBN.out
            exact ⟨⟨n + 1, by omega, congrArg (Value.int .i64) (by omega), HFIN.out⟩, by simp [intOf]⟩
          · rw [decide_eq_false hmo]
            have hfin : RtSt w gt gx TL (rootX p 2 (n + 1)) w3 := by
              rw [HNEXT.out, if_neg hmo]
              exact HST3.out
            have HFIN := Lib.hid hfin
            clear hfin hmo
            go_wp2_with fail
            have := HBN.out
            exact ⟨⟨n + 1, by omega, congrArg (Value.int .i64) (by omega), HFIN.out⟩, by simp [intOf]⟩
    · obtain rfl : n = 69 := by omega
      rw [show (68 - ((69 : Nat) : Int)) = -1 from rfl]
      obtain ⟨X, hX⟩ : ∃ x, x = rootX p 2 69 := ⟨_, rfl⟩
      rw [← hX] at hst
      have hXl : X < 65536 ^ 5 := by
        have := rootX_lt p 2 69 (Nat.le_refl _)
        rw [← hX] at this
        have h3 : (2 : Nat) ^ 69 < 65536 ^ 5 := by decide
        omega
      have hgd : ∀ i, (digs 5 X).getD i 0 = X / 65536 ^ i % 65536 := fun i => by rw [getD_dig _ _ (digs_lt _ _), dval_digs 5 X hXl]
      have hws : ∀ i, i < 5 → (wordsV .i64 (digs 5 X))[i]? = some (.int .i64 ((X / 65536 ^ i % 65536 : Nat) : Int)) := fun i hi => by rw [wordsV_at (by rw [digs_length]; exact hi), hgd]
      obtain ⟨x0, h0⟩ : ∃ x, x = X % 65536 := ⟨_, rfl⟩
      obtain ⟨x1, h1⟩ : ∃ x, x = X / 65536 % 65536 := ⟨_, rfl⟩
      obtain ⟨x2, h2⟩ : ∃ x, x = X / 4294967296 % 65536 := ⟨_, rfl⟩
      obtain ⟨x3, h3⟩ : ∃ x, x = X / 281474976710656 % 65536 := ⟨_, rfl⟩
      have E0 : Hid ((wordsV .i64 (digs 5 X))[0]? = some (.int .i64 (x0 : Int))) := Lib.hid (by rw [hws 0 (by decide), h0] <;> simp)
      have E1 : Hid ((wordsV .i64 (digs 5 X))[1]? = some (.int .i64 (x1 : Int))) := Lib.hid (by rw [hws 1 (by decide), h1] <;> simp)
      have E2 : Hid ((wordsV .i64 (digs 5 X))[2]? = some (.int .i64 (x2 : Int))) := Lib.hid (by rw [hws 2 (by decide), h2])
      have E3 : Hid ((wordsV .i64 (digs 5 X))[3]? = some (.int .i64 (x3 : Int))) := Lib.hid (by rw [hws 3 (by decide), h3])
      have hv : x0 + x1 * 65536 + x2 * 4294967296 + x3 * 281474976710656 = rootN p 2 := by
        rw [rootN, ← hX, h0, h1, h2, h3]
        omega
      have l0 : (x0 : Int) < 65536 := by omega
      have l1 : (x1 : Int) < 65536 := by omega
      have l2 : (x2 : Int) < 65536 := by omega
      have l3 : (x3 : Int) < 65536 := by omega
      have HV := Lib.hid hv
      have HC0 := hst.drew
      clear hX hXl hgd hws h0 h1 h2 h3 hv hst hlt hn
      go_wp2_with fail
      refine wp_region_seq (fun u => RtSt w gt gx TL X u) (by kernel_rfl) (by kernel_rfl) HC0 ?_
      iterate 2
        ((first | (apply SeqL.next; rfl; rfl)); (simp only [act_put, act_put_none, List.setIfInBounds_toArray, List.set_cons_zero, List.set_cons_succ]; rfl); (intro w1 hC1 E hE; go_wp2; exact .mk (hE _ hC1)))
      apply SeqL.next
      · rfl
      · rfl
      · simp only [act_put, act_put_none, List.setIfInBounds_toArray, List.set_cons_zero, List.set_cons_succ]
        rfl
      · intro w1 hC1 E hE
        have d0 := hC1.x.cell 0
        rw [List.getElem?_toArray, E0.out] at d0
        go_wp2
        exact .mk (hE _ hC1)
      iterate 3
        ((first | (apply SeqL.next; rfl; rfl)); (simp only [act_put, act_put_none, List.setIfInBounds_toArray, List.set_cons_zero, List.set_cons_succ]; rfl); (intro w1 hC1 E hE; go_wp2; exact .mk (hE _ hC1)))
      apply SeqL.next
      · rfl
      · rfl
      · simp only [act_put, act_put_none, List.setIfInBounds_toArray, List.set_cons_zero, List.set_cons_succ]
        rfl
      · intro w1 hC1 E hE
        have d0 := hC1.x.cell 1
        rw [List.getElem?_toArray, E1.out] at d0
        go_wp2
        exact .mk (hE _ hC1)
      iterate 5
        ((first | (apply SeqL.next; rfl; rfl)); (simp only [act_put, act_put_none, List.setIfInBounds_toArray, List.set_cons_zero, List.set_cons_succ]; rfl); (intro w1 hC1 E hE; go_wp2; exact .mk (hE _ hC1)))
      apply SeqL.next
      · rfl
      · rfl
      · simp only [act_put, act_put_none, List.setIfInBounds_toArray, List.set_cons_zero, List.set_cons_succ]
        rfl
      · intro w1 hC1 E hE
        have d0 := hC1.x.cell 2
        rw [List.getElem?_toArray, E2.out] at d0
        go_wp2
        exact .mk (hE _ hC1)
      iterate 5
        ((first | (apply SeqL.next; rfl; rfl)); (simp only [act_put, act_put_none, List.setIfInBounds_toArray, List.set_cons_zero, List.set_cons_succ]; rfl); (intro w1 hC1 E hE; go_wp2; exact .mk (hE _ hC1)))
      apply SeqL.next
      · rfl
      · rfl
      · simp only [act_put, act_put_none, List.setIfInBounds_toArray, List.set_cons_zero, List.set_cons_succ]
        rfl
      · intro w1 hC1 E hE
        have d0 := hC1.x.cell 3
        rw [List.getElem?_toArray, E3.out] at d0
        go_wp2
        exact .mk (hE _ hC1)
      iterate 4
        ((first | (apply SeqL.next; rfl; rfl)); (simp only [act_put, act_put_none, List.setIfInBounds_toArray, List.set_cons_zero, List.set_cons_succ]; rfl); (intro w1 hC1 E hE; go_wp2; exact .mk (hE _ hC1)))
      refine SeqL.nil ?_
      intro w1 hC1
      clear HC0
      go_wp2_with fail
      go_ret
      exact ⟨ret_int' (by rw [← HV.out]; omega), by rw [← HGT.out]; exact hC1.bel⟩
end Go.Proofs.YtilhhigdegccgaaDoor.Sh
