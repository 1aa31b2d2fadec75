/-
  Joined texts: Ct2.
-/
import Derived.Deep.CutBlock
import Derived.Test.YtilhhigdegccgaaDoorJ6
import Derived.Test.YtilhhigdegccgaaDoorJ7
import Derived.Test.YtilhhigdegccgaaDoorJ26
import Derived.Test.YtilhhigdegccgaaDoorJ23
import Derived.Test.YtilhhigdegccgaaDoorJ14
/-
  Walks: brevetref15.few, Cut. (Printed by gen/ct20.py.)
-/
namespace Go.Proofs.YtilhhigdegccgaaDoor
set_option linter.unusedSimpArgs false
set_option linter.unusedVariables false
open Go.RowKit
def few60 (s : ByteArray) : ByteArray := if 60 < s.size then s.extract 0 60 else s
theorem few60_le (s : ByteArray) : (few60 s).size ≤ 60 := by
  unfold few60
  split
  · simp [ByteArray.size_extract]
    omega
  · omega
set_option maxHeartbeats 2000000 in
theorem few15_any (s : ByteArray) (w : World) : Calls Tryd.prog 27 #[.string s] w fun e w' => e = .returned (.string (few60 s)) ∧ w' = w := by
  go_enter Tryd.func27, Tryd.ntmps27
  by_cases hl : 60 < s.size
  · have hl' : (60 : Int) < (s.size : Int) := by omega
    have hl2 : 60 ≤ s.size := by omega
    have HF := Lib.hid (show few60 s = s.extract 0 60 by rw [few60, if_pos hl])
    clear hl
    go_wp2_with fail
    go_ret
    exact ⟨by rw [HF.out]; rfl, rfl⟩
  · have hl' : ¬ (60 : Int) < (s.size : Int) := by omega
    have HF := Lib.hid (show few60 s = s by rw [few60, if_neg hl])
    clear hl
    go_wp2_with fail
    go_ret
    exact ⟨by rw [HF.out]; rfl, rfl⟩
structure OpSee (w : World) (B : Nat) (o : OpD) : Prop where
  sel : ∃ l : List ByteArray, l.length = o.ent.sn ∧ Rd w B o.ent.sA (l.map Value.string)
  keys : ∃ l : List JwkD, l.length = o.bun.kn ∧ Rd w B o.bun.kA (rowsV jwkCells l)
  sn : (o.ent.sn : Int) ≤ 9223372036854775807
  kn : (o.bun.kn : Int) ≤ 9223372036854775807
def CtPost (w : World) (e : Ending) (w' : World) : Prop := ∃ o' : OpD, e = .returned (.agg (opC o')) ∧ OpIn w' o' ∧ Below w.heap.size w w'
theorem opQ_size : (Tryd.prog.info? 47).map (·.size) = some 24 := by kernel_rfl
theorem jwkQ_size : (Tryd.prog.info? 77).map (·.size) = some 2 := by kernel_rfl
set_option maxRecDepth 100000 in
set_option maxHeartbeats 8000000 in
theorem cut15_any (o : OpD) (B : Nat) (w : World) (h : OpSee w B o) (hB : B ≤ w.heap.size) :
    Calls Tryd.prog 13 #[.agg (opC o)] w (CtPost w) := by
  have huo := Tryd.underlying47
  have huj := Tryd.underlying77
  obtain ⟨W0, hW0⟩ : ∃ W0, W0 = (w.alloc (.cells (opC o) 47)).alloc (.cells (opC ⟨0, 0, ⟨#[]⟩, ⟨0, ⟨#[]⟩, ⟨#[]⟩, 0, none, 0, 0⟩, ⟨⟨#[]⟩, ⟨#[]⟩, 0, false⟩, ⟨⟨#[]⟩, ⟨#[]⟩, 0, 0, ⟨#[]⟩⟩, ⟨⟨#[]⟩, ⟨#[]⟩, 0, 0⟩, ⟨⟨#[]⟩, 0, none, 0, 0⟩⟩) 47) := ⟨_, rfl⟩
  have hb0 : Below w.heap.size w W0 := by rw [hW0]; exact ((Below.refl _ w).alloc (Nat.le_refl _) _).alloc (by simp) _
  have HB0 := Lib.hid hb0
  have HK0 := Lib.hid (show Blk W0 w.heap.size 47 (opC o) by rw [hW0]; exact (Blk.new _ _ _).alloc _)
  obtain ⟨Z, hZ⟩ : ∃ Z, Z = opC ⟨0, 0, ⟨#[]⟩, ⟨0, ⟨#[]⟩, ⟨#[]⟩, 0, none, 0, 0⟩, ⟨⟨#[]⟩, ⟨#[]⟩, 0, false⟩, ⟨⟨#[]⟩, ⟨#[]⟩, 0, 0, ⟨#[]⟩⟩, ⟨⟨#[]⟩, ⟨#[]⟩, 0, 0⟩, ⟨⟨#[]⟩, 0, none, 0, 0⟩⟩ := ⟨_, rfl⟩
  have HZS := Lib.hid (show Z.size = 24 by rw [hZ]; rfl)
  have HZ0 := Lib.hid (show Blk W0 (w.heap.size + 1) 47 Z by rw [hW0, hZ]; have := Blk.new (w.alloc (.cells (opC o) 47)) 47 (opC ⟨0, 0, ⟨#[]⟩, ⟨0, ⟨#[]⟩, ⟨#[]⟩, 0, none, 0, 0⟩, ⟨⟨#[]⟩, ⟨#[]⟩, 0, false⟩, ⟨⟨#[]⟩, ⟨#[]⟩, 0, 0, ⟨#[]⟩⟩, ⟨⟨#[]⟩, ⟨#[]⟩, 0, 0⟩, ⟨⟨#[]⟩, 0, none, 0, 0⟩⟩); simpa using this)
  have HS0 := Lib.hid (show W0.heap.size = w.heap.size + 2 by rw [hW0]; simp)
  have HW0 := Lib.hid hW0
  obtain ⟨sl, hsl, hsr⟩ := h.sel
  obtain ⟨kl, hkl, hkr⟩ := h.keys
  have hsn := h.sn
  have hkn := h.kn
  have HSL := Lib.hid hsl
  have HKL := Lib.hid hkl
  have HSR := Lib.hid (show ∀ u, Below w.heap.size w u → Rd u B o.ent.sA (sl.map Value.string) from fun u hu => hsr.below (hu.mono hB))
  have HKR := Lib.hid (show ∀ u, Below w.heap.size w u → Rd u B o.bun.kA (rowsV jwkCells kl) from fun u hu => hkr.below (hu.mono hB))
  have HF := Lib.hid few15_any
  have HBB := Lib.hid hB
  clear hb0 h hB hsl hkl hsr hkr
  go_enter Tryd.func13, Tryd.ntmps13
  go_upto_region 1 with (fail)
  rw [show (w.alloc (.cells (opC o) 47)).alloc (.cells #[.int .i64 0, .int .i64 0, .string ⟨#[]⟩, .int .i64 0, .string ⟨#[]⟩, .string ⟨#[]⟩, .int .i64 0, .slice none 0 0, .string ⟨#[]⟩, .string ⟨#[]⟩, .int .i64 0, .bool false, .string ⟨#[]⟩, .string ⟨#[]⟩, .int .i64 0, .int .i64 0, .string ⟨#[]⟩, .string ⟨#[]⟩, .string ⟨#[]⟩, .int .i64 0, .int .i64 0, .string ⟨#[]⟩, .int .i64 0, .slice none 0 0] 47) = W0 from HW0.out.symm]
  generalize Value.agg (opC o) = AV
  clear hW0 hZ
  have a0 := HK0.out.cell 2
  simp only [opC, List.getElem?_toArray, List.getElem?_cons_zero, List.getElem?_cons_succ] at a0
  go_wp2_with fail
  refine calls_then (HF.out _ _) ?_
  rintro e u0 ⟨rfl, rfl⟩
  go_upto_region 2 with (refine wpList_put_cell (i := 2) HK0.out rfl rfl rfl rfl (by kernel_rfl) (by simp [opC]) rfl ?_; intro v0 hb0 hw0)
  obtain ⟨o0, ho0⟩ : ∃ o' : OpD, o' = { o with name := few60 o.name } := ⟨_, rfl⟩
  have HE0 := Lib.hid ho0
  have HKs0 := Lib.hid (show Blk v0 w.heap.size 47 (opC o0) by rw [ho0]; exact hb0)
  have HZs0 := Lib.hid (hw0.blk HZ0.out (by omega))
  have HBs0 := Lib.hid (hw0.below HB0.out (Nat.le_refl _) HB0.out.size)
  have HSs0 := Lib.hid (hw0.size.trans HS0.out)
  clear a0 hb0 hw0 ho0
  have a1 := HKs0.out.cell 4
  simp only [opC, List.getElem?_toArray, List.getElem?_cons_zero, List.getElem?_cons_succ] at a1
  go_wp2_with fail
  refine calls_then (HF.out _ _) ?_
  rintro e u1 ⟨rfl, rfl⟩
  go_upto_region 3 with (refine wpList_put_cell (i := 4) HKs0.out rfl rfl rfl rfl (by kernel_rfl) (by simp [opC]) rfl ?_; intro v1 hb1 hw1)
  obtain ⟨o1, ho1⟩ : ∃ o' : OpD, o' = { o0 with ent := { o0.ent with path := few60 o0.ent.path } } := ⟨_, rfl⟩
  have HE1 := Lib.hid ho1
  have HKs1 := Lib.hid (show Blk v1 w.heap.size 47 (opC o1) by rw [ho1]; exact hb1)
  have HZs1 := Lib.hid (hw1.blk HZs0.out (by omega))
  have HBs1 := Lib.hid (hw1.below HBs0.out (Nat.le_refl _) HBs0.out.size)
  have HSs1 := Lib.hid (hw1.size.trans HSs0.out)
  clear a1 hb1 hw1 ho1
  have a2 := HKs1.out.cell 5
  simp only [opC, List.getElem?_toArray, List.getElem?_cons_zero, List.getElem?_cons_succ] at a2
  go_wp2_with fail
  refine calls_then (HF.out _ _) ?_
  rintro e u2 ⟨rfl, rfl⟩
  go_upto_region 4 with (refine wpList_put_cell (i := 5) HKs1.out rfl rfl rfl rfl (by kernel_rfl) (by simp [opC]) rfl ?_; intro v2 hb2 hw2)
  obtain ⟨o2, ho2⟩ : ∃ o' : OpD, o' = { o1 with ent := { o1.ent with parent := few60 o1.ent.parent } } := ⟨_, rfl⟩
  have HE2 := Lib.hid ho2
  have HKs2 := Lib.hid (show Blk v2 w.heap.size 47 (opC o2) by rw [ho2]; exact hb2)
  have HZs2 := Lib.hid (hw2.blk HZs1.out (by omega))
  have HBs2 := Lib.hid (hw2.below HBs1.out (Nat.le_refl _) HBs1.out.size)
  have HSs2 := Lib.hid (hw2.size.trans HSs1.out)
  clear a2 hb2 hw2 ho2
  obtain ⟨wa, hwa⟩ : ∃ wa, wa = v2 := ⟨_, rfl⟩
  obtain ⟨A0, hA0⟩ : ∃ A, A = o.ent.sA := ⟨_, rfl⟩
  obtain ⟨n0, hn0⟩ : ∃ n, n = o.ent.sn := ⟨_, rfl⟩
  obtain ⟨c0, hc0⟩ : ∃ c, c = o.ent.sc := ⟨_, rfl⟩
  have HO7 := Lib.hid (show o2.ent.sA = A0 ∧ o2.ent.sn = n0 ∧ o2.ent.sc = c0 by rw [HE2.out, HE1.out, HE0.out, hA0, hn0, hc0]; exact ⟨rfl, rfl, rfl⟩)
  have HSR2 := Lib.hid (show ∀ u, Below w.heap.size w u → Rd u B A0 (sl.map Value.string) by rw [hA0]; exact HSR.out)
  have HSL2 := Lib.hid (show sl.length = n0 by rw [hn0]; exact HSL.out)
  have hsn' : (n0 : Int) ≤ 9223372036854775807 := by rw [hn0]; exact hsn
  obtain ⟨mn, hmn⟩ : ∃ mn, mn = min n0 6 := ⟨_, rfl⟩
  have HMN := Lib.hid hmn
  have HOB := Lib.hid (show OwnR v2 (w.heap.size + 2) 9 1 none 0 0 (rowsV strCell []) from OwnR.nil _ _ _ _)
  clear hmn hA0 hn0 hc0 hsn hwa
  go_upto_block 0 with fail
  go_cut [3] (fun t3 wx => ∃ (A1 : Option Addr) (c1 : Nat) (xs : List ByteArray), t3 = .slice A1 xs.length c1 ∧ xs.length ≤ 6 ∧ OwnR wx (w.heap.size + 2) 9 1 A1 c1 xs.length (rowsV strCell xs) ∧ (∀ x ∈ xs, x.size ≤ 60) ∧ Below (w.heap.size + 2) v2 wx)
  case first =>
   go_wp2_with fail
   go_loopw [3, 4] (fun t3 x wr => ∃ (i : Nat) (A1 : Option Addr) (c1 : Nat) (xs : List ByteArray), i ≤ mn ∧ x = .int .i64 (i : Int) ∧ t3 = .slice A1 xs.length c1 ∧ xs.length = i ∧ OwnR wr (w.heap.size + 2) 9 1 A1 c1 xs.length (rowsV strCell xs) ∧ (∀ x ∈ xs, x.size ≤ 60) ∧ Below (w.heap.size + 2) v2 wr) (fun _ x _ => mn - (intOf x).toNat)
   case atStart => exact ⟨0, none, 0, [], Nat.zero_le _, rfl, rfl, rfl, HOB.out, fun x hx => (by cases hx), Below.refl _ _⟩
   case round =>
     obtain ⟨i, A1, c1, xs, hi, rfl, rfl, hxl, hown, hsm, hbw⟩ := hrel
     have HXL := Lib.hid hxl
     have HOW := Lib.hid hown
     have HSM := Lib.hid hsm
     have HBW := Lib.hid hbw
     have HKR1 := Lib.hid (show Blk wr w.heap.size 47 (opC o2) from HKs2.out.below hbw (by omega))
     have HBR := Lib.hid (show Below w.heap.size w wr from HBs2.out.trans (hbw.mono (by omega)))
     have a7 : wr.cell? ⟨w.heap.size, 7, none⟩ = some (.slice A0 n0 c0) := by
       obtain ⟨h1, h2, h3⟩ := HO7.out
       rw [← h1, ← h2, ← h3]
       exact HKR1.out.cell 7
     have hx6 : xs.length ≤ 6 := by have := HMN.out; omega
     clear hxl hown hsm hbw
     by_cases hlt : i < mn
     · have h1 : (i : Int) < (n0 : Int) := by have := HMN.out; omega
       have h2 : (i : Int) < 6 := by have := HMN.out; omega
       have hi0 : (0 : Int) ≤ (i : Int) := by omega
       have hil : i < sl.length := by have := HMN.out; rw [HSL2.out]; omega
       obtain ⟨ad, hA, _, hc⟩ := (HSR2.out wr HBR.out).at_ (k := i) (by simpa using hil)
       subst hA
       simp only [List.getElem_map] at hc
       obtain ⟨X, hX⟩ : ∃ X, X = sl[i] := ⟨_, rfl⟩
       rw [← hX] at hc
       have HLT := Lib.hid hlt
       clear hX hil hlt
       go_wp2_with fail
       refine calls_then (HF.out _ _) ?_
       rintro e u7 ⟨rfl, rfl⟩
       have HLO := Lib.hid (show w.heap.size + 2 ≤ u7.heap.size by have := HBW.out.size; have := HSs2.out; omega)
       go_wp2_with (refine wpList_append_r1 (ys := [.string (few60 X)]) sl_strz rfl rfl HOW.out rfl rfl rfl rfl (by simp [Value.oneCell']) (by unfold maxLen; omega) (by omega) HLO.out ?_; intro A5 c5 w5 hown5 hgr5 hn5)
       have HO5 := Lib.hid (show OwnR w5 (w.heap.size + 2) 9 1 A5 c5 (xs ++ [few60 X]).length (rowsV strCell (xs ++ [few60 X])) by rw [rowsV_append, rowsV_one, List.length_append]; exact hown5)
       have HB5 := Lib.hid (show Below (w.heap.size + 2) v2 w5 from HBW.out.grown hgr5 HLO.out fun j hj => (HOW.out.lt j hj).1)
       clear hown5 hgr5 hn5
       go_roundw
       case rel => exact ⟨i + 1, A5, c5, xs ++ [few60 X], HLT.out, by go_num, by simp, by rw [List.length_append, HXL.out]; rfl, HO5.out, fun x hx => by
         rcases List.mem_append.1 hx with h | h
         · exact HSM.out x h
         · have e : x = few60 X := by simpa using h
           rw [e]
           exact few60_le X, HB5.out⟩
       case measure => have := HLT.out; simp [intOf]; omega
     · have hor : ¬ ((i : Int) < (n0 : Int)) ∨ ((i : Int) < (n0 : Int) ∧ ¬ (i : Int) < 6) := by have := HMN.out; omega
       clear hlt
       rcases hor with hor | ⟨hor, hor2⟩
       · go_wp2_with fail
         go_meet
         exact ⟨A1, c1, xs, rfl, hx6, HOW.out, HSM.out, HBW.out⟩
       · go_wp2_with fail
         go_meet
         exact ⟨A1, c1, xs, rfl, hx6, HOW.out, HSM.out, HBW.out⟩
  case rest =>
  obtain ⟨As, cs, xs, rfl, hx6, hown, hsm, hbw⟩ := hcut
  have HXO := Lib.hid hown
  have HXS := Lib.hid hsm
  have HX6 := Lib.hid hx6
  have HKr := Lib.hid (show Blk wc w.heap.size 47 (opC o2) from HKs2.out.below hbw (by omega))
  have HZr := Lib.hid (show Blk wc (w.heap.size + 1) 47 Z from HZs2.out.below hbw (by omega))
  have HBr := Lib.hid (show Below w.heap.size w wc from HBs2.out.trans (hbw.mono (by omega)))
  have HLr := Lib.hid (show w.heap.size + 2 ≤ wc.heap.size by have := hbw.size; have := HSs2.out; omega)
  clear hx6 hown hsm hbw
  go_upto_region 10 with (refine wpList_put_cell (i := 7) HKr.out rfl rfl rfl rfl (by kernel_rfl) (by simp [opC]) rfl ?_; intro vr hbr hwr)
  obtain ⟨n6, hn6⟩ : ∃ n, n = xs.length := ⟨_, rfl⟩
  obtain ⟨o3, ho3⟩ : ∃ o' : OpD, o' = { o2 with ent := { o2.ent with sA := As, sn := xs.length, sc := cs } } := ⟨_, rfl⟩
  have HE3 := Lib.hid ho3
  have HKs3 := Lib.hid (show Blk vr w.heap.size 47 (opC o3) by rw [ho3]; exact hbr)
  have HZs3 := Lib.hid (hwr.blk HZr.out (by omega))
  have HBs3 := Lib.hid (hwr.below HBr.out (Nat.le_refl _) HBr.out.size)
  have HSs3 := Lib.hid (show w.heap.size + 2 ≤ vr.heap.size by rw [hwr.size]; exact HLr.out)
  have HXO3 := Lib.hid (ownR_wrote_r HXO.out hwr fun k hk => by have := (HXO.out.lt k hk).1; omega)
  clear hbr hwr ho3 hn6
  have a4 := HKs3.out.cell 8
  simp only [opC, List.getElem?_toArray, List.getElem?_cons_zero, List.getElem?_cons_succ] at a4
  go_wp2_with fail
  refine calls_then (HF.out _ _) ?_
  rintro e u4 ⟨rfl, rfl⟩
  go_upto_region 11 with (refine wpList_put_cell (i := 8) HKs3.out rfl rfl rfl rfl (by kernel_rfl) (by simp [opC]) rfl ?_; intro v4 hb4 hw4)
  obtain ⟨o4, ho4⟩ : ∃ o' : OpD, o' = { o3 with join := { o3.join with text := few60 o3.join.text } } := ⟨_, rfl⟩
  have HE4 := Lib.hid ho4
  have HKs4 := Lib.hid (show Blk v4 w.heap.size 47 (opC o4) by rw [ho4]; exact hb4)
  have HZs4 := Lib.hid (hw4.blk HZs3.out (by omega))
  have HBs4 := Lib.hid (hw4.below HBs3.out (Nat.le_refl _) HBs3.out.size)
  have HSs4 := Lib.hid (show w.heap.size + 2 ≤ v4.heap.size by rw [hw4.size]; exact HSs3.out)
  have HXO4 := Lib.hid (ownR_wrote_r HXO3.out hw4 fun k hk => by have := (HXO3.out.lt k hk).1; omega)
  clear a4 hb4 hw4 ho4
  have a5 := HKs4.out.cell 9
  simp only [opC, List.getElem?_toArray, List.getElem?_cons_zero, List.getElem?_cons_succ] at a5
  go_wp2_with fail
  refine calls_then (HF.out _ _) ?_
  rintro e u5 ⟨rfl, rfl⟩
  go_upto_region 12 with (refine wpList_put_cell (i := 9) HKs4.out rfl rfl rfl rfl (by kernel_rfl) (by simp [opC]) rfl ?_; intro v5 hb5 hw5)
  obtain ⟨o5, ho5⟩ : ∃ o' : OpD, o' = { o4 with join := { o4.join with name := few60 o4.join.name } } := ⟨_, rfl⟩
  have HE5 := Lib.hid ho5
  have HKs5 := Lib.hid (show Blk v5 w.heap.size 47 (opC o5) by rw [ho5]; exact hb5)
  have HZs5 := Lib.hid (hw5.blk HZs4.out (by omega))
  have HBs5 := Lib.hid (hw5.below HBs4.out (Nat.le_refl _) HBs4.out.size)
  have HSs5 := Lib.hid (show w.heap.size + 2 ≤ v5.heap.size by rw [hw5.size]; exact HSs4.out)
  have HXO5 := Lib.hid (ownR_wrote_r HXO4.out hw5 fun k hk => by have := (HXO4.out.lt k hk).1; omega)
  clear a5 hb5 hw5 ho5
  have a6 := HKs5.out.cell 12
  simp only [opC, List.getElem?_toArray, List.getElem?_cons_zero, List.getElem?_cons_succ] at a6
  go_wp2_with fail
  refine calls_then (HF.out _ _) ?_
  rintro e u6 ⟨rfl, rfl⟩
  go_upto_region 13 with (refine wpList_put_cell (i := 12) HKs5.out rfl rfl rfl rfl (by kernel_rfl) (by simp [opC]) rfl ?_; intro v6 hb6 hw6)
  obtain ⟨o6, ho6⟩ : ∃ o' : OpD, o' = { o5 with node := { o5.node with name := few60 o5.node.name } } := ⟨_, rfl⟩
  have HE6 := Lib.hid ho6
  have HKs6 := Lib.hid (show Blk v6 w.heap.size 47 (opC o6) by rw [ho6]; exact hb6)
  have HZs6 := Lib.hid (hw6.blk HZs5.out (by omega))
  have HBs6 := Lib.hid (hw6.below HBs5.out (Nat.le_refl _) HBs5.out.size)
  have HSs6 := Lib.hid (show w.heap.size + 2 ≤ v6.heap.size by rw [hw6.size]; exact HSs5.out)
  have HXO6 := Lib.hid (ownR_wrote_r HXO5.out hw6 fun k hk => by have := (HXO5.out.lt k hk).1; omega)
  clear a6 hb6 hw6 ho6
  have a7 := HKs6.out.cell 13
  simp only [opC, List.getElem?_toArray, List.getElem?_cons_zero, List.getElem?_cons_succ] at a7
  go_wp2_with fail
  refine calls_then (HF.out _ _) ?_
  rintro e u7 ⟨rfl, rfl⟩
  go_upto_region 14 with (refine wpList_put_cell (i := 13) HKs6.out rfl rfl rfl rfl (by kernel_rfl) (by simp [opC]) rfl ?_; intro v7 hb7 hw7)
  obtain ⟨o7, ho7⟩ : ∃ o' : OpD, o' = { o6 with node := { o6.node with key := few60 o6.node.key } } := ⟨_, rfl⟩
  have HE7 := Lib.hid ho7
  have HKs7 := Lib.hid (show Blk v7 w.heap.size 47 (opC o7) by rw [ho7]; exact hb7)
  have HZs7 := Lib.hid (hw7.blk HZs6.out (by omega))
  have HBs7 := Lib.hid (hw7.below HBs6.out (Nat.le_refl _) HBs6.out.size)
  have HSs7 := Lib.hid (show w.heap.size + 2 ≤ v7.heap.size by rw [hw7.size]; exact HSs6.out)
  have HXO7 := Lib.hid (ownR_wrote_r HXO6.out hw7 fun k hk => by have := (HXO6.out.lt k hk).1; omega)
  clear a7 hb7 hw7 ho7
  have a8 := HKs7.out.cell 16
  simp only [opC, List.getElem?_toArray, List.getElem?_cons_zero, List.getElem?_cons_succ] at a8
  go_wp2_with fail
  refine calls_then (HF.out _ _) ?_
  rintro e u8 ⟨rfl, rfl⟩
  go_upto_region 15 with (refine wpList_put_cell (i := 16) HKs7.out rfl rfl rfl rfl (by kernel_rfl) (by simp [opC]) rfl ?_; intro v8 hb8 hw8)
  obtain ⟨o8, ho8⟩ : ∃ o' : OpD, o' = { o7 with node := { o7.node with doc := few60 o7.node.doc } } := ⟨_, rfl⟩
  have HE8 := Lib.hid ho8
  have HKs8 := Lib.hid (show Blk v8 w.heap.size 47 (opC o8) by rw [ho8]; exact hb8)
  have HZs8 := Lib.hid (hw8.blk HZs7.out (by omega))
  have HBs8 := Lib.hid (hw8.below HBs7.out (Nat.le_refl _) HBs7.out.size)
  have HSs8 := Lib.hid (show w.heap.size + 2 ≤ v8.heap.size by rw [hw8.size]; exact HSs7.out)
  have HXO8 := Lib.hid (ownR_wrote_r HXO7.out hw8 fun k hk => by have := (HXO7.out.lt k hk).1; omega)
  clear a8 hb8 hw8 ho8
  have a9 := HKs8.out.cell 17
  simp only [opC, List.getElem?_toArray, List.getElem?_cons_zero, List.getElem?_cons_succ] at a9
  go_wp2_with fail
  refine calls_then (HF.out _ _) ?_
  rintro e u9 ⟨rfl, rfl⟩
  go_upto_region 16 with (refine wpList_put_cell (i := 17) HKs8.out rfl rfl rfl rfl (by kernel_rfl) (by simp [opC]) rfl ?_; intro v9 hb9 hw9)
  obtain ⟨o9, ho9⟩ : ∃ o' : OpD, o' = { o8 with key := { o8.key with kid := few60 o8.key.kid } } := ⟨_, rfl⟩
  have HE9 := Lib.hid ho9
  have HKs9 := Lib.hid (show Blk v9 w.heap.size 47 (opC o9) by rw [ho9]; exact hb9)
  have HZs9 := Lib.hid (hw9.blk HZs8.out (by omega))
  have HBs9 := Lib.hid (hw9.below HBs8.out (Nat.le_refl _) HBs8.out.size)
  have HSs9 := Lib.hid (show w.heap.size + 2 ≤ v9.heap.size by rw [hw9.size]; exact HSs8.out)
  have HXO9 := Lib.hid (ownR_wrote_r HXO8.out hw9 fun k hk => by have := (HXO8.out.lt k hk).1; omega)
  clear a9 hb9 hw9 ho9
  have a10 := HKs9.out.cell 18
  simp only [opC, List.getElem?_toArray, List.getElem?_cons_zero, List.getElem?_cons_succ] at a10
  go_wp2_with fail
  refine calls_then (HF.out _ _) ?_
  rintro e u10 ⟨rfl, rfl⟩
  go_upto_region 17 with (refine wpList_put_cell (i := 18) HKs9.out rfl rfl rfl rfl (by kernel_rfl) (by simp [opC]) rfl ?_; intro v10 hb10 hw10)
  obtain ⟨o10, ho10⟩ : ∃ o' : OpD, o' = { o9 with key := { o9.key with seed := few60 o9.key.seed } } := ⟨_, rfl⟩
  have HE10 := Lib.hid ho10
  have HKs10 := Lib.hid (show Blk v10 w.heap.size 47 (opC o10) by rw [ho10]; exact hb10)
  have HZs10 := Lib.hid (hw10.blk HZs9.out (by omega))
  have HBs10 := Lib.hid (hw10.below HBs9.out (Nat.le_refl _) HBs9.out.size)
  have HSs10 := Lib.hid (show w.heap.size + 2 ≤ v10.heap.size by rw [hw10.size]; exact HSs9.out)
  have HXO10 := Lib.hid (ownR_wrote_r HXO9.out hw10 fun k hk => by have := (HXO9.out.lt k hk).1; omega)
  clear a10 hb10 hw10 ho10
  have a11 := HKs10.out.cell 21
  simp only [opC, List.getElem?_toArray, List.getElem?_cons_zero, List.getElem?_cons_succ] at a11
  go_wp2_with fail
  refine calls_then (HF.out _ _) ?_
  rintro e u11 ⟨rfl, rfl⟩
  go_upto_region 18 with (refine wpList_put_cell (i := 21) HKs10.out rfl rfl rfl rfl (by kernel_rfl) (by simp [opC]) rfl ?_; intro v11 hb11 hw11)
  obtain ⟨o11, ho11⟩ : ∃ o' : OpD, o' = { o10 with bun := { o10.bun with dom := few60 o10.bun.dom } } := ⟨_, rfl⟩
  have HE11 := Lib.hid ho11
  have HKs11 := Lib.hid (show Blk v11 w.heap.size 47 (opC o11) by rw [ho11]; exact hb11)
  have HZs11 := Lib.hid (hw11.blk HZs10.out (by omega))
  have HBs11 := Lib.hid (hw11.below HBs10.out (Nat.le_refl _) HBs10.out.size)
  have HSs11 := Lib.hid (show w.heap.size + 2 ≤ v11.heap.size by rw [hw11.size]; exact HSs10.out)
  have HXO11 := Lib.hid (ownR_wrote_r HXO10.out hw11 fun k hk => by have := (HXO10.out.lt k hk).1; omega)
  clear a11 hb11 hw11 ho11
  obtain ⟨Ak, hAk⟩ : ∃ A, A = o.bun.kA := ⟨_, rfl⟩
  obtain ⟨nk, hnk⟩ : ∃ n, n = o.bun.kn := ⟨_, rfl⟩
  obtain ⟨ck, hck⟩ : ∃ c, c = o.bun.kc := ⟨_, rfl⟩
  have HO9 := Lib.hid (show o11.bun.kA = Ak ∧ o11.bun.kn = nk ∧ o11.bun.kc = ck by rw [HE11.out, HE10.out, HE9.out, HE8.out, HE7.out, HE6.out, HE5.out, HE4.out, HE3.out, HE2.out, HE1.out, HE0.out, hAk, hnk, hck]; exact ⟨rfl, rfl, rfl⟩)
  have HKR2 := Lib.hid (show ∀ u, Below w.heap.size w u → Rd u B Ak (rowsV jwkCells kl) by rw [hAk]; exact HKR.out)
  have HKL2 := Lib.hid (show kl.length = nk by rw [hnk]; exact HKL.out)
  have hkn' : (nk : Int) ≤ 9223372036854775807 := by rw [hnk]; exact hkn
  obtain ⟨mk, hmk⟩ : ∃ mn, mn = min nk 9 := ⟨_, rfl⟩
  have HMK := Lib.hid hmk
  have HOK := Lib.hid (show OwnR v11 (w.heap.size + 2) 77 2 none 0 0 (rowsV jwkCells []) from OwnR.nil _ _ _ _)
  clear hmk hAk hnk hck hkn
  go_upto_block 2 with fail
  go_cut [5] (fun t5 wx => ∃ (A1 : Option Addr) (c1 : Nat) (ys : List JwkD), t5 = .slice A1 ys.length c1 ∧ ys.length ≤ 9 ∧ OwnR wx (w.heap.size + 2) 77 2 A1 c1 ys.length (rowsV jwkCells ys) ∧ (∀ y ∈ ys, y.x.size ≤ 60) ∧ Below (w.heap.size + 2) v11 wx ∧ KeepBut 77 v11 wx)
  case first =>
   go_wp2_with fail
   go_loopw [5, 6] (fun t5 x wr => ∃ (i : Nat) (A1 : Option Addr) (c1 : Nat) (ys : List JwkD), i ≤ mk ∧ x = .int .i64 (i : Int) ∧ t5 = .slice A1 ys.length c1 ∧ ys.length = i ∧ OwnR wr (w.heap.size + 2) 77 2 A1 c1 ys.length (rowsV jwkCells ys) ∧ (∀ y ∈ ys, y.x.size ≤ 60) ∧ Below (w.heap.size + 2) v11 wr ∧ KeepBut 77 v11 wr) (fun _ x _ => mk - (intOf x).toNat)
   case atStart => exact ⟨0, none, 0, [], Nat.zero_le _, rfl, rfl, rfl, HOK.out, fun x hx => (by cases hx), Below.refl _ _, KeepBut.refl _ _⟩
   case round =>
     obtain ⟨i, A1, c1, ys, hi, rfl, rfl, hyl, hown, hsm, hbw, hkb⟩ := hrel
     have HYL := Lib.hid hyl
     have HOW := Lib.hid hown
     have HSM := Lib.hid hsm
     have HBW := Lib.hid hbw
     have HKB := Lib.hid hkb
     have HLO := Lib.hid (show w.heap.size + 2 ≤ wr.heap.size from Nat.le_trans HSs11.out hbw.size)
     have HKR1 := Lib.hid (show Blk wr w.heap.size 47 (opC o11) from HKs11.out.below hbw (by omega))
     have HBR := Lib.hid (show Below w.heap.size w wr from HBs11.out.trans (hbw.mono (by omega)))
     have a23 : wr.cell? ⟨w.heap.size, 23, none⟩ = some (.slice Ak nk ck) := by
       obtain ⟨h1, h2, h3⟩ := HO9.out
       rw [← h1, ← h2, ← h3]
       exact HKR1.out.cell 23
     have hy9 : ys.length ≤ 9 := by have := HMK.out; omega
     clear hyl hown hsm hbw hkb
     by_cases hlt : i < mk
     · have h1 : (i : Int) < (nk : Int) := by have := HMK.out; omega
       have h2 : (i : Int) < 9 := by have := HMK.out; omega
       have hi0 : (0 : Int) ≤ (i : Int) := by omega
       have hil : i < kl.length := by have := HMK.out; rw [HKL2.out]; omega
       obtain ⟨ad, hA, -, hcell⟩ := rd_rows (f := jwkCells) (m := 2) (fun _ => rfl) (by decide) (HKR2.out wr HBR.out) hil
       subst hA
       obtain ⟨X, hX⟩ : ∃ X, X = kl[i] := ⟨_, rfl⟩
       rw [← hX] at hcell
       have HCL := Lib.hid (show ∀ u, Below wr.heap.size wr u → u.cell? (ad.add (i * 2)) = some (.string X.kid) ∧ u.cell? ⟨(ad.add (i * 2)).block, (ad.add (i * 2)).off + 1, none⟩ = some (.string X.x) from fun u hu => by
         have h0 : wr.cell? (ad.add (i * 2)) = some (.string X.kid) := hcell 0 _ rfl
         have h1 : wr.cell? ⟨(ad.add (i * 2)).block, (ad.add (i * 2)).off + 1, none⟩ = some (.string X.x) := hcell 1 _ rfl
         exact ⟨(hu.cell (World.block_lt_of_cell? wr _ h0)).trans h0, (hu.cell (World.block_lt_of_cell? wr _ h1)).trans h1⟩)
       have HLT := Lib.hid hlt
       clear hX hcell hil hlt
       go_wp2_with fail
       have HC0 : Below wr.heap.size wr wr.drew := (Below.refl _ _).drew
       apply wp_region_seqh (fun u => Below wr.heap.size wr u) (fun u u' => Below u.heap.size u u') [_, _, _, _, _, _, _, _, _, _, _, _, _, _, _, _, _, undef] (gOf [(17, fun v u => ∃ ga, v = .pointer (some ⟨ga, 0, none⟩) ∧ wr.heap.size ≤ ga ∧ Blk u ga 77 #[.string ⟨#[]⟩, .string ⟨#[]⟩])]) 18 (by kernel_rfl) (by kernel_rfl) (by decide) (by kernel_rfl) (stabL_of _ ⟨(fun _ _ _ h h0 => by obtain ⟨ga, e, hl, hb⟩ := h0; exact ⟨ga, e, hl, hb.below h hb.lt⟩), trivial⟩) HC0
       simp only [List.take_succ_cons, List.take_zero, List.drop_succ_cons, List.drop_zero]
       iterate 2
         ((first | (apply SeqG.next; rfl; rfl; rfl)); (simp only [act_put, act_put_none, List.setIfInBounds_toArray, List.set_cons_zero, List.set_cons_succ]; rfl); (intro w1 hC1 hf E hE; go_wp2; exact .mk (hE _ hC1 (Below.refl _ _))))
       apply SeqG.next
       · rfl
       · rfl
       · rfl
       · simp only [act_put, act_put_none, List.setIfInBounds_toArray, List.set_cons_zero, List.set_cons_succ]
         rfl
       · intro w1 hC1 hf E hE
         have d0 := (hC1.cell (p := ⟨w.heap.size, 23, none⟩) HKR1.out.lt).trans a23
         go_wp2
         exact .mk (hE _ hC1 (Below.refl _ _))
       iterate 3
         ((first | (apply SeqG.next; rfl; rfl; rfl)); (simp only [act_put, act_put_none, List.setIfInBounds_toArray, List.set_cons_zero, List.set_cons_succ]; rfl); (intro w1 hC1 hf E hE; go_wp2; exact .mk (hE _ hC1 (Below.refl _ _))))
       apply SeqG.next
       · rfl
       · rfl
       · rfl
       · simp only [act_put, act_put_none, List.setIfInBounds_toArray, List.set_cons_zero, List.set_cons_succ]
         rfl
       · intro w1 hC1 hf E hE
         have d0 := (HCL.out _ hC1).1
         go_wp2
         exact .mk (hE _ hC1 (Below.refl _ _))
       apply SeqG.next
       · rfl
       · rfl
       · rfl
       · simp only [act_put, act_put_none, List.setIfInBounds_toArray, List.set_cons_zero, List.set_cons_succ]
         rfl
       · intro w1 hC1 hf E hE
         go_wp2_with fail
         refine calls_then (HF.out _ _) ?_
         rintro e w2 ⟨rfl, rfl⟩
         go_wp2_with fail
         exact .mk (hE _ hC1 (Below.refl _ _))
       iterate 2
         ((first | (apply SeqG.next; rfl; rfl; rfl)); (simp only [act_put, act_put_none, List.setIfInBounds_toArray, List.set_cons_zero, List.set_cons_succ]; rfl); (intro w1 hC1 hf E hE; go_wp2; exact .mk (hE _ hC1 (Below.refl _ _))))
       apply SeqG.next
       · rfl
       · rfl
       · rfl
       · simp only [act_put, act_put_none, List.setIfInBounds_toArray, List.set_cons_zero, List.set_cons_succ]
         rfl
       · intro w1 hC1 hf E hE
         have d0 := (hC1.cell (p := ⟨w.heap.size, 23, none⟩) HKR1.out.lt).trans a23
         go_wp2
         exact .mk (hE _ hC1 (Below.refl _ _))
       iterate 3
         ((first | (apply SeqG.next; rfl; rfl; rfl)); (simp only [act_put, act_put_none, List.setIfInBounds_toArray, List.set_cons_zero, List.set_cons_succ]; rfl); (intro w1 hC1 hf E hE; go_wp2; exact .mk (hE _ hC1 (Below.refl _ _))))
       apply SeqG.next
       · rfl
       · rfl
       · rfl
       · simp only [act_put, act_put_none, List.setIfInBounds_toArray, List.set_cons_zero, List.set_cons_succ]
         rfl
       · intro w1 hC1 hf E hE
         have d0 := (HCL.out _ hC1).2
         go_wp2
         exact .mk (hE _ hC1 (Below.refl _ _))
       apply SeqG.next
       · rfl
       · rfl
       · rfl
       · simp only [act_put, act_put_none, List.setIfInBounds_toArray, List.set_cons_zero, List.set_cons_succ]
         rfl
       · intro w1 hC1 hf E hE
         go_wp2_with fail
         refine calls_then (HF.out _ _) ?_
         rintro e w2 ⟨rfl, rfl⟩
         go_wp2_with fail
         exact .mk (hE _ hC1 (Below.refl _ _))
       iterate 1
         ((first | (apply SeqG.next; rfl; rfl; rfl)); (simp only [act_put, act_put_none, List.setIfInBounds_toArray, List.set_cons_zero, List.set_cons_succ]; rfl); (intro w1 hC1 hf E hE; go_wp2; exact .mk (hE _ hC1 (Below.refl _ _))))
       apply SeqG.some
       · rfl
       · rfl
       · intro w1 hC1 hf E hE
         simp only [act_put, act_put_none, List.setIfInBounds_toArray, List.set_cons_zero, List.set_cons_succ] at hE
         go_wp2
         exact .mk (hE _ _ ⟨_, rfl, hC1.size, Blk.new _ _ _⟩ (hC1.alloc hC1.size _) ((Below.refl _ _).alloc (Nat.le_refl _) _))
       intro x17
       simp only [act_put, act_put_none, List.setIfInBounds_toArray, List.set_cons_zero, List.set_cons_succ]
       refine SeqG.nil ?_
       intro w1 hC1 hf
       have f17 := (hf 17 (of_decide_eq_true (by kernel_rfl))).1 rfl
       clear hf
       refine SeqT.step rfl ?_
       intro E hE
       simp only [act_put, act_put_none, List.setIfInBounds_toArray, List.set_cons_zero, List.set_cons_succ] at hE
       obtain ⟨ga, hx17, hga, hb17⟩ := f17
       have HGA := Lib.hid hga
       have HB17 := Lib.hid hb17
       have HBC := Lib.hid hC1
       clear hb17 hga
       simp only [hx17] at hE ⊢
       refine wpList_put_box (cells := jwkCells ⟨few60 X.kid, few60 X.x⟩) HB17.out rfl rfl rfl rfl jwkQ_size rfl (jwkCells_one _) ?_
       intro w6 hb6 hw6
       have HB6 := Lib.hid hb6
       have HW6 := Lib.hid hw6
       clear hb6 hw6
       go_wp2_with fail
       refine .mk (hE undef _ ?_)
       clear hE E
       refine SeqT.nil ?_
       have HKBx := Lib.hid ((KeepBut.of_below (e := 77) HBC.out).trans (KeepBut.of_wrote HW6.out HB17.out))
       have HBx := Lib.hid (HW6.out.below (HBW.out.trans (HBC.out.mono HLO.out)) (Nat.le_trans HLO.out HGA.out) (Nat.le_trans HLO.out HBC.out.size))
       have HOx := Lib.hid (ownR_wrote_r (HOW.out.below HBC.out) HW6.out fun k hk => by have := (HOW.out.lt k hk).2; have := HGA.out; omega)
       have HNX := Lib.hid (show ∀ k, (Value.slice A1 ys.length c1).ownBlock = some k → k ≠ ga from fun k hk => by have := (HOW.out.lt k hk).2; have := HGA.out; omega)
       clear hC1 HC0 a23
       obtain ⟨kd, hkd⟩ : ∃ kd, kd = few60 X.kid := ⟨_, rfl⟩
       obtain ⟨kx, hkx⟩ : ∃ kx, kx = few60 X.x := ⟨_, rfl⟩
       have HKX := Lib.hid (show kx.size ≤ 60 by rw [hkx]; exact few60_le _)
       rw [← hkd, ← hkx] at HB6
       clear hkd hkx
       have c0 : w6.cell? ⟨ga, 0, none⟩ = some (.string kd) := HB6.out.cell 0
       have c1' : w6.cell? ⟨ga, 1, none⟩ = some (.string kx) := HB6.out.cell 1
       go_upto_if 128 with (fail)
       go_cut [] (fun wx => ∃ Y : JwkD, Blk wx ga 77 (jwkCells Y) ∧ Y.x.size ≤ 60 ∧ OwnR wx (w.heap.size + 2) 77 2 A1 c1 ys.length (rowsV jwkCells ys) ∧ Below (w.heap.size + 2) v11 wx ∧ KeepBut 77 v11 wx)
       case first =>
         obtain ⟨q, hq⟩ : ∃ q, kd.toList.isEmpty = q := ⟨_, rfl⟩
         cases q with
         | false =>
           go_wp2_with fail
           · have hx : kd.toList.isEmpty = true := by assumption
             exact absurd (hx.symm.trans hq) (by decide)
           go_meet
           exact ⟨⟨kd, kx⟩, HB6.out, HKX.out, HOx.out, HBx.out, HKB.out.trans HKBx.out⟩
         | true =>
           have hus := Tryd.underlying9
           have hub8 := Tryd.underlying79
           have hu8 := Tryd.underlying5
           obtain ⟨bx, hbx⟩ : ∃ bx, bx = kx.data.toList := ⟨_, rfl⟩
           have HBX2 := Lib.hid (show Js.bs bx = kx by rw [hbx]; apply ByteArray.ext; simp [Js.bs])
           have HBL := Lib.hid (show bx.length = kx.size by rw [hbx]; rfl)
           clear hbx
           go_wp2_with (refine wpList_bytes_of (s := kx) hus hub8 hu8 rfl rfl rfl ?_; intro A7 c7 w7 hr7 hc7 hb7; have HR7 := Lib.hid hr7; have HC7 := Lib.hid hc7; have HB7 := Lib.hid hb7; clear hr7 hc7 hb7)
           have HCN := Lib.hid (show Calls Tryd.prog 28 #[.slice A7 kx.size c7] w7 fun e w' => (∃ s : ByteArray, e = .returned (.string s)) ∧ Below w7.heap.size w7 w' by
             have h := rname_any bx (by have := HKX.out; have := HBL.out; omega) A7 c7 w7 (by have h2 := HR7.out; rw [← HBX2.out] at h2; simpa [Js.bs] using h2) (by have := HC7.out; have := HBL.out; omega) (Js.digS32_len2 bx)
             rw [HBL.out] at h
             exact h.mono fun e w' h => ⟨⟨_, h.1⟩, h.2⟩)
           refine calls_then HCN.out ?_
           rintro e w8 ⟨⟨sn, rfl⟩, hb8⟩
           have HB8 := Lib.hid (HB7.out.trans (hb8.mono HB7.out.size))
           have HK8 := Lib.hid (HB6.out.below HB8.out HB6.out.lt)
           clear hb8 c0 c1' HCN
           go_wp2_with (refine wpList_put_cell (i := 0) HK8.out rfl rfl rfl rfl (by kernel_rfl) (by simp [jwkCells]) rfl ?_; intro w9 hb9 hw9)
           go_meet
           have hlo6 : w.heap.size + 2 ≤ w6.heap.size := Nat.le_trans HLO.out HKBx.out.1
           exact ⟨⟨sn, kx⟩, hb9, HKX.out, ownR_wrote_r (HOx.out.below HB8.out) hw9 HNX.out, hw9.below (HBx.out.trans (HB8.out.mono hlo6)) (Nat.le_trans HLO.out HGA.out) (Nat.le_trans hlo6 HB8.out.size), (HKB.out.trans HKBx.out).trans ((KeepBut.of_below HB8.out).trans (KeepBut.of_wrote hw9 HK8.out))⟩
           rename_i hx
           exact absurd (hq.symm.trans hx) (by decide)
       case rest =>
       obtain ⟨Y, hby, hyx, hoy, hbly, hky⟩ := hcut
       have HYB := Lib.hid hby
       have HYX := Lib.hid hyx
       have HYO := Lib.hid hoy
       have HYW := Lib.hid hbly
       have HYK := Lib.hid hky
       have HYL2 := Lib.hid (show w.heap.size + 2 ≤ wc.heap.size from Nat.le_trans HSs11.out hbly.size)
       clear hby hyx hoy hbly hky c0 c1'
       go_wp2_with (first
         | refine wpList_get_box (cs := #[.string Y.kid, .string Y.x]) HYB.out rfl rfl rfl huj rfl jwkQ_size ?_
         | (refine wpList_append_r1 (ys := [.string Y.kid, .string Y.x]) sl_jwks rfl rfl HYO.out rfl rfl rfl rfl (by simp [Value.oneCell']) (by unfold maxLen; omega) (by omega) HYL2.out ?_; intro A5 c5 w5 hown5 hgr5 hn5))
       have HO5 := Lib.hid (show OwnR w5 (w.heap.size + 2) 77 2 A5 c5 (ys ++ [Y]).length (rowsV jwkCells (ys ++ [Y])) by rw [rowsV_append, rowsV_one, List.length_append]; exact hown5)
       have HB5 := Lib.hid (show Below (w.heap.size + 2) v11 w5 from HYW.out.grown hgr5 HYL2.out fun j hj => (HYO.out.lt j hj).1)
       have HK5 := Lib.hid (HYK.out.trans (keepBut_grown HYO.out hgr5))
       clear hown5 hgr5 hn5
       go_roundw
       case rel => exact ⟨i + 1, A5, c5, ys ++ [Y], HLT.out, by go_num, by simp, by rw [List.length_append, HYL.out]; rfl, HO5.out, fun y hy => by
         rcases List.mem_append.1 hy with h | h
         · exact HSM.out y h
         · have e : y = Y := by simpa using h
           rw [e]
           exact HYX.out, HB5.out, HK5.out⟩
       case measure => have := HLT.out; simp [intOf]; omega
     · have hor : ¬ ((i : Int) < (nk : Int)) ∨ ((i : Int) < (nk : Int) ∧ ¬ (i : Int) < 9) := by have := HMK.out; omega
       clear hlt
       rcases hor with hor | ⟨hor, hor2⟩
       · go_wp2_with fail
         go_meet
         exact ⟨A1, c1, ys, rfl, hy9, HOW.out, HSM.out, HBW.out, HKB.out⟩
       · go_wp2_with fail
         go_meet
         exact ⟨A1, c1, ys, rfl, hy9, HOW.out, HSM.out, HBW.out, HKB.out⟩
  case rest =>
  obtain ⟨Aj, cj, ys, rfl, hy9, hown, hsm, hbw, hkb⟩ := hcut
  have HYO := Lib.hid hown
  have HYS := Lib.hid hsm
  have HY9 := Lib.hid hy9
  have HKB := Lib.hid hkb
  have HKr := Lib.hid (show Blk wc w.heap.size 47 (opC o11) from HKs11.out.below hbw (by omega))
  have HZr := Lib.hid (show Blk wc (w.heap.size + 1) 47 Z from HZs11.out.below hbw (by omega))
  have HBr := Lib.hid (show Below w.heap.size w wc from HBs11.out.trans (hbw.mono (by omega)))
  have HXr := Lib.hid (HXO11.out.keep hkb (by decide))
  clear hy9 hown hsm hbw hkb
  obtain ⟨oz, hoz⟩ : ∃ o' : OpD, o' = { o11 with bun := { o11.bun with kA := Aj, kn := ys.length, kc := cj } } := ⟨_, rfl⟩
  have HOZ := Lib.hid hoz
  clear hoz
  go_upto_region 27 with (refine wpList_put_cell (i := 23) HKr.out rfl rfl rfl rfl (by kernel_rfl) (by simp [opC]) rfl ?_; intro vz hbz hwz)
  have HKz := Lib.hid (show Blk vz w.heap.size 47 (opC oz) by rw [HOZ.out]; exact hbz)
  have HZz := Lib.hid (hwz.blk HZr.out (by omega))
  have HBz := Lib.hid (hwz.below HBr.out (Nat.le_refl _) HBr.out.size)
  have HXz := Lib.hid (ownR_wrote_r HXr.out hwz fun k hk => by have := (HXr.out.lt k hk).1; omega)
  have HYz := Lib.hid (ownR_wrote_r HYO.out hwz fun k hk => by have := (HYO.out.lt k hk).1; omega)
  clear hbz hwz
  go_wp2_with (first
    | refine wpList_get_box (x := .tmp 1) (cs := opC oz) HKz.out rfl rfl rfl huo rfl opQ_size ?_
    | (refine wpList_put_box (x := .tmp 2) (cells := opC oz) HZz.out rfl rfl rfl rfl opQ_size HZS.out (opC_one _) ?_; intro w9 hb9 hw9))
  have HB9 := Lib.hid hb9
  have HFN := Lib.hid (show CtPost w (.returned (.agg (opC oz))) w9 from ⟨oz, rfl, by
    have hx := ownR_wrote_r HXz.out hw9 fun k hk => by have := (HXz.out.lt k hk).1; omega
    have hy := ownR_wrote_r HYz.out hw9 fun k hk => by have := (HYz.out.lt k hk).1; omega
    have e := HOZ.out
    rw [HE11.out, HE10.out, HE9.out, HE8.out, HE7.out, HE6.out, HE5.out, HE4.out, HE3.out, HE2.out, HE1.out, HE0.out] at e
    have hc1 := hx.cap
    have hc2 := hy.cap
    rw [e]
    exact ⟨by have := few60_le o.name; show (few60 o.name).size ≤ 1000; omega,
      ⟨by have := few60_le o.ent.path; show (few60 o.ent.path).size ≤ 1000; omega, by have := few60_le o.ent.parent; show (few60 o.ent.parent).size ≤ 1000; omega, hc1, by have := HX6.out; show xs.length ≤ 1000; omega, xs, rfl, fun s hs => by have := HXS.out s hs; omega, hx.row⟩,
      by have := few60_le o.join.text; show (few60 o.join.text).size ≤ 1000; omega, by have := few60_le o.join.name; show (few60 o.join.name).size ≤ 1000; omega, by have := few60_le o.node.name; show (few60 o.node.name).size ≤ 1000; omega,
      ⟨by have := few60_le o.bun.dom; show (few60 o.bun.dom).size ≤ 1000; omega, hc2, by have := HY9.out; show ys.length ≤ 1000; omega, ys, rfl, fun y hy' => by have := HYS.out y hy'; omega, hy.row⟩⟩, hw9.below HBz.out (by omega) HBz.out.size⟩)
  refine bodyPost_ret (results_box (P := Tryd.prog) rfl rfl HB9.out huo rfl opQ_size) rfl ?_
  exact HFN.out
end Go.Proofs.YtilhhigdegccgaaDoor
