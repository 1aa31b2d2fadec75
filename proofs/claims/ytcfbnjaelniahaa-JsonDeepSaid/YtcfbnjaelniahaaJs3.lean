/-
  Walks: json's reader: a word; small letters.
-/
import Derived.Test.YtcfbnjaelniahaaJs2
import Derived.Lib.Walk
namespace Go.Proofs.Ytcfbnjaelniahaa.Js
set_option linter.unusedSimpArgs false
set_option linter.unusedVariables false
open Go.RowKit

theorem jT_size3 : (Try.prog.info? 25).map (·.size) = some 5 := by kernel_rfl
set_option maxHeartbeats 1000000 in
theorem hasp_any (s p : ByteArray) (w : World) :
    Calls Try.prog 57 #[.string s, .string p] w fun e w' => e = .returned (.bool (p.data.toList.isPrefixOf s.data.toList)) ∧ w' = w := by
  show Calls Try.prog 57 #[.string s, .string p] w fun e w' => e = .returned (.bool (Lib.hasPrefix s.data.toList p.data.toList)) ∧ w' = w
  rw [← Lib.hasPrefix_of_take, ← Lib.size_eq, ← Lib.size_eq]
  go_enter Try.func57, Try.ntmps57
  go_wp2
  · rename_i h
    go_ret
    refine ⟨?_, rfl⟩
    show Ending.returned (Value.bool ((s.extract 0 p.size).toList == p.toList)) = _
    rw [Lib.extract_toList, Lib.toList_data]
    simp [h]
  · rename_i h
    go_ret
    refine ⟨?_, rfl⟩
    show Ending.returned (Value.bool false) = _
    simp [h]
theorem extract_rest (s : ByteArray) (a : Nat) : (s.extract a s.size).data.toList = s.data.toList.drop a := by
  rw [Lib.extract_data, List.take_of_length_le]
  rw [List.length_drop]
  exact Nat.le_refl _
theorem RG.wrote_new {r g : Nat} {a b c : World} (h : RG r a b) (hw : Wrote g b c) (hg : a.heap.size ≤ g) : RG r a c :=
  ⟨hw.grown.os.trans h.os, hw.grown.tape.trans h.tape, hw.grown.output.trans h.output, Nat.le_trans h.size hw.grown.size, fun k hk hne => (hw.grown.block k (Nat.lt_of_lt_of_le hk h.size) (by intro e; injection e with e; omega)).trans (h.block k hk hne)⟩
theorem RG.below {r : Nat} {a b : World} (h : Below a.heap.size a b) : RG r a b := grown_of_below h _
theorem RD.grow {w w' : World} {r : Nat} {s : ByteArray} {a : Nat} {d e : Int} (h : RD w r s a d e) (hb : Below w.heap.size w w') : RD w' r s a d e := Blk.below h hb (Blk.lt h)
set_option maxRecDepth 100000 in
set_option maxHeartbeats 2000000 in
theorem word_any (W : Bs) (hW : W.length ≤ 10) (v : JV) (s : ByteArray) (hs : (s.size : Int) ≤ 1000000) (r a : Nat) (d : Int) (w : World) (h : RD w r s a d 0) (ha : a ≤ s.size) :
    Calls Try.prog 48 #[.pointer (some ⟨r, 0, none⟩), .string (bs W), .agg (jvCells v)] w fun x w' => x = .returned (.agg (jvCells (if W.isPrefixOf (s.data.toList.drop a) then v else zJV))) ∧
      RD w' r s (if W.isPrefixOf (s.data.toList.drop a) then a + W.length else a) d (if W.isPrefixOf (s.data.toList.drop a) then 0 else 13) ∧ RG r w w' := by
  have hu := Try.underlying25
  obtain ⟨W0, hW0⟩ : ∃ W0, W0 = (w.alloc (.cells (jvCells v) 25)).alloc (.cells (jvCells zJV) 25) := ⟨_, rfl⟩
  have hb0 : Below w.heap.size w W0 := by rw [hW0]; exact ((Below.refl _ w).alloc (Nat.le_refl _) _).alloc (by simp) _
  obtain ⟨G, hG⟩ : ∃ G, G = w.heap.size := ⟨_, rfl⟩
  have HKB := Lib.hid (show Blk W0 G 25 (jvCells v) by rw [hW0, hG]; exact (Blk.new _ _ _).alloc _)
  have HKZ := Lib.hid (show Blk W0 (G + 1) 25 (jvCells zJV) by
    have := Blk.new (w.alloc (.cells (jvCells v) 25)) 25 (jvCells zJV)
    rw [hW0, hG]
    simpa using this)
  have HRD := Lib.hid (h.grow hb0)
  have HRG := Lib.hid (show RG r w W0 from .below hb0)
  have HRL := Lib.hid (show r < G by rw [hG]; exact Blk.lt h)
  have HW0 := Lib.hid hW0
  obtain ⟨p, hp⟩ : ∃ p, p = W.isPrefixOf (s.data.toList.drop a) := ⟨_, rfl⟩
  have HC := Lib.hid (fun u => show Calls Try.prog 57 #[.string (s.extract a s.size), .string (bs W)] u fun x w' => x = .returned (.bool p) ∧ w' = u by
    have := hasp_any (s.extract a s.size) (bs W) u
    rw [extract_rest, show (bs W).data.toList = W from rfl, ← hp] at this
    exact this)
  rw [← hp]
  have ha' : (a : Int) ≤ (s.size : Int) := by omega
  have hwl : ((bs W).size : Int) ≤ 10 := by rw [bs_size]; omega
  have HWL := Lib.hid (bs_size W)
  obtain ⟨c0, c1, -, -⟩ := HRD.out.cells
  clear hW0 hb0 h hp hW ha
  rw [hG] at *
  clear hG
  go_enter Try.func48, Try.ntmps48
  go_upto_region 1 with (fail)
  have HW0' : _ = W0 := HW0.out.symm
  rw [show ((w.alloc (.cells (jvCells v) 25)).alloc (.cells #[.int .i64 0, .int .i64 0, .string ⟨#[]⟩, .slice none 0 0, .slice none 0 0] 25)) = W0 from HW0']
  clear HW0' HW0
  go_quiet (refine Calls.quiet_of_same (HC.out _))
  have HD := Lib.hid (show RD (W0.drewN nq) r s a d 0 from HRD.out)
  have HG2 := Lib.hid (HRG.out.drewN nq)
  have HK2 := Lib.hid (show Blk (W0.drewN nq) w.heap.size 25 (jvCells v) from HKB.out)
  have HZ2 := Lib.hid (show Blk (W0.drewN nq) (w.heap.size + 1) 25 (jvCells zJV) from HKZ.out)
  generalize W0.drewN nq = W1 at *
  clear c0 c1 HKB HKZ HRD HRG HC
  cases p with
  | false =>
    have CF := Lib.hid (fail_any 13 s r a d 0 W1 HD.out)
    go_wp2_with fail
    refine calls_then CF.out ?_
    rintro y w2 ⟨rfl, hrd, hrg⟩
    have HRD2 := Lib.hid (show RD w2 r s a d 13 from hrd)
    have HRG2 := Lib.hid (HG2.out.trans hrg)
    have HZ3 := Lib.hid (show Blk w2 (w.heap.size + 1) 25 (jvCells zJV) from (World.grownBy.block hrg _ HZ2.out.lt (by have := HRL.out; intro h; injection h with h; omega)).trans HZ2.out)
    clear hrd hrg
    go_wp2_with (refine wpList_put_box (x := .tmp 6) (cells := jvCells zJV) HZ3.out rfl rfl rfl rfl jT_size3 rfl (jvCells_one _) ?_; intro w3 hb3 hw3)
    have HB3 := Lib.hid hb3
    have HRD3 := Lib.hid (show RD w3 r s a d 13 from hw3.blk HRD2.out (by have := HRL.out; omega))
    have HRG3 := Lib.hid (show RG r w w3 from HRG2.out.wrote_new hw3 (by omega))
    refine bodyPost_ret (results_box (P := Try.prog) rfl rfl HB3.out hu rfl jT_size3) rfl ?_
    exact ⟨rfl, HRD3.out, HRG3.out⟩
  | true =>
    obtain ⟨c0, c1, -, -⟩ := HD.out.cells
    go_wp2_with (first
      | (refine wpList_put_cell (x := .tmp 30) (i := 1) HD.out rfl rfl rfl rfl (by kernel_rfl) (by simp [rdCells]) rfl ?_; intro w3 hb3 hw3; have HK3 := Lib.hid (hw3.blk HK2.out (by have := HRL.out; omega)); have HZ3 := Lib.hid (hw3.blk HZ2.out (by have := HRL.out; omega)); have HRD3 := Lib.hid hb3; have HW3 := Lib.hid hw3; clear hb3 hw3 c0 c1)
      | (refine wpList_get_box (x := .tmp 5) (cs := jvCells v) HK3.out rfl rfl rfl hu rfl jT_size3 ?_)
      | (refine wpList_put_box (x := .tmp 6) (cells := jvCells v) HZ3.out rfl rfl rfl rfl jT_size3 rfl (jvCells_one _) ?_; intro w4 hb4 hw4; have HB4 := Lib.hid hb4; have HW4 := Lib.hid hw4; clear hb4 hw4))
    refine bodyPost_ret (results_box (P := Try.prog) rfl rfl HB4.out hu rfl jT_size3) rfl ?_
    refine ⟨rfl, HW4.out.blk ?_ (by have := HRL.out; omega), (HG2.out.trans (.wrote HW3.out)).wrote_new HW4.out (by omega)⟩
    have h := HRD3.out
    rw [HWL.out] at h
    exact h
end Go.Proofs.Ytcfbnjaelniahaa.Js
