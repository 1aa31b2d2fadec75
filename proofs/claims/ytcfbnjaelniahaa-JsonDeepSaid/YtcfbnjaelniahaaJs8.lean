/-
  Walks: json's reader: the takers.
-/
import Derived.Test.YtcfbnjaelniahaaJs7
import Derived.Test.YtcfbnjaelniahaaJs4
namespace Go.Proofs.Ytcfbnjaelniahaa.Js
set_option linter.unusedSimpArgs false
set_option linter.unusedVariables false
open Go.RowKit

def nulJ : JV := zJV
def truJ : JV := ⟨1, 1, [], none, 0, 0, none, 0, 0⟩
def falJ : JV := ⟨1, 0, [], none, 0, 0, none, 0, 0⟩
/-- what a taker of one word hands back -/
def wJ (p : Bool) (v : JV) : JV := if p then v else zJV
def wA (p : Bool) (a n : Nat) : Nat := if p then a + n else a
def wE (p : Bool) : Int := if p then 0 else 13
theorem take1_any (s : ByteArray) (hs : (s.size : Int) ≤ 1000000) (r a : Nat) (d : Int) (w : World) (h : RD w r s a d 0) (ha : a ≤ s.size) :
    Calls Try.prog 47 #[.pointer (some ⟨r, 0, none⟩)] w fun x w' => x = .returned (.agg (jvCells (wJ (List.isPrefixOf [110, 117, 108, 108] (s.data.toList.drop a)) nulJ))) ∧
      RD w' r s (wA (List.isPrefixOf [110, 117, 108, 108] (s.data.toList.drop a)) a 4) d (wE (List.isPrefixOf [110, 117, 108, 108] (s.data.toList.drop a))) ∧ RG r w w' := by
  have hu := Try.underlying25
  obtain ⟨W0, hW0⟩ : ∃ W0, W0 = w.alloc (.cells (jvCells zJV) 25) := ⟨_, rfl⟩
  have hb0 : Below w.heap.size w W0 := by rw [hW0]; exact (Below.refl _ w).alloc (Nat.le_refl _) _
  obtain ⟨G, hG⟩ : ∃ G, G = w.heap.size := ⟨_, rfl⟩
  have HKZ := Lib.hid (show Blk W0 G 25 (jvCells zJV) by rw [hW0, hG]; exact Blk.new _ _ _)
  have HRD := Lib.hid (h.grow hb0)
  have HRG := Lib.hid (show RG r w W0 from .below hb0)
  have HRL := Lib.hid (show r < G by rw [hG]; exact Blk.lt h)
  have HW0 := Lib.hid hW0
  have CW := Lib.hid (show Calls Try.prog 48 #[.pointer (some ⟨r, 0, none⟩), .string (bs [110, 117, 108, 108]), .agg (jvCells nulJ)] W0 fun x w' => x = .returned (.agg (jvCells (wJ (List.isPrefixOf [110, 117, 108, 108] (s.data.toList.drop a)) nulJ))) ∧
      RD w' r s (wA (List.isPrefixOf [110, 117, 108, 108] (s.data.toList.drop a)) a 4) d (wE (List.isPrefixOf [110, 117, 108, 108] (s.data.toList.drop a))) ∧ RG r W0 w' from word_any [110, 117, 108, 108] (by decide) nulJ s hs r a d W0 HRD.out ha)
  obtain ⟨pre, hpre⟩ : ∃ pre, pre = List.isPrefixOf [110, 117, 108, 108] (s.data.toList.drop a) := ⟨_, rfl⟩
  rw [← hpre] at CW ⊢
  clear hW0 hb0 h ha hpre
  rw [hG] at *
  clear hG
  go_enter Try.func47, Try.ntmps47
  go_upto_region 1 with (fail)
  rw [show (w.alloc (.cells #[.int .i64 0, .int .i64 0, .string ⟨#[]⟩, .slice none 0 0, .slice none 0 0] 25)) = W0 from HW0.out.symm]
  clear HW0
  go_wp2_with fail
  refine calls_then CW.out ?_
  rintro y w1 ⟨rfl, hrd, hrg⟩
  have HRD1 := Lib.hid hrd
  have HZ1 := Lib.hid (show Blk w1 w.heap.size 25 (jvCells zJV) from (World.grownBy.block hrg _ HKZ.out.lt (by have := HRL.out; intro h; injection h with h; omega)).trans HKZ.out)
  have HRG1 := Lib.hid (HRG.out.trans hrg)
  clear hrd hrg
  go_wp2_with (refine wpList_put_box (x := .tmp 2) (cells := jvCells (wJ pre nulJ)) HZ1.out rfl rfl rfl rfl jT_size3 rfl (jvCells_one _) ?_; intro w9 hb9 hw9)
  have HB9 := Lib.hid hb9
  refine bodyPost_ret (results_box (P := Try.prog) rfl rfl HB9.out hu rfl jT_size3) rfl ?_
  exact ⟨rfl, hw9.blk HRD1.out (by have := HRL.out; omega), HRG1.out.wrote_new hw9 (Nat.le_refl _)⟩
theorem take2_any (s : ByteArray) (hs : (s.size : Int) ≤ 1000000) (r a : Nat) (d : Int) (w : World) (h : RD w r s a d 0) (ha : a ≤ s.size) :
    Calls Try.prog 49 #[.pointer (some ⟨r, 0, none⟩)] w fun x w' => x = .returned (.agg (jvCells (wJ (List.isPrefixOf [116, 114, 117, 101] (s.data.toList.drop a)) truJ))) ∧
      RD w' r s (wA (List.isPrefixOf [116, 114, 117, 101] (s.data.toList.drop a)) a 4) d (wE (List.isPrefixOf [116, 114, 117, 101] (s.data.toList.drop a))) ∧ RG r w w' := by
  have hu := Try.underlying25
  obtain ⟨W0, hW0⟩ : ∃ W0, W0 = w.alloc (.cells (jvCells zJV) 25) := ⟨_, rfl⟩
  have hb0 : Below w.heap.size w W0 := by rw [hW0]; exact (Below.refl _ w).alloc (Nat.le_refl _) _
  obtain ⟨G, hG⟩ : ∃ G, G = w.heap.size := ⟨_, rfl⟩
  have HKZ := Lib.hid (show Blk W0 G 25 (jvCells zJV) by rw [hW0, hG]; exact Blk.new _ _ _)
  have HRD := Lib.hid (h.grow hb0)
  have HRG := Lib.hid (show RG r w W0 from .below hb0)
  have HRL := Lib.hid (show r < G by rw [hG]; exact Blk.lt h)
  have HW0 := Lib.hid hW0
  have CW := Lib.hid (show Calls Try.prog 48 #[.pointer (some ⟨r, 0, none⟩), .string (bs [116, 114, 117, 101]), .agg (jvCells truJ)] W0 fun x w' => x = .returned (.agg (jvCells (wJ (List.isPrefixOf [116, 114, 117, 101] (s.data.toList.drop a)) truJ))) ∧
      RD w' r s (wA (List.isPrefixOf [116, 114, 117, 101] (s.data.toList.drop a)) a 4) d (wE (List.isPrefixOf [116, 114, 117, 101] (s.data.toList.drop a))) ∧ RG r W0 w' from word_any [116, 114, 117, 101] (by decide) truJ s hs r a d W0 HRD.out ha)
  obtain ⟨pre, hpre⟩ : ∃ pre, pre = List.isPrefixOf [116, 114, 117, 101] (s.data.toList.drop a) := ⟨_, rfl⟩
  rw [← hpre] at CW ⊢
  clear hW0 hb0 h ha hpre
  rw [hG] at *
  clear hG
  go_enter Try.func49, Try.ntmps49
  go_upto_region 1 with (fail)
  rw [show (w.alloc (.cells #[.int .i64 0, .int .i64 0, .string ⟨#[]⟩, .slice none 0 0, .slice none 0 0] 25)) = W0 from HW0.out.symm]
  clear HW0
  go_wp2_with fail
  refine calls_then CW.out ?_
  rintro y w1 ⟨rfl, hrd, hrg⟩
  have HRD1 := Lib.hid hrd
  have HZ1 := Lib.hid (show Blk w1 w.heap.size 25 (jvCells zJV) from (World.grownBy.block hrg _ HKZ.out.lt (by have := HRL.out; intro h; injection h with h; omega)).trans HKZ.out)
  have HRG1 := Lib.hid (HRG.out.trans hrg)
  clear hrd hrg
  go_wp2_with (refine wpList_put_box (x := .tmp 2) (cells := jvCells (wJ pre truJ)) HZ1.out rfl rfl rfl rfl jT_size3 rfl (jvCells_one _) ?_; intro w9 hb9 hw9)
  have HB9 := Lib.hid hb9
  refine bodyPost_ret (results_box (P := Try.prog) rfl rfl HB9.out hu rfl jT_size3) rfl ?_
  exact ⟨rfl, hw9.blk HRD1.out (by have := HRL.out; omega), HRG1.out.wrote_new hw9 (Nat.le_refl _)⟩
theorem take3_any (s : ByteArray) (hs : (s.size : Int) ≤ 1000000) (r a : Nat) (d : Int) (w : World) (h : RD w r s a d 0) (ha : a ≤ s.size) :
    Calls Try.prog 50 #[.pointer (some ⟨r, 0, none⟩)] w fun x w' => x = .returned (.agg (jvCells (wJ (List.isPrefixOf [102, 97, 108, 115, 101] (s.data.toList.drop a)) falJ))) ∧
      RD w' r s (wA (List.isPrefixOf [102, 97, 108, 115, 101] (s.data.toList.drop a)) a 5) d (wE (List.isPrefixOf [102, 97, 108, 115, 101] (s.data.toList.drop a))) ∧ RG r w w' := by
  have hu := Try.underlying25
  obtain ⟨W0, hW0⟩ : ∃ W0, W0 = w.alloc (.cells (jvCells zJV) 25) := ⟨_, rfl⟩
  have hb0 : Below w.heap.size w W0 := by rw [hW0]; exact (Below.refl _ w).alloc (Nat.le_refl _) _
  obtain ⟨G, hG⟩ : ∃ G, G = w.heap.size := ⟨_, rfl⟩
  have HKZ := Lib.hid (show Blk W0 G 25 (jvCells zJV) by rw [hW0, hG]; exact Blk.new _ _ _)
  have HRD := Lib.hid (h.grow hb0)
  have HRG := Lib.hid (show RG r w W0 from .below hb0)
  have HRL := Lib.hid (show r < G by rw [hG]; exact Blk.lt h)
  have HW0 := Lib.hid hW0
  have CW := Lib.hid (show Calls Try.prog 48 #[.pointer (some ⟨r, 0, none⟩), .string (bs [102, 97, 108, 115, 101]), .agg (jvCells falJ)] W0 fun x w' => x = .returned (.agg (jvCells (wJ (List.isPrefixOf [102, 97, 108, 115, 101] (s.data.toList.drop a)) falJ))) ∧
      RD w' r s (wA (List.isPrefixOf [102, 97, 108, 115, 101] (s.data.toList.drop a)) a 5) d (wE (List.isPrefixOf [102, 97, 108, 115, 101] (s.data.toList.drop a))) ∧ RG r W0 w' from word_any [102, 97, 108, 115, 101] (by decide) falJ s hs r a d W0 HRD.out ha)
  obtain ⟨pre, hpre⟩ : ∃ pre, pre = List.isPrefixOf [102, 97, 108, 115, 101] (s.data.toList.drop a) := ⟨_, rfl⟩
  rw [← hpre] at CW ⊢
  clear hW0 hb0 h ha hpre
  rw [hG] at *
  clear hG
  go_enter Try.func50, Try.ntmps50
  go_upto_region 1 with (fail)
  rw [show (w.alloc (.cells #[.int .i64 0, .int .i64 0, .string ⟨#[]⟩, .slice none 0 0, .slice none 0 0] 25)) = W0 from HW0.out.symm]
  clear HW0
  go_wp2_with fail
  refine calls_then CW.out ?_
  rintro y w1 ⟨rfl, hrd, hrg⟩
  have HRD1 := Lib.hid hrd
  have HZ1 := Lib.hid (show Blk w1 w.heap.size 25 (jvCells zJV) from (World.grownBy.block hrg _ HKZ.out.lt (by have := HRL.out; intro h; injection h with h; omega)).trans HKZ.out)
  have HRG1 := Lib.hid (HRG.out.trans hrg)
  clear hrd hrg
  go_wp2_with (refine wpList_put_box (x := .tmp 2) (cells := jvCells (wJ pre falJ)) HZ1.out rfl rfl rfl rfl jT_size3 rfl (jvCells_one _) ?_; intro w9 hb9 hw9)
  have HB9 := Lib.hid hb9
  refine bodyPost_ret (results_box (P := Try.prog) rfl rfl HB9.out hu rfl jT_size3) rfl ?_
  exact ⟨rfl, hw9.blk HRD1.out (by have := HRL.out; omega), HRG1.out.wrote_new hw9 (Nat.le_refl _)⟩
end Go.Proofs.Ytcfbnjaelniahaa.Js
