/-
  Walks: json's reader: the taker of a string.
-/
import Derived.Test.YtcfbnjaelniahaaJs9
namespace Go.Proofs.Ytcfbnjaelniahaa.Js
set_option linter.unusedSimpArgs false
set_option linter.unusedVariables false
open Go.RowKit

/-- a string as a value (also where none stood: then the fault is set) -/
def txJ (o : Option (Bs × Bs)) : JV := ⟨3, 0, textS o, none, 0, 0, none, 0, 0⟩
theorem take4_any (s : ByteArray) (hs : (s.size : Int) ≤ 1000000) (r a : Nat) (d : Int) (w : World) (h : RD w r s a d 0) (ha : a ≤ s.size) :
    Calls Try.prog 51 #[.pointer (some ⟨r, 0, none⟩)] w fun x w' => x = .returned (.agg (jvCells (txJ (textP (s.data.toList.drop a))))) ∧ ∃ a' : Nat, (a' : Int) ≤ (s.size : Int) + 5 ∧
      (∀ t r', textP (s.data.toList.drop a) = some (t, r') → At s a a' r') ∧
      RD w' r s a' d (textE (textP (s.data.toList.drop a))) ∧ RG r w w' := by
  have hu := Try.underlying25
  obtain ⟨W0, hW0⟩ : ∃ W0, W0 = w.alloc (.cells (jvCells zJV) 25) := ⟨_, rfl⟩
  have hb0 : Below w.heap.size w W0 := by rw [hW0]; exact (Below.refl _ w).alloc (Nat.le_refl _) _
  obtain ⟨G, hG⟩ : ∃ G, G = w.heap.size := ⟨_, rfl⟩
  have HKZ := Lib.hid (show Blk W0 G 25 (jvCells zJV) by rw [hW0, hG]; exact Blk.new _ _ _)
  have HRD := Lib.hid (h.grow hb0)
  have HRG := Lib.hid (show RG r w W0 from .below hb0)
  have HRL := Lib.hid (show r < G by rw [hG]; exact Blk.lt h)
  have HW0 := Lib.hid hW0
  have CW := Lib.hid (text_any s hs r a d W0 HRD.out ha)
  obtain ⟨o, ho⟩ : ∃ o, o = textP (s.data.toList.drop a) := ⟨_, rfl⟩
  rw [← ho] at CW ⊢
  clear hW0 hb0 h ha ho
  rw [hG] at *
  clear hG
  go_enter Try.func51, Try.ntmps51
  go_upto_region 1 with (fail)
  rw [show (w.alloc (.cells #[.int .i64 0, .int .i64 0, .string ⟨#[]⟩, .slice none 0 0, .slice none 0 0] 25)) = W0 from HW0.out.symm]
  clear HW0
  go_wp2_with fail
  refine calls_then CW.out ?_
  rintro y w1 ⟨rfl, a', ha', hat, hrd, hrg⟩
  have HA' := Lib.hid ha'
  have HAT := Lib.hid hat
  have HRD1 := Lib.hid hrd
  have HZ1 := Lib.hid (show Blk w1 w.heap.size 25 (jvCells zJV) from (World.grownBy.block hrg _ HKZ.out.lt (by have := HRL.out; intro h; injection h with h; omega)).trans HKZ.out)
  have HRG1 := Lib.hid (HRG.out.trans hrg)
  clear hrd hrg hat ha'
  go_wp2_with (refine wpList_put_box (x := .tmp 2) (cells := jvCells (txJ o)) HZ1.out rfl rfl rfl rfl jT_size3 rfl (jvCells_one _) ?_; intro w9 hb9 hw9)
  have HB9 := Lib.hid hb9
  refine bodyPost_ret (results_box (P := Try.prog) rfl rfl HB9.out hu rfl jT_size3) rfl ?_
  exact ⟨rfl, a', HA'.out, HAT.out, hw9.blk HRD1.out (by have := HRL.out; omega), HRG1.out.wrote_new hw9 (Nat.le_refl _)⟩
end Go.Proofs.Ytcfbnjaelniahaa.Js
