/-
  Walk: the document's example of json.
-/
import Derived.Test.YtcfbnjaelniahaaJs16
import Derived.Test.YtcfbnjaelniahaaJwr
import Derived.Test.YtcfbnjaelniahaaJsd
import Derived.Test.YtcfbnjaelniahaaJsm
namespace Go.Proofs.Ytcfbnjaelniahaa.Js
set_option linter.unusedSimpArgs false
set_option linter.unusedVariables false
open Go.RowKit

/-- the tree that is told -/
def valJ : Except Int JT → JT
  | .ok j => j
  | .error _ => jzero
theorem valJ_small (s : Bs) : smallJ (valJ (readP s)) = true := by
  cases h : readP s with
  | error e => show smallJ jzero = true; decide
  | ok j => exact readP_small h
theorem jread_rep (s : ByteArray) (w : World) : Calls Try.prog 12 #[.string s] w fun x w' => ∃ v : JV, x = .returned (.tuple #[.agg (jvCells v), .int .i64 (errE (readP s.data.toList))]) ∧ Below w.heap.size w w' ∧ JRep w' (fun b => b < w'.heap.size) (valJ (readP s.data.toList)) v := by
  refine (jread_any s w).mono ?_
  rintro x w' ⟨v, rfl, hb, hj, he⟩
  refine ⟨v, rfl, hb, ?_⟩
  cases h : readP s.data.toList with
  | error e => rw [he e h]; exact JRep.flat _ _ _ _ _
  | ok j => exact (hj j h).imp fun b hb _ => hb
set_option maxRecDepth 100000 in
set_option maxHeartbeats 4000000 in
theorem lives_any (w : World) : Calls Try.prog 10 #[] w fun x w' => x = .returned (.bool true) ∧ Below w.heap.size w w' := by
  have hu := Try.underlying25
  have C1 := Lib.hid (show Calls Try.prog 12 #[.string ⟨#[32, 123, 34, 97, 34, 32, 58, 32, 91, 49, 44, 116, 114, 117, 101, 93, 125]⟩] w fun x w' => ∃ v : JV, x = .returned (.tuple #[.agg (jvCells v), .int .i64 0]) ∧ Below w.heap.size w w' ∧ JRep w' (fun b => b < w'.heap.size) exV v from by
    refine (jread_any ⟨#[32, 123, 34, 97, 34, 32, 58, 32, 91, 49, 44, 116, 114, 117, 101, 93, 125]⟩ w).mono ?_
    rintro x w' ⟨v, rfl, hb, hj, -⟩
    have e1 : readP (⟨#[32, 123, 34, 97, 34, 32, 58, 32, 91, 49, 44, 116, 114, 117, 101, 93, 125]⟩ : ByteArray).data.toList = .ok exV := ex_read
    rw [e1]
    exact ⟨v, rfl, hb, (hj _ e1).imp fun b hb _ => hb⟩)
  have C2 := Lib.hid (fun (v : JV) (u : World) (h : JRep u (fun b => b < u.heap.size) exV v) =>
    show Calls Try.prog 8 #[.agg (jvCells v)] u fun x w' => x = .returned (.tuple #[.string ⟨#[123, 34, 97, 34, 58, 91, 49, 44, 116, 114, 117, 101, 93, 125]⟩, .int .i64 0]) ∧ Below u.heap.size u w' from by
      have e1 : wrE exV = (exW, 0) := by
        rw [wrE, if_neg (by rw [ex_write.1]; decide), if_neg (by rw [ex_write.2]; decide), ex_write.2]
      refine (jwrite_any exV v u.heap.size u (by decide) h (Nat.le_refl _) (by rw [ex_write.2]; decide)).mono ?_
      rintro x w' ⟨rfl, hb⟩
      rw [e1]
      exact ⟨rfl, hb⟩)
  have C3 := Lib.hid (fun (u : World) => show Calls Try.prog 12 #[.string ⟨#[91, 91, 91, 91, 91, 91, 91]⟩] u fun x w' => ∃ v : JV, x = .returned (.tuple #[.agg (jvCells v), .int .i64 9]) ∧ Below u.heap.size u w' from by
    refine (jread_any ⟨#[91, 91, 91, 91, 91, 91, 91]⟩ u).mono ?_
    rintro x w' ⟨v, rfl, hb, -, -⟩
    have e1 : readP (⟨#[91, 91, 91, 91, 91, 91, 91]⟩ : ByteArray).data.toList = .error 9 := ex_deep
    rw [e1]
    exact ⟨v, rfl, hb⟩)
  go_enter Try.func10, Try.ntmps10
  go_wp2_with fail
  refine calls_then C1.out ?_
  rintro e w1 ⟨v, rfl, hb1, hj1⟩
  have HB1 := Lib.hid hb1
  have HJ1 := Lib.hid hj1
  have HB5 := Lib.hid (show Blk (w1.alloc (.cells #[.int .i64 0, .int .i64 0, .string ⟨#[]⟩, .slice none 0 0, .slice none 0 0] 25)) w1.heap.size 25 (jvCells zJV) from Blk.new _ _ _)
  clear hb1 hj1 C1
  go_upto_region 2 with (refine wpList_put_box (x := .tmp 1) (cells := jvCells v) HB5.out rfl rfl rfl rfl jT_size3 rfl (jvCells_one _) ?_; intro w2 hb2 hw2)
  have hb5 := (Below.refl w1.heap.size w1).alloc (Nat.le_refl _) (.cells #[.int .i64 0, .int .i64 0, .string ⟨#[]⟩, .slice none 0 0, .slice none 0 0] 25)
  have hbl : Below w1.heap.size w1 w2 := hw2.below hb5 (Nat.le_refl _) (by simp)
  have HB2 := Lib.hid (HB1.out.trans (hbl.mono HB1.out.size))
  have HK2 := Lib.hid hb2
  have HJ2 := Lib.hid (show JRep w2 (fun b => b < w2.heap.size) exV v from (HJ1.out.under hbl).imp fun b hb _ => hb)
  clear hb5 hbl hb2 hw2 HB5
  go_wp2_with (refine wpList_get_box (x := .tmp 1) HK2.out rfl rfl rfl hu rfl jT_size3 ?_)
  refine calls_then (C2.out v _ HJ2.out) ?_
  rintro e w3 ⟨rfl, hb3⟩
  have HB3 := Lib.hid (HB2.out.trans (hb3.mono HB2.out.size))
  clear hb3
  go_wp2_with fail
  refine calls_then (C3.out _) ?_
  rintro e w4 ⟨v4, rfl, hb4⟩
  have HB4 := Lib.hid (HB3.out.trans (hb4.mono HB3.out.size))
  have HB6 := Lib.hid (show Blk (w4.alloc (.cells #[.int .i64 0, .int .i64 0, .string ⟨#[]⟩, .slice none 0 0, .slice none 0 0] 25)) w4.heap.size 25 (jvCells zJV) from Blk.new _ _ _)
  clear hb4
  go_upto_region 4 with (refine wpList_put_box (x := .tmp 5) (cells := jvCells v4) HB6.out rfl rfl rfl rfl jT_size3 rfl (jvCells_one _) ?_; intro w5 hb5 hw5)
  have hb6 := (Below.refl w4.heap.size w4).alloc (Nat.le_refl _) (.cells #[.int .i64 0, .int .i64 0, .string ⟨#[]⟩, .slice none 0 0, .slice none 0 0] 25)
  have hbl : Below w4.heap.size w4 w5 := hw5.below hb6 (Nat.le_refl _) (by simp)
  have HB7 := Lib.hid (HB4.out.trans (hbl.mono HB4.out.size))
  clear hb6 hbl hb5 hw5 HB6
  go_wp2_with fail
  go_ret
  exact ⟨rfl, HB7.out⟩
end Go.Proofs.Ytcfbnjaelniahaa.Js
