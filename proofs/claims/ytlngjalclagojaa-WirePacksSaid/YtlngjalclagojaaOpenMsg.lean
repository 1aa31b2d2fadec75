/-
  Opening a message that came in.
-/
import Derived.Test.YtlngjalclagojaaOpen
import Derived.Test.YtlngjalclagojaaMsg
namespace Go.Proofs.Ytlngjalclagojaa
open Go.ChangeShapes Go.WideShapes Go.ChangeAt Go.RowKit Go.Joins

theorem cells_msg : Try.prog.cellsOf 24 = 6 := by kernel_rfl
theorem cells_str : Try.prog.cellsOf 9 = 1 := by kernel_rfl
theorem cells_int : Try.prog.cellsOf 3 = 1 := by kernel_rfl
theorem cells_strs : Try.prog.cellsOf 22 = 1 := by kernel_rfl

theorem open_msg {H : Type} {enc : TypeId × Value → H} {W : World} {base : Nat} {r : Reach} {b0 : Nat} {sp : Nat → Bool} {held : Bool} {v : Value} {d : DataW H} {p : List MemPlace}
    (hv : Value.okWide Try.prog W r b0 24 v) (h : DataW.Trod enc Try.prog W base sp held 24 v d p) :
    ∃ (m : MsgD) (A : Option Addr) (c : Nat), v = .agg (msgCells m A c) ∧ Rd W W.heap.size A (strsV m.fields) ∧ m.fields.length ≤ c ∧ MsgOk m := by
  obtain ⟨c0, c1, c2, c3, c4, c5, y0, y1, y2, y3, y4, y5, n, rfl, _, _, g0, g1, g2, g3, g4, g5⟩ := open_agg6 Try.underlying24 (by kernel_rfl) cells_msg hv h
  obtain ⟨kind, e0, _, _⟩ := DataW.trod_int Try.underlying3 g0
  obtain ⟨src, e1, _, z1⟩ := DataW.trod_string Try.underlying9 g1
  obtain ⟨dst, e2, _, z2⟩ := DataW.trod_string Try.underlying9 g2
  obtain ⟨seq, e3, _, _⟩ := DataW.trod_int Try.underlying3 g3
  obtain ⟨A, c, l, e4, q1, q2, q3, q4⟩ := open_strs_rd Try.underlying22 Try.underlying9 cells_str g4
  obtain ⟨sig, e5, _, z5⟩ := DataW.trod_string Try.underlying9 g5
  simp only [List.cons.injEq, and_true] at e0 e1 e2 e3 e4 e5
  subst e0 e1 e2 e3 e4 e5
  simp only [maxLen] at z1 z2 z5 q2 q4
  exact ⟨⟨kind, src, dst, seq, l, sig⟩, A, c, rfl, q3, q1, ⟨by omega, by omega, by omega, by omega, fun s hs => by have := q4 s hs; omega⟩⟩
end Go.Proofs.Ytlngjalclagojaa
