/-
  The walk of Unpack's closure take.
-/
import Derived.Test.YtlngjalclagojaaUnp
import Derived.Test.YtlngjalclagojaaProg
namespace Go.Proofs.Ytlngjalclagojaa
open Go.RowKit

/-- take's answer. -/
def TakePost (B gr gs n : Nat) (s : Rs) (w : World) (e : Ending) (w' : World) : Prop :=
  ∃ A c, e = .returned (.slice A (takeS n s).1.length c) ∧ (takeS n s).1.length ≤ c ∧ Rd w' B A (bytesV (takeS n s).1) ∧ Inp w' B gr gs (takeS n s).2 ∧ Wrote2 gr gs w w'

set_option maxHeartbeats 2000000 in
theorem take_any (B gr gs n : Nat) (s : Rs) (w : World) (h : Inp w B gr gs s) (hn : n ≤ 140737488355328) :
    Calls Try.prog 20 #[.int .i64 n, .pointer (some ⟨gr, 0, none⟩), .pointer (some ⟨gs, 0, none⟩)] w (TakePost B gr gs n s w) := by
  obtain ⟨⟨A, c, hrow, hc, hrd⟩, hflag, hbr, hbs, hne, hfit⟩ := h
  have c1 := hrow.cell 0
  have c2 := hflag.cell 0
  have f1 := hrow.free 0
  have f2 := hflag.free 0
  have HR := Lib.hid hrd
  have HB := Lib.hid hrow
  have HF := Lib.hid hflag
  clear hrd hrow hflag
  by_cases hlt : s.rest.length < n
  · have hlt' : (s.rest.length : Int) < (n : Int) := by omega
    go_enter Try.func20, Try.ntmps20
    go_wp2_with fail
    go_ret
    have w1 := wrote_setCell w gs (.bool true)
    have w2 := wrote_setCell (w.setCell ⟨gs, 0, none⟩ (.bool true)) gr (.slice none 0 0)
    rw [TakePost, takeS_short hlt]
    refine ⟨none, 0, rfl, Nat.le_refl _, Rd.nil _ _ _, ⟨⟨none, 0, ?_, Nat.le_refl _, Rd.nil _ _ _⟩, ?_, hbr, hbs, hne, Nat.zero_le _⟩, (w1.right gr).trans (w2.left gs)⟩
    · exact blk_setCell (w1.blk HB.out hne) _
    · exact w2.blk (blk_setCell HF.out _) hne.symm
  · have hle' : ¬ (s.rest.length : Int) < (n : Int) := by omega
    have hle : n ≤ s.rest.length := by omega
    have ht : (s.rest.take n).length = n := by simp [hle]
    have hd : (s.rest.drop n).length = s.rest.length - n := by simp
    go_enter Try.func20, Try.ntmps20
    go_wp2_with fail
    · go_ret
      have w2 := wrote_setCell w gr (.slice A (s.rest.length - n) 0)
      have hr := (w2.left gs).rd HR.out hbr hbs
      rw [TakePost, takeS_all hle, ht]
      refine ⟨A, n, rfl, Nat.le_refl _, ?_, ⟨⟨A, 0, ?_, ?_, ?_⟩, w2.blk HF.out hne.symm, hbr, hbs, hne, ?_⟩, w2.left gs⟩
      · rw [bytesV, List.map_take]; exact hr.take n
      · rw [hd]; exact blk_setCell HB.out _
      · rw [hd]; omega
      · rw [show s.rest.drop n = [] from List.drop_eq_nil_of_le (by omega)]; exact Rd.nil _ _ _
      · rw [hd]; omega
    · go_ret
      have w2 := wrote_setCell w gr (.slice (A.map fun x => x.add n) (s.rest.length - n) (c - n))
      have hr := (w2.left gs).rd HR.out hbr hbs
      rw [TakePost, takeS_all hle, ht]
      refine ⟨A, c, rfl, by omega, ?_, ⟨⟨A.map fun x => x.add n, c - n, ?_, ?_, ?_⟩, w2.blk HF.out hne.symm, hbr, hbs, hne, ?_⟩, w2.left gs⟩
      · rw [bytesV, List.map_take]; exact hr.take n
      · rw [hd]; exact blk_setCell HB.out _
      · rw [hd]; omega
      · rw [bytesV, List.map_drop]; exact hr.drop' n
      · rw [hd]; omega
end Go.Proofs.Ytlngjalclagojaa
