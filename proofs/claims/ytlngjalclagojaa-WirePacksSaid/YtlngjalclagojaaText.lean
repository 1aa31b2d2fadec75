/-
  Walks: wire.Text, wire.Pack.
-/
import Derived.Test.YtlngjalclagojaaBody
import Derived.Test.YtlngjalclagojaaMay
import Derived.Lib.SmallJoins
namespace Go.Proofs.Ytlngjalclagojaa
open Go.RowKit

theorem may_facts {m : MsgD} (h : mayB m = true) : 0 ≤ m.kind ∧ m.kind ≤ 255 ∧ 0 ≤ m.seq ∧ m.seq ≤ 1099511627776 ∧ m.fields.length ≤ 8 ∧ m.src.size ≤ 1000 ∧ m.dst.size ≤ 1000 ∧ (∀ s ∈ m.fields, s.size ≤ 1000) ∧ m.sig.size ≤ 64 := by
  simp only [mayB, anyLong, Bool.and_eq_true, Bool.or_eq_true, decide_eq_true_eq, Bool.not_eq_true', decide_eq_false_iff_not, List.any_eq_false] at h
  obtain ⟨⟨⟨⟨⟨⟨⟨⟨h1, h2⟩, h3⟩, h4⟩, h5⟩, h6⟩, h7⟩, h8⟩, h9⟩ := h
  exact ⟨by omega, h2, h3, h4, h5, by omega, by omega, fun s hs => by have := h8 s hs; omega, by omega⟩

def prefixB : List UInt8 := [98, 114, 101, 118, 101, 116, 47]
theorem prefix_cells : bytesV prefixB = (#[.int .u8 98, .int .u8 114, .int .u8 101, .int .u8 118, .int .u8 101, .int .u8 116, .int .u8 47] : Array Value).toList := rfl
def textB (m : MsgD) : List UInt8 := prefixB ++ bodyB m

def TextPost (m : MsgD) (w : World) (e : Ending) (w' : World) : Prop :=
  Below w.heap.size w w' ∧ if mayB m then ∃ A c, e = .returned (.tuple #[.slice A (textB m).length c, .int .i64 0]) ∧ OwnX w' w.heap.size 5 1 (.slice A (textB m).length c) (textB m).length (bytesV (textB m))
    else e = .returned (.tuple #[.slice none 0 0, .int .i64 1])

set_option maxHeartbeats 1000000 in
theorem text_any (m : MsgD) (A : Option Addr) (c B : Nat) (w : World) (hr : Rd w B A (strsV m.fields)) (hB : B ≤ w.heap.size) (hc : m.fields.length ≤ c) (ok : MsgOk m) :
    Calls Try.prog 7 #[.agg (msgCells m A c)] w (TextPost m w) := by
  have hb1 : Below w.heap.size w (w.alloc (.cells (msgCells m A c) 24)) := (Below.refl _ _).alloc (Nat.le_refl _) _
  have hr1 := hr.below (hb1.mono hB)
  have hb2 : Below w.heap.size w ((w.alloc (.cells (msgCells m A c) 24)).alloc (.cells (msgCells m A c) 24)) := hb1.alloc (by simp) _
  have hr2 := hr.below (hb2.mono hB)
  by_cases hm : mayB m = true
  · obtain ⟨f1, f2, f3, f4, f5, f6, f7, f8, f9⟩ := may_facts hm
    have HM := Lib.hid hm
    obtain ⟨L, hL⟩ : ∃ L, L = textB m := ⟨_, rfl⟩
    have HL := Lib.hid hL
    clear hL
    have hmay := may_any m A c B (w.alloc (.cells (msgCells m A c) 24)) hr1 (by simp; omega) hc ok
    rw [hm] at hmay
    clear hm
    have hbody : ∀ (W : World) (A1 : Option Addr) (c1 : Nat), Below w.heap.size w W → w.heap.size ≤ W.heap.size → OwnX W w.heap.size 5 1 (.slice A1 7 c1) 7 (bytesV prefixB) →
        Calls Try.prog 18 #[.slice A1 7 c1, .agg (msgCells m A c)] W (PutPost w.heap.size (.slice A1 7 c1) L W) := fun W A1 c1 hW hsz ho => by
      rw [HL.out]
      exact body_any w.heap.size (.slice A1 7 c1) prefixB m A c W hsz ho ((hr.below (hW.mono hB)).mono hB) hc (by decide) f1 f2 f3 f4 f5 f6 f7 f8
    have HMAY := Lib.hid hmay
    have HBODY := Lib.hid hbody
    have HR := Lib.hid hr
    have HB1 := Lib.hid hb1
    have HB2 := Lib.hid hb2
    clear hmay hbody hr hr1 hr2 hb1 hb2
    obtain ⟨kind, src, dst, seq, fields, sig⟩ := m
    dsimp only [msgCells] at *
    have hcv := fun (W : World) (C : Array Value) (n c g : Nat) (hg : g = W.heap.size) => Joins.run_convert_bytes_const_at (P := Try.prog) W 26 5 C n c g hg Try.underlying26 Try.underlying5
    go_enter Try.func7, Try.ntmps7
    go_wp2_with fail
    refine HMAY.out.mono ?_
    rintro e w1 ⟨rfl, rfl⟩
    go_wp2_with fail
    refine calls_then (HBODY.out _ _ _ ?_ ?_ ?_) ?_
    · exact HB2.out.alloc (by simp; omega) _
    · simp; omega
    · rw [prefix_cells]
      exact own_const (by simp) rfl (by decide) (by simp; omega)
    rintro e w2 ⟨A2, c2, rfl, hown2, hgr2, hn2⟩
    go_wp2_with fail
    go_ret2
    refine ⟨?_, ?_⟩
    · refine Below.trans (HB2.out.alloc (by simp; omega) _) (below_of_grown hgr2 (by simp; omega) ?_)
      intro k hk
      simp [Value.ownBlock] at hk
      omega
    · rw [if_pos HM.out, ← HL.out]
      exact ⟨_, _, rfl, hown2⟩
  · have hm' : mayB m = false := by simpa using hm
    have hmay := may_any m A c B (w.alloc (.cells (msgCells m A c) 24)) hr1 (by simp; omega) hc ok
    rw [hm'] at hmay
    have HM := Lib.hid hm
    have HMAY := Lib.hid hmay
    have HB2 := Lib.hid hb2
    clear hm hm' hmay hr hr1 hr2 hb1 hb2
    obtain ⟨kind, src, dst, seq, fields, sig⟩ := m
    dsimp only [msgCells] at *
    go_enter Try.func7, Try.ntmps7
    go_wp2_with fail
    refine HMAY.out.mono ?_
    rintro e w1 ⟨rfl, rfl⟩
    go_wp2_with fail
    go_ret2
    refine ⟨HB2.out, ?_⟩
    rw [if_neg HM.out]
    rfl
end Go.Proofs.Ytlngjalclagojaa
