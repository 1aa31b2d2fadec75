/-
  Walks: wire.frame.
-/
import Derived.Test.YtlngjalclagojaaPut
namespace Go.Proofs.Ytlngjalclagojaa
open Go.RowKit

theorem zero_u8 : ∃ i, Try.prog.info? 5 = some i ∧ i.zero = some (.int .u8 0) := by
  obtain ⟨i, hi, h0, _, _⟩ := info_parts (show (Try.prog.info? 5).map (fun i => (i.zero, i.size, i.bytes)) = some (some (.int .u8 0), 1, 1) by kernel_rfl)
  exact ⟨i, hi, h0⟩

def frameB (s : ByteArray) : List UInt8 := beB s.size 2 2 ++ s.data.toList
theorem frameB_length (s : ByteArray) : (frameB s).length = 2 + s.size := by
  simp only [frameB, List.length_append, beB_length, Array.length_toList]; rfl

set_option maxHeartbeats 400000 in
theorem frame_any (B : Nat) (v : Value) (l : List UInt8) (s : ByteArray) (w : World) (hB : B ≤ w.heap.size) (hown : OwnX w B 5 1 v l.length (bytesV l))
    (hs : s.size ≤ 1000000) (hl : l.length ≤ 1000000) {L : List UInt8} (hL : L = l ++ frameB s) :
    Calls Try.prog 29 #[v, .string s] w (PutPost B v L w) := by
  have HL := Lib.hid hL
  clear hL
  have hul := Try.underlying9
  go_enter Try.func29, Try.ntmps29
  go_wp2_with fail
  refine (put2 (B := B) (l := l) (by simp; omega) (hown.alloc _) (heap_alloc_new w _) (by omega) (by omega) (by omega) rfl).mono ?_
  rintro e w1 ⟨A1, c1, rfl, hown1, hgr1, hn1⟩
  have hl1 : (l ++ beB s.size 2 2).length = l.length + 2 := by rw [List.length_append, beB_length]
  rw [hl1] at hown1 hn1 ⊢
  go_wp2_with ((refine wpList_append_str sl_bytes zero_u8 hul rfl rfl hown1 rfl rfl (by omega) (by have := hgr1.size; simp at this; omega) ?_); intro A c w2 hown2 hgr2 hn2)
  go_ret
  have h1 : w.grownBy w1 v.ownBlock := (World.grownBy_alloc _ _ _).trans hgr1
  have h2 : Next w v _ := hn1.back (by simp)
  have hL := HL.out
  subst hL
  refine PutPost.mk_ (n := l.length + 2 + s.size) ?_ (grown_next h1 h2 hgr2) (h2.trans hn2 h1.size)
  rw [frameB, ← List.append_assoc, bytesV_append _ s.data.toList]
  exact hown2
end Go.Proofs.Ytlngjalclagojaa
