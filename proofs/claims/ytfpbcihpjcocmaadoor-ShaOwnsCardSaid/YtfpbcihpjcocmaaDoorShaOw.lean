/-
  Walk: the law ShaOwns.
-/
import Derived.Test.YtfpbcihpjcocmaaDoorShaL
import Derived.Test.YtfpbcihpjcocmaaDoorHsS
namespace Go.Proofs.YtfpbcihpjcocmaaDoor
set_option linter.unusedSimpArgs false
set_option linter.unusedVariables false
open Go.RowKit

structure OwSt (w0 : World) (ga gb na nb : Nat) (u : World) : Prop where
  bel : Below w0.heap.size w0 u
  a : ∃ cs, Blk u ga 5 cs ∧ na ≤ cs.size
  b : ∃ cs, Blk u gb 5 cs ∧ nb ≤ cs.size
  la : w0.heap.size ≤ ga
  lb : w0.heap.size ≤ gb
  ne : ga ≠ gb
theorem OwSt.putA {w0 u : World} {ga gb na nb i : Nat} (h : OwSt w0 ga gb na nb u) (v : Value) : OwSt w0 ga gb na nb (u.setCell ⟨ga, i, none⟩ v) := by
  obtain ⟨cs, hb, hs⟩ := h.a
  obtain ⟨ds, hd, ht⟩ := h.b
  have hw := wrote_setCell_at u ga i v
  exact ⟨hw.below h.bel h.la h.bel.size, ⟨_, blk_setCell_at hb v, by simpa using hs⟩, ⟨ds, hw.blk hd (Ne.symm h.ne), ht⟩, h.la, h.lb, h.ne⟩
theorem OwSt.putB {w0 u : World} {ga gb na nb i : Nat} (h : OwSt w0 ga gb na nb u) (v : Value) : OwSt w0 ga gb na nb (u.setCell ⟨gb, i, none⟩ v) := by
  obtain ⟨cs, hb, hs⟩ := h.a
  obtain ⟨ds, hd, ht⟩ := h.b
  have hw := wrote_setCell_at u gb i v
  exact ⟨hw.below h.bel h.lb h.bel.size, ⟨cs, hw.blk hb h.ne, hs⟩, ⟨_, blk_setCell_at hd v, by simpa using ht⟩, h.la, h.lb, h.ne⟩
set_option maxRecDepth 100000 in
set_option maxHeartbeats 2000000 in
theorem shaOwns_any (l : List UInt8) (A : Option Addr) (c : Nat) (w : World) (hr : Rd w w.heap.size A (bytesV l)) (hc : l.length ≤ c) (hcm : c ≤ 9223372036854775807) (hG : TabG w) :
    Calls Tryd.prog 6 #[.slice A l.length c] w fun e w' => e = .returned (.bool true) ∧ Below w.heap.size w w' := by
  obtain ⟨l4, hl4⟩ : ∃ x, x = l.take 400 := ⟨_, rfl⟩
  have hr4 : Rd w w.heap.size A (bytesV l4) := by rw [hl4, bytesV, List.map_take]; exact rd_take hr 400
  have hl1 : l4.length ≤ 1000 := by rw [hl4, List.length_take]; omega
  have hl2 : l4.length ≤ c := by rw [hl4, List.length_take]; omega
  have hf := few_any l A c _ w hr hc hcm
  rw [← hl4] at hf
  have HG := Lib.hid hG
  have HR := Lib.hid hr4
  have k0 := run_str_of (P := Tryd.prog) Tryd.underlying22 Tryd.underlying5 Tryd.underlying9 hr4 c
  obtain ⟨S0, hS0⟩ : ∃ s : ByteArray, s = ⟨l4.toArray⟩ := ⟨_, rfl⟩
  rw [← hS0] at k0
  have HS0 := Lib.hid hS0
  clear hl4 hr hc hG hr4 hS0
  go_enter Tryd.func6, Tryd.ntmps6
  go_wp2_with fail
  refine calls_then hf ?_
  rintro e w0 ⟨rfl, rfl⟩
  clear hf
  go_wp2_with fail
  clear k0
  refine calls_then (p256_any l4 A c _ w HR.out (Nat.le_refl _) hl1 hl2 hcm HG.out) ?_
  rintro e w1 ⟨A1, c1, rfl, ho1, hb1⟩
  have HO1 := Lib.hid ho1
  have HB1 := Lib.hid hb1
  clear ho1 hb1
  go_wp2_with fail
  refine calls_then (p512_any l4 A c _ w1 ((HR.out.below HB1.out).mono HB1.out.size) (Nat.le_refl _) hl1 hl2 hcm (HG.out.below HB1.out HG.out.size)) ?_
  rintro e w2 ⟨A2, c2, rfl, ho2, hb2⟩
  have hd1 : (digS F32 l4).length = 32 := by have := HO1.out.1; rwa [bytesV_length, Nat.mul_one] at this
  have hd2 : (digS F64 l4).length = 64 := by have := ho2.1; rwa [bytesV_length, Nat.mul_one] at this
  have ho1' := (OwnX.of HO1.out).below hb2 (Nat.le_refl _)
  have k1 := run_str_of (P := Tryd.prog) Tryd.underlying22 Tryd.underlying5 Tryd.underlying9 (Rd.of_own ho1' (Nat.le_refl _)) c1
  have k2 := run_str_of (P := Tryd.prog) Tryd.underlying22 Tryd.underlying5 Tryd.underlying9 (Rd.of_own (OwnX.of ho2) (Nat.le_refl _)) c2
  obtain ⟨g1, R1, rfl, hg1, hc1, hk1⟩ := own_blk HO1.out (by decide)
  obtain ⟨g2, R2, rfl, hg2, hc2, hk2⟩ := own_blk ho2 (by decide)
  rw [hd1] at k1
  rw [hd2] at k2
  obtain ⟨S1, hS1⟩ : ∃ s : ByteArray, s = ⟨(digS F32 l4).toArray⟩ := ⟨_, rfl⟩
  obtain ⟨S2, hS2⟩ : ∃ s : ByteArray, s = ⟨(digS F64 l4).toArray⟩ := ⟨_, rfl⟩
  rw [← hS1] at k1
  rw [← hS2] at k2
  have how : OwSt w g1 g2 32 64 w2 := by
    refine ⟨HB1.out.trans (hb2.mono HB1.out.size), ⟨_, hk1.below hb2 hk1.lt, ?_⟩, ⟨_, hk2, ?_⟩, hg1, Nat.le_trans HB1.out.size hg2, ?_⟩
    · rw [Array.size_append, List.size_toArray, bytesV_length, hd1]; omega
    · rw [Array.size_append, List.size_toArray, bytesV_length, hd2]; omega
    · have := hk1.lt; omega
  have HOW := Lib.hid how
  have HS1 := Lib.hid hS1
  have HS2 := Lib.hid hS2
  have HD1 := Lib.hid hd1
  have HD2 := Lib.hid hd2
  clear ho2 hb2 hd1 hd2 ho1' hk1 hk2 hg1 hg2 how hS1 hS2 HO1 HB1
  go_wp2_with fail
  clear k1 k2
  go_loopw [8] (fun i wr => ∃ k : Nat, k ≤ 32 ∧ i = .int .i64 k ∧ OwSt w g1 g2 32 64 wr) (fun i _ => 32 - (intOf i).toNat)
  case atStart => exact ⟨0, by omega, rfl, HOW.out⟩
  case round =>
    clear HOW
    obtain ⟨k, hk, rfl, how⟩ := hrel
    by_cases hlt : k < 32
    · have hlt' : (k : Int) < 32 := by omega
      obtain ⟨cs, hcs, hsz⟩ := how.a
      obtain ⟨ov, hov⟩ : ∃ ov, cs[k]? = some ov := ⟨_, Array.getElem?_eq_getElem (by omega)⟩
      have d0 := hcs.cell k
      rw [hov] at d0
      have f0 := hcs.free k
      have HOW := Lib.hid how
      clear how hcs hsz hov
      go_wp2_with fail
      exact ⟨⟨k + 1, by omega, by go_num, HOW.out.putA _⟩, by simp [intOf]; omega⟩
    · obtain rfl : k = 32 := by omega
      have HOW := Lib.hid how
      clear how
      go_wp2_with fail
      obtain ⟨w3, rfl⟩ : ∃ x : World, x = wr := ⟨_, rfl⟩
      go_loopw [9] (fun i wr => ∃ k : Nat, k ≤ 64 ∧ i = .int .i64 k ∧ OwSt w g1 g2 32 64 wr) (fun i _ => 64 - (intOf i).toNat)
      case atStart => exact ⟨0, by omega, rfl, HOW.out⟩
      case round =>
        clear HOW
        obtain ⟨k, hk, rfl, how⟩ := hrel
        by_cases hlt2 : k < 64
        · have hlt' : (k : Int) < 64 := by omega
          obtain ⟨cs, hcs, hsz⟩ := how.b
          obtain ⟨ov, hov⟩ : ∃ ov, cs[k]? = some ov := ⟨_, Array.getElem?_eq_getElem (by omega)⟩
          have d0 := hcs.cell k
          rw [hov] at d0
          have f0 := hcs.free k
          have HOW := Lib.hid how
          clear how hcs hsz hov
          go_wp2_with fail
          exact ⟨⟨k + 1, by omega, by go_num, HOW.out.putB _⟩, by simp [intOf]; omega⟩
        · obtain rfl : k = 64 := by omega
          have HBW := Lib.hid how.bel
          clear how
          go_wp2_with fail
          obtain ⟨w4, rfl⟩ : ∃ x : World, x = wr := ⟨_, rfl⟩
          refine calls_then (p256_any l4 A c _ w4 ((HR.out.below HBW.out).mono HBW.out.size) (Nat.le_refl _) hl1 hl2 hcm (HG.out.below HBW.out HG.out.size)) ?_
          rintro e w5 ⟨A5, c5, rfl, ho5, hb5⟩
          have k5 := run_str_of (P := Tryd.prog) Tryd.underlying22 Tryd.underlying5 Tryd.underlying9 (Rd.of_own (OwnX.of ho5) (Nat.le_refl _)) c5
          rw [HD1.out, ← HS1.out] at k5
          have HB5 : Hid (Below w.heap.size w w5) := Lib.hid (HBW.out.trans (hb5.mono HBW.out.size))
          clear ho5 hb5
          go_wp2_with fail
          clear k5
          refine calls_then (p512_any l4 A c _ w5 ((HR.out.below HB5.out).mono HB5.out.size) (Nat.le_refl _) hl1 hl2 hcm (HG.out.below HB5.out HG.out.size)) ?_
          rintro e w6 ⟨A6, c6, rfl, ho6, hb6⟩
          have k6 := run_str_of (P := Tryd.prog) Tryd.underlying22 Tryd.underlying5 Tryd.underlying9 (Rd.of_own (OwnX.of ho6) (Nat.le_refl _)) c6
          rw [HD2.out, ← HS2.out] at k6
          have HB6 : Hid (Below w.heap.size w w6) := Lib.hid (HB5.out.trans (hb6.mono HB5.out.size))
          have k7 := run_str_of (P := Tryd.prog) Tryd.underlying22 Tryd.underlying5 Tryd.underlying9 (HR.out.below HB6.out) c
          rw [← HS0.out] at k7
          clear ho6 hb6
          go_wp2_with fail
          clear k6 k7
          refine calls_then (lives_any w6 (HG.out.below HB6.out HG.out.size)) ?_
          rintro e w9 ⟨rfl, hb9⟩
          have HB9 := Lib.hid (HB6.out.trans (hb9.mono HB6.out.size))
          clear hb9
          go_wp2_with fail
          go_ret
          exact ⟨rfl, HB9.out⟩
end Go.Proofs.YtfpbcihpjcocmaaDoor
