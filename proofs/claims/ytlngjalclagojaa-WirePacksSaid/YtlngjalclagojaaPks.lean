/-
  Walks: brevetlaw12.WirePacks.
-/
import Derived.Test.YtlngjalclagojaaRefC
import Derived.Test.YtlngjalclagojaaRefM
import Derived.Test.YtlngjalclagojaaUnpLaw
import Derived.Test.YtlngjalclagojaaLives
import Derived.Test.YtlngjalclagojaaApart
namespace Go.Proofs.Ytlngjalclagojaa
open Go.RowKit

theorem sameM_refl' (m : MsgD) : sameM m m = true := by simp [sameM, sameB]
theorem packB_length_le {m : MsgD} (hm : mayB m = true) : (packB m).length ≤ 13000 := by
  have h1 := bodyB_length_le hm
  obtain ⟨f1, f2, f3, f4, f5, f6, f7, f8, f9⟩ := may_facts hm
  have h2 : m.sig.data.toList.length = m.sig.size := by rw [Array.length_toList]; rfl
  rw [packB, List.length_append, List.length_append, beB_length, h2]
  omega
theorem prefix_append (l : List UInt8) : (⟨#[98, 114, 101, 118, 101, 116, 47]⟩ : ByteArray) ++ (⟨l.toArray⟩ : ByteArray) = ⟨(prefixB ++ l).toArray⟩ := by
  apply ByteArray.ext
  rw [ByteArray.data_append]
  simp [prefixB]

def BelowAt (u u' : World) : Prop := Below u.heap.size u u'
set_option maxHeartbeats 4000000 in
theorem packs_any (m0 : MsgD) (A0 : Option Addr) (c0 : Nat) (w : World) (hr : Rd w w.heap.size A0 (strsV m0.fields)) (hc : m0.fields.length ≤ c0) (ok : MsgOk m0) :
    Calls Try.prog 5 #[.agg (msgCells m0 A0 c0)] w fun e w' => e = .returned (.bool true) ∧ Below w.heap.size w w' := by
  obtain ⟨W0, hW0⟩ : ∃ W0, W0 = w.alloc (.cells (msgCells m0 A0 c0) 24) := ⟨_, rfl⟩
  have hb0 : Below w.heap.size w W0 := by rw [hW0]; exact (Below.refl _ _).alloc (Nat.le_refl _) _
  have hs0 : W0.heap.size = w.heap.size + 1 := by rw [hW0]; simp
  have hbm : Blk W0 w.heap.size 24 (msgCells m0 A0 c0) := by rw [hW0]; exact Blk.new _ _ _
  have HM0 := Lib.hid (hr.below hb0)
  have HB0 := Lib.hid hb0
  have HS0 := Lib.hid hs0
  have HOK := Lib.hid (cut_ok ok)
  have HOK0 := Lib.hid ok
  have HBM := Lib.hid hbm
  have hbm0 := hbm
  rw [hW0] at hbm0
  have HW0 := Lib.hid hW0
  clear hb0 hs0 hr hbm hW0 ok
  have hu := Try.underlying24
  go_enter Try.func5, Try.ntmps5
  go_wp2_with (refine wpList_get_box hbm0 rfl rfl rfl hu rfl msg_size ?_)
  rw [← HW0.out]
  clear hbm0
  refine calls_then (cut_any m0 A0 c0 w.heap.size W0 HM0.out HB0.out.size hc HOK0.out) ?_
  rintro e w1 ⟨A, c, rfl, hcc, hown1, hb1⟩
  have hbm1 := HBM.out.below hb1 (by have := HS0.out; omega)
  go_wp2_with (first
    | (refine wpList_put_box (x := .tmp 1) hbm1 rfl rfl rfl rfl msg_size rfl (by simp [msgCells, Value.oneCell']) ?_; intro w2 hbm2 hw2)
    | (refine wpList_get_box (x := .tmp 1) hbm2 rfl rfl rfl hu rfl msg_size ?_))
  have hB2 : Below w.heap.size w w2 := hw2.below (HB0.out.trans (hb1.mono HB0.out.size)) (Nat.le_refl _) (by have := hb1.size; have := HB0.out.size; omega)
  have o2 := hw2.own hown1 (own_ne_blk (t := 24) hown1 hbm1 (by decide))
  clear hbm1 hown1 hw2 hb1
  generalize cutM m0 = m at *
  refine calls_then (pack_any m A c w2.heap.size w2 (Rd.of_own o2 (Nat.le_refl _)) (Nat.le_refl _) hcc HOK.out) ?_
  rintro e w3 ⟨hb3, h3⟩
  have o3 := o2.below hb3 (Nat.le_refl _)
  have hbm3 := hbm2.below hb3 hbm2.lt
  have hB3 := hB2.trans (hb3.mono hB2.size)
  clear o2 hbm2 hB2
  by_cases hmm : mayB m = true
  · rw [if_pos hmm] at h3
    obtain ⟨PA, PC, rfl, op3⟩ := h3
    have HMM := Lib.hid hmm
    clear hmm hb3
    go_wp2_with (refine wpList_get_box (x := .tmp 1) hbm3 rfl rfl rfl hu rfl msg_size ?_)
    refine calls_then (text_any m A c w3.heap.size w3 (Rd.of_own o3 (Nat.le_refl _)) (Nat.le_refl _) hcc HOK.out) ?_
    rintro e w4 ⟨hb4, h4⟩
    rw [if_pos HMM.out] at h4
    obtain ⟨TA, TC, rfl, ot4⟩ := h4
    have o4 := o3.below hb4 (Nat.le_refl _)
    have op4 := op3.below hb4 (Nat.le_refl _)
    have hbm4 := hbm3.below hb4 hbm3.lt
    have hB4 := hB3.trans (hb4.mono hB3.size)
    clear o3 op3 hbm3 hB3 hb4
    go_wp2_with (refine wpList_get_box (x := .tmp 1) hbm4 rfl rfl rfl hu rfl msg_size ?_)
    refine calls_then (rmay_any m A c w4.heap.size w4 (Rd.of_own o4 (Nat.le_refl _)) (Nat.le_refl _) hcc HOK.out) ?_
    rintro e w5 ⟨rfl, hw5⟩
    rw [HMM.out]
    have hb5 : Below w4.heap.size w4 w5 := by rw [hw5]; exact (Below.refl _ _).alloc (Nat.le_refl _) _
    have o5 := o4.below hb5 (Nat.le_refl _)
    have op5 := op4.below hb5 (Nat.le_refl _)
    have ot5 := ot4.below hb5 (Nat.le_refl _)
    have hbm5 := hbm4.below hb5 hbm4.lt
    have hB5 := hB4.trans (hb5.mono hB4.size)
    clear o4 op4 ot4 hbm4 hB4 hb5 hw5
    go_wp2_with fail
    refine calls_then (unpack_any (packB m) PA PC w5.heap.size w5 (Rd.of_own op5 (Nat.le_refl _)) (Nat.le_refl _) op5.le_cap (by have := packB_length_le HMM.out; omega)) ?_
    rintro e w6 h6
    simp only [UnpPost, unpS_pack HMM.out] at h6
    obtain ⟨hb6, A6, c6, rfl, hc6, o6⟩ := h6
    have p6 := o5.below hb6 (Nat.le_refl _)
    have op6 := op5.below hb6 (Nat.le_refl _)
    have ot6 := ot5.below hb6 (Nat.le_refl _)
    have hbm6 := hbm5.below hb6 hbm5.lt
    have hB6 := hB5.trans (hb6.mono hB5.size)
    clear o5 op5 ot5 hbm5 hB5 hb6
    have hbx := Blk.new w6 24 #[.int .i64 0, .string ⟨#[]⟩, .string ⟨#[]⟩, .int .i64 0, .slice none 0 0, .string ⟨#[]⟩]
    have hbe : Below w6.heap.size w6 (w6.alloc (.cells #[.int .i64 0, .string ⟨#[]⟩, .string ⟨#[]⟩, .int .i64 0, .slice none 0 0, .string ⟨#[]⟩] 24)) := (Below.refl _ _).alloc (Nat.le_refl _) _
    have hg6 : w.heap.size ≠ w6.heap.size := by have := hbm6.lt; omega
    go_wp2_with (first
      | (refine wpList_put_box (x := .tmp 8) hbx rfl rfl rfl rfl msg_size rfl (by simp [msgCells, Value.oneCell']) ?_; intro w7 hbn7 hw7; have hbm7 := hw7.blk (hbm6.alloc _) hg6)
      | (refine wpList_get_box (x := .tmp 1) hbm7 rfl rfl rfl hu rfl msg_size ?_)
      | (refine wpList_get_box (x := .tmp 8) hbn7 rfl rfl rfl hu rfl msg_size ?_))
    have hb7 : Below w6.heap.size w6 w7 := hw7.below hbe (Nat.le_refl _) (by simp)
    have o7 := o6.below hb7 (Nat.le_refl _)
    have p7 := p6.below hb7 (Nat.le_refl _)
    have op7 := op6.below hb7 (Nat.le_refl _)
    have ot7 := ot6.below hb7 (Nat.le_refl _)
    have hB7 := hB6.trans (hb7.mono hB6.size)
    clear o6 p6 op6 ot6 hbm6 hB6 hb7 hbx hbe hw7 hg6
    refine calls_then (same12_any m m A A6 c c6 w7.heap.size w7 (Rd.of_own p7 (Nat.le_refl _)) (Rd.of_own o7 (Nat.le_refl _)) (Nat.le_refl _) HOK.out.fields HOK.out.fields) ?_
    rintro e w8 ⟨rfl, hb8⟩
    rw [sameM_refl']
    have q1 : Rd w8 w8.heap.size A (strsV m.fields) := Rd.of_own (p7.below hb8 (Nat.le_refl _)) (Nat.le_refl _)
    have q2 : Rd w8 w8.heap.size PA (bytesV (packB m)) := Rd.of_own (op7.below hb8 (Nat.le_refl _)) (Nat.le_refl _)
    have q3 : Rd w8 w8.heap.size TA (bytesV (textB m)) := Rd.of_own (ot7.below hb8 (Nat.le_refl _)) (Nat.le_refl _)
    have q4 := hbm7.below hb8 hbm7.lt
    have hB8 := hB7.trans (hb8.mono hB7.size)
    have Q1 := Lib.hid q1
    have Q2 := Lib.hid q2
    have Q3 := Lib.hid q3
    have Q4 := Lib.hid q4
    have HB8 := Lib.hid hB8
    have HC := Lib.hid hcc
    obtain ⟨SA, hSA⟩ : ∃ b : ByteArray, b = ⟨(packB m).toArray⟩ := ⟨_, rfl⟩
    obtain ⟨SB, hSB⟩ : ∃ b : ByteArray, b = ⟨(textB m).toArray⟩ := ⟨_, rfl⟩
    obtain ⟨SC, hSC⟩ : ∃ b : ByteArray, b = ⟨(bodyB m).toArray⟩ := ⟨_, rfl⟩
    have hAB : (⟨#[98, 114, 101, 118, 101, 116, 47]⟩ : ByteArray) ++ SC = SB := by rw [hSB, hSC, textB]; exact prefix_append _
    have HSA := Lib.hid hSA
    have HSB := Lib.hid hSB
    have HSC := Lib.hid hSC
    have HSZ : Hid (SC.size ≤ 12000) := Lib.hid (by have := bodyB_length_le HMM.out; rw [hSC]; simpa [ByteArray.size] using this)
    have HAB := Lib.hid hAB
    have hbl := q4.lt
    have HCO0 : Below w8.heap.size w8 w8.drew := (Below.refl _ _).drew
    clear q1 q2 q3 q4 hB8 hcc hSA hSB hSC hAB o7 p7 op7 ot7 hB7 hb8 hbm7 hbn7
    go_wp2_with fail
    have HC0 := HCO0
    have hX := Lib.hid HCO0
    clear HCO0
    refine wp_region_list (fun u => Below w8.heap.size w8 u) (fun | false => (fun _ => True) | true => (fun _ => True)) (fun | false, _ => false | true, _ => false)
      [fun z _ => z 0 = .slice PA (packB m).length PC,
       fun z _ => z 1 = .string SA,
       fun z _ => z 2 = .agg (msgCells m A c),
       fun z u => ∃ A3 c3, z 3 = .slice A3 (packB m).length c3 ∧ OwnX u w8.heap.size 5 1 (.slice A3 (packB m).length c3) (packB m).length (bytesV (packB m)),
       fun z _ => z 4 = .string SA,
       fun z _ => z 5 = .bool true,
       fun z _ => z 6 = .bool true,
       fun z _ => z 7 = .int .i64 0,
       fun z _ => z 8 = .bool true,
       fun z _ => z 9 = .bool true,
       fun z _ => z 10 = .bool true,
       fun z _ => z 11 = .slice TA (textB m).length TC,
       fun z _ => z 12 = .string SB,
       fun z _ => z 13 = .agg (msgCells m A c),
       fun z u => ∃ A3 c3, z 14 = .slice A3 (bodyB m).length c3 ∧ OwnX u w8.heap.size 5 1 (.slice A3 (bodyB m).length c3) (bodyB m).length (bytesV (bodyB m)),
       fun z _ => z 15 = .string SC,
       fun z _ => z 16 = .string SB,
       fun z _ => z 17 = .bool true,
       fun z _ => z 18 = .bool true,
       fun z _ => z 19 = .bool true,
       fun z _ => z 20 = .int .i64 0,
       fun z _ => z 21 = .bool true,
       fun z _ => z 22 = .bool true,
       fun z _ => z 23 = .bool true,
       fun z _ => z 24 = .bool true,
       fun z _ => z 25 = .bool true,
       fun z _ => z 26 = .bool true,
       fun z _ => z 27 = .int .i64 0,
       fun z _ => z 28 = .bool true,
       fun z _ => z 29 = .bool true,
       fun z _ => z 30 = .bool true,
       fun z _ => z 31 = .bool true,
       fun z _ => z 32 = .bool true,
       fun z _ => z 33 = .bool true]
      [Eq, Eq, Eq, BelowAt, Eq, Eq, Eq, Eq, Eq, Eq, Eq, Eq, Eq, Eq, BelowAt, Eq, Eq, Eq, Eq, Eq, Eq, Eq, Eq, Eq, Eq, Eq, Eq, Eq, Eq, Eq, Eq, BelowAt, Eq, Eq]
      (fun _ _ => false) [(0, some 54), (1, some 55), (2, some 56), (3, some 57), (4, some 58), (5, some 59), (6, some 60), (7, some 61), (8, some 62), (9, some 63), (10, some 64), (11, some 65), (12, some 66), (13, some 67), (14, some 68), (15, some 69), (16, some 70), (17, some 71), (18, some 72), (19, some 73), (20, some 74), (21, some 75), (22, some 76), (23, some 77), (24, some 78), (25, some 79), (26, some 80), (27, some 81), (28, some 82), (29, some 83), (30, some 84), (31, some 85), (32, some 86), (33, some 2)] (by kernel_rfl) (by kernel_rfl) rfl (fun _ => rfl) ?_ ?_ ?_ ?_ ?_ ?_
    · exact HC0
    · intro m; cases m; exact trivial; exact trivial
    · intro m; cases m
      · exact ⟨.inr (fun _ _ h h0 => h ▸ h0), .inr (fun _ _ h h0 => h ▸ h0), .inr (fun _ _ h h0 => h ▸ h0), .inr (fun _ _ _ h => h), .inr (fun _ _ h h0 => h ▸ h0), .inr (fun _ _ h h0 => h ▸ h0), .inr (fun _ _ h h0 => h ▸ h0), .inr (fun _ _ h h0 => h ▸ h0), .inr (fun _ _ h h0 => h ▸ h0), .inr (fun _ _ h h0 => h ▸ h0), .inr (fun _ _ h h0 => h ▸ h0), .inr (fun _ _ h h0 => h ▸ h0), .inr (fun _ _ h h0 => h ▸ h0), .inr (fun _ _ h h0 => h ▸ h0), .inr (fun _ _ _ h => h), .inr (fun _ _ h h0 => h ▸ h0), .inr (fun _ _ h h0 => h ▸ h0), .inr (fun _ _ h h0 => h ▸ h0), .inr (fun _ _ h h0 => h ▸ h0), .inr (fun _ _ h h0 => h ▸ h0), .inr (fun _ _ h h0 => h ▸ h0), .inr (fun _ _ h h0 => h ▸ h0), .inr (fun _ _ h h0 => h ▸ h0), .inr (fun _ _ h h0 => h ▸ h0), .inr (fun _ _ h h0 => h ▸ h0), .inr (fun _ _ h h0 => h ▸ h0), .inr (fun _ _ h h0 => h ▸ h0), .inr (fun _ _ h h0 => h ▸ h0), .inr (fun _ _ h h0 => h ▸ h0), .inr (fun _ _ h h0 => h ▸ h0), .inr (fun _ _ h h0 => h ▸ h0), .inr (fun _ _ _ h => h), .inr (fun _ _ h h0 => h ▸ h0), .inr (fun _ _ h h0 => h ▸ h0), trivial⟩
      · exact ⟨.inr (fun _ _ h h0 => h ▸ h0), .inr (fun _ _ h h0 => h ▸ h0), .inr (fun _ _ h h0 => h ▸ h0), .inr (fun _ _ _ h => h), .inr (fun _ _ h h0 => h ▸ h0), .inr (fun _ _ h h0 => h ▸ h0), .inr (fun _ _ h h0 => h ▸ h0), .inr (fun _ _ h h0 => h ▸ h0), .inr (fun _ _ h h0 => h ▸ h0), .inr (fun _ _ h h0 => h ▸ h0), .inr (fun _ _ h h0 => h ▸ h0), .inr (fun _ _ h h0 => h ▸ h0), .inr (fun _ _ h h0 => h ▸ h0), .inr (fun _ _ h h0 => h ▸ h0), .inr (fun _ _ _ h => h), .inr (fun _ _ h h0 => h ▸ h0), .inr (fun _ _ h h0 => h ▸ h0), .inr (fun _ _ h h0 => h ▸ h0), .inr (fun _ _ h h0 => h ▸ h0), .inr (fun _ _ h h0 => h ▸ h0), .inr (fun _ _ h h0 => h ▸ h0), .inr (fun _ _ h h0 => h ▸ h0), .inr (fun _ _ h h0 => h ▸ h0), .inr (fun _ _ h h0 => h ▸ h0), .inr (fun _ _ h h0 => h ▸ h0), .inr (fun _ _ h h0 => h ▸ h0), .inr (fun _ _ h h0 => h ▸ h0), .inr (fun _ _ h h0 => h ▸ h0), .inr (fun _ _ h h0 => h ▸ h0), .inr (fun _ _ h h0 => h ▸ h0), .inr (fun _ _ h h0 => h ▸ h0), .inr (fun _ _ _ h => h), .inr (fun _ _ h h0 => h ▸ h0), .inr (fun _ _ h h0 => h ▸ h0), trivial⟩
    · exact ⟨⟨.inl rfl, .inr (.inr (.inl rfl)), .inr (.inr (.inr (fun _ _ _ _ _ h => h))), .inr (.inr (.inr (fun _ _ _ _ h h0 => by cases h; exact h0))), .inr (.inr (.inr (fun _ _ _ _ _ h => h))), .inr (.inr (.inl rfl)), .inr (.inr (.inl rfl)), .inr (.inr (.inr (fun _ _ _ _ _ h => h))), .inr (.inr (.inr (fun _ _ _ _ _ h => h))), .inr (.inr (.inr (fun _ _ _ _ _ h => h))), .inr (.inr (.inr (fun _ _ _ _ _ h => h))), .inr (.inr (.inr (fun _ _ _ _ _ h => h))), .inr (.inr (.inr (fun _ _ _ _ _ h => h))), .inr (.inr (.inr (fun _ _ _ _ _ h => h))), .inr (.inr (.inr (fun _ _ _ _ h h0 => by cases h; exact h0))), .inr (.inr (.inr (fun _ _ _ _ _ h => h))), .inr (.inr (.inr (fun _ _ _ _ _ h => h))), .inr (.inr (.inr (fun _ _ _ _ _ h => h))), .inr (.inr (.inr (fun _ _ _ _ _ h => h))), .inr (.inr (.inr (fun _ _ _ _ _ h => h))), .inr (.inr (.inr (fun _ _ _ _ _ h => h))), .inr (.inr (.inr (fun _ _ _ _ _ h => h))), .inr (.inr (.inr (fun _ _ _ _ _ h => h))), .inr (.inr (.inr (fun _ _ _ _ _ h => h))), .inr (.inr (.inr (fun _ _ _ _ _ h => h))), .inr (.inr (.inr (fun _ _ _ _ _ h => h))), .inr (.inr (.inr (fun _ _ _ _ _ h => h))), .inr (.inr (.inr (fun _ _ _ _ _ h => h))), .inr (.inr (.inr (fun _ _ _ _ _ h => h))), .inr (.inr (.inr (fun _ _ _ _ _ h => h))), .inr (.inr (.inr (fun _ _ _ _ _ h => h))), .inr (.inr (.inr (fun _ _ _ _ _ h => h))), .inr (.inr (.inr (fun _ _ _ _ _ h => h))), .inr (.inr (.inl rfl)), trivial⟩,
        ⟨.inr (.inr (.inr (fun _ _ _ _ _ h => h))), .inl rfl, .inr (.inr (.inr (fun _ _ _ _ _ h => h))), .inr (.inr (.inr (fun _ _ _ _ h h0 => by cases h; exact h0))), .inr (.inr (.inr (fun _ _ _ _ _ h => h))), .inr (.inr (.inl rfl)), .inr (.inr (.inl rfl)), .inr (.inr (.inl rfl)), .inr (.inr (.inl rfl)), .inr (.inr (.inl rfl)), .inr (.inr (.inl rfl)), .inr (.inr (.inr (fun _ _ _ _ _ h => h))), .inr (.inr (.inr (fun _ _ _ _ _ h => h))), .inr (.inr (.inr (fun _ _ _ _ _ h => h))), .inr (.inr (.inr (fun _ _ _ _ h h0 => by cases h; exact h0))), .inr (.inr (.inr (fun _ _ _ _ _ h => h))), .inr (.inr (.inr (fun _ _ _ _ _ h => h))), .inr (.inr (.inr (fun _ _ _ _ _ h => h))), .inr (.inr (.inr (fun _ _ _ _ _ h => h))), .inr (.inr (.inr (fun _ _ _ _ _ h => h))), .inr (.inr (.inr (fun _ _ _ _ _ h => h))), .inr (.inr (.inr (fun _ _ _ _ _ h => h))), .inr (.inr (.inr (fun _ _ _ _ _ h => h))), .inr (.inr (.inr (fun _ _ _ _ _ h => h))), .inr (.inr (.inr (fun _ _ _ _ _ h => h))), .inr (.inr (.inr (fun _ _ _ _ _ h => h))), .inr (.inr (.inr (fun _ _ _ _ _ h => h))), .inr (.inr (.inr (fun _ _ _ _ _ h => h))), .inr (.inr (.inr (fun _ _ _ _ _ h => h))), .inr (.inr (.inr (fun _ _ _ _ _ h => h))), .inr (.inr (.inr (fun _ _ _ _ _ h => h))), .inr (.inr (.inr (fun _ _ _ _ _ h => h))), .inr (.inr (.inr (fun _ _ _ _ _ h => h))), .inr (.inr (.inl rfl)), trivial⟩,
        ⟨.inr (.inr (.inr (fun _ _ _ _ _ h => h))), .inr (.inr (.inr (fun _ _ _ _ _ h => h))), .inl rfl, .inr (.inr (.inl rfl)), .inr (.inr (.inl rfl)), .inr (.inr (.inl rfl)), .inr (.inr (.inl rfl)), .inr (.inr (.inl rfl)), .inr (.inr (.inl rfl)), .inr (.inr (.inl rfl)), .inr (.inr (.inl rfl)), .inr (.inr (.inr (fun _ _ _ _ _ h => h))), .inr (.inr (.inr (fun _ _ _ _ _ h => h))), .inr (.inr (.inr (fun _ _ _ _ _ h => h))), .inr (.inr (.inr (fun _ _ _ _ h h0 => by cases h; exact h0))), .inr (.inr (.inr (fun _ _ _ _ _ h => h))), .inr (.inr (.inr (fun _ _ _ _ _ h => h))), .inr (.inr (.inr (fun _ _ _ _ _ h => h))), .inr (.inr (.inr (fun _ _ _ _ _ h => h))), .inr (.inr (.inr (fun _ _ _ _ _ h => h))), .inr (.inr (.inr (fun _ _ _ _ _ h => h))), .inr (.inr (.inr (fun _ _ _ _ _ h => h))), .inr (.inr (.inr (fun _ _ _ _ _ h => h))), .inr (.inr (.inr (fun _ _ _ _ _ h => h))), .inr (.inr (.inr (fun _ _ _ _ _ h => h))), .inr (.inr (.inr (fun _ _ _ _ _ h => h))), .inr (.inr (.inr (fun _ _ _ _ _ h => h))), .inr (.inr (.inr (fun _ _ _ _ _ h => h))), .inr (.inr (.inr (fun _ _ _ _ _ h => h))), .inr (.inr (.inr (fun _ _ _ _ _ h => h))), .inr (.inr (.inr (fun _ _ _ _ _ h => h))), .inr (.inr (.inr (fun _ _ _ _ _ h => h))), .inr (.inr (.inr (fun _ _ _ _ _ h => h))), .inr (.inr (.inl rfl)), trivial⟩,
        ⟨.inr (.inr (.inr (fun _ _ _ _ _ h => h))), .inr (.inr (.inr (fun _ _ _ _ _ h => h))), .inr (.inr (.inr (fun _ _ _ _ _ h => h))), .inl rfl, .inr (.inr (.inl rfl)), .inr (.inr (.inl rfl)), .inr (.inr (.inl rfl)), .inr (.inr (.inl rfl)), .inr (.inr (.inl rfl)), .inr (.inr (.inl rfl)), .inr (.inr (.inl rfl)), .inr (.inr (.inl rfl)), .inr (.inr (.inl rfl)), .inr (.inr (.inl rfl)), .inr (.inr (.inl rfl)), .inr (.inr (.inl rfl)), .inr (.inr (.inl rfl)), .inr (.inr (.inl rfl)), .inr (.inr (.inl rfl)), .inr (.inr (.inr (fun _ _ _ _ _ h => h))), .inr (.inr (.inr (fun _ _ _ _ _ h => h))), .inr (.inr (.inr (fun _ _ _ _ _ h => h))), .inr (.inr (.inr (fun _ _ _ _ _ h => h))), .inr (.inr (.inr (fun _ _ _ _ _ h => h))), .inr (.inr (.inr (fun _ _ _ _ _ h => h))), .inr (.inr (.inr (fun _ _ _ _ _ h => h))), .inr (.inr (.inr (fun _ _ _ _ _ h => h))), .inr (.inr (.inr (fun _ _ _ _ _ h => h))), .inr (.inr (.inr (fun _ _ _ _ _ h => h))), .inr (.inr (.inr (fun _ _ _ _ _ h => h))), .inr (.inr (.inr (fun _ _ _ _ _ h => h))), .inr (.inr (.inr (fun _ _ _ _ _ h => h))), .inr (.inr (.inr (fun _ _ _ _ _ h => h))), .inr (.inr (.inl rfl)), trivial⟩,
        ⟨.inr (.inr (.inr (fun _ _ _ _ _ h => h))), .inr (.inr (.inr (fun _ _ _ _ _ h => h))), .inr (.inr (.inr (fun _ _ _ _ _ h => h))), .inr (.inr (.inr (fun _ _ _ _ h h0 => by cases h; exact h0))), .inl rfl, .inr (.inr (.inl rfl)), .inr (.inr (.inl rfl)), .inr (.inr (.inl rfl)), .inr (.inr (.inl rfl)), .inr (.inr (.inl rfl)), .inr (.inr (.inl rfl)), .inr (.inr (.inr (fun _ _ _ _ _ h => h))), .inr (.inr (.inr (fun _ _ _ _ _ h => h))), .inr (.inr (.inr (fun _ _ _ _ _ h => h))), .inr (.inr (.inr (fun _ _ _ _ h h0 => by cases h; exact h0))), .inr (.inr (.inr (fun _ _ _ _ _ h => h))), .inr (.inr (.inr (fun _ _ _ _ _ h => h))), .inr (.inr (.inr (fun _ _ _ _ _ h => h))), .inr (.inr (.inr (fun _ _ _ _ _ h => h))), .inr (.inr (.inr (fun _ _ _ _ _ h => h))), .inr (.inr (.inr (fun _ _ _ _ _ h => h))), .inr (.inr (.inr (fun _ _ _ _ _ h => h))), .inr (.inr (.inr (fun _ _ _ _ _ h => h))), .inr (.inr (.inr (fun _ _ _ _ _ h => h))), .inr (.inr (.inr (fun _ _ _ _ _ h => h))), .inr (.inr (.inr (fun _ _ _ _ _ h => h))), .inr (.inr (.inr (fun _ _ _ _ _ h => h))), .inr (.inr (.inr (fun _ _ _ _ _ h => h))), .inr (.inr (.inr (fun _ _ _ _ _ h => h))), .inr (.inr (.inr (fun _ _ _ _ _ h => h))), .inr (.inr (.inr (fun _ _ _ _ _ h => h))), .inr (.inr (.inr (fun _ _ _ _ _ h => h))), .inr (.inr (.inr (fun _ _ _ _ _ h => h))), .inr (.inr (.inl rfl)), trivial⟩,
        ⟨.inr (.inr (.inr (fun _ _ _ _ _ h => h))), .inr (.inr (.inr (fun _ _ _ _ _ h => h))), .inr (.inr (.inr (fun _ _ _ _ _ h => h))), .inr (.inr (.inr (fun _ _ _ _ h h0 => by cases h; exact h0))), .inr (.inr (.inr (fun _ _ _ _ _ h => h))), .inl rfl, .inr (.inr (.inl rfl)), .inr (.inr (.inl rfl)), .inr (.inr (.inl rfl)), .inr (.inr (.inl rfl)), .inr (.inr (.inl rfl)), .inr (.inr (.inl rfl)), .inr (.inr (.inl rfl)), .inr (.inr (.inl rfl)), .inr (.inr (.inl rfl)), .inr (.inr (.inl rfl)), .inr (.inr (.inl rfl)), .inr (.inr (.inl rfl)), .inr (.inr (.inl rfl)), .inr (.inr (.inr (fun _ _ _ _ _ h => h))), .inr (.inr (.inr (fun _ _ _ _ _ h => h))), .inr (.inr (.inr (fun _ _ _ _ _ h => h))), .inr (.inr (.inr (fun _ _ _ _ _ h => h))), .inr (.inr (.inr (fun _ _ _ _ _ h => h))), .inr (.inr (.inr (fun _ _ _ _ _ h => h))), .inr (.inr (.inr (fun _ _ _ _ _ h => h))), .inr (.inr (.inr (fun _ _ _ _ _ h => h))), .inr (.inr (.inr (fun _ _ _ _ _ h => h))), .inr (.inr (.inr (fun _ _ _ _ _ h => h))), .inr (.inr (.inr (fun _ _ _ _ _ h => h))), .inr (.inr (.inr (fun _ _ _ _ _ h => h))), .inr (.inr (.inr (fun _ _ _ _ _ h => h))), .inr (.inr (.inr (fun _ _ _ _ _ h => h))), .inr (.inr (.inl rfl)), trivial⟩,
        ⟨.inr (.inr (.inr (fun _ _ _ _ _ h => h))), .inr (.inr (.inr (fun _ _ _ _ _ h => h))), .inr (.inr (.inr (fun _ _ _ _ _ h => h))), .inr (.inr (.inr (fun _ _ _ _ h h0 => by cases h; exact h0))), .inr (.inr (.inr (fun _ _ _ _ _ h => h))), .inr (.inr (.inr (fun _ _ _ _ _ h => h))), .inl rfl, .inr (.inr (.inl rfl)), .inr (.inr (.inl rfl)), .inr (.inr (.inl rfl)), .inr (.inr (.inl rfl)), .inr (.inr (.inl rfl)), .inr (.inr (.inl rfl)), .inr (.inr (.inl rfl)), .inr (.inr (.inl rfl)), .inr (.inr (.inl rfl)), .inr (.inr (.inl rfl)), .inr (.inr (.inl rfl)), .inr (.inr (.inl rfl)), .inr (.inr (.inl rfl)), .inr (.inr (.inr (fun _ _ _ _ _ h => h))), .inr (.inr (.inr (fun _ _ _ _ _ h => h))), .inr (.inr (.inr (fun _ _ _ _ _ h => h))), .inr (.inr (.inr (fun _ _ _ _ _ h => h))), .inr (.inr (.inr (fun _ _ _ _ _ h => h))), .inr (.inr (.inr (fun _ _ _ _ _ h => h))), .inr (.inr (.inr (fun _ _ _ _ _ h => h))), .inr (.inr (.inr (fun _ _ _ _ _ h => h))), .inr (.inr (.inr (fun _ _ _ _ _ h => h))), .inr (.inr (.inr (fun _ _ _ _ _ h => h))), .inr (.inr (.inr (fun _ _ _ _ _ h => h))), .inr (.inr (.inr (fun _ _ _ _ _ h => h))), .inr (.inr (.inr (fun _ _ _ _ _ h => h))), .inr (.inr (.inl rfl)), trivial⟩,
        ⟨.inr (.inr (.inr (fun _ _ _ _ _ h => h))), .inr (.inr (.inr (fun _ _ _ _ _ h => h))), .inr (.inr (.inr (fun _ _ _ _ _ h => h))), .inr (.inr (.inr (fun _ _ _ _ h h0 => by cases h; exact h0))), .inr (.inr (.inr (fun _ _ _ _ _ h => h))), .inr (.inr (.inr (fun _ _ _ _ _ h => h))), .inr (.inr (.inr (fun _ _ _ _ _ h => h))), .inl rfl, .inr (.inr (.inl rfl)), .inr (.inr (.inl rfl)), .inr (.inr (.inl rfl)), .inr (.inr (.inr (fun _ _ _ _ _ h => h))), .inr (.inr (.inr (fun _ _ _ _ _ h => h))), .inr (.inr (.inr (fun _ _ _ _ _ h => h))), .inr (.inr (.inr (fun _ _ _ _ h h0 => by cases h; exact h0))), .inr (.inr (.inr (fun _ _ _ _ _ h => h))), .inr (.inr (.inr (fun _ _ _ _ _ h => h))), .inr (.inr (.inr (fun _ _ _ _ _ h => h))), .inr (.inr (.inr (fun _ _ _ _ _ h => h))), .inr (.inr (.inr (fun _ _ _ _ _ h => h))), .inr (.inr (.inr (fun _ _ _ _ _ h => h))), .inr (.inr (.inr (fun _ _ _ _ _ h => h))), .inr (.inr (.inr (fun _ _ _ _ _ h => h))), .inr (.inr (.inr (fun _ _ _ _ _ h => h))), .inr (.inr (.inr (fun _ _ _ _ _ h => h))), .inr (.inr (.inr (fun _ _ _ _ _ h => h))), .inr (.inr (.inr (fun _ _ _ _ _ h => h))), .inr (.inr (.inr (fun _ _ _ _ _ h => h))), .inr (.inr (.inr (fun _ _ _ _ _ h => h))), .inr (.inr (.inr (fun _ _ _ _ _ h => h))), .inr (.inr (.inr (fun _ _ _ _ _ h => h))), .inr (.inr (.inr (fun _ _ _ _ _ h => h))), .inr (.inr (.inr (fun _ _ _ _ _ h => h))), .inr (.inr (.inl rfl)), trivial⟩,
        ⟨.inr (.inr (.inr (fun _ _ _ _ _ h => h))), .inr (.inr (.inr (fun _ _ _ _ _ h => h))), .inr (.inr (.inr (fun _ _ _ _ _ h => h))), .inr (.inr (.inr (fun _ _ _ _ h h0 => by cases h; exact h0))), .inr (.inr (.inr (fun _ _ _ _ _ h => h))), .inr (.inr (.inr (fun _ _ _ _ _ h => h))), .inr (.inr (.inr (fun _ _ _ _ _ h => h))), .inr (.inr (.inr (fun _ _ _ _ _ h => h))), .inl rfl, .inr (.inr (.inl rfl)), .inr (.inr (.inl rfl)), .inr (.inr (.inl rfl)), .inr (.inr (.inl rfl)), .inr (.inr (.inl rfl)), .inr (.inr (.inl rfl)), .inr (.inr (.inl rfl)), .inr (.inr (.inl rfl)), .inr (.inr (.inl rfl)), .inr (.inr (.inl rfl)), .inr (.inr (.inr (fun _ _ _ _ _ h => h))), .inr (.inr (.inr (fun _ _ _ _ _ h => h))), .inr (.inr (.inr (fun _ _ _ _ _ h => h))), .inr (.inr (.inr (fun _ _ _ _ _ h => h))), .inr (.inr (.inr (fun _ _ _ _ _ h => h))), .inr (.inr (.inr (fun _ _ _ _ _ h => h))), .inr (.inr (.inr (fun _ _ _ _ _ h => h))), .inr (.inr (.inr (fun _ _ _ _ _ h => h))), .inr (.inr (.inr (fun _ _ _ _ _ h => h))), .inr (.inr (.inr (fun _ _ _ _ _ h => h))), .inr (.inr (.inr (fun _ _ _ _ _ h => h))), .inr (.inr (.inr (fun _ _ _ _ _ h => h))), .inr (.inr (.inr (fun _ _ _ _ _ h => h))), .inr (.inr (.inr (fun _ _ _ _ _ h => h))), .inr (.inr (.inl rfl)), trivial⟩,
        ⟨.inr (.inr (.inr (fun _ _ _ _ _ h => h))), .inr (.inr (.inr (fun _ _ _ _ _ h => h))), .inr (.inr (.inr (fun _ _ _ _ _ h => h))), .inr (.inr (.inr (fun _ _ _ _ h h0 => by cases h; exact h0))), .inr (.inr (.inr (fun _ _ _ _ _ h => h))), .inr (.inr (.inr (fun _ _ _ _ _ h => h))), .inr (.inr (.inr (fun _ _ _ _ _ h => h))), .inr (.inr (.inr (fun _ _ _ _ _ h => h))), .inr (.inr (.inr (fun _ _ _ _ _ h => h))), .inl rfl, .inr (.inr (.inl rfl)), .inr (.inr (.inl rfl)), .inr (.inr (.inl rfl)), .inr (.inr (.inl rfl)), .inr (.inr (.inl rfl)), .inr (.inr (.inl rfl)), .inr (.inr (.inl rfl)), .inr (.inr (.inl rfl)), .inr (.inr (.inl rfl)), .inr (.inr (.inl rfl)), .inr (.inr (.inr (fun _ _ _ _ _ h => h))), .inr (.inr (.inr (fun _ _ _ _ _ h => h))), .inr (.inr (.inr (fun _ _ _ _ _ h => h))), .inr (.inr (.inr (fun _ _ _ _ _ h => h))), .inr (.inr (.inr (fun _ _ _ _ _ h => h))), .inr (.inr (.inr (fun _ _ _ _ _ h => h))), .inr (.inr (.inr (fun _ _ _ _ _ h => h))), .inr (.inr (.inr (fun _ _ _ _ _ h => h))), .inr (.inr (.inr (fun _ _ _ _ _ h => h))), .inr (.inr (.inr (fun _ _ _ _ _ h => h))), .inr (.inr (.inr (fun _ _ _ _ _ h => h))), .inr (.inr (.inr (fun _ _ _ _ _ h => h))), .inr (.inr (.inr (fun _ _ _ _ _ h => h))), .inr (.inr (.inl rfl)), trivial⟩,
        ⟨.inr (.inr (.inr (fun _ _ _ _ _ h => h))), .inr (.inr (.inr (fun _ _ _ _ _ h => h))), .inr (.inr (.inr (fun _ _ _ _ _ h => h))), .inr (.inr (.inr (fun _ _ _ _ h h0 => by cases h; exact h0))), .inr (.inr (.inr (fun _ _ _ _ _ h => h))), .inr (.inr (.inr (fun _ _ _ _ _ h => h))), .inr (.inr (.inr (fun _ _ _ _ _ h => h))), .inr (.inr (.inr (fun _ _ _ _ _ h => h))), .inr (.inr (.inr (fun _ _ _ _ _ h => h))), .inr (.inr (.inr (fun _ _ _ _ _ h => h))), .inl rfl, .inr (.inr (.inl rfl)), .inr (.inr (.inl rfl)), .inr (.inr (.inl rfl)), .inr (.inr (.inl rfl)), .inr (.inr (.inl rfl)), .inr (.inr (.inl rfl)), .inr (.inr (.inl rfl)), .inr (.inr (.inl rfl)), .inr (.inr (.inl rfl)), .inr (.inr (.inl rfl)), .inr (.inr (.inl rfl)), .inr (.inr (.inl rfl)), .inr (.inr (.inl rfl)), .inr (.inr (.inr (fun _ _ _ _ _ h => h))), .inr (.inr (.inr (fun _ _ _ _ _ h => h))), .inr (.inr (.inr (fun _ _ _ _ _ h => h))), .inr (.inr (.inr (fun _ _ _ _ _ h => h))), .inr (.inr (.inr (fun _ _ _ _ _ h => h))), .inr (.inr (.inr (fun _ _ _ _ _ h => h))), .inr (.inr (.inr (fun _ _ _ _ _ h => h))), .inr (.inr (.inr (fun _ _ _ _ _ h => h))), .inr (.inr (.inr (fun _ _ _ _ _ h => h))), .inr (.inr (.inl rfl)), trivial⟩,
        ⟨.inr (.inr (.inr (fun _ _ _ _ _ h => h))), .inr (.inr (.inr (fun _ _ _ _ _ h => h))), .inr (.inr (.inr (fun _ _ _ _ _ h => h))), .inr (.inr (.inr (fun _ _ _ _ h h0 => by cases h; exact h0))), .inr (.inr (.inr (fun _ _ _ _ _ h => h))), .inr (.inr (.inr (fun _ _ _ _ _ h => h))), .inr (.inr (.inr (fun _ _ _ _ _ h => h))), .inr (.inr (.inr (fun _ _ _ _ _ h => h))), .inr (.inr (.inr (fun _ _ _ _ _ h => h))), .inr (.inr (.inr (fun _ _ _ _ _ h => h))), .inr (.inr (.inr (fun _ _ _ _ _ h => h))), .inl rfl, .inr (.inr (.inl rfl)), .inr (.inr (.inr (fun _ _ _ _ _ h => h))), .inr (.inr (.inr (fun _ _ _ _ h h0 => by cases h; exact h0))), .inr (.inr (.inr (fun _ _ _ _ _ h => h))), .inr (.inr (.inr (fun _ _ _ _ _ h => h))), .inr (.inr (.inl rfl)), .inr (.inr (.inl rfl)), .inr (.inr (.inr (fun _ _ _ _ _ h => h))), .inr (.inr (.inr (fun _ _ _ _ _ h => h))), .inr (.inr (.inr (fun _ _ _ _ _ h => h))), .inr (.inr (.inr (fun _ _ _ _ _ h => h))), .inr (.inr (.inr (fun _ _ _ _ _ h => h))), .inr (.inr (.inr (fun _ _ _ _ _ h => h))), .inr (.inr (.inr (fun _ _ _ _ _ h => h))), .inr (.inr (.inr (fun _ _ _ _ _ h => h))), .inr (.inr (.inr (fun _ _ _ _ _ h => h))), .inr (.inr (.inr (fun _ _ _ _ _ h => h))), .inr (.inr (.inr (fun _ _ _ _ _ h => h))), .inr (.inr (.inr (fun _ _ _ _ _ h => h))), .inr (.inr (.inr (fun _ _ _ _ _ h => h))), .inr (.inr (.inr (fun _ _ _ _ _ h => h))), .inr (.inr (.inl rfl)), trivial⟩,
        ⟨.inr (.inr (.inr (fun _ _ _ _ _ h => h))), .inr (.inr (.inr (fun _ _ _ _ _ h => h))), .inr (.inr (.inr (fun _ _ _ _ _ h => h))), .inr (.inr (.inr (fun _ _ _ _ h h0 => by cases h; exact h0))), .inr (.inr (.inr (fun _ _ _ _ _ h => h))), .inr (.inr (.inr (fun _ _ _ _ _ h => h))), .inr (.inr (.inr (fun _ _ _ _ _ h => h))), .inr (.inr (.inr (fun _ _ _ _ _ h => h))), .inr (.inr (.inr (fun _ _ _ _ _ h => h))), .inr (.inr (.inr (fun _ _ _ _ _ h => h))), .inr (.inr (.inr (fun _ _ _ _ _ h => h))), .inr (.inr (.inr (fun _ _ _ _ _ h => h))), .inl rfl, .inr (.inr (.inr (fun _ _ _ _ _ h => h))), .inr (.inr (.inr (fun _ _ _ _ h h0 => by cases h; exact h0))), .inr (.inr (.inr (fun _ _ _ _ _ h => h))), .inr (.inr (.inr (fun _ _ _ _ _ h => h))), .inr (.inr (.inl rfl)), .inr (.inr (.inl rfl)), .inr (.inr (.inl rfl)), .inr (.inr (.inr (fun _ _ _ _ _ h => h))), .inr (.inr (.inr (fun _ _ _ _ _ h => h))), .inr (.inr (.inr (fun _ _ _ _ _ h => h))), .inr (.inr (.inr (fun _ _ _ _ _ h => h))), .inr (.inr (.inr (fun _ _ _ _ _ h => h))), .inr (.inr (.inr (fun _ _ _ _ _ h => h))), .inr (.inr (.inr (fun _ _ _ _ _ h => h))), .inr (.inr (.inr (fun _ _ _ _ _ h => h))), .inr (.inr (.inr (fun _ _ _ _ _ h => h))), .inr (.inr (.inr (fun _ _ _ _ _ h => h))), .inr (.inr (.inr (fun _ _ _ _ _ h => h))), .inr (.inr (.inr (fun _ _ _ _ _ h => h))), .inr (.inr (.inr (fun _ _ _ _ _ h => h))), .inr (.inr (.inl rfl)), trivial⟩,
        ⟨.inr (.inr (.inr (fun _ _ _ _ _ h => h))), .inr (.inr (.inr (fun _ _ _ _ _ h => h))), .inr (.inr (.inr (fun _ _ _ _ _ h => h))), .inr (.inr (.inr (fun _ _ _ _ h h0 => by cases h; exact h0))), .inr (.inr (.inr (fun _ _ _ _ _ h => h))), .inr (.inr (.inr (fun _ _ _ _ _ h => h))), .inr (.inr (.inr (fun _ _ _ _ _ h => h))), .inr (.inr (.inr (fun _ _ _ _ _ h => h))), .inr (.inr (.inr (fun _ _ _ _ _ h => h))), .inr (.inr (.inr (fun _ _ _ _ _ h => h))), .inr (.inr (.inr (fun _ _ _ _ _ h => h))), .inr (.inr (.inr (fun _ _ _ _ _ h => h))), .inr (.inr (.inr (fun _ _ _ _ _ h => h))), .inl rfl, .inr (.inr (.inl rfl)), .inr (.inr (.inl rfl)), .inr (.inr (.inl rfl)), .inr (.inr (.inr (fun _ _ _ _ _ h => h))), .inr (.inr (.inr (fun _ _ _ _ _ h => h))), .inr (.inr (.inl rfl)), .inr (.inr (.inl rfl)), .inr (.inr (.inl rfl)), .inr (.inr (.inl rfl)), .inr (.inr (.inl rfl)), .inr (.inr (.inr (fun _ _ _ _ _ h => h))), .inr (.inr (.inr (fun _ _ _ _ _ h => h))), .inr (.inr (.inr (fun _ _ _ _ _ h => h))), .inr (.inr (.inr (fun _ _ _ _ _ h => h))), .inr (.inr (.inr (fun _ _ _ _ _ h => h))), .inr (.inr (.inr (fun _ _ _ _ _ h => h))), .inr (.inr (.inr (fun _ _ _ _ _ h => h))), .inr (.inr (.inr (fun _ _ _ _ _ h => h))), .inr (.inr (.inr (fun _ _ _ _ _ h => h))), .inr (.inr (.inl rfl)), trivial⟩,
        ⟨.inr (.inr (.inr (fun _ _ _ _ _ h => h))), .inr (.inr (.inr (fun _ _ _ _ _ h => h))), .inr (.inr (.inr (fun _ _ _ _ _ h => h))), .inr (.inr (.inr (fun _ _ _ _ h ⟨a, b, e, o⟩ => ⟨a, b, e, o.below h (Nat.le_refl _)⟩))), .inr (.inr (.inr (fun _ _ _ _ _ h => h))), .inr (.inr (.inr (fun _ _ _ _ _ h => h))), .inr (.inr (.inr (fun _ _ _ _ _ h => h))), .inr (.inr (.inr (fun _ _ _ _ _ h => h))), .inr (.inr (.inr (fun _ _ _ _ _ h => h))), .inr (.inr (.inr (fun _ _ _ _ _ h => h))), .inr (.inr (.inr (fun _ _ _ _ _ h => h))), .inr (.inr (.inr (fun _ _ _ _ _ h => h))), .inr (.inr (.inr (fun _ _ _ _ _ h => h))), .inr (.inr (.inr (fun _ _ _ _ _ h => h))), .inl rfl, .inr (.inr (.inl rfl)), .inr (.inr (.inl rfl)), .inr (.inr (.inl rfl)), .inr (.inr (.inr (fun _ _ _ _ _ h => h))), .inr (.inr (.inl rfl)), .inr (.inr (.inl rfl)), .inr (.inr (.inl rfl)), .inr (.inr (.inl rfl)), .inr (.inr (.inl rfl)), .inr (.inr (.inl rfl)), .inr (.inr (.inl rfl)), .inr (.inr (.inl rfl)), .inr (.inr (.inr (fun _ _ _ _ _ h => h))), .inr (.inr (.inr (fun _ _ _ _ _ h => h))), .inr (.inr (.inr (fun _ _ _ _ _ h => h))), .inr (.inr (.inr (fun _ _ _ _ _ h => h))), .inr (.inr (.inr (fun _ _ _ _ _ h => h))), .inr (.inr (.inr (fun _ _ _ _ _ h => h))), .inr (.inr (.inl rfl)), trivial⟩,
        ⟨.inr (.inr (.inr (fun _ _ _ _ _ h => h))), .inr (.inr (.inr (fun _ _ _ _ _ h => h))), .inr (.inr (.inr (fun _ _ _ _ _ h => h))), .inr (.inr (.inr (fun _ _ _ _ h h0 => by cases h; exact h0))), .inr (.inr (.inr (fun _ _ _ _ _ h => h))), .inr (.inr (.inr (fun _ _ _ _ _ h => h))), .inr (.inr (.inr (fun _ _ _ _ _ h => h))), .inr (.inr (.inr (fun _ _ _ _ _ h => h))), .inr (.inr (.inr (fun _ _ _ _ _ h => h))), .inr (.inr (.inr (fun _ _ _ _ _ h => h))), .inr (.inr (.inr (fun _ _ _ _ _ h => h))), .inr (.inr (.inr (fun _ _ _ _ _ h => h))), .inr (.inr (.inr (fun _ _ _ _ _ h => h))), .inr (.inr (.inr (fun _ _ _ _ _ h => h))), .inr (.inr (.inr (fun _ _ _ _ h h0 => by cases h; exact h0))), .inl rfl, .inr (.inr (.inl rfl)), .inr (.inr (.inl rfl)), .inr (.inr (.inl rfl)), .inr (.inr (.inr (fun _ _ _ _ _ h => h))), .inr (.inr (.inr (fun _ _ _ _ _ h => h))), .inr (.inr (.inr (fun _ _ _ _ _ h => h))), .inr (.inr (.inr (fun _ _ _ _ _ h => h))), .inr (.inr (.inr (fun _ _ _ _ _ h => h))), .inr (.inr (.inr (fun _ _ _ _ _ h => h))), .inr (.inr (.inr (fun _ _ _ _ _ h => h))), .inr (.inr (.inr (fun _ _ _ _ _ h => h))), .inr (.inr (.inr (fun _ _ _ _ _ h => h))), .inr (.inr (.inr (fun _ _ _ _ _ h => h))), .inr (.inr (.inr (fun _ _ _ _ _ h => h))), .inr (.inr (.inr (fun _ _ _ _ _ h => h))), .inr (.inr (.inr (fun _ _ _ _ _ h => h))), .inr (.inr (.inr (fun _ _ _ _ _ h => h))), .inr (.inr (.inl rfl)), trivial⟩,
        ⟨.inr (.inr (.inr (fun _ _ _ _ _ h => h))), .inr (.inr (.inr (fun _ _ _ _ _ h => h))), .inr (.inr (.inr (fun _ _ _ _ _ h => h))), .inr (.inr (.inr (fun _ _ _ _ h h0 => by cases h; exact h0))), .inr (.inr (.inr (fun _ _ _ _ _ h => h))), .inr (.inr (.inr (fun _ _ _ _ _ h => h))), .inr (.inr (.inr (fun _ _ _ _ _ h => h))), .inr (.inr (.inr (fun _ _ _ _ _ h => h))), .inr (.inr (.inr (fun _ _ _ _ _ h => h))), .inr (.inr (.inr (fun _ _ _ _ _ h => h))), .inr (.inr (.inr (fun _ _ _ _ _ h => h))), .inr (.inr (.inr (fun _ _ _ _ _ h => h))), .inr (.inr (.inr (fun _ _ _ _ _ h => h))), .inr (.inr (.inr (fun _ _ _ _ _ h => h))), .inr (.inr (.inr (fun _ _ _ _ h h0 => by cases h; exact h0))), .inr (.inr (.inr (fun _ _ _ _ _ h => h))), .inl rfl, .inr (.inr (.inl rfl)), .inr (.inr (.inl rfl)), .inr (.inr (.inl rfl)), .inr (.inr (.inr (fun _ _ _ _ _ h => h))), .inr (.inr (.inr (fun _ _ _ _ _ h => h))), .inr (.inr (.inr (fun _ _ _ _ _ h => h))), .inr (.inr (.inr (fun _ _ _ _ _ h => h))), .inr (.inr (.inr (fun _ _ _ _ _ h => h))), .inr (.inr (.inr (fun _ _ _ _ _ h => h))), .inr (.inr (.inr (fun _ _ _ _ _ h => h))), .inr (.inr (.inr (fun _ _ _ _ _ h => h))), .inr (.inr (.inr (fun _ _ _ _ _ h => h))), .inr (.inr (.inr (fun _ _ _ _ _ h => h))), .inr (.inr (.inr (fun _ _ _ _ _ h => h))), .inr (.inr (.inr (fun _ _ _ _ _ h => h))), .inr (.inr (.inr (fun _ _ _ _ _ h => h))), .inr (.inr (.inl rfl)), trivial⟩,
        ⟨.inr (.inr (.inr (fun _ _ _ _ _ h => h))), .inr (.inr (.inr (fun _ _ _ _ _ h => h))), .inr (.inr (.inr (fun _ _ _ _ _ h => h))), .inr (.inr (.inr (fun _ _ _ _ h h0 => by cases h; exact h0))), .inr (.inr (.inr (fun _ _ _ _ _ h => h))), .inr (.inr (.inr (fun _ _ _ _ _ h => h))), .inr (.inr (.inr (fun _ _ _ _ _ h => h))), .inr (.inr (.inr (fun _ _ _ _ _ h => h))), .inr (.inr (.inr (fun _ _ _ _ _ h => h))), .inr (.inr (.inr (fun _ _ _ _ _ h => h))), .inr (.inr (.inr (fun _ _ _ _ _ h => h))), .inr (.inr (.inr (fun _ _ _ _ _ h => h))), .inr (.inr (.inr (fun _ _ _ _ _ h => h))), .inr (.inr (.inr (fun _ _ _ _ _ h => h))), .inr (.inr (.inr (fun _ _ _ _ h h0 => by cases h; exact h0))), .inr (.inr (.inr (fun _ _ _ _ _ h => h))), .inr (.inr (.inr (fun _ _ _ _ _ h => h))), .inl rfl, .inr (.inr (.inl rfl)), .inr (.inr (.inl rfl)), .inr (.inr (.inl rfl)), .inr (.inr (.inl rfl)), .inr (.inr (.inl rfl)), .inr (.inr (.inl rfl)), .inr (.inr (.inr (fun _ _ _ _ _ h => h))), .inr (.inr (.inr (fun _ _ _ _ _ h => h))), .inr (.inr (.inr (fun _ _ _ _ _ h => h))), .inr (.inr (.inr (fun _ _ _ _ _ h => h))), .inr (.inr (.inr (fun _ _ _ _ _ h => h))), .inr (.inr (.inr (fun _ _ _ _ _ h => h))), .inr (.inr (.inr (fun _ _ _ _ _ h => h))), .inr (.inr (.inr (fun _ _ _ _ _ h => h))), .inr (.inr (.inr (fun _ _ _ _ _ h => h))), .inr (.inr (.inl rfl)), trivial⟩,
        ⟨.inr (.inr (.inr (fun _ _ _ _ _ h => h))), .inr (.inr (.inr (fun _ _ _ _ _ h => h))), .inr (.inr (.inr (fun _ _ _ _ _ h => h))), .inr (.inr (.inr (fun _ _ _ _ h h0 => by cases h; exact h0))), .inr (.inr (.inr (fun _ _ _ _ _ h => h))), .inr (.inr (.inr (fun _ _ _ _ _ h => h))), .inr (.inr (.inr (fun _ _ _ _ _ h => h))), .inr (.inr (.inr (fun _ _ _ _ _ h => h))), .inr (.inr (.inr (fun _ _ _ _ _ h => h))), .inr (.inr (.inr (fun _ _ _ _ _ h => h))), .inr (.inr (.inr (fun _ _ _ _ _ h => h))), .inr (.inr (.inr (fun _ _ _ _ _ h => h))), .inr (.inr (.inr (fun _ _ _ _ _ h => h))), .inr (.inr (.inr (fun _ _ _ _ _ h => h))), .inr (.inr (.inr (fun _ _ _ _ h h0 => by cases h; exact h0))), .inr (.inr (.inr (fun _ _ _ _ _ h => h))), .inr (.inr (.inr (fun _ _ _ _ _ h => h))), .inr (.inr (.inr (fun _ _ _ _ _ h => h))), .inl rfl, .inr (.inr (.inl rfl)), .inr (.inr (.inl rfl)), .inr (.inr (.inl rfl)), .inr (.inr (.inl rfl)), .inr (.inr (.inl rfl)), .inr (.inr (.inl rfl)), .inr (.inr (.inl rfl)), .inr (.inr (.inl rfl)), .inr (.inr (.inr (fun _ _ _ _ _ h => h))), .inr (.inr (.inr (fun _ _ _ _ _ h => h))), .inr (.inr (.inr (fun _ _ _ _ _ h => h))), .inr (.inr (.inr (fun _ _ _ _ _ h => h))), .inr (.inr (.inr (fun _ _ _ _ _ h => h))), .inr (.inr (.inr (fun _ _ _ _ _ h => h))), .inr (.inr (.inl rfl)), trivial⟩,
        ⟨.inr (.inr (.inr (fun _ _ _ _ _ h => h))), .inr (.inr (.inr (fun _ _ _ _ _ h => h))), .inr (.inr (.inr (fun _ _ _ _ _ h => h))), .inr (.inr (.inr (fun _ _ _ _ h h0 => by cases h; exact h0))), .inr (.inr (.inr (fun _ _ _ _ _ h => h))), .inr (.inr (.inr (fun _ _ _ _ _ h => h))), .inr (.inr (.inr (fun _ _ _ _ _ h => h))), .inr (.inr (.inr (fun _ _ _ _ _ h => h))), .inr (.inr (.inr (fun _ _ _ _ _ h => h))), .inr (.inr (.inr (fun _ _ _ _ _ h => h))), .inr (.inr (.inr (fun _ _ _ _ _ h => h))), .inr (.inr (.inr (fun _ _ _ _ _ h => h))), .inr (.inr (.inr (fun _ _ _ _ _ h => h))), .inr (.inr (.inr (fun _ _ _ _ _ h => h))), .inr (.inr (.inr (fun _ _ _ _ h h0 => by cases h; exact h0))), .inr (.inr (.inr (fun _ _ _ _ _ h => h))), .inr (.inr (.inr (fun _ _ _ _ _ h => h))), .inr (.inr (.inr (fun _ _ _ _ _ h => h))), .inr (.inr (.inr (fun _ _ _ _ _ h => h))), .inl rfl, .inr (.inr (.inl rfl)), .inr (.inr (.inl rfl)), .inr (.inr (.inl rfl)), .inr (.inr (.inl rfl)), .inr (.inr (.inl rfl)), .inr (.inr (.inl rfl)), .inr (.inr (.inl rfl)), .inr (.inr (.inl rfl)), .inr (.inr (.inl rfl)), .inr (.inr (.inl rfl)), .inr (.inr (.inl rfl)), .inr (.inr (.inr (fun _ _ _ _ _ h => h))), .inr (.inr (.inr (fun _ _ _ _ _ h => h))), .inr (.inr (.inl rfl)), trivial⟩,
        ⟨.inr (.inr (.inr (fun _ _ _ _ _ h => h))), .inr (.inr (.inr (fun _ _ _ _ _ h => h))), .inr (.inr (.inr (fun _ _ _ _ _ h => h))), .inr (.inr (.inr (fun _ _ _ _ h h0 => by cases h; exact h0))), .inr (.inr (.inr (fun _ _ _ _ _ h => h))), .inr (.inr (.inr (fun _ _ _ _ _ h => h))), .inr (.inr (.inr (fun _ _ _ _ _ h => h))), .inr (.inr (.inr (fun _ _ _ _ _ h => h))), .inr (.inr (.inr (fun _ _ _ _ _ h => h))), .inr (.inr (.inr (fun _ _ _ _ _ h => h))), .inr (.inr (.inr (fun _ _ _ _ _ h => h))), .inr (.inr (.inr (fun _ _ _ _ _ h => h))), .inr (.inr (.inr (fun _ _ _ _ _ h => h))), .inr (.inr (.inr (fun _ _ _ _ _ h => h))), .inr (.inr (.inr (fun _ _ _ _ h h0 => by cases h; exact h0))), .inr (.inr (.inr (fun _ _ _ _ _ h => h))), .inr (.inr (.inr (fun _ _ _ _ _ h => h))), .inr (.inr (.inr (fun _ _ _ _ _ h => h))), .inr (.inr (.inr (fun _ _ _ _ _ h => h))), .inr (.inr (.inr (fun _ _ _ _ _ h => h))), .inl rfl, .inr (.inr (.inl rfl)), .inr (.inr (.inl rfl)), .inr (.inr (.inl rfl)), .inr (.inr (.inr (fun _ _ _ _ _ h => h))), .inr (.inr (.inr (fun _ _ _ _ _ h => h))), .inr (.inr (.inr (fun _ _ _ _ _ h => h))), .inr (.inr (.inr (fun _ _ _ _ _ h => h))), .inr (.inr (.inr (fun _ _ _ _ _ h => h))), .inr (.inr (.inr (fun _ _ _ _ _ h => h))), .inr (.inr (.inr (fun _ _ _ _ _ h => h))), .inr (.inr (.inr (fun _ _ _ _ _ h => h))), .inr (.inr (.inr (fun _ _ _ _ _ h => h))), .inr (.inr (.inl rfl)), trivial⟩,
        ⟨.inr (.inr (.inr (fun _ _ _ _ _ h => h))), .inr (.inr (.inr (fun _ _ _ _ _ h => h))), .inr (.inr (.inr (fun _ _ _ _ _ h => h))), .inr (.inr (.inr (fun _ _ _ _ h h0 => by cases h; exact h0))), .inr (.inr (.inr (fun _ _ _ _ _ h => h))), .inr (.inr (.inr (fun _ _ _ _ _ h => h))), .inr (.inr (.inr (fun _ _ _ _ _ h => h))), .inr (.inr (.inr (fun _ _ _ _ _ h => h))), .inr (.inr (.inr (fun _ _ _ _ _ h => h))), .inr (.inr (.inr (fun _ _ _ _ _ h => h))), .inr (.inr (.inr (fun _ _ _ _ _ h => h))), .inr (.inr (.inr (fun _ _ _ _ _ h => h))), .inr (.inr (.inr (fun _ _ _ _ _ h => h))), .inr (.inr (.inr (fun _ _ _ _ _ h => h))), .inr (.inr (.inr (fun _ _ _ _ h h0 => by cases h; exact h0))), .inr (.inr (.inr (fun _ _ _ _ _ h => h))), .inr (.inr (.inr (fun _ _ _ _ _ h => h))), .inr (.inr (.inr (fun _ _ _ _ _ h => h))), .inr (.inr (.inr (fun _ _ _ _ _ h => h))), .inr (.inr (.inr (fun _ _ _ _ _ h => h))), .inr (.inr (.inr (fun _ _ _ _ _ h => h))), .inl rfl, .inr (.inr (.inl rfl)), .inr (.inr (.inl rfl)), .inr (.inr (.inl rfl)), .inr (.inr (.inl rfl)), .inr (.inr (.inl rfl)), .inr (.inr (.inr (fun _ _ _ _ _ h => h))), .inr (.inr (.inr (fun _ _ _ _ _ h => h))), .inr (.inr (.inr (fun _ _ _ _ _ h => h))), .inr (.inr (.inr (fun _ _ _ _ _ h => h))), .inr (.inr (.inr (fun _ _ _ _ _ h => h))), .inr (.inr (.inr (fun _ _ _ _ _ h => h))), .inr (.inr (.inl rfl)), trivial⟩,
        ⟨.inr (.inr (.inr (fun _ _ _ _ _ h => h))), .inr (.inr (.inr (fun _ _ _ _ _ h => h))), .inr (.inr (.inr (fun _ _ _ _ _ h => h))), .inr (.inr (.inr (fun _ _ _ _ h h0 => by cases h; exact h0))), .inr (.inr (.inr (fun _ _ _ _ _ h => h))), .inr (.inr (.inr (fun _ _ _ _ _ h => h))), .inr (.inr (.inr (fun _ _ _ _ _ h => h))), .inr (.inr (.inr (fun _ _ _ _ _ h => h))), .inr (.inr (.inr (fun _ _ _ _ _ h => h))), .inr (.inr (.inr (fun _ _ _ _ _ h => h))), .inr (.inr (.inr (fun _ _ _ _ _ h => h))), .inr (.inr (.inr (fun _ _ _ _ _ h => h))), .inr (.inr (.inr (fun _ _ _ _ _ h => h))), .inr (.inr (.inr (fun _ _ _ _ _ h => h))), .inr (.inr (.inr (fun _ _ _ _ h h0 => by cases h; exact h0))), .inr (.inr (.inr (fun _ _ _ _ _ h => h))), .inr (.inr (.inr (fun _ _ _ _ _ h => h))), .inr (.inr (.inr (fun _ _ _ _ _ h => h))), .inr (.inr (.inr (fun _ _ _ _ _ h => h))), .inr (.inr (.inr (fun _ _ _ _ _ h => h))), .inr (.inr (.inr (fun _ _ _ _ _ h => h))), .inr (.inr (.inr (fun _ _ _ _ _ h => h))), .inl rfl, .inr (.inr (.inl rfl)), .inr (.inr (.inl rfl)), .inr (.inr (.inl rfl)), .inr (.inr (.inl rfl)), .inr (.inr (.inl rfl)), .inr (.inr (.inl rfl)), .inr (.inr (.inl rfl)), .inr (.inr (.inl rfl)), .inr (.inr (.inr (fun _ _ _ _ _ h => h))), .inr (.inr (.inr (fun _ _ _ _ _ h => h))), .inr (.inr (.inl rfl)), trivial⟩,
        ⟨.inr (.inr (.inr (fun _ _ _ _ _ h => h))), .inr (.inr (.inr (fun _ _ _ _ _ h => h))), .inr (.inr (.inr (fun _ _ _ _ _ h => h))), .inr (.inr (.inr (fun _ _ _ _ h h0 => by cases h; exact h0))), .inr (.inr (.inr (fun _ _ _ _ _ h => h))), .inr (.inr (.inr (fun _ _ _ _ _ h => h))), .inr (.inr (.inr (fun _ _ _ _ _ h => h))), .inr (.inr (.inr (fun _ _ _ _ _ h => h))), .inr (.inr (.inr (fun _ _ _ _ _ h => h))), .inr (.inr (.inr (fun _ _ _ _ _ h => h))), .inr (.inr (.inr (fun _ _ _ _ _ h => h))), .inr (.inr (.inr (fun _ _ _ _ _ h => h))), .inr (.inr (.inr (fun _ _ _ _ _ h => h))), .inr (.inr (.inr (fun _ _ _ _ _ h => h))), .inr (.inr (.inr (fun _ _ _ _ h h0 => by cases h; exact h0))), .inr (.inr (.inr (fun _ _ _ _ _ h => h))), .inr (.inr (.inr (fun _ _ _ _ _ h => h))), .inr (.inr (.inr (fun _ _ _ _ _ h => h))), .inr (.inr (.inr (fun _ _ _ _ _ h => h))), .inr (.inr (.inr (fun _ _ _ _ _ h => h))), .inr (.inr (.inr (fun _ _ _ _ _ h => h))), .inr (.inr (.inr (fun _ _ _ _ _ h => h))), .inr (.inr (.inr (fun _ _ _ _ _ h => h))), .inl rfl, .inr (.inr (.inl rfl)), .inr (.inr (.inl rfl)), .inr (.inr (.inl rfl)), .inr (.inr (.inl rfl)), .inr (.inr (.inl rfl)), .inr (.inr (.inl rfl)), .inr (.inr (.inl rfl)), .inr (.inr (.inl rfl)), .inr (.inr (.inl rfl)), .inr (.inr (.inl rfl)), trivial⟩,
        ⟨.inr (.inr (.inr (fun _ _ _ _ _ h => h))), .inr (.inr (.inr (fun _ _ _ _ _ h => h))), .inr (.inr (.inr (fun _ _ _ _ _ h => h))), .inr (.inr (.inr (fun _ _ _ _ h h0 => by cases h; exact h0))), .inr (.inr (.inr (fun _ _ _ _ _ h => h))), .inr (.inr (.inr (fun _ _ _ _ _ h => h))), .inr (.inr (.inr (fun _ _ _ _ _ h => h))), .inr (.inr (.inr (fun _ _ _ _ _ h => h))), .inr (.inr (.inr (fun _ _ _ _ _ h => h))), .inr (.inr (.inr (fun _ _ _ _ _ h => h))), .inr (.inr (.inr (fun _ _ _ _ _ h => h))), .inr (.inr (.inr (fun _ _ _ _ _ h => h))), .inr (.inr (.inr (fun _ _ _ _ _ h => h))), .inr (.inr (.inr (fun _ _ _ _ _ h => h))), .inr (.inr (.inr (fun _ _ _ _ h h0 => by cases h; exact h0))), .inr (.inr (.inr (fun _ _ _ _ _ h => h))), .inr (.inr (.inr (fun _ _ _ _ _ h => h))), .inr (.inr (.inr (fun _ _ _ _ _ h => h))), .inr (.inr (.inr (fun _ _ _ _ _ h => h))), .inr (.inr (.inr (fun _ _ _ _ _ h => h))), .inr (.inr (.inr (fun _ _ _ _ _ h => h))), .inr (.inr (.inr (fun _ _ _ _ _ h => h))), .inr (.inr (.inr (fun _ _ _ _ _ h => h))), .inr (.inr (.inr (fun _ _ _ _ _ h => h))), .inl rfl, .inr (.inr (.inl rfl)), .inr (.inr (.inl rfl)), .inr (.inr (.inl rfl)), .inr (.inr (.inl rfl)), .inr (.inr (.inl rfl)), .inr (.inr (.inl rfl)), .inr (.inr (.inr (fun _ _ _ _ _ h => h))), .inr (.inr (.inr (fun _ _ _ _ _ h => h))), .inr (.inr (.inl rfl)), trivial⟩,
        ⟨.inr (.inr (.inr (fun _ _ _ _ _ h => h))), .inr (.inr (.inr (fun _ _ _ _ _ h => h))), .inr (.inr (.inr (fun _ _ _ _ _ h => h))), .inr (.inr (.inr (fun _ _ _ _ h h0 => by cases h; exact h0))), .inr (.inr (.inr (fun _ _ _ _ _ h => h))), .inr (.inr (.inr (fun _ _ _ _ _ h => h))), .inr (.inr (.inr (fun _ _ _ _ _ h => h))), .inr (.inr (.inr (fun _ _ _ _ _ h => h))), .inr (.inr (.inr (fun _ _ _ _ _ h => h))), .inr (.inr (.inr (fun _ _ _ _ _ h => h))), .inr (.inr (.inr (fun _ _ _ _ _ h => h))), .inr (.inr (.inr (fun _ _ _ _ _ h => h))), .inr (.inr (.inr (fun _ _ _ _ _ h => h))), .inr (.inr (.inr (fun _ _ _ _ _ h => h))), .inr (.inr (.inr (fun _ _ _ _ h h0 => by cases h; exact h0))), .inr (.inr (.inr (fun _ _ _ _ _ h => h))), .inr (.inr (.inr (fun _ _ _ _ _ h => h))), .inr (.inr (.inr (fun _ _ _ _ _ h => h))), .inr (.inr (.inr (fun _ _ _ _ _ h => h))), .inr (.inr (.inr (fun _ _ _ _ _ h => h))), .inr (.inr (.inr (fun _ _ _ _ _ h => h))), .inr (.inr (.inr (fun _ _ _ _ _ h => h))), .inr (.inr (.inr (fun _ _ _ _ _ h => h))), .inr (.inr (.inr (fun _ _ _ _ _ h => h))), .inr (.inr (.inr (fun _ _ _ _ _ h => h))), .inl rfl, .inr (.inr (.inl rfl)), .inr (.inr (.inl rfl)), .inr (.inr (.inl rfl)), .inr (.inr (.inl rfl)), .inr (.inr (.inl rfl)), .inr (.inr (.inl rfl)), .inr (.inr (.inl rfl)), .inr (.inr (.inl rfl)), trivial⟩,
        ⟨.inr (.inr (.inr (fun _ _ _ _ _ h => h))), .inr (.inr (.inr (fun _ _ _ _ _ h => h))), .inr (.inr (.inr (fun _ _ _ _ _ h => h))), .inr (.inr (.inr (fun _ _ _ _ h h0 => by cases h; exact h0))), .inr (.inr (.inr (fun _ _ _ _ _ h => h))), .inr (.inr (.inr (fun _ _ _ _ _ h => h))), .inr (.inr (.inr (fun _ _ _ _ _ h => h))), .inr (.inr (.inr (fun _ _ _ _ _ h => h))), .inr (.inr (.inr (fun _ _ _ _ _ h => h))), .inr (.inr (.inr (fun _ _ _ _ _ h => h))), .inr (.inr (.inr (fun _ _ _ _ _ h => h))), .inr (.inr (.inr (fun _ _ _ _ _ h => h))), .inr (.inr (.inr (fun _ _ _ _ _ h => h))), .inr (.inr (.inr (fun _ _ _ _ _ h => h))), .inr (.inr (.inr (fun _ _ _ _ h h0 => by cases h; exact h0))), .inr (.inr (.inr (fun _ _ _ _ _ h => h))), .inr (.inr (.inr (fun _ _ _ _ _ h => h))), .inr (.inr (.inr (fun _ _ _ _ _ h => h))), .inr (.inr (.inr (fun _ _ _ _ _ h => h))), .inr (.inr (.inr (fun _ _ _ _ _ h => h))), .inr (.inr (.inr (fun _ _ _ _ _ h => h))), .inr (.inr (.inr (fun _ _ _ _ _ h => h))), .inr (.inr (.inr (fun _ _ _ _ _ h => h))), .inr (.inr (.inr (fun _ _ _ _ _ h => h))), .inr (.inr (.inr (fun _ _ _ _ _ h => h))), .inr (.inr (.inr (fun _ _ _ _ _ h => h))), .inl rfl, .inr (.inr (.inl rfl)), .inr (.inr (.inl rfl)), .inr (.inr (.inl rfl)), .inr (.inr (.inl rfl)), .inr (.inr (.inl rfl)), .inr (.inr (.inl rfl)), .inr (.inr (.inl rfl)), trivial⟩,
        ⟨.inr (.inr (.inr (fun _ _ _ _ _ h => h))), .inr (.inr (.inr (fun _ _ _ _ _ h => h))), .inr (.inr (.inr (fun _ _ _ _ _ h => h))), .inr (.inr (.inr (fun _ _ _ _ h h0 => by cases h; exact h0))), .inr (.inr (.inr (fun _ _ _ _ _ h => h))), .inr (.inr (.inr (fun _ _ _ _ _ h => h))), .inr (.inr (.inr (fun _ _ _ _ _ h => h))), .inr (.inr (.inr (fun _ _ _ _ _ h => h))), .inr (.inr (.inr (fun _ _ _ _ _ h => h))), .inr (.inr (.inr (fun _ _ _ _ _ h => h))), .inr (.inr (.inr (fun _ _ _ _ _ h => h))), .inr (.inr (.inr (fun _ _ _ _ _ h => h))), .inr (.inr (.inr (fun _ _ _ _ _ h => h))), .inr (.inr (.inr (fun _ _ _ _ _ h => h))), .inr (.inr (.inr (fun _ _ _ _ h h0 => by cases h; exact h0))), .inr (.inr (.inr (fun _ _ _ _ _ h => h))), .inr (.inr (.inr (fun _ _ _ _ _ h => h))), .inr (.inr (.inr (fun _ _ _ _ _ h => h))), .inr (.inr (.inr (fun _ _ _ _ _ h => h))), .inr (.inr (.inr (fun _ _ _ _ _ h => h))), .inr (.inr (.inr (fun _ _ _ _ _ h => h))), .inr (.inr (.inr (fun _ _ _ _ _ h => h))), .inr (.inr (.inr (fun _ _ _ _ _ h => h))), .inr (.inr (.inr (fun _ _ _ _ _ h => h))), .inr (.inr (.inr (fun _ _ _ _ _ h => h))), .inr (.inr (.inr (fun _ _ _ _ _ h => h))), .inr (.inr (.inr (fun _ _ _ _ _ h => h))), .inl rfl, .inr (.inr (.inl rfl)), .inr (.inr (.inl rfl)), .inr (.inr (.inl rfl)), .inr (.inr (.inr (fun _ _ _ _ _ h => h))), .inr (.inr (.inr (fun _ _ _ _ _ h => h))), .inr (.inr (.inl rfl)), trivial⟩,
        ⟨.inr (.inr (.inr (fun _ _ _ _ _ h => h))), .inr (.inr (.inr (fun _ _ _ _ _ h => h))), .inr (.inr (.inr (fun _ _ _ _ _ h => h))), .inr (.inr (.inr (fun _ _ _ _ h h0 => by cases h; exact h0))), .inr (.inr (.inr (fun _ _ _ _ _ h => h))), .inr (.inr (.inr (fun _ _ _ _ _ h => h))), .inr (.inr (.inr (fun _ _ _ _ _ h => h))), .inr (.inr (.inr (fun _ _ _ _ _ h => h))), .inr (.inr (.inr (fun _ _ _ _ _ h => h))), .inr (.inr (.inr (fun _ _ _ _ _ h => h))), .inr (.inr (.inr (fun _ _ _ _ _ h => h))), .inr (.inr (.inr (fun _ _ _ _ _ h => h))), .inr (.inr (.inr (fun _ _ _ _ _ h => h))), .inr (.inr (.inr (fun _ _ _ _ _ h => h))), .inr (.inr (.inr (fun _ _ _ _ h h0 => by cases h; exact h0))), .inr (.inr (.inr (fun _ _ _ _ _ h => h))), .inr (.inr (.inr (fun _ _ _ _ _ h => h))), .inr (.inr (.inr (fun _ _ _ _ _ h => h))), .inr (.inr (.inr (fun _ _ _ _ _ h => h))), .inr (.inr (.inr (fun _ _ _ _ _ h => h))), .inr (.inr (.inr (fun _ _ _ _ _ h => h))), .inr (.inr (.inr (fun _ _ _ _ _ h => h))), .inr (.inr (.inr (fun _ _ _ _ _ h => h))), .inr (.inr (.inr (fun _ _ _ _ _ h => h))), .inr (.inr (.inr (fun _ _ _ _ _ h => h))), .inr (.inr (.inr (fun _ _ _ _ _ h => h))), .inr (.inr (.inr (fun _ _ _ _ _ h => h))), .inr (.inr (.inr (fun _ _ _ _ _ h => h))), .inl rfl, .inr (.inr (.inl rfl)), .inr (.inr (.inl rfl)), .inr (.inr (.inl rfl)), .inr (.inr (.inl rfl)), .inr (.inr (.inl rfl)), trivial⟩,
        ⟨.inr (.inr (.inr (fun _ _ _ _ _ h => h))), .inr (.inr (.inr (fun _ _ _ _ _ h => h))), .inr (.inr (.inr (fun _ _ _ _ _ h => h))), .inr (.inr (.inr (fun _ _ _ _ h h0 => by cases h; exact h0))), .inr (.inr (.inr (fun _ _ _ _ _ h => h))), .inr (.inr (.inr (fun _ _ _ _ _ h => h))), .inr (.inr (.inr (fun _ _ _ _ _ h => h))), .inr (.inr (.inr (fun _ _ _ _ _ h => h))), .inr (.inr (.inr (fun _ _ _ _ _ h => h))), .inr (.inr (.inr (fun _ _ _ _ _ h => h))), .inr (.inr (.inr (fun _ _ _ _ _ h => h))), .inr (.inr (.inr (fun _ _ _ _ _ h => h))), .inr (.inr (.inr (fun _ _ _ _ _ h => h))), .inr (.inr (.inr (fun _ _ _ _ _ h => h))), .inr (.inr (.inr (fun _ _ _ _ h h0 => by cases h; exact h0))), .inr (.inr (.inr (fun _ _ _ _ _ h => h))), .inr (.inr (.inr (fun _ _ _ _ _ h => h))), .inr (.inr (.inr (fun _ _ _ _ _ h => h))), .inr (.inr (.inr (fun _ _ _ _ _ h => h))), .inr (.inr (.inr (fun _ _ _ _ _ h => h))), .inr (.inr (.inr (fun _ _ _ _ _ h => h))), .inr (.inr (.inr (fun _ _ _ _ _ h => h))), .inr (.inr (.inr (fun _ _ _ _ _ h => h))), .inr (.inr (.inr (fun _ _ _ _ _ h => h))), .inr (.inr (.inr (fun _ _ _ _ _ h => h))), .inr (.inr (.inr (fun _ _ _ _ _ h => h))), .inr (.inr (.inr (fun _ _ _ _ _ h => h))), .inr (.inr (.inr (fun _ _ _ _ _ h => h))), .inr (.inr (.inr (fun _ _ _ _ _ h => h))), .inl rfl, .inr (.inr (.inl rfl)), .inr (.inr (.inl rfl)), .inr (.inr (.inl rfl)), .inr (.inr (.inl rfl)), trivial⟩,
        ⟨.inr (.inr (.inr (fun _ _ _ _ _ h => h))), .inr (.inr (.inr (fun _ _ _ _ _ h => h))), .inr (.inr (.inr (fun _ _ _ _ _ h => h))), .inr (.inr (.inr (fun _ _ _ _ h h0 => by cases h; exact h0))), .inr (.inr (.inr (fun _ _ _ _ _ h => h))), .inr (.inr (.inr (fun _ _ _ _ _ h => h))), .inr (.inr (.inr (fun _ _ _ _ _ h => h))), .inr (.inr (.inr (fun _ _ _ _ _ h => h))), .inr (.inr (.inr (fun _ _ _ _ _ h => h))), .inr (.inr (.inr (fun _ _ _ _ _ h => h))), .inr (.inr (.inr (fun _ _ _ _ _ h => h))), .inr (.inr (.inr (fun _ _ _ _ _ h => h))), .inr (.inr (.inr (fun _ _ _ _ _ h => h))), .inr (.inr (.inr (fun _ _ _ _ _ h => h))), .inr (.inr (.inr (fun _ _ _ _ h h0 => by cases h; exact h0))), .inr (.inr (.inr (fun _ _ _ _ _ h => h))), .inr (.inr (.inr (fun _ _ _ _ _ h => h))), .inr (.inr (.inr (fun _ _ _ _ _ h => h))), .inr (.inr (.inr (fun _ _ _ _ _ h => h))), .inr (.inr (.inr (fun _ _ _ _ _ h => h))), .inr (.inr (.inr (fun _ _ _ _ _ h => h))), .inr (.inr (.inr (fun _ _ _ _ _ h => h))), .inr (.inr (.inr (fun _ _ _ _ _ h => h))), .inr (.inr (.inr (fun _ _ _ _ _ h => h))), .inr (.inr (.inr (fun _ _ _ _ _ h => h))), .inr (.inr (.inr (fun _ _ _ _ _ h => h))), .inr (.inr (.inr (fun _ _ _ _ _ h => h))), .inr (.inr (.inr (fun _ _ _ _ _ h => h))), .inr (.inr (.inr (fun _ _ _ _ _ h => h))), .inr (.inr (.inr (fun _ _ _ _ _ h => h))), .inl rfl, .inr (.inr (.inl rfl)), .inr (.inr (.inl rfl)), .inr (.inr (.inl rfl)), trivial⟩,
        ⟨.inr (.inr (.inr (fun _ _ _ _ _ h => h))), .inr (.inr (.inr (fun _ _ _ _ _ h => h))), .inr (.inr (.inr (fun _ _ _ _ _ h => h))), .inr (.inr (.inr (fun _ _ _ _ h ⟨a, b, e, o⟩ => ⟨a, b, e, o.below h (Nat.le_refl _)⟩))), .inr (.inr (.inr (fun _ _ _ _ _ h => h))), .inr (.inr (.inr (fun _ _ _ _ _ h => h))), .inr (.inr (.inr (fun _ _ _ _ _ h => h))), .inr (.inr (.inr (fun _ _ _ _ _ h => h))), .inr (.inr (.inr (fun _ _ _ _ _ h => h))), .inr (.inr (.inr (fun _ _ _ _ _ h => h))), .inr (.inr (.inr (fun _ _ _ _ _ h => h))), .inr (.inr (.inr (fun _ _ _ _ _ h => h))), .inr (.inr (.inr (fun _ _ _ _ _ h => h))), .inr (.inr (.inr (fun _ _ _ _ _ h => h))), .inr (.inr (.inr (fun _ _ _ _ h ⟨a, b, e, o⟩ => ⟨a, b, e, o.below h (Nat.le_refl _)⟩))), .inr (.inr (.inr (fun _ _ _ _ _ h => h))), .inr (.inr (.inr (fun _ _ _ _ _ h => h))), .inr (.inr (.inr (fun _ _ _ _ _ h => h))), .inr (.inr (.inr (fun _ _ _ _ _ h => h))), .inr (.inr (.inr (fun _ _ _ _ _ h => h))), .inr (.inr (.inr (fun _ _ _ _ _ h => h))), .inr (.inr (.inr (fun _ _ _ _ _ h => h))), .inr (.inr (.inr (fun _ _ _ _ _ h => h))), .inr (.inr (.inr (fun _ _ _ _ _ h => h))), .inr (.inr (.inr (fun _ _ _ _ _ h => h))), .inr (.inr (.inr (fun _ _ _ _ _ h => h))), .inr (.inr (.inr (fun _ _ _ _ _ h => h))), .inr (.inr (.inr (fun _ _ _ _ _ h => h))), .inr (.inr (.inr (fun _ _ _ _ _ h => h))), .inr (.inr (.inr (fun _ _ _ _ _ h => h))), .inr (.inr (.inr (fun _ _ _ _ _ h => h))), .inl rfl, .inr (.inr (.inl rfl)), .inr (.inr (.inl rfl)), trivial⟩,
        ⟨.inr (.inr (.inr (fun _ _ _ _ _ h => h))), .inr (.inr (.inr (fun _ _ _ _ _ h => h))), .inr (.inr (.inr (fun _ _ _ _ _ h => h))), .inr (.inr (.inr (fun _ _ _ _ h h0 => by cases h; exact h0))), .inr (.inr (.inr (fun _ _ _ _ _ h => h))), .inr (.inr (.inr (fun _ _ _ _ _ h => h))), .inr (.inr (.inr (fun _ _ _ _ _ h => h))), .inr (.inr (.inr (fun _ _ _ _ _ h => h))), .inr (.inr (.inr (fun _ _ _ _ _ h => h))), .inr (.inr (.inr (fun _ _ _ _ _ h => h))), .inr (.inr (.inr (fun _ _ _ _ _ h => h))), .inr (.inr (.inr (fun _ _ _ _ _ h => h))), .inr (.inr (.inr (fun _ _ _ _ _ h => h))), .inr (.inr (.inr (fun _ _ _ _ _ h => h))), .inr (.inr (.inr (fun _ _ _ _ h h0 => by cases h; exact h0))), .inr (.inr (.inr (fun _ _ _ _ _ h => h))), .inr (.inr (.inr (fun _ _ _ _ _ h => h))), .inr (.inr (.inr (fun _ _ _ _ _ h => h))), .inr (.inr (.inr (fun _ _ _ _ _ h => h))), .inr (.inr (.inr (fun _ _ _ _ _ h => h))), .inr (.inr (.inr (fun _ _ _ _ _ h => h))), .inr (.inr (.inr (fun _ _ _ _ _ h => h))), .inr (.inr (.inr (fun _ _ _ _ _ h => h))), .inr (.inr (.inr (fun _ _ _ _ _ h => h))), .inr (.inr (.inr (fun _ _ _ _ _ h => h))), .inr (.inr (.inr (fun _ _ _ _ _ h => h))), .inr (.inr (.inr (fun _ _ _ _ _ h => h))), .inr (.inr (.inr (fun _ _ _ _ _ h => h))), .inr (.inr (.inr (fun _ _ _ _ _ h => h))), .inr (.inr (.inr (fun _ _ _ _ _ h => h))), .inr (.inr (.inr (fun _ _ _ _ _ h => h))), .inr (.inr (.inr (fun _ _ _ _ _ h => h))), .inl rfl, .inr (.inr (.inl rfl)), trivial⟩,
        ⟨.inr (.inr (.inr (fun _ _ _ _ _ h => h))), .inr (.inr (.inr (fun _ _ _ _ _ h => h))), .inr (.inr (.inr (fun _ _ _ _ _ h => h))), .inr (.inr (.inr (fun _ _ _ _ h h0 => by cases h; exact h0))), .inr (.inr (.inr (fun _ _ _ _ _ h => h))), .inr (.inr (.inr (fun _ _ _ _ _ h => h))), .inr (.inr (.inr (fun _ _ _ _ _ h => h))), .inr (.inr (.inr (fun _ _ _ _ _ h => h))), .inr (.inr (.inr (fun _ _ _ _ _ h => h))), .inr (.inr (.inr (fun _ _ _ _ _ h => h))), .inr (.inr (.inr (fun _ _ _ _ _ h => h))), .inr (.inr (.inr (fun _ _ _ _ _ h => h))), .inr (.inr (.inr (fun _ _ _ _ _ h => h))), .inr (.inr (.inr (fun _ _ _ _ _ h => h))), .inr (.inr (.inr (fun _ _ _ _ h h0 => by cases h; exact h0))), .inr (.inr (.inr (fun _ _ _ _ _ h => h))), .inr (.inr (.inr (fun _ _ _ _ _ h => h))), .inr (.inr (.inr (fun _ _ _ _ _ h => h))), .inr (.inr (.inr (fun _ _ _ _ _ h => h))), .inr (.inr (.inr (fun _ _ _ _ _ h => h))), .inr (.inr (.inr (fun _ _ _ _ _ h => h))), .inr (.inr (.inr (fun _ _ _ _ _ h => h))), .inr (.inr (.inr (fun _ _ _ _ _ h => h))), .inr (.inr (.inr (fun _ _ _ _ _ h => h))), .inr (.inr (.inr (fun _ _ _ _ _ h => h))), .inr (.inr (.inr (fun _ _ _ _ _ h => h))), .inr (.inr (.inr (fun _ _ _ _ _ h => h))), .inr (.inr (.inr (fun _ _ _ _ _ h => h))), .inr (.inr (.inr (fun _ _ _ _ _ h => h))), .inr (.inr (.inr (fun _ _ _ _ _ h => h))), .inr (.inr (.inr (fun _ _ _ _ _ h => h))), .inr (.inr (.inr (fun _ _ _ _ _ h => h))), .inr (.inr (.inr (fun _ _ _ _ _ h => h))), .inl rfl, trivial⟩, trivial⟩
    · refine ⟨?_, ?_, ?_, ?_, ?_, ?_, ?_, ?_, ?_, ?_, ?_, ?_, ?_, ?_, ?_, ?_, ?_, ?_, ?_, ?_, ?_, ?_, ?_, ?_, ?_, ?_, ?_, ?_, ?_, ?_, ?_, ?_, ?_, ?_, trivial⟩
      · -- 0: Op.move (Operand.tmp 3)
        refine step_plain [] (fun _ => rfl) rfl ?_
        intro w1 vals hC1 hi0 hf E hE
        clear hi0
        clear hf
        simp only [puts, act_put, act_put_none, List.setIfInBounds_toArray, List.set_cons_zero, List.set_cons_succ] at hE ⊢
        go_wp2
        exact .mk (hE _ _ rfl hC1 rfl)
      · -- 1: Op.convert 26 9 (Operand.tmp 54)
        refine step_plain [(0, some 54)] (fun _ => rfl) rfl ?_
        intro w1 vals hC1 hi0 hf E hE
        clear hi0
        have f0 : vals 0 = .slice PA (packB m).length PC := hf 0 rfl
        try dsimp only at f0
        clear hf
        simp only [puts, act_put, act_put_none, List.setIfInBounds_toArray, List.set_cons_zero, List.set_cons_succ, f0] at hE ⊢
        clear f0
        refine wpList_str_of (Q2.out.below hC1) Try.underlying26 Try.underlying5 Try.underlying9 rfl rfl rfl ?_
        rw [← HSA.out]
        go_wp2_with fail
        exact .mk (hE _ _ rfl hC1 rfl)
      · -- 2: Op.load 24 (Operand.tmp 1)
        refine step_plain [] (fun _ => rfl) rfl ?_
        intro w1 vals hC1 hi0 hf E hE
        clear hi0
        clear hf
        simp only [puts, act_put, act_put_none, List.setIfInBounds_toArray, List.set_cons_zero, List.set_cons_succ] at hE ⊢
        refine wpList_get_box (Q4.out.below hC1 hbl) rfl rfl rfl hu rfl msg_size ?_
        go_wp2_with fail
        exact .mk (hE _ _ rfl hC1 rfl)
      · -- 3: Op.call { callee := Callee.value (Operand.func 14), args := #[Operand.tmp 56], argTypes := #[24] }
        refine step_plain [(2, some 56)] (fun _ => rfl) rfl ?_
        intro w1 vals hC1 hi0 hf E hE
        clear hi0
        have f2 : vals 2 = .agg (msgCells m A c) := hf 2 rfl
        try dsimp only at f2
        clear hf
        simp only [puts, act_put, act_put_none, List.setIfInBounds_toArray, List.set_cons_zero, List.set_cons_succ, f2] at hE ⊢
        clear f2
        go_wp2_with fail
        refine calls_then (rpack_any m A c w8.heap.size _ (Q1.out.below hC1) hC1.size HC.out HMM.out) ?_
        rintro e w2 ⟨A3, c3, rfl, o3, hg3, -⟩
        have hb2 : Below w1.heap.size w1 w2 := below_of_grown hg3 (Nat.le_refl _) (fun k hk => by simp [Value.ownBlock] at hk)
        go_wp2_with fail
        exact .mk (hE _ _ ⟨A3, c3, rfl, o3.mono hC1.size⟩ (hC1.trans (hb2.mono hC1.size)) hb2)
      · -- 4: Op.convert 26 9 (Operand.tmp 57)
        refine step_plain [(3, some 57)] (fun _ => rfl) rfl ?_
        intro w1 vals hC1 hi0 hf E hE
        clear hi0
        have f3 : (fun z u => ∃ A3 c3, z 3 = .slice A3 (packB m).length c3 ∧ OwnX u w8.heap.size 5 1 (.slice A3 (packB m).length c3) (packB m).length (bytesV (packB m))) vals w1 := hf 3 rfl
        try dsimp only at f3
        clear hf
        obtain ⟨A3, c3, hx3, o3⟩ := f3
        simp only [puts, act_put, act_put_none, List.setIfInBounds_toArray, List.set_cons_zero, List.set_cons_succ, hx3] at hE ⊢
        clear hx3
        refine wpList_str_of (Rd.of_own o3 (Nat.le_refl _)) Try.underlying26 Try.underlying5 Try.underlying9 rfl rfl rfl ?_
        rw [← HSA.out]
        go_wp2_with fail
        exact .mk (hE _ _ rfl hC1 rfl)
      · -- 5: Op.binOp BinOp.eql 9 (Operand.tmp 55) (Operand.tmp 58) 9
        refine step_plain [(1, some 55), (4, some 58)] (fun _ => rfl) rfl ?_
        intro w1 vals hC1 hi0 hf E hE
        clear hi0
        have f1 : vals 1 = .string SA := hf 1 rfl
        have f4 : vals 4 = .string SA := hf 4 rfl
        try dsimp only at f1 f4
        clear hf
        simp only [puts, act_put, act_put_none, List.setIfInBounds_toArray, List.set_cons_zero, List.set_cons_succ, f1, f4] at hE ⊢
        clear f1 f4
        go_wp2
        exact .mk (hE _ _ rfl hC1 rfl)
      · -- 6: Op.move (Operand.tmp 59)
        refine step_plain [(5, some 59), (3, some 57)] (fun _ => rfl) rfl ?_
        intro w1 vals hC1 hi0 hf E hE
        clear hi0
        have f3 : (fun z u => ∃ A3 c3, z 3 = .slice A3 (packB m).length c3 ∧ OwnX u w8.heap.size 5 1 (.slice A3 (packB m).length c3) (packB m).length (bytesV (packB m))) vals w1 := hf 3 rfl
        have f5 : vals 5 = .bool true := hf 5 rfl
        try dsimp only at f3 f5
        clear hf
        simp only [puts, act_put, act_put_none, List.setIfInBounds_toArray, List.set_cons_zero, List.set_cons_succ, f5] at hE ⊢
        clear f5
        go_wp2
        exact .mk (hE _ _ rfl hC1 rfl)
      · -- 7: Op.move (Operand.tmp 4)
        refine step_guard [(6, some 60)] (fun _ => rfl) 6 60 true rfl rfl ?_ ?_
        · intro w1 vals hC1 hi0 hf hy E hE
          dsimp only at hE ⊢
          clear hi0
          have f6 : vals 6 = .bool true := hf 6 rfl
          try dsimp only at f6
          clear hf
          clear hy
          simp only [puts, act_put, act_put_none, List.setIfInBounds_toArray, List.set_cons_zero, List.set_cons_succ, f6] at hE ⊢
          clear f6
          go_wp2
          exact .mk (hE _ _ rfl hC1 rfl)
        · intro w1 vals hC1 hi0 hf hy
          clear hi0
          have f6 : vals 6 = .bool true := hf 6 rfl
          try dsimp only at f6
          clear hf
          exact absurd (by simp only [puts, act_put, act_put_none, List.setIfInBounds_toArray, List.set_cons_zero, List.set_cons_succ, f6]; rfl) hy
      · -- 8: Op.binOp BinOp.eql 27 (Operand.tmp 61) (Operand.const (Value.int IntKind.i64 0)) 27
        refine step_guard [(7, some 61), (6, some 60)] (fun _ => rfl) 6 60 true rfl rfl ?_ ?_
        · intro w1 vals hC1 hi0 hf hy E hE
          dsimp only at hE ⊢
          clear hi0
          have f6 : vals 6 = .bool true := hf 6 rfl
          have f7 : vals 7 = .int .i64 0 := hf 7 rfl
          try dsimp only at f6 f7
          clear hf
          clear hy
          simp only [puts, act_put, act_put_none, List.setIfInBounds_toArray, List.set_cons_zero, List.set_cons_succ, f6, f7] at hE ⊢
          clear f6 f7
          go_wp2
          exact .mk (hE _ _ rfl hC1 rfl)
        · intro w1 vals hC1 hi0 hf hy
          clear hi0
          have f6 : vals 6 = .bool true := hf 6 rfl
          have f7 : vals 7 = .int .i64 0 := hf 7 rfl
          try dsimp only at f6 f7
          clear hf
          exact absurd (by simp only [puts, act_put, act_put_none, List.setIfInBounds_toArray, List.set_cons_zero, List.set_cons_succ, f6]; rfl) hy
      · -- 9: Op.pick (Operand.tmp 60) (Operand.tmp 62) (Operand.const (Value.bool false))
        refine step_plain [(6, some 60), (8, some 62)] (fun _ => rfl) rfl ?_
        intro w1 vals hC1 hi0 hf E hE
        clear hi0
        have f6 : vals 6 = .bool true := hf 6 rfl
        have f8 : vals 8 = .bool true := hf 8 rfl
        try dsimp only at f6 f8
        clear hf
        simp only [puts, act_put, act_put_none, List.setIfInBounds_toArray, List.set_cons_zero, List.set_cons_succ, f6, f8] at hE ⊢
        clear f6 f8
        go_wp2
        exact .mk (hE _ _ rfl hC1 rfl)
      · -- 10: Op.move (Operand.tmp 63)
        refine step_plain [(9, some 63), (6, some 60)] (fun _ => rfl) rfl ?_
        intro w1 vals hC1 hi0 hf E hE
        clear hi0
        have f6 : vals 6 = .bool true := hf 6 rfl
        have f9 : vals 9 = .bool true := hf 9 rfl
        try dsimp only at f6 f9
        clear hf
        simp only [puts, act_put, act_put_none, List.setIfInBounds_toArray, List.set_cons_zero, List.set_cons_succ, f6, f9] at hE ⊢
        clear f6 f9
        go_wp2
        exact .mk (hE _ _ rfl hC1 rfl)
      · -- 11: Op.move (Operand.tmp 5)
        refine step_guard [(10, some 64)] (fun _ => rfl) 10 64 true rfl rfl ?_ ?_
        · intro w1 vals hC1 hi0 hf hy E hE
          dsimp only at hE ⊢
          clear hi0
          have f10 : vals 10 = .bool true := hf 10 rfl
          try dsimp only at f10
          clear hf
          clear hy
          simp only [puts, act_put, act_put_none, List.setIfInBounds_toArray, List.set_cons_zero, List.set_cons_succ, f10] at hE ⊢
          clear f10
          go_wp2
          exact .mk (hE _ _ rfl hC1 rfl)
        · intro w1 vals hC1 hi0 hf hy
          clear hi0
          have f10 : vals 10 = .bool true := hf 10 rfl
          try dsimp only at f10
          clear hf
          exact absurd (by simp only [puts, act_put, act_put_none, List.setIfInBounds_toArray, List.set_cons_zero, List.set_cons_succ, f10]; rfl) hy
      · -- 12: Op.convert 26 9 (Operand.tmp 65)
        refine step_guard [(11, some 65), (10, some 64)] (fun _ => rfl) 10 64 true rfl rfl ?_ ?_
        · intro w1 vals hC1 hi0 hf hy E hE
          dsimp only at hE ⊢
          clear hi0
          have f10 : vals 10 = .bool true := hf 10 rfl
          have f11 : vals 11 = .slice TA (textB m).length TC := hf 11 rfl
          try dsimp only at f10 f11
          clear hf
          clear hy
          simp only [puts, act_put, act_put_none, List.setIfInBounds_toArray, List.set_cons_zero, List.set_cons_succ, f10, f11] at hE ⊢
          clear f10 f11
          refine wpList_str_of (Q3.out.below hC1) Try.underlying26 Try.underlying5 Try.underlying9 rfl rfl rfl ?_
          rw [← HSB.out]
          go_wp2_with fail
          exact .mk (hE _ _ rfl hC1 rfl)
        · intro w1 vals hC1 hi0 hf hy
          clear hi0
          have f10 : vals 10 = .bool true := hf 10 rfl
          have f11 : vals 11 = .slice TA (textB m).length TC := hf 11 rfl
          try dsimp only at f10 f11
          clear hf
          exact absurd (by simp only [puts, act_put, act_put_none, List.setIfInBounds_toArray, List.set_cons_zero, List.set_cons_succ, f10]; rfl) hy
      · -- 13: Op.load 24 (Operand.tmp 1)
        refine step_guard [(10, some 64)] (fun _ => rfl) 10 64 true rfl rfl ?_ ?_
        · intro w1 vals hC1 hi0 hf hy E hE
          dsimp only at hE ⊢
          clear hi0
          have f10 : vals 10 = .bool true := hf 10 rfl
          try dsimp only at f10
          clear hf
          clear hy
          simp only [puts, act_put, act_put_none, List.setIfInBounds_toArray, List.set_cons_zero, List.set_cons_succ, f10] at hE ⊢
          clear f10
          refine wpList_get_box (Q4.out.below hC1 hbl) rfl rfl rfl hu rfl msg_size ?_
          go_wp2_with fail
          exact .mk (hE _ _ rfl hC1 rfl)
        · intro w1 vals hC1 hi0 hf hy
          clear hi0
          have f10 : vals 10 = .bool true := hf 10 rfl
          try dsimp only at f10
          clear hf
          exact absurd (by simp only [puts, act_put, act_put_none, List.setIfInBounds_toArray, List.set_cons_zero, List.set_cons_succ, f10]; rfl) hy
      · -- 14: Op.call { callee := Callee.value (Operand.func 15), args := #[Operand.tmp 67], argTypes := #[24] }
        refine step_guard [(13, some 67), (10, some 64), (10, some 64)] (fun _ => rfl) 10 64 true rfl rfl ?_ ?_
        · intro w1 vals hC1 hi0 hf hy E hE
          dsimp only at hE ⊢
          clear hi0
          have f10 : vals 10 = .bool true := hf 10 rfl
          have f13 : vals 13 = .agg (msgCells m A c) := hf 13 rfl
          try dsimp only at f10 f13
          clear hf
          clear hy
          simp only [puts, act_put, act_put_none, List.setIfInBounds_toArray, List.set_cons_zero, List.set_cons_succ, f10, f13] at hE ⊢
          clear f10 f13
          go_wp2_with fail
          refine calls_then (rbody_any m A c w8.heap.size _ (Q1.out.below hC1) hC1.size HC.out HMM.out) ?_
          rintro e w2 ⟨A3, c3, rfl, o3, hg3, -⟩
          have hb2 : Below w1.heap.size w1 w2 := below_of_grown hg3 (Nat.le_refl _) (fun k hk => by simp [Value.ownBlock] at hk)
          go_wp2_with fail
          exact .mk (hE _ _ ⟨A3, c3, rfl, o3.mono hC1.size⟩ (hC1.trans (hb2.mono hC1.size)) hb2)
        · intro w1 vals hC1 hi0 hf hy
          clear hi0
          have f10 : vals 10 = .bool true := hf 10 rfl
          have f13 : vals 13 = .agg (msgCells m A c) := hf 13 rfl
          try dsimp only at f10 f13
          clear hf
          exact absurd (by simp only [puts, act_put, act_put_none, List.setIfInBounds_toArray, List.set_cons_zero, List.set_cons_succ, f10]; rfl) hy
      · -- 15: Op.convert 26 9 (Operand.tmp 68)
        refine step_guard [(14, some 68), (10, some 64)] (fun _ => rfl) 10 64 true rfl rfl ?_ ?_
        · intro w1 vals hC1 hi0 hf hy E hE
          dsimp only at hE ⊢
          clear hi0
          have f10 : vals 10 = .bool true := hf 10 rfl
          have f14 : (fun z u => ∃ A3 c3, z 14 = .slice A3 (bodyB m).length c3 ∧ OwnX u w8.heap.size 5 1 (.slice A3 (bodyB m).length c3) (bodyB m).length (bytesV (bodyB m))) vals w1 := hf 14 rfl
          try dsimp only at f10 f14
          clear hf
          clear hy
          obtain ⟨A3, c3, hx3, o3⟩ := f14
          simp only [puts, act_put, act_put_none, List.setIfInBounds_toArray, List.set_cons_zero, List.set_cons_succ, f10, hx3] at hE ⊢
          clear f10
          clear hx3
          refine wpList_str_of (Rd.of_own o3 (Nat.le_refl _)) Try.underlying26 Try.underlying5 Try.underlying9 rfl rfl rfl ?_
          rw [← HSC.out]
          go_wp2_with fail
          exact .mk (hE _ _ rfl hC1 rfl)
        · intro w1 vals hC1 hi0 hf hy
          clear hi0
          have f10 : vals 10 = .bool true := hf 10 rfl
          have f14 : (fun z u => ∃ A3 c3, z 14 = .slice A3 (bodyB m).length c3 ∧ OwnX u w8.heap.size 5 1 (.slice A3 (bodyB m).length c3) (bodyB m).length (bytesV (bodyB m))) vals w1 := hf 14 rfl
          try dsimp only at f10 f14
          clear hf
          exact absurd (by simp only [puts, act_put, act_put_none, List.setIfInBounds_toArray, List.set_cons_zero, List.set_cons_succ, f10]; rfl) hy
      · -- 16: Op.binOp BinOp.add 9 (Operand.const (Value.string { data := #[98, 114, 101, 118, 101, 116, 47] })) (Operand.tm
        refine step_guard [(15, some 69), (10, some 64)] (fun _ => rfl) 10 64 true rfl rfl ?_ ?_
        · intro w1 vals hC1 hi0 hf hy E hE
          dsimp only at hE ⊢
          clear hi0
          have f10 : vals 10 = .bool true := hf 10 rfl
          have f15 : vals 15 = .string SC := hf 15 rfl
          try dsimp only at f10 f15
          clear hf
          clear hy
          have hsz := HSZ.out
          simp only [puts, act_put, act_put_none, List.setIfInBounds_toArray, List.set_cons_zero, List.set_cons_succ, f10, f15] at hE ⊢
          clear f10 f15
          go_wp2_with fail
          rw [HAB.out]
          exact .mk (hE _ _ rfl hC1 rfl)
        · intro w1 vals hC1 hi0 hf hy
          clear hi0
          have f10 : vals 10 = .bool true := hf 10 rfl
          have f15 : vals 15 = .string SC := hf 15 rfl
          try dsimp only at f10 f15
          clear hf
          exact absurd (by simp only [puts, act_put, act_put_none, List.setIfInBounds_toArray, List.set_cons_zero, List.set_cons_succ, f10]; rfl) hy
      · -- 17: Op.binOp BinOp.eql 9 (Operand.tmp 66) (Operand.tmp 70) 9
        refine step_guard [(12, some 66), (16, some 70), (10, some 64)] (fun _ => rfl) 10 64 true rfl rfl ?_ ?_
        · intro w1 vals hC1 hi0 hf hy E hE
          dsimp only at hE ⊢
          clear hi0
          have f10 : vals 10 = .bool true := hf 10 rfl
          have f12 : vals 12 = .string SB := hf 12 rfl
          have f16 : vals 16 = .string SB := hf 16 rfl
          try dsimp only at f10 f12 f16
          clear hf
          clear hy
          simp only [puts, act_put, act_put_none, List.setIfInBounds_toArray, List.set_cons_zero, List.set_cons_succ, f10, f12, f16] at hE ⊢
          clear f10 f12 f16
          go_wp2
          exact .mk (hE _ _ rfl hC1 rfl)
        · intro w1 vals hC1 hi0 hf hy
          clear hi0
          have f10 : vals 10 = .bool true := hf 10 rfl
          have f12 : vals 12 = .string SB := hf 12 rfl
          have f16 : vals 16 = .string SB := hf 16 rfl
          try dsimp only at f10 f12 f16
          clear hf
          exact absurd (by simp only [puts, act_put, act_put_none, List.setIfInBounds_toArray, List.set_cons_zero, List.set_cons_succ, f10]; rfl) hy
      · -- 18: Op.pick (Operand.tmp 64) (Operand.tmp 71) (Operand.const (Value.bool false))
        refine step_plain [(10, some 64), (17, some 71)] (fun _ => rfl) rfl ?_
        intro w1 vals hC1 hi0 hf E hE
        clear hi0
        have f10 : vals 10 = .bool true := hf 10 rfl
        have f17 : vals 17 = .bool true := hf 17 rfl
        try dsimp only at f10 f17
        clear hf
        simp only [puts, act_put, act_put_none, List.setIfInBounds_toArray, List.set_cons_zero, List.set_cons_succ, f10, f17] at hE ⊢
        clear f10 f17
        go_wp2
        exact .mk (hE _ _ rfl hC1 rfl)
      · -- 19: Op.move (Operand.tmp 72)
        refine step_plain [(18, some 72), (14, some 68)] (fun _ => rfl) rfl ?_
        intro w1 vals hC1 hi0 hf E hE
        clear hi0
        have f14 : (fun z u => ∃ A3 c3, z 14 = .slice A3 (bodyB m).length c3 ∧ OwnX u w8.heap.size 5 1 (.slice A3 (bodyB m).length c3) (bodyB m).length (bytesV (bodyB m))) vals w1 := hf 14 rfl
        have f18 : vals 18 = .bool true := hf 18 rfl
        try dsimp only at f14 f18
        clear hf
        simp only [puts, act_put, act_put_none, List.setIfInBounds_toArray, List.set_cons_zero, List.set_cons_succ, f18] at hE ⊢
        clear f18
        go_wp2
        exact .mk (hE _ _ rfl hC1 rfl)
      · -- 20: Op.move (Operand.tmp 6)
        refine step_guard [(19, some 73)] (fun _ => rfl) 19 73 true rfl rfl ?_ ?_
        · intro w1 vals hC1 hi0 hf hy E hE
          dsimp only at hE ⊢
          clear hi0
          have f19 : vals 19 = .bool true := hf 19 rfl
          try dsimp only at f19
          clear hf
          clear hy
          simp only [puts, act_put, act_put_none, List.setIfInBounds_toArray, List.set_cons_zero, List.set_cons_succ, f19] at hE ⊢
          clear f19
          go_wp2
          exact .mk (hE _ _ rfl hC1 rfl)
        · intro w1 vals hC1 hi0 hf hy
          clear hi0
          have f19 : vals 19 = .bool true := hf 19 rfl
          try dsimp only at f19
          clear hf
          exact absurd (by simp only [puts, act_put, act_put_none, List.setIfInBounds_toArray, List.set_cons_zero, List.set_cons_succ, f19]; rfl) hy
      · -- 21: Op.binOp BinOp.eql 27 (Operand.tmp 74) (Operand.const (Value.int IntKind.i64 0)) 27
        refine step_guard [(20, some 74), (19, some 73)] (fun _ => rfl) 19 73 true rfl rfl ?_ ?_
        · intro w1 vals hC1 hi0 hf hy E hE
          dsimp only at hE ⊢
          clear hi0
          have f19 : vals 19 = .bool true := hf 19 rfl
          have f20 : vals 20 = .int .i64 0 := hf 20 rfl
          try dsimp only at f19 f20
          clear hf
          clear hy
          simp only [puts, act_put, act_put_none, List.setIfInBounds_toArray, List.set_cons_zero, List.set_cons_succ, f19, f20] at hE ⊢
          clear f19 f20
          go_wp2
          exact .mk (hE _ _ rfl hC1 rfl)
        · intro w1 vals hC1 hi0 hf hy
          clear hi0
          have f19 : vals 19 = .bool true := hf 19 rfl
          have f20 : vals 20 = .int .i64 0 := hf 20 rfl
          try dsimp only at f19 f20
          clear hf
          exact absurd (by simp only [puts, act_put, act_put_none, List.setIfInBounds_toArray, List.set_cons_zero, List.set_cons_succ, f19]; rfl) hy
      · -- 22: Op.pick (Operand.tmp 73) (Operand.tmp 75) (Operand.const (Value.bool false))
        refine step_plain [(19, some 73), (21, some 75)] (fun _ => rfl) rfl ?_
        intro w1 vals hC1 hi0 hf E hE
        clear hi0
        have f19 : vals 19 = .bool true := hf 19 rfl
        have f21 : vals 21 = .bool true := hf 21 rfl
        try dsimp only at f19 f21
        clear hf
        simp only [puts, act_put, act_put_none, List.setIfInBounds_toArray, List.set_cons_zero, List.set_cons_succ, f19, f21] at hE ⊢
        clear f19 f21
        go_wp2
        exact .mk (hE _ _ rfl hC1 rfl)
      · -- 23: Op.move (Operand.tmp 76)
        refine step_plain [(22, some 76), (19, some 73)] (fun _ => rfl) rfl ?_
        intro w1 vals hC1 hi0 hf E hE
        clear hi0
        have f19 : vals 19 = .bool true := hf 19 rfl
        have f22 : vals 22 = .bool true := hf 22 rfl
        try dsimp only at f19 f22
        clear hf
        simp only [puts, act_put, act_put_none, List.setIfInBounds_toArray, List.set_cons_zero, List.set_cons_succ, f19, f22] at hE ⊢
        clear f19 f22
        go_wp2
        exact .mk (hE _ _ rfl hC1 rfl)
      · -- 24: Op.move (Operand.tmp 10)
        refine step_guard [(23, some 77)] (fun _ => rfl) 23 77 true rfl rfl ?_ ?_
        · intro w1 vals hC1 hi0 hf hy E hE
          dsimp only at hE ⊢
          clear hi0
          have f23 : vals 23 = .bool true := hf 23 rfl
          try dsimp only at f23
          clear hf
          clear hy
          simp only [puts, act_put, act_put_none, List.setIfInBounds_toArray, List.set_cons_zero, List.set_cons_succ, f23] at hE ⊢
          clear f23
          go_wp2
          exact .mk (hE _ _ rfl hC1 rfl)
        · intro w1 vals hC1 hi0 hf hy
          clear hi0
          have f23 : vals 23 = .bool true := hf 23 rfl
          try dsimp only at f23
          clear hf
          exact absurd (by simp only [puts, act_put, act_put_none, List.setIfInBounds_toArray, List.set_cons_zero, List.set_cons_succ, f23]; rfl) hy
      · -- 25: Op.pick (Operand.tmp 77) (Operand.tmp 78) (Operand.const (Value.bool false))
        refine step_plain [(23, some 77), (24, some 78)] (fun _ => rfl) rfl ?_
        intro w1 vals hC1 hi0 hf E hE
        clear hi0
        have f23 : vals 23 = .bool true := hf 23 rfl
        have f24 : vals 24 = .bool true := hf 24 rfl
        try dsimp only at f23 f24
        clear hf
        simp only [puts, act_put, act_put_none, List.setIfInBounds_toArray, List.set_cons_zero, List.set_cons_succ, f23, f24] at hE ⊢
        clear f23 f24
        go_wp2
        exact .mk (hE _ _ rfl hC1 rfl)
      · -- 26: Op.move (Operand.tmp 79)
        refine step_plain [(25, some 79), (23, some 77)] (fun _ => rfl) rfl ?_
        intro w1 vals hC1 hi0 hf E hE
        clear hi0
        have f23 : vals 23 = .bool true := hf 23 rfl
        have f25 : vals 25 = .bool true := hf 25 rfl
        try dsimp only at f23 f25
        clear hf
        simp only [puts, act_put, act_put_none, List.setIfInBounds_toArray, List.set_cons_zero, List.set_cons_succ, f23, f25] at hE ⊢
        clear f23 f25
        go_wp2
        exact .mk (hE _ _ rfl hC1 rfl)
      · -- 27: Op.move (Operand.tmp 9)
        refine step_guard [(26, some 80)] (fun _ => rfl) 26 80 true rfl rfl ?_ ?_
        · intro w1 vals hC1 hi0 hf hy E hE
          dsimp only at hE ⊢
          clear hi0
          have f26 : vals 26 = .bool true := hf 26 rfl
          try dsimp only at f26
          clear hf
          clear hy
          simp only [puts, act_put, act_put_none, List.setIfInBounds_toArray, List.set_cons_zero, List.set_cons_succ, f26] at hE ⊢
          clear f26
          go_wp2
          exact .mk (hE _ _ rfl hC1 rfl)
        · intro w1 vals hC1 hi0 hf hy
          clear hi0
          have f26 : vals 26 = .bool true := hf 26 rfl
          try dsimp only at f26
          clear hf
          exact absurd (by simp only [puts, act_put, act_put_none, List.setIfInBounds_toArray, List.set_cons_zero, List.set_cons_succ, f26]; rfl) hy
      · -- 28: Op.binOp BinOp.eql 27 (Operand.tmp 81) (Operand.const (Value.int IntKind.i64 0)) 27
        refine step_guard [(27, some 81), (26, some 80)] (fun _ => rfl) 26 80 true rfl rfl ?_ ?_
        · intro w1 vals hC1 hi0 hf hy E hE
          dsimp only at hE ⊢
          clear hi0
          have f26 : vals 26 = .bool true := hf 26 rfl
          have f27 : vals 27 = .int .i64 0 := hf 27 rfl
          try dsimp only at f26 f27
          clear hf
          clear hy
          simp only [puts, act_put, act_put_none, List.setIfInBounds_toArray, List.set_cons_zero, List.set_cons_succ, f26, f27] at hE ⊢
          clear f26 f27
          go_wp2
          exact .mk (hE _ _ rfl hC1 rfl)
        · intro w1 vals hC1 hi0 hf hy
          clear hi0
          have f26 : vals 26 = .bool true := hf 26 rfl
          have f27 : vals 27 = .int .i64 0 := hf 27 rfl
          try dsimp only at f26 f27
          clear hf
          exact absurd (by simp only [puts, act_put, act_put_none, List.setIfInBounds_toArray, List.set_cons_zero, List.set_cons_succ, f26]; rfl) hy
      · -- 29: Op.pick (Operand.tmp 80) (Operand.tmp 82) (Operand.const (Value.bool false))
        refine step_plain [(26, some 80), (28, some 82)] (fun _ => rfl) rfl ?_
        intro w1 vals hC1 hi0 hf E hE
        clear hi0
        have f26 : vals 26 = .bool true := hf 26 rfl
        have f28 : vals 28 = .bool true := hf 28 rfl
        try dsimp only at f26 f28
        clear hf
        simp only [puts, act_put, act_put_none, List.setIfInBounds_toArray, List.set_cons_zero, List.set_cons_succ, f26, f28] at hE ⊢
        clear f26 f28
        go_wp2
        exact .mk (hE _ _ rfl hC1 rfl)
      · -- 30: Op.move (Operand.tmp 83)
        refine step_plain [(29, some 83), (26, some 80)] (fun _ => rfl) rfl ?_
        intro w1 vals hC1 hi0 hf E hE
        clear hi0
        have f26 : vals 26 = .bool true := hf 26 rfl
        have f29 : vals 29 = .bool true := hf 29 rfl
        try dsimp only at f26 f29
        clear hf
        simp only [puts, act_put, act_put_none, List.setIfInBounds_toArray, List.set_cons_zero, List.set_cons_succ, f26, f29] at hE ⊢
        clear f26 f29
        go_wp2
        exact .mk (hE _ _ rfl hC1 rfl)
      · -- 31: Op.call { callee := Callee.value (Operand.func 8), args := #[], argTypes := #[] }
        refine step_guard [(30, some 84), (30, some 84)] (fun _ => rfl) 30 84 true rfl rfl ?_ ?_
        · intro w1 vals hC1 hi0 hf hy E hE
          dsimp only at hE ⊢
          clear hi0
          have f30 : vals 30 = .bool true := hf 30 rfl
          try dsimp only at f30
          clear hf
          clear hy
          simp only [puts, act_put, act_put_none, List.setIfInBounds_toArray, List.set_cons_zero, List.set_cons_succ, f30] at hE ⊢
          clear f30
          go_wp2_with fail
          refine calls_then (lives_any _) ?_
          rintro e w2 ⟨rfl, hb2⟩
          go_wp2_with fail
          exact .mk (hE _ _ rfl (hC1.trans (hb2.mono hC1.size)) hb2)
        · intro w1 vals hC1 hi0 hf hy
          clear hi0
          have f30 : vals 30 = .bool true := hf 30 rfl
          try dsimp only at f30
          clear hf
          exact absurd (by simp only [puts, act_put, act_put_none, List.setIfInBounds_toArray, List.set_cons_zero, List.set_cons_succ, f30]; rfl) hy
      · -- 32: Op.pick (Operand.tmp 84) (Operand.tmp 85) (Operand.const (Value.bool false))
        refine step_plain [(30, some 84), (31, some 85)] (fun _ => rfl) rfl ?_
        intro w1 vals hC1 hi0 hf E hE
        clear hi0
        have f30 : vals 30 = .bool true := hf 30 rfl
        have f31 : vals 31 = .bool true := hf 31 rfl
        try dsimp only at f30 f31
        clear hf
        simp only [puts, act_put, act_put_none, List.setIfInBounds_toArray, List.set_cons_zero, List.set_cons_succ, f30, f31] at hE ⊢
        clear f30 f31
        go_wp2
        exact .mk (hE _ _ rfl hC1 rfl)
      · -- 33: Op.assign (Operand.tmp 86)
        refine step_plain [(32, some 86), (31, some 85), (0, some 54), (1, some 55), (2, some 56), (3, some 57), (4, some 58), (5, some 59), (6, some 60), (7, some 61), (8, some 62), (9, some 63), (10, some 64), (11, some 65), (12, some 66), (13, some 67), (14, some 68), (15, some 69), (16, some 70), (17, some 71), (18, some 72), (19, some 73), (20, some 74), (21, some 75), (22, some 76), (23, some 77), (24, some 78), (25, some 79), (26, some 80), (27, some 81), (28, some 82), (29, some 83), (30, some 84), (31, some 85), (32, some 86)] (fun _ => rfl) rfl ?_
        intro w1 vals hC1 hi0 hf E hE
        clear hi0
        have f0 : vals 0 = .slice PA (packB m).length PC := hf 0 rfl
        have f1 : vals 1 = .string SA := hf 1 rfl
        have f2 : vals 2 = .agg (msgCells m A c) := hf 2 rfl
        have f3 : (fun z u => ∃ A3 c3, z 3 = .slice A3 (packB m).length c3 ∧ OwnX u w8.heap.size 5 1 (.slice A3 (packB m).length c3) (packB m).length (bytesV (packB m))) vals w1 := hf 3 rfl
        have f4 : vals 4 = .string SA := hf 4 rfl
        have f5 : vals 5 = .bool true := hf 5 rfl
        have f6 : vals 6 = .bool true := hf 6 rfl
        have f7 : vals 7 = .int .i64 0 := hf 7 rfl
        have f8 : vals 8 = .bool true := hf 8 rfl
        have f9 : vals 9 = .bool true := hf 9 rfl
        have f10 : vals 10 = .bool true := hf 10 rfl
        have f11 : vals 11 = .slice TA (textB m).length TC := hf 11 rfl
        have f12 : vals 12 = .string SB := hf 12 rfl
        have f13 : vals 13 = .agg (msgCells m A c) := hf 13 rfl
        have f14 : (fun z u => ∃ A3 c3, z 14 = .slice A3 (bodyB m).length c3 ∧ OwnX u w8.heap.size 5 1 (.slice A3 (bodyB m).length c3) (bodyB m).length (bytesV (bodyB m))) vals w1 := hf 14 rfl
        have f15 : vals 15 = .string SC := hf 15 rfl
        have f16 : vals 16 = .string SB := hf 16 rfl
        have f17 : vals 17 = .bool true := hf 17 rfl
        have f18 : vals 18 = .bool true := hf 18 rfl
        have f19 : vals 19 = .bool true := hf 19 rfl
        have f20 : vals 20 = .int .i64 0 := hf 20 rfl
        have f21 : vals 21 = .bool true := hf 21 rfl
        have f22 : vals 22 = .bool true := hf 22 rfl
        have f23 : vals 23 = .bool true := hf 23 rfl
        have f24 : vals 24 = .bool true := hf 24 rfl
        have f25 : vals 25 = .bool true := hf 25 rfl
        have f26 : vals 26 = .bool true := hf 26 rfl
        have f27 : vals 27 = .int .i64 0 := hf 27 rfl
        have f28 : vals 28 = .bool true := hf 28 rfl
        have f29 : vals 29 = .bool true := hf 29 rfl
        have f30 : vals 30 = .bool true := hf 30 rfl
        have f31 : vals 31 = .bool true := hf 31 rfl
        have f32 : vals 32 = .bool true := hf 32 rfl
        try dsimp only at f0 f1 f2 f3 f4 f5 f6 f7 f8 f9 f10 f11 f12 f13 f14 f15 f16 f17 f18 f19 f20 f21 f22 f23 f24 f25 f26 f27 f28 f29 f30 f31 f32
        clear hf
        simp only [puts, act_put, act_put_none, List.setIfInBounds_toArray, List.set_cons_zero, List.set_cons_succ, f0, f1, f2, f4, f5, f6, f7, f8, f9, f10, f11, f12, f13, f15, f16, f17, f18, f19, f20, f21, f22, f23, f24, f25, f26, f27, f28, f29, f30, f31, f32] at hE ⊢
        clear f0 f1 f2 f4 f5 f6 f7 f8 f9 f10 f11 f12 f13 f15 f16 f17 f18 f19 f20 f21 f22 f23 f24 f25 f26 f27 f28 f29 f30 f31 f32
        go_wp2
        exact .mk (hE _ _ rfl hC1 rfl)
    intro w1 vals hC1 hf
    have f0 : vals 0 = .slice PA (packB m).length PC := hf 0 (by decide) rfl
    have f1 : vals 1 = .string SA := hf 1 (by decide) rfl
    have f2 : vals 2 = .agg (msgCells m A c) := hf 2 (by decide) rfl
    have f3 : (fun z u => ∃ A3 c3, z 3 = .slice A3 (packB m).length c3 ∧ OwnX u w8.heap.size 5 1 (.slice A3 (packB m).length c3) (packB m).length (bytesV (packB m))) vals w1 := hf 3 (by decide) rfl
    have f4 : vals 4 = .string SA := hf 4 (by decide) rfl
    have f5 : vals 5 = .bool true := hf 5 (by decide) rfl
    have f6 : vals 6 = .bool true := hf 6 (by decide) rfl
    have f7 : vals 7 = .int .i64 0 := hf 7 (by decide) rfl
    have f8 : vals 8 = .bool true := hf 8 (by decide) rfl
    have f9 : vals 9 = .bool true := hf 9 (by decide) rfl
    have f10 : vals 10 = .bool true := hf 10 (by decide) rfl
    have f11 : vals 11 = .slice TA (textB m).length TC := hf 11 (by decide) rfl
    have f12 : vals 12 = .string SB := hf 12 (by decide) rfl
    have f13 : vals 13 = .agg (msgCells m A c) := hf 13 (by decide) rfl
    have f14 : (fun z u => ∃ A3 c3, z 14 = .slice A3 (bodyB m).length c3 ∧ OwnX u w8.heap.size 5 1 (.slice A3 (bodyB m).length c3) (bodyB m).length (bytesV (bodyB m))) vals w1 := hf 14 (by decide) rfl
    have f15 : vals 15 = .string SC := hf 15 (by decide) rfl
    have f16 : vals 16 = .string SB := hf 16 (by decide) rfl
    have f17 : vals 17 = .bool true := hf 17 (by decide) rfl
    have f18 : vals 18 = .bool true := hf 18 (by decide) rfl
    have f19 : vals 19 = .bool true := hf 19 (by decide) rfl
    have f20 : vals 20 = .int .i64 0 := hf 20 (by decide) rfl
    have f21 : vals 21 = .bool true := hf 21 (by decide) rfl
    have f22 : vals 22 = .bool true := hf 22 (by decide) rfl
    have f23 : vals 23 = .bool true := hf 23 (by decide) rfl
    have f24 : vals 24 = .bool true := hf 24 (by decide) rfl
    have f25 : vals 25 = .bool true := hf 25 (by decide) rfl
    have f26 : vals 26 = .bool true := hf 26 (by decide) rfl
    have f27 : vals 27 = .int .i64 0 := hf 27 (by decide) rfl
    have f28 : vals 28 = .bool true := hf 28 (by decide) rfl
    have f29 : vals 29 = .bool true := hf 29 (by decide) rfl
    have f30 : vals 30 = .bool true := hf 30 (by decide) rfl
    have f31 : vals 31 = .bool true := hf 31 (by decide) rfl
    have f32 : vals 32 = .bool true := hf 32 (by decide) rfl
    have f33 : vals 33 = .bool true := hf 33 (by decide) rfl
    try dsimp only at f0 f1 f2 f3 f4 f5 f6 f7 f8 f9 f10 f11 f12 f13 f14 f15 f16 f17 f18 f19 f20 f21 f22 f23 f24 f25 f26 f27 f28 f29 f30 f31 f32 f33
    clear hf
    simp only [puts, act_put, act_put_none, List.setIfInBounds_toArray, List.set_cons_zero, List.set_cons_succ, f0, f1, f2, f4, f5, f6, f7, f8, f9, f10, f11, f12, f13, f15, f16, f17, f18, f19, f20, f21, f22, f23, f24, f25, f26, f27, f28, f29, f30, f31, f32, f33]
    clear f0 f1 f2 f4 f5 f6 f7 f8 f9 f10 f11 f12 f13 f15 f16 f17 f18 f19 f20 f21 f22 f23 f24 f25 f26 f27 f28 f29 f30 f31 f32 f33
    generalize vals 3 = x3 at *
    generalize vals 14 = x14 at *
    clear f3 f14
    go_wp2_with fail
    go_ret
    exact ⟨rfl, HB8.out.trans (hC1.mono HB8.out.size)⟩
  · rw [if_neg hmm] at h3
    subst h3
    have hmb : mayB m = false := by simpa using hmm
    have HMB := Lib.hid hmb
    clear hmb hmm
    go_wp2_with (refine wpList_get_box (x := .tmp 1) hbm3 rfl rfl rfl hu rfl msg_size ?_)
    refine calls_then (text_any m A c w3.heap.size w3 (Rd.of_own o3 (Nat.le_refl _)) (Nat.le_refl _) hcc HOK.out) ?_
    rintro e w4 ⟨hb4, h4⟩
    rw [HMB.out, if_neg (by simp)] at h4
    subst h4
    have o4 := o3.below hb4 (Nat.le_refl _)
    have hbm4 := hbm3.below hb4 hbm3.lt
    have hB4 := hB3.trans (hb4.mono hB3.size)
    clear o3 hbm3 hB3 hb4 hb3
    go_wp2_with (refine wpList_get_box (x := .tmp 1) hbm4 rfl rfl rfl hu rfl msg_size ?_)
    refine calls_then (rmay_any m A c w4.heap.size w4 (Rd.of_own o4 (Nat.le_refl _)) (Nat.le_refl _) hcc HOK.out) ?_
    rintro e w5 ⟨rfl, hw5⟩
    rw [HMB.out]
    have hb5 : Below w4.heap.size w4 w5 := by rw [hw5]; exact (Below.refl _ _).alloc (Nat.le_refl _) _
    have hB5 := hB4.trans (hb5.mono hB4.size)
    clear o4 hbm4 hB4 hb5 hw5
    go_wp2_with fail
    refine calls_then (lives_any _) ?_
    rintro e w6 ⟨rfl, hb6⟩
    go_wp2_with fail
    go_ret
    exact ⟨rfl, hB5.trans (hb6.mono hB5.size)⟩
end Go.Proofs.Ytlngjalclagojaa
