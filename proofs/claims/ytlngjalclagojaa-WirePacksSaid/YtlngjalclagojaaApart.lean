/-
  Walks: brevetlaw12.WireApart.
-/
import Derived.Test.YtlngjalclagojaaLives
import Derived.Test.YtlngjalclagojaaCut
import Derived.Test.YtlngjalclagojaaWireLaw
namespace Go.Proofs.Ytlngjalclagojaa
open Go.RowKit

theorem few_le (s : ByteArray) : (fewS s).size ≤ s.size := by
  unfold fewS
  split
  · rw [ByteArray.size_extract]; omega
  · split
    · rw [ByteArray.size_extract]; omega
    · exact Nat.le_refl _
theorem cut_ok {m : MsgD} (ok : MsgOk m) : MsgOk (cutM m) :=
  ⟨Nat.le_trans (few_le _) ok.src, Nat.le_trans (few_le _) ok.dst, Nat.le_trans (few_le _) ok.sig, by have := ok.fields; simp [cutM]; omega, fun s hs => by
    simp only [cutM, List.mem_map] at hs
    obtain ⟨t, ht, rfl⟩ := hs
    exact Nat.le_trans (few_le _) (ok.each t (List.mem_of_mem_take ht))⟩

/-- What the law's walk knows of a message that lies in a box of its own. -/
structure Held (w : World) (B : Nat) (g : Nat) (m : MsgD) (A : Option Addr) (c : Nat) : Prop where
  box : Blk w g 24 (msgCells m A c)
  cap : m.fields.length ≤ c
  rd : Rd w B A (strsV m.fields)
theorem Held.below {w w' : World} {B B' g : Nat} {m : MsgD} {A : Option Addr} {c : Nat} (h : Held w B g m A c) (hb : Below B' w w') (hg : g < B') (hB : B ≤ B') : Held w' B g m A c :=
  ⟨h.box.below hb hg, h.cap, h.rd.below (hb.mono hB)⟩

set_option maxHeartbeats 1000000 in
theorem apart_any (m n : MsgD) (Am An : Option Addr) (cm cn : Nat) (w : World) (hm : Rd w w.heap.size Am (strsV m.fields)) (hn : Rd w w.heap.size An (strsV n.fields)) (hcm : m.fields.length ≤ cm) (hcn : n.fields.length ≤ cn) (okm : MsgOk m) (okn : MsgOk n) :
    Calls Try.prog 3 #[.agg (msgCells m Am cm), .agg (msgCells n An cn)] w fun e w' => e = .returned (.bool true) ∧ Below w.heap.size w w' := by
  obtain ⟨W0, hW0⟩ : ∃ W0, W0 = (w.alloc (.cells (msgCells m Am cm) 24)).alloc (.cells (msgCells n An cn) 24) := ⟨_, rfl⟩
  have hb0 : Below w.heap.size w W0 := by rw [hW0]; exact ((Below.refl _ _).alloc (Nat.le_refl _) _).alloc (by simp) _
  have hs0 : W0.heap.size = w.heap.size + 2 := by rw [hW0]; simp
  have hbm : Blk W0 w.heap.size 24 (msgCells m Am cm) := by rw [hW0]; exact (Blk.new _ _ _).alloc _
  have hbn : Blk W0 (w.heap.size + 1) 24 (msgCells n An cn) := by
    have := Blk.new (w.alloc (.cells (msgCells m Am cm) 24)) 24 (msgCells n An cn)
    rw [hW0]; simpa using this
  have hm0 := hm.below hb0
  have hn0 := hn.below hb0
  have HB0 := Lib.hid hb0
  have HS0 := Lib.hid hs0
  have HOKM := Lib.hid okm
  have HOKN := Lib.hid okn
  have HM0 := Lib.hid hm0
  have HN0 := Lib.hid hn0
  have HW0 := Lib.hid hW0
  clear hb0 hs0 hm hn hm0 hn0 okm okn
  have hbm0 := hbm
  rw [hW0] at hbm0
  have HBM := Lib.hid hbm
  have HBN := Lib.hid hbn
  clear hbm hbn hW0
  have hu := Try.underlying24
  go_enter Try.func3, Try.ntmps3
  go_wp2_with (refine wpList_get_box hbm0 rfl rfl rfl hu rfl msg_size ?_)
  rw [← HW0.out]
  clear hbm0
  refine calls_then (cut_any m Am cm w.heap.size W0 HM0.out HB0.out.size hcm HOKM.out) ?_
  rintro e w1 ⟨A1, c1, rfl, hc1, hown1, hb1⟩
  have hbm1 := HBM.out.below hb1 (by have := HS0.out; omega)
  have hbn1 := HBN.out.below hb1 (by have := HS0.out; omega)
  have hn1 := HN0.out.below (hb1.mono HB0.out.size)
  go_wp2_with (first
    | (refine wpList_put_box (x := .tmp 2) hbm1 rfl rfl rfl rfl msg_size rfl (by simp [msgCells, Value.oneCell']) ?_; intro w2 hbm2 hw2; have hbn2 := hw2.blk hbn1 (by omega))
    | (refine wpList_get_box (x := .tmp 3) hbn2 rfl rfl rfl hu rfl msg_size ?_))
  have hB2 : Below w.heap.size w w2 := hw2.below (HB0.out.trans (hb1.mono HB0.out.size)) (Nat.le_refl _) (by have := hb1.size; have := HB0.out.size; omega)
  have o1_2 := hw2.own hown1 (own_ne_blk (t := 24) hown1 hbm1 (by decide))
  have hn2 : Rd w2 w.heap.size An (strsV n.fields) := by
    refine HN0.out.below (hw2.below (hb1.mono HB0.out.size) (Nat.le_refl _) ?_)
    have := hb1.size; have := HB0.out.size; omega
  clear hn1 hbn1 hbm1 hown1 hw2
  refine calls_then (cut_any n An cn w.heap.size w2 hn2 hB2.size hcn HOKN.out) ?_
  rintro e w3 ⟨A2, c2, rfl, hc2, o2_3, hb3⟩
  have hz2 : w.heap.size + 2 ≤ w2.heap.size := by have := hbn2.lt; omega
  have o1_3 := o1_2.below hb3 (Nat.le_refl _)
  have hbm3 := hbm2.below hb3 (by omega)
  have hbn3 := hbn2.below hb3 (by omega)
  have hB3 : Below w.heap.size w w3 := hB2.trans (hb3.mono hB2.size)
  clear hbm2 hbn2 o1_2 hn2
  go_wp2_with (first
    | (refine wpList_put_box (x := .tmp 3) hbn3 rfl rfl rfl rfl msg_size rfl (by simp [msgCells, Value.oneCell']) ?_; intro w4 hbn4 hw4; have hbm4 := hw4.blk hbm3 (by omega))
    | (refine wpList_get_box (x := .tmp 2) hbm4 rfl rfl rfl hu rfl msg_size ?_))
  have o1_4 := hw4.own o1_3 (own_ne_blk (t := 24) o1_3 hbn3 (by decide))
  have o2_4 := hw4.own o2_3 (own_ne_blk (t := 24) o2_3 hbn3 (by decide))
  have hB4 : Below w.heap.size w w4 := hw4.below hB3 (by omega) hB3.size
  have hz4 : w.heap.size + 2 ≤ w4.heap.size := by have := hbn4.lt; omega
  clear o1_3 o2_3 hbm3 hbn3 hw4
  refine calls_then (text_any (cutM m) A1 c1 w4.heap.size w4 (Rd.of_own o1_4 (Nat.le_refl _)) (Nat.le_refl _) hc1 (cut_ok HOKM.out)) ?_
  rintro e w5 ⟨hb5, h5⟩
  have o1_5 := o1_4.below hb5 (Nat.le_refl _)
  have o2_5 := o2_4.below hb5 (Nat.le_refl _)
  have hbm5 := hbm4.below hb5 (by omega)
  have hbn5 := hbn4.below hb5 (by omega)
  have hB5 : Below w.heap.size w w5 := hB4.trans (hb5.mono hB4.size)
  have hz5 : w.heap.size + 2 ≤ w5.heap.size := by have := hb5.size; omega
  clear o1_4 o2_4 hbm4 hbn4
  by_cases hmm : mayB (cutM m) = true
  · rw [if_pos hmm] at h5
    obtain ⟨TA, TC, rfl, ot5⟩ := h5
    go_wp2_with (refine wpList_get_box (x := .tmp 3) hbn5 rfl rfl rfl hu rfl msg_size ?_)
    refine calls_then (text_any (cutM n) A2 c2 w5.heap.size w5 (Rd.of_own o2_5 (Nat.le_refl _)) (Nat.le_refl _) hc2 (cut_ok HOKN.out)) ?_
    rintro e w6 ⟨hb6, h6⟩
    have hB6 : Below w.heap.size w w6 := hB5.trans (hb6.mono hB5.size)
    by_cases hnn : mayB (cutM n) = true
    · rw [if_pos hnn] at h6
      obtain ⟨UA, UC, rfl, ou6⟩ := h6
      have ot6 := ot5.below hb6 (Nat.le_refl _)
      have o1_6 := o1_5.below hb6 (Nat.le_refl _)
      have o2_6 := o2_5.below hb6 (Nat.le_refl _)
      have hbm6 := hbm5.below hb6 (by omega)
      have hbn6 := hbn5.below hb6 (by omega)
      have hz6 : w.heap.size + 2 ≤ w6.heap.size := by have := hb6.size; omega
      clear ot5 o1_5 o2_5 hbm5 hbn5
      have HMM := Lib.hid hmm
      have HNN := Lib.hid hnn
      clear hmm hnn
      go_wp2_with (first
        | (refine wpList_put_cell (x := .tmp 30) (i := 5) hbm6 rfl rfl rfl rfl (by kernel_rfl) (by simp [msgCells]) rfl ?_; intro w7 hbm7 hw7; have hbn7 := hw7.blk hbn6 (by omega))
        | (refine wpList_put_cell (x := .tmp 31) (i := 5) hbn7 rfl rfl rfl rfl (by kernel_rfl) (by simp [msgCells]) rfl ?_; intro w8 hbn8 hw8; have hbm8 := hw8.blk hbm7 (by omega)))
      have hB8 : Below w.heap.size w w8 := hw8.below (hw7.below hB6 (Nat.le_refl _) hB6.size) (by omega) (by rw [hw7.size]; exact hB6.size)
      have hz8 : w.heap.size + 2 ≤ w8.heap.size := by rw [hw8.size, hw7.size]; exact hz6
      have kp : ∀ {e : TypeId} {b n : Nat} {v : Value} {xs : List Value}, e ≠ 24 → OwnX w6 b e 1 v n xs → OwnX w8 b e 1 v n xs := fun he h => by
        have h7 := hw7.own h (own_ne_blk h hbm6 (Ne.symm he))
        exact hw8.own h7 (own_ne_blk h7 hbn7 (Ne.symm he))
      have q1 : Rd w8 w8.heap.size A1 (strsV (cutM m).fields) := Rd.of_own (kp (by decide) o1_6) (Nat.le_refl _)
      have q2 : Rd w8 w8.heap.size A2 (strsV (cutM n).fields) := Rd.of_own (kp (by decide) o2_6) (Nat.le_refl _)
      have q3 : Rd w8 w8.heap.size TA (bytesV (textB (cutM m))) := Rd.of_own (kp (by decide) ot6) (Nat.le_refl _)
      have q4 : Rd w8 w8.heap.size UA (bytesV (textB (cutM n))) := Rd.of_own (kp (by decide) ou6) (Nat.le_refl _)
      have q5 : Blk w8 w.heap.size 24 (msgCells (noSig (cutM m)) A1 c1) := hbm8
      have q6 : Blk w8 (w.heap.size + 1) 24 (msgCells (noSig (cutM n)) A2 c2) := hbn8
      have Q1 := Lib.hid q1
      have Q2 := Lib.hid q2
      have Q3 := Lib.hid q3
      have Q4 := Lib.hid q4
      have Q5 := Lib.hid q5
      have Q6 := Lib.hid q6
      have QK := Lib.hid (cut_ok HOKM.out)
      have QL := Lib.hid (cut_ok HOKN.out)
      obtain ⟨EQ, hEQ⟩ : ∃ b : Bool, b = decide (textB (cutM m) = textB (cutM n)) := ⟨_, rfl⟩
      obtain ⟨SM, hSM⟩ : ∃ b : Bool, b = sameM (noSig (cutM m)) (noSig (cutM n)) := ⟨_, rfl⟩
      have hES : (EQ == SM) = true := by rw [hEQ, hSM, apart_law HMM.out HNN.out]; simp
      obtain ⟨SA, hSA⟩ : ∃ b : ByteArray, b = ⟨(textB (cutM m)).toArray⟩ := ⟨_, rfl⟩
      obtain ⟨SB, hSB⟩ : ∃ b : ByteArray, b = ⟨(textB (cutM n)).toArray⟩ := ⟨_, rfl⟩
      have heq : ((⟨(textB (cutM m)).toArray⟩ : ByteArray).toList == (⟨(textB (cutM n)).toArray⟩ : ByteArray).toList) = EQ := by
        rw [hEQ, toList_eq, toList_eq]
        rw [Bool.eq_iff_iff, beq_iff_eq, decide_eq_true_iff]
      rw [← hSA, ← hSB] at heq
      have HSA := Lib.hid hSA
      have HSB := Lib.hid hSB
      clear hSA hSB
      have HEQ := Lib.hid heq
      have HSM := Lib.hid hSM
      have HES := Lib.hid hES
      have HB8 := Lib.hid hB8
      have HC0 : Below w8.heap.size w8 w8.drew := (Below.refl _ _).drew
      clear kp q1 q2 q3 q4 q5 q6 hEQ hSM hES heq hB8 hw7 hw8 hbm7 hbm8 hbn7 hbn8 hbm6 hbn6 o1_6 o2_6 ot6 ou6 hB6 hB5 hB4 hB3 hB2 hb6 hb5 hb3 hb1
      refine wp_region_list (fun u => Below w8.heap.size w8 u) (fun | false => (fun _ => True) | true => (fun _ => True)) (fun | false, _ => false | true, _ => false)
        [fun z _ => z 0 = .slice TA (textB (cutM m)).length TC,
         fun z _ => z 1 = .string SA,
         fun z _ => z 2 = .slice UA (textB (cutM n)).length UC,
         fun z _ => z 3 = .string SB,
         fun z _ => z 4 = .bool EQ,
         fun z _ => z 5 = .agg (msgCells (noSig (cutM m)) A1 c1),
         fun z _ => z 6 = .agg (msgCells (noSig (cutM n)) A2 c2),
         fun z _ => z 7 = .bool SM,
         fun z _ => z 8 = .bool true,
         fun z _ => z 9 = .bool true,
         fun z _ => z 10 = .bool true,
         fun z _ => z 11 = .bool true,
         fun z _ => z 12 = .bool true]
        [Eq, Eq, Eq, Eq, Eq, Eq, Eq, fun _ _ => True, Eq, Eq, fun _ _ => True, Eq, Eq]
        (fun _ _ => false) [(0, some 32), (1, some 33), (2, some 34), (3, some 35), (4, some 36), (5, some 37), (6, some 38), (7, some 39), (8, some 40), (9, some 41), (10, some 42), (11, some 43), (12, some 4)] (by kernel_rfl) (by kernel_rfl) rfl (fun _ => rfl) ?_ ?_ ?_ ?_ ?_ ?_
      · exact HC0
      · intro m; cases m; exact trivial; exact trivial
      · intro m; cases m
        · exact ⟨.inr (fun _ _ h h0 => h ▸ h0), .inr (fun _ _ h h0 => h ▸ h0), .inr (fun _ _ h h0 => h ▸ h0), .inr (fun _ _ h h0 => h ▸ h0), .inr (fun _ _ h h0 => h ▸ h0), .inr (fun _ _ h h0 => h ▸ h0), .inr (fun _ _ h h0 => h ▸ h0), .inr (fun _ _ _ h => h), .inr (fun _ _ h h0 => h ▸ h0), .inr (fun _ _ h h0 => h ▸ h0), .inr (fun _ _ _ h => h), .inr (fun _ _ h h0 => h ▸ h0), .inr (fun _ _ h h0 => h ▸ h0), trivial⟩
        · exact ⟨.inr (fun _ _ h h0 => h ▸ h0), .inr (fun _ _ h h0 => h ▸ h0), .inr (fun _ _ h h0 => h ▸ h0), .inr (fun _ _ h h0 => h ▸ h0), .inr (fun _ _ h h0 => h ▸ h0), .inr (fun _ _ h h0 => h ▸ h0), .inr (fun _ _ h h0 => h ▸ h0), .inr (fun _ _ _ h => h), .inr (fun _ _ h h0 => h ▸ h0), .inr (fun _ _ h h0 => h ▸ h0), .inr (fun _ _ _ h => h), .inr (fun _ _ h h0 => h ▸ h0), .inr (fun _ _ h h0 => h ▸ h0), trivial⟩
      · exact ⟨⟨.inl rfl, .inr (.inr (.inl rfl)), .inr (.inr (.inr (fun _ _ _ _ _ h => h))), .inr (.inr (.inr (fun _ _ _ _ _ h => h))), .inr (.inr (.inl rfl)), .inr (.inr (.inr (fun _ _ _ _ _ h => h))), .inr (.inr (.inr (fun _ _ _ _ _ h => h))), .inr (.inr (.inr (fun _ _ _ _ _ h => h))), .inr (.inr (.inl rfl)), .inr (.inr (.inr (fun _ _ _ _ _ h => h))), .inr (.inr (.inr (fun _ _ _ _ _ h => h))), .inr (.inr (.inr (fun _ _ _ _ _ h => h))), .inr (.inr (.inl rfl)), trivial⟩,
          ⟨.inr (.inr (.inr (fun _ _ _ _ _ h => h))), .inl rfl, .inr (.inr (.inr (fun _ _ _ _ _ h => h))), .inr (.inr (.inr (fun _ _ _ _ _ h => h))), .inr (.inr (.inl rfl)), .inr (.inr (.inr (fun _ _ _ _ _ h => h))), .inr (.inr (.inr (fun _ _ _ _ _ h => h))), .inr (.inr (.inr (fun _ _ _ _ _ h => h))), .inr (.inr (.inl rfl)), .inr (.inr (.inl rfl)), .inr (.inr (.inr (fun _ _ _ _ _ h => h))), .inr (.inr (.inr (fun _ _ _ _ _ h => h))), .inr (.inr (.inl rfl)), trivial⟩,
          ⟨.inr (.inr (.inr (fun _ _ _ _ _ h => h))), .inr (.inr (.inr (fun _ _ _ _ _ h => h))), .inl rfl, .inr (.inr (.inl rfl)), .inr (.inr (.inl rfl)), .inr (.inr (.inr (fun _ _ _ _ _ h => h))), .inr (.inr (.inr (fun _ _ _ _ _ h => h))), .inr (.inr (.inr (fun _ _ _ _ _ h => h))), .inr (.inr (.inl rfl)), .inr (.inr (.inr (fun _ _ _ _ _ h => h))), .inr (.inr (.inr (fun _ _ _ _ _ h => h))), .inr (.inr (.inr (fun _ _ _ _ _ h => h))), .inr (.inr (.inl rfl)), trivial⟩,
          ⟨.inr (.inr (.inr (fun _ _ _ _ _ h => h))), .inr (.inr (.inr (fun _ _ _ _ _ h => h))), .inr (.inr (.inr (fun _ _ _ _ _ h => h))), .inl rfl, .inr (.inr (.inl rfl)), .inr (.inr (.inr (fun _ _ _ _ _ h => h))), .inr (.inr (.inr (fun _ _ _ _ _ h => h))), .inr (.inr (.inr (fun _ _ _ _ _ h => h))), .inr (.inr (.inl rfl)), .inr (.inr (.inl rfl)), .inr (.inr (.inr (fun _ _ _ _ _ h => h))), .inr (.inr (.inr (fun _ _ _ _ _ h => h))), .inr (.inr (.inl rfl)), trivial⟩,
          ⟨.inr (.inr (.inr (fun _ _ _ _ _ h => h))), .inr (.inr (.inr (fun _ _ _ _ _ h => h))), .inr (.inr (.inr (fun _ _ _ _ _ h => h))), .inr (.inr (.inr (fun _ _ _ _ _ h => h))), .inl rfl, .inr (.inr (.inr (fun _ _ _ _ _ h => h))), .inr (.inr (.inr (fun _ _ _ _ _ h => h))), .inr (.inr (.inr (fun _ _ _ _ _ h => h))), .inr (.inr (.inl rfl)), .inr (.inr (.inl rfl)), .inr (.inr (.inl rfl)), .inr (.inr (.inl rfl)), .inr (.inr (.inl rfl)), trivial⟩,
          ⟨.inr (.inr (.inr (fun _ _ _ _ _ h => h))), .inr (.inr (.inr (fun _ _ _ _ _ h => h))), .inr (.inr (.inr (fun _ _ _ _ _ h => h))), .inr (.inr (.inr (fun _ _ _ _ _ h => h))), .inr (.inr (.inr (fun _ _ _ _ _ h => h))), .inl rfl, .inr (.inr (.inr (fun _ _ _ _ _ h => h))), .inr (.inr (.inl rfl)), .inr (.inr (.inl rfl)), .inr (.inr (.inl rfl)), .inr (.inr (.inl rfl)), .inr (.inr (.inl rfl)), .inr (.inr (.inl rfl)), trivial⟩,
          ⟨.inr (.inr (.inr (fun _ _ _ _ _ h => h))), .inr (.inr (.inr (fun _ _ _ _ _ h => h))), .inr (.inr (.inr (fun _ _ _ _ _ h => h))), .inr (.inr (.inr (fun _ _ _ _ _ h => h))), .inr (.inr (.inr (fun _ _ _ _ _ h => h))), .inr (.inr (.inr (fun _ _ _ _ _ h => h))), .inl rfl, .inr (.inr (.inl rfl)), .inr (.inr (.inl rfl)), .inr (.inr (.inl rfl)), .inr (.inr (.inl rfl)), .inr (.inr (.inl rfl)), .inr (.inr (.inl rfl)), trivial⟩,
          ⟨.inr (.inr (.inr (fun _ _ _ _ _ h => h))), .inr (.inr (.inr (fun _ _ _ _ _ h => h))), .inr (.inr (.inr (fun _ _ _ _ _ h => h))), .inr (.inr (.inr (fun _ _ _ _ _ h => h))), .inr (.inr (.inr (fun _ _ _ _ _ h => h))), .inr (.inr (.inr (fun _ _ _ _ _ h => h))), .inr (.inr (.inr (fun _ _ _ _ _ h => h))), .inl rfl, .inr (.inr (.inl rfl)), .inr (.inr (.inl rfl)), .inr (.inr (.inl rfl)), .inr (.inr (.inl rfl)), .inr (.inr (.inl rfl)), trivial⟩,
          ⟨.inr (.inr (.inr (fun _ _ _ _ _ h => h))), .inr (.inr (.inr (fun _ _ _ _ _ h => h))), .inr (.inr (.inr (fun _ _ _ _ _ h => h))), .inr (.inr (.inr (fun _ _ _ _ _ h => h))), .inr (.inr (.inr (fun _ _ _ _ _ h => h))), .inr (.inr (.inr (fun _ _ _ _ _ h => h))), .inr (.inr (.inr (fun _ _ _ _ _ h => h))), .inr (.inr (.inr (fun _ _ _ _ _ h => h))), .inl rfl, .inr (.inr (.inl rfl)), .inr (.inr (.inl rfl)), .inr (.inr (.inl rfl)), .inr (.inr (.inl rfl)), trivial⟩,
          ⟨.inr (.inr (.inr (fun _ _ _ _ _ h => h))), .inr (.inr (.inr (fun _ _ _ _ _ h => h))), .inr (.inr (.inr (fun _ _ _ _ _ h => h))), .inr (.inr (.inr (fun _ _ _ _ _ h => h))), .inr (.inr (.inr (fun _ _ _ _ _ h => h))), .inr (.inr (.inr (fun _ _ _ _ _ h => h))), .inr (.inr (.inr (fun _ _ _ _ _ h => h))), .inr (.inr (.inr (fun _ _ _ _ _ h => h))), .inr (.inr (.inr (fun _ _ _ _ _ h => h))), .inl rfl, .inr (.inr (.inl rfl)), .inr (.inr (.inl rfl)), .inr (.inr (.inl rfl)), trivial⟩,
          ⟨.inr (.inr (.inr (fun _ _ _ _ _ h => h))), .inr (.inr (.inr (fun _ _ _ _ _ h => h))), .inr (.inr (.inr (fun _ _ _ _ _ h => h))), .inr (.inr (.inr (fun _ _ _ _ _ h => h))), .inr (.inr (.inr (fun _ _ _ _ _ h => h))), .inr (.inr (.inr (fun _ _ _ _ _ h => h))), .inr (.inr (.inr (fun _ _ _ _ _ h => h))), .inr (.inr (.inr (fun _ _ _ _ _ h => h))), .inr (.inr (.inr (fun _ _ _ _ _ h => h))), .inr (.inr (.inr (fun _ _ _ _ _ h => h))), .inl rfl, .inr (.inr (.inl rfl)), .inr (.inr (.inl rfl)), trivial⟩,
          ⟨.inr (.inr (.inr (fun _ _ _ _ _ h => h))), .inr (.inr (.inr (fun _ _ _ _ _ h => h))), .inr (.inr (.inr (fun _ _ _ _ _ h => h))), .inr (.inr (.inr (fun _ _ _ _ _ h => h))), .inr (.inr (.inr (fun _ _ _ _ _ h => h))), .inr (.inr (.inr (fun _ _ _ _ _ h => h))), .inr (.inr (.inr (fun _ _ _ _ _ h => h))), .inr (.inr (.inr (fun _ _ _ _ _ h => h))), .inr (.inr (.inr (fun _ _ _ _ _ h => h))), .inr (.inr (.inr (fun _ _ _ _ _ h => h))), .inr (.inr (.inr (fun _ _ _ _ _ h => h))), .inl rfl, .inr (.inr (.inl rfl)), trivial⟩,
          ⟨.inr (.inr (.inr (fun _ _ _ _ _ h => h))), .inr (.inr (.inr (fun _ _ _ _ _ h => h))), .inr (.inr (.inr (fun _ _ _ _ _ h => h))), .inr (.inr (.inr (fun _ _ _ _ _ h => h))), .inr (.inr (.inr (fun _ _ _ _ _ h => h))), .inr (.inr (.inr (fun _ _ _ _ _ h => h))), .inr (.inr (.inr (fun _ _ _ _ _ h => h))), .inr (.inr (.inr (fun _ _ _ _ _ h => h))), .inr (.inr (.inr (fun _ _ _ _ _ h => h))), .inr (.inr (.inr (fun _ _ _ _ _ h => h))), .inr (.inr (.inr (fun _ _ _ _ _ h => h))), .inr (.inr (.inr (fun _ _ _ _ _ h => h))), .inl rfl, trivial⟩, trivial⟩
      · refine ⟨?_, ?_, ?_, ?_, ?_, ?_, ?_, ?_, ?_, ?_, ?_, ?_, ?_, trivial⟩
        · -- 0: Op.move (Operand.tmp 5)
          refine step_plain [] (fun _ => rfl) rfl ?_
          intro w1 vals hC1 hi0 hf E hE
          clear hi0
          clear hf
          simp only [puts, act_put, act_put_none, List.setIfInBounds_toArray, List.set_cons_zero, List.set_cons_succ] at hE ⊢
          go_wp2
          exact .mk (hE _ _ rfl hC1 rfl)
        · -- 1: Op.convert 26 9 (Operand.tmp 32)
          refine step_plain [(0, some 32)] (fun _ => rfl) rfl ?_
          intro w1 vals hC1 hi0 hf E hE
          clear hi0
          have f0 : vals 0 = .slice TA (textB (cutM m)).length TC := hf 0 rfl
          try dsimp only at f0
          clear hf
          simp only [puts, act_put, act_put_none, List.setIfInBounds_toArray, List.set_cons_zero, List.set_cons_succ, f0] at hE ⊢
          clear f0
          refine wpList_str_of (Q3.out.below hC1) Try.underlying26 Try.underlying5 Try.underlying9 rfl rfl rfl ?_
          rw [← HSA.out]
          go_wp2_with fail
          exact .mk (hE _ _ rfl hC1 rfl)
        · -- 2: Op.move (Operand.tmp 7)
          refine step_plain [] (fun _ => rfl) rfl ?_
          intro w1 vals hC1 hi0 hf E hE
          clear hi0
          clear hf
          simp only [puts, act_put, act_put_none, List.setIfInBounds_toArray, List.set_cons_zero, List.set_cons_succ] at hE ⊢
          go_wp2
          exact .mk (hE _ _ rfl hC1 rfl)
        · -- 3: Op.convert 26 9 (Operand.tmp 34)
          refine step_plain [(2, some 34)] (fun _ => rfl) rfl ?_
          intro w1 vals hC1 hi0 hf E hE
          clear hi0
          have f2 : vals 2 = .slice UA (textB (cutM n)).length UC := hf 2 rfl
          try dsimp only at f2
          clear hf
          simp only [puts, act_put, act_put_none, List.setIfInBounds_toArray, List.set_cons_zero, List.set_cons_succ, f2] at hE ⊢
          clear f2
          refine wpList_str_of (Q4.out.below hC1) Try.underlying26 Try.underlying5 Try.underlying9 rfl rfl rfl ?_
          rw [← HSB.out]
          go_wp2_with fail
          exact .mk (hE _ _ rfl hC1 rfl)
        · -- 4: Op.binOp BinOp.eql 9 (Operand.tmp 33) (Operand.tmp 35) 9
          refine step_plain [(1, some 33), (3, some 35)] (fun _ => rfl) rfl ?_
          intro w1 vals hC1 hi0 hf E hE
          clear hi0
          have f1 : vals 1 = .string SA := hf 1 rfl
          have f3 : vals 3 = .string SB := hf 3 rfl
          try dsimp only at f1 f3
          clear hf
          have h4 := HEQ.out
          simp only [puts, act_put, act_put_none, List.setIfInBounds_toArray, List.set_cons_zero, List.set_cons_succ, f1, f3] at hE ⊢
          clear f1 f3
          go_wp2
          exact .mk (hE _ _ rfl hC1 rfl)
        · -- 5: Op.load 24 (Operand.tmp 2)
          refine step_plain [] (fun _ => rfl) rfl ?_
          intro w1 vals hC1 hi0 hf E hE
          clear hi0
          clear hf
          simp only [puts, act_put, act_put_none, List.setIfInBounds_toArray, List.set_cons_zero, List.set_cons_succ] at hE ⊢
          refine wpList_get_box (Q5.out.below hC1 (by omega)) rfl rfl rfl hu rfl msg_size ?_
          go_wp2_with fail
          exact .mk (hE _ _ rfl hC1 rfl)
        · -- 6: Op.load 24 (Operand.tmp 3)
          refine step_plain [] (fun _ => rfl) rfl ?_
          intro w1 vals hC1 hi0 hf E hE
          clear hi0
          clear hf
          simp only [puts, act_put, act_put_none, List.setIfInBounds_toArray, List.set_cons_zero, List.set_cons_succ] at hE ⊢
          refine wpList_get_box (Q6.out.below hC1 (by omega)) rfl rfl rfl hu rfl msg_size ?_
          go_wp2_with fail
          exact .mk (hE _ _ rfl hC1 rfl)
        · -- 7: Op.call { callee := Callee.value (Operand.func 9), args := #[Operand.tmp 37, Operand.tmp 38], argTypes := #[24
          refine step_plain [(5, some 37), (6, some 38)] (fun _ => rfl) rfl ?_
          intro w1 vals hC1 hi0 hf E hE
          clear hi0
          have f5 : vals 5 = .agg (msgCells (noSig (cutM m)) A1 c1) := hf 5 rfl
          have f6 : vals 6 = .agg (msgCells (noSig (cutM n)) A2 c2) := hf 6 rfl
          try dsimp only at f5 f6
          clear hf
          simp only [puts, act_put, act_put_none, List.setIfInBounds_toArray, List.set_cons_zero, List.set_cons_succ, f5, f6] at hE ⊢
          clear f5 f6
          go_wp2_with fail
          refine calls_then (same12_any (noSig (cutM m)) (noSig (cutM n)) A1 A2 c1 c2 w8.heap.size w1 (Q1.out.below hC1) (Q2.out.below hC1) hC1.size QK.out.fields QL.out.fields) ?_
          rintro e w2 ⟨rfl, hb2⟩
          rw [← HSM.out]
          go_wp2_with fail
          exact .mk (hE _ _ rfl (hC1.trans (hb2.mono hC1.size)) trivial)
        · -- 8: Op.binOp BinOp.eql 4 (Operand.tmp 36) (Operand.tmp 39) 4
          refine step_plain [(4, some 36), (7, some 39)] (fun _ => rfl) rfl ?_
          intro w1 vals hC1 hi0 hf E hE
          clear hi0
          have f4 : vals 4 = .bool EQ := hf 4 rfl
          have f7 : vals 7 = .bool SM := hf 7 rfl
          try dsimp only at f4 f7
          clear hf
          have h8 := HES.out
          simp only [puts, act_put, act_put_none, List.setIfInBounds_toArray, List.set_cons_zero, List.set_cons_succ, f4, f7] at hE ⊢
          clear f4 f7
          go_wp2
          exact .mk (hE _ _ rfl hC1 rfl)
        · -- 9: Op.move (Operand.tmp 40)
          refine step_plain [(8, some 40), (7, some 39)] (fun _ => rfl) rfl ?_
          intro w1 vals hC1 hi0 hf E hE
          clear hi0
          have f7 : vals 7 = .bool SM := hf 7 rfl
          have f8 : vals 8 = .bool true := hf 8 rfl
          try dsimp only at f7 f8
          clear hf
          simp only [puts, act_put, act_put_none, List.setIfInBounds_toArray, List.set_cons_zero, List.set_cons_succ, f7, f8] at hE ⊢
          clear f7 f8
          go_wp2
          exact .mk (hE _ _ rfl hC1 rfl)
        · -- 10: Op.call { callee := Callee.value (Operand.func 8), args := #[], argTypes := #[] }
          refine step_guard [(9, some 41), (9, some 41)] (fun _ => rfl) 9 41 true rfl rfl ?_ ?_
          · intro w1 vals hC1 hi0 hf hy E hE
            dsimp only at hE ⊢
            clear hi0
            have f9 : vals 9 = .bool true := hf 9 rfl
            try dsimp only at f9
            clear hf
            clear hy
            simp only [puts, act_put, act_put_none, List.setIfInBounds_toArray, List.set_cons_zero, List.set_cons_succ, f9] at hE ⊢
            clear f9
            go_wp2_with fail
            refine calls_then (lives_any _) ?_
            rintro e w2 ⟨rfl, hb2⟩
            go_wp2_with fail
            exact .mk (hE _ _ rfl (hC1.trans (hb2.mono hC1.size)) trivial)
          · intro w1 vals hC1 hi0 hf hy
            clear hi0
            have f9 : vals 9 = .bool true := hf 9 rfl
            try dsimp only at f9
            clear hf
            exact absurd (by simp only [puts, act_put, act_put_none, List.setIfInBounds_toArray, List.set_cons_zero, List.set_cons_succ, f9]; rfl) hy
        · -- 11: Op.pick (Operand.tmp 41) (Operand.tmp 42) (Operand.const (Value.bool false))
          refine step_plain [(9, some 41), (10, some 42)] (fun _ => rfl) rfl ?_
          intro w1 vals hC1 hi0 hf E hE
          clear hi0
          have f9 : vals 9 = .bool true := hf 9 rfl
          have f10 : vals 10 = .bool true := hf 10 rfl
          try dsimp only at f9 f10
          clear hf
          simp only [puts, act_put, act_put_none, List.setIfInBounds_toArray, List.set_cons_zero, List.set_cons_succ, f9, f10] at hE ⊢
          clear f9 f10
          go_wp2
          exact .mk (hE _ _ rfl hC1 rfl)
        · -- 12: Op.assign (Operand.tmp 43)
          refine step_plain [(11, some 43), (10, some 42), (0, some 32), (1, some 33), (2, some 34), (3, some 35), (4, some 36), (5, some 37), (6, some 38), (7, some 39), (8, some 40), (9, some 41), (10, some 42), (11, some 43)] (fun _ => rfl) rfl ?_
          intro w1 vals hC1 hi0 hf E hE
          clear hi0
          have f0 : vals 0 = .slice TA (textB (cutM m)).length TC := hf 0 rfl
          have f1 : vals 1 = .string SA := hf 1 rfl
          have f2 : vals 2 = .slice UA (textB (cutM n)).length UC := hf 2 rfl
          have f3 : vals 3 = .string SB := hf 3 rfl
          have f4 : vals 4 = .bool EQ := hf 4 rfl
          have f5 : vals 5 = .agg (msgCells (noSig (cutM m)) A1 c1) := hf 5 rfl
          have f6 : vals 6 = .agg (msgCells (noSig (cutM n)) A2 c2) := hf 6 rfl
          have f7 : vals 7 = .bool SM := hf 7 rfl
          have f8 : vals 8 = .bool true := hf 8 rfl
          have f9 : vals 9 = .bool true := hf 9 rfl
          have f10 : vals 10 = .bool true := hf 10 rfl
          have f11 : vals 11 = .bool true := hf 11 rfl
          try dsimp only at f0 f1 f2 f3 f4 f5 f6 f7 f8 f9 f10 f11
          clear hf
          simp only [puts, act_put, act_put_none, List.setIfInBounds_toArray, List.set_cons_zero, List.set_cons_succ, f0, f1, f2, f3, f4, f5, f6, f7, f8, f9, f10, f11] at hE ⊢
          clear f0 f1 f2 f3 f4 f5 f6 f7 f8 f9 f10 f11
          go_wp2
          exact .mk (hE _ _ rfl hC1 rfl)
      intro w1 vals hC1 hf
      have f0 : vals 0 = .slice TA (textB (cutM m)).length TC := hf 0 (by decide) rfl
      have f1 : vals 1 = .string SA := hf 1 (by decide) rfl
      have f2 : vals 2 = .slice UA (textB (cutM n)).length UC := hf 2 (by decide) rfl
      have f3 : vals 3 = .string SB := hf 3 (by decide) rfl
      have f4 : vals 4 = .bool EQ := hf 4 (by decide) rfl
      have f5 : vals 5 = .agg (msgCells (noSig (cutM m)) A1 c1) := hf 5 (by decide) rfl
      have f6 : vals 6 = .agg (msgCells (noSig (cutM n)) A2 c2) := hf 6 (by decide) rfl
      have f7 : vals 7 = .bool SM := hf 7 (by decide) rfl
      have f8 : vals 8 = .bool true := hf 8 (by decide) rfl
      have f9 : vals 9 = .bool true := hf 9 (by decide) rfl
      have f10 : vals 10 = .bool true := hf 10 (by decide) rfl
      have f11 : vals 11 = .bool true := hf 11 (by decide) rfl
      have f12 : vals 12 = .bool true := hf 12 (by decide) rfl
      try dsimp only at f0 f1 f2 f3 f4 f5 f6 f7 f8 f9 f10 f11 f12
      clear hf
      simp only [puts, act_put, act_put_none, List.setIfInBounds_toArray, List.set_cons_zero, List.set_cons_succ, f0, f1, f2, f3, f4, f5, f6, f7, f8, f9, f10, f11, f12]
      clear f0 f1 f2 f3 f4 f5 f6 f7 f8 f9 f10 f11 f12
      go_wp2_with fail
      go_ret
      exact ⟨rfl, HB8.out.trans (hC1.mono HB8.out.size)⟩
    · rw [if_neg hnn] at h6
      subst h6
      go_wp2_with fail
      refine calls_then (lives_any _) ?_
      rintro e w7 ⟨rfl, hb7⟩
      go_wp2_with fail
      go_ret
      exact ⟨rfl, hB6.trans (hb7.mono hB6.size)⟩
  · rw [if_neg hmm] at h5
    subst h5
    go_wp2_with (refine wpList_get_box (x := .tmp 3) hbn5 rfl rfl rfl hu rfl msg_size ?_)
    refine calls_then (text_any (cutM n) A2 c2 w5.heap.size w5 (Rd.of_own o2_5 (Nat.le_refl _)) (Nat.le_refl _) hc2 (cut_ok HOKN.out)) ?_
    rintro e w6 ⟨hb6, h6⟩
    have hB6 : Below w.heap.size w w6 := hB5.trans (hb6.mono hB5.size)
    by_cases hnn : mayB (cutM n) = true
    · rw [if_pos hnn] at h6
      obtain ⟨UA, UC, rfl, ou6⟩ := h6
      go_wp2_with fail
      refine calls_then (lives_any _) ?_
      rintro e w7 ⟨rfl, hb7⟩
      go_wp2_with fail
      go_ret
      exact ⟨rfl, hB6.trans (hb7.mono hB6.size)⟩
    · rw [if_neg hnn] at h6
      subst h6
      go_wp2_with fail
      refine calls_then (lives_any _) ?_
      rintro e w7 ⟨rfl, hb7⟩
      go_wp2_with fail
      go_ret
      exact ⟨rfl, hB6.trans (hb7.mono hB6.size)⟩
end Go.Proofs.Ytlngjalclagojaa
