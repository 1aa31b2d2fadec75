/-
  The walk of the reference's Unpack.
-/
import Derived.Test.YtlngjalclagojaaRnum
import Derived.Test.YtlngjalclagojaaRefM
import Derived.Test.YtlngjalclagojaaUnpk
namespace Go.Proofs.Ytlngjalclagojaa
open Go.RowKit

theorem RIn.next {w w' : World} {B g k : Nat} {b : List UInt8} {s : Rs} (h : RIn w B g b s) (hw : Wrote k w w') (hk : g ≠ k) (hB : B ≤ k) : RIn w' B g b s := by
  obtain ⟨⟨A, c, i, hb, hc, hr, hi, hs⟩, hlo, hf⟩ := h
  exact ⟨⟨A, c, i, hw.blk hb hk, hc, wrote_rd hw hr hB (by have := hb.lt; omega), hi, hs⟩, hlo, hf⟩
theorem RIn.drew {w : World} {B g : Nat} {b : List UInt8} {s : Rs} (h : RIn w B g b s) : RIn w.drew B g b s := by
  obtain ⟨⟨A, c, i, hb, hc, hr, hi, hs⟩, hlo, hf⟩ := h
  exact ⟨⟨A, c, i, hb, hc, hr, hi, hs⟩, hlo, hf⟩
theorem RIn.alloc1 {w w' : World} {B g : Nat} {b : List UInt8} {s : Rs} (h : RIn w B g b s) (ha : Alloc1 w w') : RIn w' B g b s := by
  obtain ⟨o, rfl⟩ := ha
  obtain ⟨⟨A, c, i, hb, hc, hr, hi, hs⟩, hlo, hf⟩ := h
  exact ⟨⟨A, c, i, hb.alloc o, hc, hr.below ((Below.refl _ _).alloc (by have := hb.lt; omega) o), hi, hs⟩, hlo, hf⟩
theorem RIn.keep {w w' : World} {B g : Nat} {b : List UInt8} {s : Rs} {e : TypeId} (h : RIn w B g b s) (hk : KeepBut e w w') (hb : Below B w w') (h1 : 46 ≠ e) : RIn w' B g b s := by
  obtain ⟨⟨A, c, i, hbb, hc, hr, hi, hs⟩, hlo, hf⟩ := h
  exact ⟨⟨A, c, i, hbb.keep hk h1, hc, hr.below hb, hi, hs⟩, hlo, hf⟩
/-- what holds all along -/
structure Rw (w : World) (N : Nat) (u : World) : Prop where
  below : Below N w u
  size : N + 3 ≤ u.heap.size
  box : Blk u N 24 #[.int .i64 0, .string ⟨#[]⟩, .string ⟨#[]⟩, .int .i64 0, .slice none 0 0, .string ⟨#[]⟩]
theorem Rw.put {w u u' : World} {N g : Nat} (h : Rw w N u) (hw : Wrote g u u') (hg : N < g) : Rw w N u' :=
  ⟨hw.below h.below (Nat.le_of_lt hg) (by have := h.size; omega), by rw [hw.size]; exact h.size, hw.blk h.box (by omega)⟩
theorem Rw.drew {w u : World} {N : Nat} (h : Rw w N u) : Rw w N u.drew := ⟨h.below.drew, h.size, h.box⟩
theorem Rw.alloc {w u : World} {N : Nat} (h : Rw w N u) (o : Obj) : Rw w N (u.alloc o) := ⟨h.below.alloc (by have := h.size; omega) o, by have := h.size; simp; omega, h.box.alloc o⟩
theorem Rw.keep {w u u' : World} {N : Nat} {e : TypeId} (h : Rw w N u) (hk : KeepBut e u u') (hb : Below N u u') (h0 : 24 ≠ e) : Rw w N u' :=
  ⟨h.below.trans hb, by have := h.size; have := hb.size; omega, h.box.keep hk h0⟩
theorem rtxt_eq {n : Nat} {s : Rs} (h : (numS 2 s).1 = (n : Int)) : rtxtS n (numS 2 s).2 = textS s := by
  simp only [rtxtS, textS, h, Int.toNat_natCast]

theorem rin_facts {w w' : World} {B g k : Nat} {b : List UInt8} {s : Rs} {sh : Bool} (h : RIn w B g b s) (hw : Wrote k w w') (hk : g ≠ k) (hB : B ≤ k) (hs : sh = s.short) :
    ∃ i : Nat, w'.cell? ⟨g, 2, none⟩ = some (.bool sh) ∧ w'.cell? ⟨g, 1, none⟩ = some (.int .i64 i) ∧ i ≤ b.length ∧ Hid (s.rest = if s.short then [] else b.drop i) := by
  obtain ⟨⟨A, c, i, hb, hc, hr, hi, hre⟩, hlo, hf⟩ := h.next hw hk hB
  have h2 := hb.cell 2
  have h1 := hb.cell 1
  exact ⟨i, by rw [hs]; exact h2, h1, hi, Lib.hid hre⟩

set_option maxHeartbeats 4000000 in
theorem runpack_any (b : List UInt8) (A : Option Addr) (c B : Nat) (w : World) (hr : Rd w B A (bytesV b)) (hB : B ≤ w.heap.size) (hc : b.length ≤ c) (hfit : b.length ≤ 140737488355328) :
    Calls Try.prog 11 #[.slice A b.length c] w (UnpPost b w) := by
  have HR := Lib.hid hr
  have HB := Lib.hid hB
  clear hr hB
  go_enter Try.func11, Try.ntmps11
  go_wp2_with fail
  obtain ⟨W0, hW0⟩ : ∃ W0, W0 = ((w.alloc (.cells #[.int .i64 0, .string ⟨#[]⟩, .string ⟨#[]⟩, .int .i64 0, .slice none 0 0, .string ⟨#[]⟩] 24)).alloc (.cells #[.slice A b.length c, .int .i64 0, .bool false] 46)).alloc (.cells #[.int .i64 0, .string ⟨#[]⟩, .string ⟨#[]⟩, .int .i64 0, .slice none 0 0, .string ⟨#[]⟩] 24) := ⟨_, rfl⟩
  rw [← hW0]
  have hbel : Below w.heap.size w W0 := by rw [hW0]; exact (((Below.refl _ _).alloc (Nat.le_refl _) _).alloc (by simp) _).alloc (by simp; omega) _
  have hz0 : W0.heap.size = w.heap.size + 3 := by rw [hW0]; simp
  have hbx : Blk W0 w.heap.size 24 #[.int .i64 0, .string ⟨#[]⟩, .string ⟨#[]⟩, .int .i64 0, .slice none 0 0, .string ⟨#[]⟩] := by rw [hW0]; exact ((Blk.new _ _ _).alloc _).alloc _
  have hbr : Blk W0 (w.heap.size + 1) 46 #[.slice A b.length c, .int .i64 0, .bool false] := by rw [hW0]; exact (blk_new _ _ (by simp)).alloc _
  have hm0 : Blk W0 (w.heap.size + 1 + 1) 24 #[.int .i64 0, .string ⟨#[]⟩, .string ⟨#[]⟩, .int .i64 0, .slice none 0 0, .string ⟨#[]⟩] := by rw [hW0]; exact blk_new _ _ (by simp)
  have hI0 : RIn W0 w.heap.size (w.heap.size + 1) b ⟨b, false⟩ := ⟨⟨A, c, 0, hbr, hc, (HR.out.mono HB.out).below hbel, Nat.zero_le _, rfl⟩, by omega, hfit⟩
  have hR0 : Rw w w.heap.size W0 := ⟨hbel, by omega, hbx⟩
  have hg1 : w.heap.size < w.heap.size + 1 := by omega
  have hg2 : w.heap.size < w.heap.size + 1 + 1 := by omega
  have hg3 : w.heap.size + 1 + 1 ≠ w.heap.size + 1 := by omega
  clear hW0 hbel hz0 hbx hbr
  generalize w.heap.size + 1 + 1 = gm at *
  generalize w.heap.size + 1 = gr at *
  generalize hN : w.heap.size = N at *
  have HN := Lib.hid hN
  clear hN
  have hg4 : gr ≠ gm := fun h => hg3 h.symm
  have H3 := Lib.hid hg3
  have H4 := Lib.hid hg4
  clear hg3 hg4
  obtain ⟨s1, hs1⟩ : ∃ x, x = (numS 1 ⟨b, false⟩).2 := ⟨_, rfl⟩
  obtain ⟨k1, hk1⟩ : ∃ x, x = (numS 1 ⟨b, false⟩).1 := ⟨_, rfl⟩
  obtain ⟨s2, hs2⟩ : ∃ x, x = (numS 8 s1).2 := ⟨_, rfl⟩
  obtain ⟨k2, hk2⟩ : ∃ x, x = (numS 8 s1).1 := ⟨_, rfl⟩
  have Es1 := Lib.hid hs1
  have Ek1 := Lib.hid hk1
  have Es2 := Lib.hid hs2
  have Ek2 := Lib.hid hk2
  clear hs1 hk1 hs2 hk2
  refine calls_then (rnumber_any N gr 1 b _ _ hI0 (by omega)) ?_
  rintro e w1 ⟨rfl, hI1, hw1⟩
  have hm1 := hw1.blk hm0 H3.out
  have hR1 := hR0.put hw1 hg1
  rw [← Ek1.out]
  rw [← Es1.out] at hI1
  clear hI0 hm0 hR0 hw1
  go_wp2_with (refine wpList_put_cell (x := .tmp 15) (i := 0) (v := .int .i64 k1) hm1 rfl rfl rfl rfl (by kernel_rfl) (by simp) rfl ?_; intro w2 hm2 hw2; have hI2 := hI1.next hw2 H4.out (Nat.le_of_lt hg2); have hR2 := hR1.put hw2 hg2)
  replace hm2 : Blk w2 gm 24 #[.int .i64 k1, .string ⟨#[]⟩, .string ⟨#[]⟩, .int .i64 0, .slice none 0 0, .string ⟨#[]⟩] := hm2
  clear hI1 hm1 hR1 hw2
  refine calls_then (rnumber_any N gr 8 b _ _ hI2 (by omega)) ?_
  rintro e w3 ⟨rfl, hI3, hw3⟩
  have hm3 := hw3.blk hm2 H3.out
  have hR3 := hR2.put hw3 hg1
  rw [← Ek2.out]
  rw [← Es2.out] at hI3
  clear hI2 hm2 hR2 hw3
  go_wp2_with (refine wpList_put_cell (x := .tmp 18) (i := 3) (v := .int .i64 k2) hm3 rfl rfl rfl rfl (by kernel_rfl) (by simp) rfl ?_; intro w4 hm4 hw4; have hI4 := hI3.next hw4 H4.out (Nat.le_of_lt hg2); have hR4 := hR3.put hw4 hg2)
  replace hm4 : Blk w4 gm 24 #[.int .i64 k1, .string ⟨#[]⟩, .string ⟨#[]⟩, .int .i64 k2, .slice none 0 0, .string ⟨#[]⟩] := hm4
  clear hI3 hm3 hR3 hw4
  obtain ⟨n3, hn3, ln3⟩ := numS_two 2 (by omega) s2
  obtain ⟨t3, ht3⟩ : ∃ x, x = textS s2 := ⟨_, rfl⟩
  have htx3 : rtxtS n3 (numS 2 s2).2 = t3 := by rw [ht3]; exact rtxt_eq hn3
  have EN3 := Lib.hid hn3
  have ET3 := Lib.hid ht3
  have EX3 := Lib.hid htx3
  clear hn3 ht3 htx3
  refine calls_then (rnumber_any N gr 2 b _ _ hI4 (by omega)) ?_
  rintro e w5 ⟨rfl, hI5, hw5⟩
  have hm5 := hw5.blk hm4 H3.out
  have hR5 := hR4.put hw5 hg1
  rw [EN3.out]
  clear hI4 hm4 hR4 hw5
  go_wp2_with fail
  refine calls_then (rtext_any N gr n3 b _ _ hI5 (by omega)) ?_
  rintro e w6 ⟨rfl, hI6, hw6⟩
  have hm6 := hw6.blk hm5 H3.out
  have hR6 := hR5.put hw6 hg1
  rw [EX3.out]
  rw [EX3.out] at hI6
  clear hI5 hm5 hR5 hw6
  go_wp2_with (refine wpList_put_cell (x := .tmp 24) (i := 1) (v := .string t3.1) hm6 rfl rfl rfl rfl (by kernel_rfl) (by simp) rfl ?_; intro w7 hm7 hw7; have hI7 := hI6.next hw7 H4.out (Nat.le_of_lt hg2); have hR7 := hR6.put hw7 hg2)
  replace hm7 : Blk w7 gm 24 #[.int .i64 k1, .string t3.1, .string ⟨#[]⟩, .int .i64 k2, .slice none 0 0, .string ⟨#[]⟩] := hm7
  clear hI6 hm6 hR6 hw7
  obtain ⟨n4, hn4, ln4⟩ := numS_two 2 (by omega) t3.2
  obtain ⟨t4, ht4⟩ : ∃ x, x = textS t3.2 := ⟨_, rfl⟩
  have htx4 : rtxtS n4 (numS 2 t3.2).2 = t4 := by rw [ht4]; exact rtxt_eq hn4
  have EN4 := Lib.hid hn4
  have ET4 := Lib.hid ht4
  have EX4 := Lib.hid htx4
  clear hn4 ht4 htx4
  refine calls_then (rnumber_any N gr 2 b _ _ hI7 (by omega)) ?_
  rintro e w8 ⟨rfl, hI8, hw8⟩
  have hm8 := hw8.blk hm7 H3.out
  have hR8 := hR7.put hw8 hg1
  rw [EN4.out]
  clear hI7 hm7 hR7 hw8
  go_wp2_with fail
  refine calls_then (rtext_any N gr n4 b _ _ hI8 (by omega)) ?_
  rintro e w9 ⟨rfl, hI9, hw9⟩
  have hm9 := hw9.blk hm8 H3.out
  have hR9 := hR8.put hw9 hg1
  rw [EX4.out]
  rw [EX4.out] at hI9
  clear hI8 hm8 hR8 hw9
  go_wp2_with (refine wpList_put_cell (x := .tmp 30) (i := 2) (v := .string t4.1) hm9 rfl rfl rfl rfl (by kernel_rfl) (by simp) rfl ?_; intro w10 hm10 hw10; have hI10 := hI9.next hw10 H4.out (Nat.le_of_lt hg2); have hR10 := hR9.put hw10 hg2)
  replace hm10 : Blk w10 gm 24 #[.int .i64 k1, .string t3.1, .string t4.1, .int .i64 k2, .slice none 0 0, .string ⟨#[]⟩] := hm10
  clear hI9 hm9 hR9 hw10
  obtain ⟨m, hmm, hm2⟩ := numS_two 1 (by omega) t4.2
  obtain ⟨s5, hs5⟩ : ∃ s, s = (numS 1 t4.2).2 := ⟨_, rfl⟩
  have EM := Lib.hid hmm
  have ES5 := Lib.hid hs5
  clear hmm hs5
  refine calls_then (rnumber_any N gr 1 b _ _ hI10 (by omega)) ?_
  rintro e w11 ⟨rfl, hI11, hw11⟩
  have hm11 := hw11.blk hm10 H3.out
  have hR11 := hR10.put hw11 hg1
  rw [EM.out]
  rw [← ES5.out] at hI11
  clear hI10 hm10 hR10 hw11
  go_wp2_with fail
  go_loopw [6, 8] (fun z i wr => ∃ (k : Nat) (A1 : Option Addr) (c1 : Nat), k ≤ m ∧ i = .int .i64 k ∧ k ≤ c1 ∧ OwnX wr N 9 1 (.slice A1 k c1) k (strsV (fieldsS k s5).1) ∧
      Blk wr gm 24 #[.int .i64 k1, .string t3.1, .string t4.1, .int .i64 k2, .slice A1 k c1, .string ⟨#[]⟩] ∧ RIn wr N gr b (fieldsS k s5).2 ∧ Rw w N wr) (fun _ i _ => m - (intOf i).toNat)
  case atStart => exact ⟨0, none, 0, by omega, rfl, by omega, OwnX.nil _ _ _ _, hm11, hI11, hR11⟩
  case round =>
    obtain ⟨k, A1, c1, hk, rfl, hkc, hown1, hbk, hin1, hC8⟩ := hrel
    clear hI11 hm11 hR11
    by_cases hlt : k < m
    · have hi1 : (k : Int) < (m : Int) := by omega
      obtain ⟨L, hL⟩ : ∃ L, L = (fieldsS k s5).1 := ⟨_, rfl⟩
      obtain ⟨S, hS⟩ : ∃ S, S = (fieldsS k s5).2 := ⟨_, rfl⟩
      obtain ⟨nx, hnx, lnx⟩ := numS_two 2 (by omega) S
      obtain ⟨tx, htx⟩ : ∃ t, t = textS S := ⟨_, rfl⟩
      have hxx : rtxtS nx (numS 2 S).2 = tx := by rw [htx]; exact rtxt_eq hnx
      have HF : Hid (fieldsS (k + 1) s5 = (L ++ [tx.1], tx.2)) := Lib.hid (by rw [htx, hS, hL]; rfl)
      have HTX := Lib.hid hxx
      have HNX := Lib.hid hnx
      rw [← hL] at hown1
      rw [← hS] at hin1
      clear hL hS htx hxx hnx
      go_wp2_with fail
      refine calls_then (rnumber_any N gr 2 b _ _ hin1 (by omega)) ?_
      rintro e wa ⟨rfl, hia, hwa⟩
      obtain ⟨S', hS'⟩ : ∃ S', S' = (numS 2 S).2 := ⟨_, rfl⟩
      rw [← hS'] at hia
      have HXX : Hid (rtxtS nx S' = tx) := Lib.hid (by rw [hS']; exact HTX.out)
      clear hS'
      rw [HNX.out]
      obtain ⟨A0, c0, i0, hgr, _⟩ := hin1.box
      have hn1 := own_ne_blk hown1 hgr (by decide)
      have hba := hwa.blk hbk H3.out
      have hoa := hwa.own hown1 hn1
      have hCa := hC8.put hwa hg1
      have HN1 := Lib.hid hn1
      clear hgr hn1 hbk hown1 hC8 hin1 hwa
      go_wp2_with fail
      have HC0 := hCa.drew
      have HJ0 := hia.drew
      have HI0 : Blk wa.drew gm 24 #[.int .i64 k1, .string t3.1, .string t4.1, .int .i64 k2, .slice A1 k c1, .string ⟨#[]⟩] ∧ OwnX wa.drew N 9 1 (.slice A1 k c1) k (strsV L) := ⟨hba, hoa⟩
      clear hba hoa hCa hia
      refine wp_region_list (Rw w N) (fun | false => (fun u => Blk u gm 24 #[.int .i64 k1, .string t3.1, .string t4.1, .int .i64 k2, .slice A1 k c1, .string ⟨#[]⟩] ∧ OwnX u N 9 1 (.slice A1 k c1) k (strsV L)) | true => (fun u => RIn u N gr b S')) (fun | false, i => i == 6 || i == 8 | true, i => i == 4 || i == 6 || i == 8)
        [fun z u => z 0 = .pointer (some ⟨gm, 4, none⟩) ∧ Blk u gm 24 #[.int .i64 k1, .string t3.1, .string t4.1, .int .i64 k2, .slice A1 k c1, .string ⟨#[]⟩],
         fun z _ => z 1 = .slice A1 k c1,
         fun z _ => z 2 = .pointer (some ⟨gr, 0, none⟩),
         fun z _ => z 3 = .int .i64 nx,
         fun z u => z 4 = .string tx.1 ∧ RIn u N gr b tx.2,
         fun z u => (One 9 (.string tx.1)) (z 5) u,
         fun z u => ∃ A2 c2, z 6 = .slice A2 (k + 1) c2 ∧ k + 1 ≤ c2 ∧ OwnX u N 9 1 (.slice A2 (k + 1) c2) (k + 1) (strsV (L ++ [tx.1])),
         fun z _ => z 7 = .pointer (some ⟨gm, 4, none⟩),
         fun z u => ∃ A2 c2, k + 1 ≤ c2 ∧ OwnX u N 9 1 (.slice A2 (k + 1) c2) (k + 1) (strsV (L ++ [tx.1])) ∧ Blk u gm 24 #[.int .i64 k1, .string t3.1, .string t4.1, .int .i64 k2, .slice A2 (k + 1) c2, .string ⟨#[]⟩] ∧ RIn u N gr b tx.2]
        [Eq, Eq, Eq, Eq, Wrote gr, Alloc1, fun u u' => KeepBut 9 u u' ∧ Below N u u', Eq, fun _ _ => True]
        (fun i k => (i == 6 && k == 5) || (i == 8 && k == 0) || (i == 8 && k == 4) || (i == 8 && k == 5) || (i == 8 && k == 6)) [(0, some 40), (1, some 41), (2, some 42), (3, some 43), (4, some 44), (5, some 45), (6, some 46), (7, some 47), (8, none)] (by kernel_rfl) (by kernel_rfl) rfl (fun _ => rfl) ?_ ?_ ?_ ?_ ?_ ?_
      · exact HC0
      · intro m; cases m; exact HI0; exact HJ0
      · intro m; cases m
        · exact ⟨.inr (fun _ _ h h0 => h ▸ h0), .inr (fun _ _ h h0 => h ▸ h0), .inr (fun _ _ h h0 => h ▸ h0), .inr (fun _ _ h h0 => h ▸ h0), .inr (fun _ _ h h0 => ⟨h.blk h0.1 H3.out, h.own h0.2 HN1.out⟩), .inr (fun _ _ h h0 => ⟨h0.1.alloc1 h, own_alloc1 h h0.2⟩), .inl rfl, .inr (fun _ _ h h0 => h ▸ h0), .inl rfl, trivial⟩
        · exact ⟨.inr (fun _ _ h h0 => h ▸ h0), .inr (fun _ _ h h0 => h ▸ h0), .inr (fun _ _ h h0 => h ▸ h0), .inr (fun _ _ h h0 => h ▸ h0), .inl rfl, .inr (fun _ _ h h0 => h0.alloc1 h), .inl rfl, .inr (fun _ _ h h0 => h ▸ h0), .inl rfl, trivial⟩
      · exact ⟨⟨.inl rfl, .inr (.inr (.inl rfl)), .inr (.inr (.inr (fun _ _ _ _ _ h => h))), .inr (.inr (.inr (fun _ _ _ _ _ h => h))), .inr (.inr (.inr (fun _ _ _ _ h h0 => by cases h; exact h0))), .inr (.inr (.inr (fun _ _ _ _ h h0 => by cases h; exact h0))), .inr (.inr (.inl rfl)), .inr (.inr (.inl rfl)), .inr (.inr (.inl rfl)), trivial⟩,
          ⟨.inr (.inr (.inr (fun _ _ _ _ h h0 => by cases h; exact h0))), .inl rfl, .inr (.inr (.inr (fun _ _ _ _ _ h => h))), .inr (.inr (.inr (fun _ _ _ _ _ h => h))), .inr (.inr (.inr (fun _ _ _ _ h h0 => by cases h; exact h0))), .inr (.inr (.inr (fun _ _ _ _ h h0 => by cases h; exact h0))), .inr (.inr (.inl rfl)), .inr (.inr (.inl rfl)), .inr (.inr (.inl rfl)), trivial⟩,
          ⟨.inr (.inr (.inr (fun _ _ _ _ h h0 => by cases h; exact h0))), .inr (.inr (.inr (fun _ _ _ _ _ h => h))), .inl rfl, .inr (.inr (.inr (fun _ _ _ _ _ h => h))), .inr (.inr (.inl rfl)), .inr (.inr (.inl rfl)), .inr (.inr (.inl rfl)), .inr (.inr (.inl rfl)), .inr (.inr (.inl rfl)), trivial⟩,
          ⟨.inr (.inr (.inr (fun _ _ _ _ h h0 => by cases h; exact h0))), .inr (.inr (.inr (fun _ _ _ _ _ h => h))), .inr (.inr (.inr (fun _ _ _ _ _ h => h))), .inl rfl, .inr (.inr (.inl rfl)), .inr (.inr (.inl rfl)), .inr (.inr (.inl rfl)), .inr (.inr (.inl rfl)), .inr (.inr (.inl rfl)), trivial⟩,
          ⟨.inr (.inr (.inr (fun _ _ _ _ h h0 => ⟨h0.1, h.blk h0.2 H3.out⟩))), .inr (.inr (.inr (fun _ _ _ _ _ h => h))), .inr (.inr (.inr (fun _ _ _ _ _ h => h))), .inr (.inr (.inr (fun _ _ _ _ _ h => h))), .inl rfl, .inr (.inr (.inl rfl)), .inr (.inr (.inl rfl)), .inr (.inr (.inl rfl)), .inr (.inr (.inl rfl)), trivial⟩,
          ⟨.inr (.inr (.inr (fun _ _ _ _ h h0 => ⟨h0.1, h0.2.alloc1 h⟩))), .inr (.inr (.inr (fun _ _ _ _ _ h => h))), .inr (.inr (.inr (fun _ _ _ _ _ h => h))), .inr (.inr (.inr (fun _ _ _ _ _ h => h))), .inr (.inr (.inr (fun _ _ _ _ h h0 => ⟨h0.1, h0.2.alloc1 h⟩))), .inl rfl, .inr (.inr (.inl rfl)), .inr (.inr (.inl rfl)), .inr (.inr (.inl rfl)), trivial⟩,
          ⟨.inr (.inr (.inr (fun _ _ _ _ h h0 => ⟨h0.1, h0.2.keep h.1 (by decide)⟩))), .inr (.inr (.inr (fun _ _ _ _ _ h => h))), .inr (.inr (.inr (fun _ _ _ _ _ h => h))), .inr (.inr (.inr (fun _ _ _ _ _ h => h))), .inr (.inr (.inr (fun _ _ _ _ h h0 => ⟨h0.1, h0.2.keep h.1 h.2 (by decide)⟩))), .inr (.inl rfl), .inl rfl, .inr (.inr (.inl rfl)), .inr (.inr (.inl rfl)), trivial⟩,
          ⟨.inr (.inr (.inr (fun _ _ _ _ h h0 => by cases h; exact h0))), .inr (.inr (.inr (fun _ _ _ _ _ h => h))), .inr (.inr (.inr (fun _ _ _ _ _ h => h))), .inr (.inr (.inr (fun _ _ _ _ _ h => h))), .inr (.inr (.inr (fun _ _ _ _ h h0 => by cases h; exact h0))), .inr (.inr (.inr (fun _ _ _ _ h h0 => by cases h; exact h0))), .inr (.inr (.inr (fun _ _ _ _ h h0 => by cases h; exact h0))), .inl rfl, .inr (.inr (.inl rfl)), trivial⟩,
          ⟨.inr (.inl rfl), .inr (.inr (.inr (fun _ _ _ _ _ h => h))), .inr (.inr (.inr (fun _ _ _ _ _ h => h))), .inr (.inr (.inr (fun _ _ _ _ _ h => h))), .inr (.inl rfl), .inr (.inl rfl), .inr (.inl rfl), .inr (.inr (.inr (fun _ _ _ _ _ h => h))), .inl rfl, trivial⟩, trivial⟩
      · refine ⟨?_, ?_, ?_, ?_, ?_, ?_, ?_, ?_, ?_, trivial⟩
        · -- 0: Op.fieldAddr 24 (Operand.tmp 5) 4
          refine step_plain [] (fun _ => rfl) rfl ?_
          intro w1 vals hC1 hi0 hf E hE
          have hI1 : (fun u => Blk u gm 24 #[.int .i64 k1, .string t3.1, .string t4.1, .int .i64 k2, .slice A1 k c1, .string ⟨#[]⟩] ∧ OwnX u N 9 1 (.slice A1 k c1) k (strsV L)) w1 := hi0 false rfl
          try dsimp only at hI1
          clear hi0
          clear hf
          simp only [puts, act_put, act_put_none, List.setIfInBounds_toArray, List.set_cons_zero, List.set_cons_succ] at hE ⊢
          go_wp2
          exact .mk (hE _ _ ⟨rfl, hI1.1⟩ hC1 rfl)
        · -- 1: Op.load 22 (Operand.tmp 40)
          refine step_plain [(0, some 40)] (fun _ => rfl) rfl ?_
          intro w1 vals hC1 hi0 hf E hE
          have hI1 : (fun u => Blk u gm 24 #[.int .i64 k1, .string t3.1, .string t4.1, .int .i64 k2, .slice A1 k c1, .string ⟨#[]⟩] ∧ OwnX u N 9 1 (.slice A1 k c1) k (strsV L)) w1 := hi0 false rfl
          try dsimp only at hI1
          clear hi0
          have f0 : (fun z u => z 0 = .pointer (some ⟨gm, 4, none⟩) ∧ Blk u gm 24 #[.int .i64 k1, .string t3.1, .string t4.1, .int .i64 k2, .slice A1 k c1, .string ⟨#[]⟩]) vals w1 := hf 0 rfl
          try dsimp only at f0
          clear hf
          obtain ⟨hx, hb⟩ := f0
          have hc0 := hb.cell 4
          simp at hc0
          simp only [puts, act_put, act_put_none, List.setIfInBounds_toArray, List.set_cons_zero, List.set_cons_succ, hx] at hE ⊢
          clear hx
          go_wp2
          exact .mk (hE _ _ rfl hC1 rfl)
        · -- 2: Op.move (Operand.tmp 4)
          refine step_plain [] (fun _ => rfl) rfl ?_
          intro w1 vals hC1 hi0 hf E hE
          have hI1 : (fun u => Blk u gm 24 #[.int .i64 k1, .string t3.1, .string t4.1, .int .i64 k2, .slice A1 k c1, .string ⟨#[]⟩] ∧ OwnX u N 9 1 (.slice A1 k c1) k (strsV L)) w1 := hi0 false rfl
          try dsimp only at hI1
          have hJ1 : (fun u => RIn u N gr b S') w1 := hi0 true rfl
          try dsimp only at hJ1
          clear hi0
          clear hf
          simp only [puts, act_put, act_put_none, List.setIfInBounds_toArray, List.set_cons_zero, List.set_cons_succ] at hE ⊢
          go_wp2
          exact .mk (hE _ _ rfl hC1 rfl)
        · -- 3: Op.move (Operand.tmp 6)
          refine step_plain [] (fun _ => rfl) rfl ?_
          intro w1 vals hC1 hi0 hf E hE
          have hI1 : (fun u => Blk u gm 24 #[.int .i64 k1, .string t3.1, .string t4.1, .int .i64 k2, .slice A1 k c1, .string ⟨#[]⟩] ∧ OwnX u N 9 1 (.slice A1 k c1) k (strsV L)) w1 := hi0 false rfl
          try dsimp only at hI1
          have hJ1 : (fun u => RIn u N gr b S') w1 := hi0 true rfl
          try dsimp only at hJ1
          clear hi0
          clear hf
          simp only [puts, act_put, act_put_none, List.setIfInBounds_toArray, List.set_cons_zero, List.set_cons_succ] at hE ⊢
          go_wp2
          exact .mk (hE _ _ rfl hC1 rfl)
        · -- 4: Op.call { callee := Callee.value (Operand.func 24), args := #[Operand.tmp 42, Operand.tmp 43], argTypes := #[4
          refine step_plain [(2, some 42), (3, some 43)] (fun _ => rfl) rfl ?_
          intro w1 vals hC1 hi0 hf E hE
          have hI1 : (fun u => Blk u gm 24 #[.int .i64 k1, .string t3.1, .string t4.1, .int .i64 k2, .slice A1 k c1, .string ⟨#[]⟩] ∧ OwnX u N 9 1 (.slice A1 k c1) k (strsV L)) w1 := hi0 false rfl
          try dsimp only at hI1
          have hJ1 : (fun u => RIn u N gr b S') w1 := hi0 true rfl
          try dsimp only at hJ1
          clear hi0
          have f2 : vals 2 = .pointer (some ⟨gr, 0, none⟩) := hf 2 rfl
          have f3 : vals 3 = .int .i64 nx := hf 3 rfl
          try dsimp only at f2 f3
          clear hf
          simp only [puts, act_put, act_put_none, List.setIfInBounds_toArray, List.set_cons_zero, List.set_cons_succ, f2, f3] at hE ⊢
          clear f2 f3
          go_wp2_with fail
          refine calls_then (rtext_any N gr nx b _ _ hJ1 (by omega)) ?_
          rintro e w2 ⟨rfl, hi2, hw2⟩
          rw [HXX.out]
          rw [HXX.out] at hi2
          go_wp2_with fail
          exact .mk (hE _ _ ⟨rfl, hi2⟩ (hC1.put hw2 hg1) hw2)
        · -- 5: Op.buildSlice 22 1 #[(0, Operand.tmp 44)]
          refine step_plain [(4, some 44)] (fun _ => rfl) rfl ?_
          intro w1 vals hC1 hi0 hf E hE
          have hI1 : (fun u => Blk u gm 24 #[.int .i64 k1, .string t3.1, .string t4.1, .int .i64 k2, .slice A1 k c1, .string ⟨#[]⟩] ∧ OwnX u N 9 1 (.slice A1 k c1) k (strsV L)) w1 := hi0 false rfl
          try dsimp only at hI1
          clear hi0
          have f4 : (fun z u => z 4 = .string tx.1 ∧ RIn u N gr b tx.2) vals w1 := hf 4 rfl
          try dsimp only at f4
          clear hf
          obtain ⟨hx3, -⟩ := f4
          simp only [puts, act_put, act_put_none, List.setIfInBounds_toArray, List.set_cons_zero, List.set_cons_succ, hx3] at hE ⊢
          clear hx3
          go_wp2
          exact .mk (hE _ _ (One.new _ _ _) (hC1.alloc _) ⟨_, rfl⟩)
        · -- 6: Op.call { callee := Callee.builtin Builtin.append, args := #[Operand.tmp 41, Operand.tmp 45], argTypes := #[22
          refine step_plain [(1, some 41), (5, some 45), (4, some 44)] (fun _ => rfl) rfl ?_
          intro w1 vals hC1 hi0 hf E hE
          have hI1 : (fun u => Blk u gm 24 #[.int .i64 k1, .string t3.1, .string t4.1, .int .i64 k2, .slice A1 k c1, .string ⟨#[]⟩] ∧ OwnX u N 9 1 (.slice A1 k c1) k (strsV L)) w1 := hi0 false rfl
          try dsimp only at hI1
          clear hi0
          have f1 : vals 1 = .slice A1 k c1 := hf 1 rfl
          have f4 : (fun z u => z 4 = .string tx.1 ∧ RIn u N gr b tx.2) vals w1 := hf 4 rfl
          have f5 : (One 9 (.string tx.1)) (vals 5) w1 := hf 5 rfl
          try dsimp only at f1 f4 f5
          clear hf
          clear f4
          obtain ⟨g8, hx8, hg8⟩ := f5
          simp only [puts, act_put, act_put_none, List.setIfInBounds_toArray, List.set_cons_zero, List.set_cons_succ, f1, hx8] at hE ⊢
          clear f1
          clear hx8
          have hNw : N ≤ w1.heap.size := by have := hC1.size; omega
          obtain ⟨A2, c2, w2, hr2, hown2, hgr2, hn2⟩ := run_append_x (ty := 22) (c := 1) (Ad := some ⟨g8, 0, none⟩) sl_strs hI1.2 (news := [.string tx.1]) (m := 1) rfl (fun j u hu => ⟨_, rfl, by match j, hu with | 0, hu => (simp at hu; subst hu; simpa [Addr.add] using cell_of_one hg8)⟩) (by intro u hu; simp at hu; subst hu; rfl) (by unfold maxLen; omega) (by omega) hNw
          refine wpList_of_append (R := fun v' u' => v' = .slice A2 (k + 1) c2 ∧ u' = w2) rfl rfl rfl rfl ⟨_, _, hr2, rfl, rfl⟩ ?_
          rintro v' u' ⟨rfl, rfl⟩
          go_wp2_with fail
          have hc2 : k + 1 ≤ c2 := hown2.le_cap
          have hkb := keepBut_of_grown hI1.2 hgr2
          have hbl := (Below.refl N w1).grown hgr2 hNw (fun j hj => (hI1.2.lt j hj).1)
          exact .mk (hE _ _ ⟨A2, c2, rfl, hc2, by rw [show strsV (L ++ [tx.1]) = strsV L ++ [.string tx.1] by simp [strsV]]; exact hown2⟩ (hC1.keep hkb hbl (by decide)) ⟨hkb, hbl⟩)
        · -- 7: Op.fieldAddr 24 (Operand.tmp 5) 4
          refine step_plain [(0, some 40), (1, some 41), (2, some 42), (3, some 43), (4, some 44), (5, some 45), (6, some 46)] (fun _ => rfl) rfl ?_
          intro w1 vals hC1 hi0 hf E hE
          clear hi0
          have f0 : (fun z u => z 0 = .pointer (some ⟨gm, 4, none⟩) ∧ Blk u gm 24 #[.int .i64 k1, .string t3.1, .string t4.1, .int .i64 k2, .slice A1 k c1, .string ⟨#[]⟩]) vals w1 := hf 0 rfl
          have f1 : vals 1 = .slice A1 k c1 := hf 1 rfl
          have f2 : vals 2 = .pointer (some ⟨gr, 0, none⟩) := hf 2 rfl
          have f3 : vals 3 = .int .i64 nx := hf 3 rfl
          have f4 : (fun z u => z 4 = .string tx.1 ∧ RIn u N gr b tx.2) vals w1 := hf 4 rfl
          have f6 : (fun z u => ∃ A2 c2, z 6 = .slice A2 (k + 1) c2 ∧ k + 1 ≤ c2 ∧ OwnX u N 9 1 (.slice A2 (k + 1) c2) (k + 1) (strsV (L ++ [tx.1]))) vals w1 := hf 6 rfl
          try dsimp only at f0 f1 f2 f3 f4 f6
          clear hf
          simp only [puts, act_put, act_put_none, List.setIfInBounds_toArray, List.set_cons_zero, List.set_cons_succ, f1, f2, f3] at hE ⊢
          clear f1 f2 f3
          go_wp2
          exact .mk (hE _ _ rfl hC1 rfl)
        · -- 8: Op.store 22 (Operand.tmp 47) (Operand.tmp 46)
          refine step_plain [(7, some 47), (6, some 46), (6, some 46), (0, some 40), (1, some 41), (2, some 42), (3, some 43), (4, some 44), (5, some 45), (6, some 46)] (fun _ => rfl) rfl ?_
          intro w1 vals hC1 hi0 hf E hE
          clear hi0
          have f0 : (fun z u => z 0 = .pointer (some ⟨gm, 4, none⟩) ∧ Blk u gm 24 #[.int .i64 k1, .string t3.1, .string t4.1, .int .i64 k2, .slice A1 k c1, .string ⟨#[]⟩]) vals w1 := hf 0 rfl
          have f1 : vals 1 = .slice A1 k c1 := hf 1 rfl
          have f2 : vals 2 = .pointer (some ⟨gr, 0, none⟩) := hf 2 rfl
          have f3 : vals 3 = .int .i64 nx := hf 3 rfl
          have f4 : (fun z u => z 4 = .string tx.1 ∧ RIn u N gr b tx.2) vals w1 := hf 4 rfl
          have f6 : (fun z u => ∃ A2 c2, z 6 = .slice A2 (k + 1) c2 ∧ k + 1 ≤ c2 ∧ OwnX u N 9 1 (.slice A2 (k + 1) c2) (k + 1) (strsV (L ++ [tx.1]))) vals w1 := hf 6 rfl
          have f7 : vals 7 = .pointer (some ⟨gm, 4, none⟩) := hf 7 rfl
          try dsimp only at f0 f1 f2 f3 f4 f6 f7
          clear hf
          obtain ⟨A2, c2, hx9, hc2, hown2⟩ := f6
          obtain ⟨hx0, hb0⟩ := f0
          obtain ⟨-, hc3⟩ := f4
          simp only [puts, act_put, act_put_none, List.setIfInBounds_toArray, List.set_cons_zero, List.set_cons_succ, f1, f2, f3, f7, hx9, hx0] at hE ⊢
          clear f1 f2 f3 f7
          clear hx9 hx0
          refine wpList_put_cell hb0 rfl rfl rfl rfl (by kernel_rfl) (by simp) rfl ?_
          intro w2 hb2 hw2
          go_wp2_with fail
          exact .mk (hE undef _ ⟨A2, c2, hc2, hw2.own hown2 (own_ne_blk hown2 hb0 (by decide)), hb2, hc3.next hw2 H4.out (Nat.le_of_lt hg2)⟩ (hC1.put hw2 hg2) trivial)
      intro w1 vals hC1 hf
      have f1 : vals 1 = .slice A1 k c1 := hf 1 (by decide) rfl
      have f2 : vals 2 = .pointer (some ⟨gr, 0, none⟩) := hf 2 (by decide) rfl
      have f3 : vals 3 = .int .i64 nx := hf 3 (by decide) rfl
      have f7 : vals 7 = .pointer (some ⟨gm, 4, none⟩) := hf 7 (by decide) rfl
      have f8 : (fun z u => ∃ A2 c2, k + 1 ≤ c2 ∧ OwnX u N 9 1 (.slice A2 (k + 1) c2) (k + 1) (strsV (L ++ [tx.1])) ∧ Blk u gm 24 #[.int .i64 k1, .string t3.1, .string t4.1, .int .i64 k2, .slice A2 (k + 1) c2, .string ⟨#[]⟩] ∧ RIn u N gr b tx.2) vals w1 := hf 8 (by decide) rfl
      try dsimp only at f1 f2 f3 f7 f8
      clear hf
      simp only [puts, act_put, act_put_none, List.setIfInBounds_toArray, List.set_cons_zero, List.set_cons_succ, f1, f2, f3, f7]
      clear f1 f2 f3 f7
      generalize vals 0 = x0 at *
      generalize vals 4 = x4 at *
      generalize vals 5 = x5 at *
      generalize vals 6 = x6 at *
      obtain ⟨A2, c2, hc2, hown2, hb2, hclo9⟩ := f8
      clear HI0 HC0 HJ0
      go_wp2_with fail
      go_roundw
      case rel => exact ⟨k + 1, A2, c2, hlt, by go_num, hc2, by rw [HF.out]; exact hown2, hb2, by rw [HF.out]; exact hclo9, hC1⟩
      case measure => simp [intOf]; omega
    · obtain rfl : k = m := by omega
      obtain ⟨L, hL⟩ : ∃ L, L = (fieldsS k s5).1 := ⟨_, rfl⟩
      obtain ⟨S, hS⟩ : ∃ S, S = (fieldsS k s5).2 := ⟨_, rfl⟩
      obtain ⟨n, hn, hn2⟩ := numS_two 1 (by omega) S
      obtain ⟨s7, hs7⟩ : ∃ s, s = (numS 1 S).2 := ⟨_, rfl⟩
      obtain ⟨tk, htk⟩ : ∃ t, t = takeS n s7 := ⟨_, rfl⟩
      have hrt : rtxtS n s7 = (⟨tk.1.toArray⟩, tk.2) := by rw [htk]; rfl
      have HL := Lib.hid hL
      have HS := Lib.hid hS
      have HNN := Lib.hid hn
      have HS7 := Lib.hid hs7
      have HTK := Lib.hid htk
      have HRT := Lib.hid hrt
      rw [← hL] at hown1
      rw [← hS] at hin1
      obtain ⟨A0, c0, i0, hgr, _⟩ := hin1.box
      have hn1 := own_ne_blk hown1 hgr (by decide)
      have HN1 := Lib.hid hn1
      clear hgr hL hS hn hs7 htk hrt hn1
      go_wp2_with fail
      refine calls_then (rnumber_any N gr 1 b _ _ hin1 (by omega)) ?_
      rintro e wa ⟨rfl, hia, hwa⟩
      rw [HNN.out]
      rw [← HS7.out] at hia
      have hba := hwa.blk hbk H3.out
      have hoa := hwa.own hown1 HN1.out
      have hCa := hC8.put hwa hg1
      clear hbk hown1 hC8 hin1 hwa
      go_wp2_with fail
      refine calls_then (rtext_any N gr n b _ _ hia (by omega)) ?_
      rintro e wb ⟨rfl, hib, hwb⟩
      rw [HRT.out]
      rw [HRT.out] at hib
      have hbb := hwb.blk hba H3.out
      have hob := hwb.own hoa HN1.out
      have hCb := hCa.put hwb hg1
      clear hba hoa hCa hia hwb
      have hu := Try.underlying24
      obtain ⟨sh, hsh⟩ : ∃ sh, sh = tk.2.short := ⟨_, rfl⟩
      have HSH := Lib.hid hsh
      clear hsh
      have hsaid : saidS b = ⟨⟨k1, t3.1, t4.1, k2, L, ⟨tk.1.toArray⟩⟩, tk.2⟩ := by
        simp only [saidS]
        rw [← Es1.out, ← Ek1.out, ← Es2.out, ← Ek2.out, ← ET3.out, ← ET4.out, EM.out, ← ES5.out, Int.toNat_natCast, ← HL.out, ← HS.out, HNN.out, ← HS7.out, Int.toNat_natCast, ← HTK.out]
      have hok := said_ok b
      have hLk : L.length = k := by rw [HL.out]; exact fieldsS_length _ _
      rw [hsaid] at hok
      have HSAID := Lib.hid hsaid
      have HOK := Lib.hid hok
      have HLK := Lib.hid hLk
      clear hsaid hok hLk
      cases sh with
      | true =>
        go_wp2_with (first
          | (refine wpList_put_cell (x := .tmp 53) (i := 5) (v := .string ⟨tk.1.toArray⟩) hbb rfl rfl rfl rfl (by kernel_rfl) (by simp) rfl ?_; intro wc hbc hwc; obtain ⟨i9, cs, ci, hi9, HRE⟩ := rin_facts hib hwc H4.out (Nat.le_of_lt hg2) HSH.out; have hCc := hCb.put hwc hg2)
          | (refine wpList_put_box (x := .tmp 2) hCc.box rfl rfl rfl rfl msg_size rfl (by simp [Value.oneCell']) ?_; intro w5 hb5 hw5))
        have := hCc.size
        refine bodyPost_ret (results_box_tmp (P := Try.prog) rfl rfl hb5 hu rfl msg_size) rfl ?_
        have e1 : unpS b = (zeroM, 3) := by unfold unpS; rw [HSAID.out]; simp [← HSH.out]
        rw [UnpPost, e1]
        refine ⟨?_, none, 0, rfl, Nat.zero_le _, OwnX.nil _ _ _ _⟩
        rw [HN.out]
        exact hw5.below hCc.below (Nat.le_refl _) (by omega)
      | false =>
        have hmay : ∀ (W : World), OwnX W N 9 1 (.slice A1 k c1) k (strsV L) → Calls Try.prog 13 #[.agg #[.int .i64 k1, .string t3.1, .string t4.1, .int .i64 k2, .slice A1 k c1, .string ⟨tk.1.toArray⟩]] W
            fun e w' => e = .returned (.bool (mayB ⟨k1, t3.1, t4.1, k2, L, ⟨tk.1.toArray⟩⟩)) ∧ w' = W.alloc (.cells #[.int .i64 k1, .string t3.1, .string t4.1, .int .i64 k2, .slice A1 k c1, .string ⟨tk.1.toArray⟩] 24) := by
          intro W h
          have hw := rmay_any ⟨k1, t3.1, t4.1, k2, L, ⟨tk.1.toArray⟩⟩ A1 c1 W.heap.size W (Rd.of_own h (Nat.le_refl _)) (Nat.le_refl _) (by rw [HLK.out]; exact hkc) HOK.out
          dsimp only [msgCells] at hw
          rw [HLK.out] at hw
          exact hw
        have HMAY := Lib.hid hmay
        clear hmay
        go_wp2_with (first
          | (refine wpList_put_cell (x := .tmp 53) (i := 5) (v := .string ⟨tk.1.toArray⟩) hbb rfl rfl rfl rfl (by kernel_rfl) (by simp) rfl ?_; intro wc hbc hwc; obtain ⟨i9, cs, ci, hi9, HRE⟩ := rin_facts hib hwc H4.out (Nat.le_of_lt hg2) HSH.out; have hCc := hCb.put hwc hg2)
          | (refine wpList_get_box (x := .tmp 5) hbc rfl rfl rfl hu rfl msg_size ?_))
        have hoc := hwc.own hob (own_ne_blk hob hbb (by decide))
        refine calls_then (HMAY.out _ hoc) ?_
        rintro e wd ⟨rfl, rfl⟩
        obtain ⟨O, hO⟩ : ∃ O, O = Obj.cells #[.int .i64 k1, .string t3.1, .string t4.1, .int .i64 k2, .slice A1 k c1, .string ⟨tk.1.toArray⟩] 24 := ⟨_, rfl⟩
        rw [← hO]
        have hCd := hCc.alloc O
        have hod := hoc.alloc O
        have hbd : Blk (wc.alloc O) gm 24 #[.int .i64 k1, .string t3.1, .string t4.1, .int .i64 k2, .slice A1 k c1, .string ⟨tk.1.toArray⟩] := hbc.alloc O
        have cid : (wc.alloc O).cell? ⟨gr, 1, none⟩ = some (.int .i64 i9) := by
          obtain ⟨A7, c7, i7, h7, _⟩ := hib.box
          have h8 := (hwc.blk h7 H4.out)
          have h9 := (h8.alloc O).cell 1
          rw [h9, ← h8.cell 1]
          exact ci
        clear hO hoc hob hbb hbc hib hwc hCb hCc cs ci
        generalize wc.alloc O = wd at *
        obtain ⟨MB, hMB⟩ : ∃ x, x = mayB ⟨k1, t3.1, t4.1, k2, L, ⟨tk.1.toArray⟩⟩ := ⟨_, rfl⟩
        rw [← hMB]
        have HMB := Lib.hid hMB
        clear hMB
        by_cases hii : i9 = b.length
        · have hrest : tk.2.rest = [] := by rw [HRE.out, ← HSH.out, hii]; simp
          have HREST := Lib.hid hrest
          subst hii
          have hne : (((b.length : Nat) : Int) != ((b.length : Nat) : Int)) = false := by simp
          clear hrest
          have HOD := Lib.hid hod
          clear hod
          cases MB with
          | true =>
            go_wp2_with (first
              | (refine wpList_get_box (x := .tmp 5) hbd rfl rfl rfl hu rfl msg_size ?_)
              | (refine wpList_put_box (x := .tmp 2) hCd.box rfl rfl rfl rfl msg_size rfl (by simp [Value.oneCell']) ?_; intro w5 hb5 hw5))
            refine bodyPost_ret (results_box_tmp (P := Try.prog) rfl rfl hb5 hu rfl msg_size) rfl ?_
            have e1 : unpS b = (⟨k1, t3.1, t4.1, k2, L, ⟨tk.1.toArray⟩⟩, 0) := by unfold unpS; rw [HSAID.out]; simp [← HSH.out, HREST.out, ← HMB.out]
            have := hCd.size
            rw [UnpPost, e1, HN.out]
            refine ⟨hw5.below hCd.below (Nat.le_refl _) (by omega), A1, c1, ?_, ?_, ?_⟩
            · dsimp only [msgCells]; rw [HLK.out]; rfl
            · dsimp only; rw [HLK.out]; exact hkc
            · dsimp only; rw [HLK.out]; exact hw5.own HOD.out (own_ne_blk HOD.out hCd.box (by decide))
          | false =>
            go_wp2_with (refine wpList_put_box (x := .tmp 2) hCd.box rfl rfl rfl rfl msg_size rfl (by simp [Value.oneCell']) ?_; intro w5 hb5 hw5)
            have := hCd.size
            refine bodyPost_ret (results_box_tmp (P := Try.prog) rfl rfl hb5 hu rfl msg_size) rfl ?_
            have e1 : unpS b = (zeroM, 2) := by unfold unpS; rw [HSAID.out]; simp [← HSH.out, HREST.out, ← HMB.out]
            rw [UnpPost, e1]
            refine ⟨?_, none, 0, rfl, Nat.zero_le _, OwnX.nil _ _ _ _⟩
            rw [HN.out]
            exact hw5.below hCd.below (Nat.le_refl _) (by omega)
        · have hrest : ¬ tk.2.rest = [] := by
            rw [HRE.out, ← HSH.out]
            simp
            omega
          have HREST := Lib.hid hrest
          have hne : ((i9 : Int) != (b.length : Int)) = true := by rw [bne_iff_ne]; omega
          clear hrest
          go_wp2_with (refine wpList_put_box (x := .tmp 2) hCd.box rfl rfl rfl rfl msg_size rfl (by simp [Value.oneCell']) ?_; intro w5 hb5 hw5)
          have := hCd.size
          refine bodyPost_ret (results_box_tmp (P := Try.prog) rfl rfl hb5 hu rfl msg_size) rfl ?_
          have e1 : unpS b = (zeroM, 2) := by unfold unpS; rw [HSAID.out]; simp [← HSH.out, HREST.out]
          rw [UnpPost, e1]
          refine ⟨?_, none, 0, rfl, Nat.zero_le _, OwnX.nil _ _ _ _⟩
          rw [HN.out]
          exact hw5.below hCd.below (Nat.le_refl _) (by omega)
end Go.Proofs.Ytlngjalclagojaa
