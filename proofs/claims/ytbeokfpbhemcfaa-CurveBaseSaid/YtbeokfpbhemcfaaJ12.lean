/-
  Joined texts: Sml Rll El.
-/
import Derived.Test.YtbeokfpbhemcfaaJ9
import Derived.Test.YtbeokfpbhemcfaaJ4
import Derived.Test.YtbeokfpbhemcfaaJ11
/-
  Walks: the reference's Small and L.
-/
namespace Go.Proofs.Ytbeokfpbhemcfaa
set_option linter.unusedSimpArgs false
set_option linter.unusedVariables false
open Go.RowKit

def smD : List Nat := [2, 7, 7, 4, 2, 3, 1, 7, 7, 7, 7, 3, 7, 2, 3, 5, 3, 5, 3, 5, 8, 5, 1, 9, 3, 7, 7, 9, 0, 8, 8, 3, 6, 4, 8, 4, 9, 3]
def smS : ByteArray := ⟨#[50, 55, 55, 52, 50, 51, 49, 55, 55, 55, 55, 51, 55, 50, 51, 53, 51, 53, 51, 53, 56, 53, 49, 57, 51, 55, 55, 57, 48, 56, 56, 51, 54, 52, 56, 52, 57, 51]⟩
def smV : Nat → Nat
  | 0 => 0
  | k + 1 => smV k * 10 + smD.getD k 0
theorem smV_lt : ∀ k, k < 39 → smV k < 256 ^ 16 := by decide
theorem smD_lt : ∀ k, smD.getD k 0 < 10 := fun k => by
  by_cases h : k < 38
  · revert k; decide
  · rw [List.getD_eq_getElem?_getD, List.getElem?_eq_none (by simp [smD]; omega)]; decide
theorem smV_end : smV 38 = 27742317777372353535851937790883648493 := by decide
theorem sm_index : ∀ (i : Nat), i < 38 → ∀ u : World, (Instr.index 9 (.string smS) (.int .i64 (i : Int))).run Try.prog u = .ok (.int .u8 ((48 + smD.getD i 0 : Nat) : Int)) u
  | 0, _ => fun u => by kernel_rfl
  | 1, _ => fun u => by kernel_rfl
  | 2, _ => fun u => by kernel_rfl
  | 3, _ => fun u => by kernel_rfl
  | 4, _ => fun u => by kernel_rfl
  | 5, _ => fun u => by kernel_rfl
  | 6, _ => fun u => by kernel_rfl
  | 7, _ => fun u => by kernel_rfl
  | 8, _ => fun u => by kernel_rfl
  | 9, _ => fun u => by kernel_rfl
  | 10, _ => fun u => by kernel_rfl
  | 11, _ => fun u => by kernel_rfl
  | 12, _ => fun u => by kernel_rfl
  | 13, _ => fun u => by kernel_rfl
  | 14, _ => fun u => by kernel_rfl
  | 15, _ => fun u => by kernel_rfl
  | 16, _ => fun u => by kernel_rfl
  | 17, _ => fun u => by kernel_rfl
  | 18, _ => fun u => by kernel_rfl
  | 19, _ => fun u => by kernel_rfl
  | 20, _ => fun u => by kernel_rfl
  | 21, _ => fun u => by kernel_rfl
  | 22, _ => fun u => by kernel_rfl
  | 23, _ => fun u => by kernel_rfl
  | 24, _ => fun u => by kernel_rfl
  | 25, _ => fun u => by kernel_rfl
  | 26, _ => fun u => by kernel_rfl
  | 27, _ => fun u => by kernel_rfl
  | 28, _ => fun u => by kernel_rfl
  | 29, _ => fun u => by kernel_rfl
  | 30, _ => fun u => by kernel_rfl
  | 31, _ => fun u => by kernel_rfl
  | 32, _ => fun u => by kernel_rfl
  | 33, _ => fun u => by kernel_rfl
  | 34, _ => fun u => by kernel_rfl
  | 35, _ => fun u => by kernel_rfl
  | 36, _ => fun u => by kernel_rfl
  | 37, _ => fun u => by kernel_rfl
  | i + 38, h => absurd h (by omega)
theorem leV_top {l : List Nat} (h0 : 0 < l.length) (h : l.getD (l.length - 1) 0 ≠ 0) : 256 ^ (l.length - 1) ≤ leV l := by
  obtain ⟨p, hp⟩ : ∃ p, l.length = p + 1 := ⟨l.length - 1, by omega⟩
  rw [hp, Nat.add_sub_cancel] at h ⊢
  have hs := leV_take_step l p
  rw [show l.take (p + 1) = l from List.take_of_length_le (by omega)] at hs
  rw [hs]
  have : 1 ≤ l.getD p 0 := by omega
  have h2 : 256 ^ p * 1 ≤ 256 ^ p * l.getD p 0 := Nat.mul_le_mul_left _ this
  omega
theorem sm_len {l : List Nat} {k : Nat} (hk : k < 39) (h0 : 0 < l.length) (hv : leV l = smV k) (ht : l.length = 1 ∨ l.getD (l.length - 1) 0 ≠ 0) : l.length ≤ 16 := by
  rcases ht with h | h
  · omega
  · have h1 := leV_top h0 h
    rw [hv] at h1
    have h2 := Nat.lt_of_le_of_lt h1 (smV_lt k hk)
    have h3 : l.length - 1 < 16 := (Nat.pow_lt_pow_iff_right (by decide)).1 h2
    omega
/-- the digits of a prefix -/
structure SmL (i : Nat) (l : List Nat) : Prop where
  dg : Dg l
  pos : 0 < l.length
  val : leV l = smV i
  top : l.length = 1 ∨ l.getD (l.length - 1) 0 ≠ 0
def SmallPost (w : World) (e : Ending) (w' : World) : Prop := ∃ l A c, e = .returned (.slice A l.length c) ∧ SmL 38 l ∧ l.length ≤ c ∧ Rd w' w'.heap.size A (dV l) ∧ Below w.heap.size w w'
set_option maxRecDepth 100000 in
set_option maxHeartbeats 4000000 in
theorem small_any (w : World) : Calls Try.prog 49 #[] w (SmallPost w) := by
  obtain ⟨S, hS⟩ : ∃ S, S = smS := ⟨_, rfl⟩
  have hsz : S.size = 38 := by rw [hS]; rfl
  have HIX := Lib.hid (show ∀ (i : Nat), i < 38 → ∀ u : World, (Instr.index 9 (.string S) (.int .i64 (i : Int))).run Try.prog u = .ok (.int .u8 ((48 + smD.getD i 0 : Nat) : Int)) u from by rw [hS]; exact sm_index)
  have HB0 := Lib.hid (below_new w (.cells (dV [0]).toArray 3))
  have HN0 := Lib.hid (Blk.new w 3 (dV [0]).toArray)
  have hst : SmL 0 [0] := ⟨by unfold Dg; decide, by decide, rfl, .inl rfl⟩
  have HL0 := Lib.hid hst
  clear hst
  go_enter Try.func49, Try.ntmps49
  go_wp2_with fail
  rw [show (ByteArray.mk #[50, 55, 55, 52, 50, 51, 49, 55, 55, 55, 55, 51, 55, 50, 51, 53, 51, 53, 51, 53, 56, 53, 49, 57, 51, 55, 55, 57, 48, 56, 56, 51, 54, 52, 56, 52, 57, 51]) = S from hS.symm]
  clear hS
  have hst0 : ∃ (k : Nat) (l : List Nat) (A1 : Option Addr) (c1 : Nat), k ≤ 38 ∧ (Value.int .i64 0) = .int .i64 (k : Int) ∧ Value.slice (some ⟨w.heap.size, 0, none⟩) 1 1 = .slice A1 l.length c1 ∧ SmL k l ∧ l.length ≤ c1 ∧ Rd (w.alloc (.cells (dV [0]).toArray 3)) (w.alloc (.cells (dV [0]).toArray 3)).heap.size A1 (dV l) ∧ Below w.heap.size w (w.alloc (.cells (dV [0]).toArray 3)) :=
    ⟨0, [0], some ⟨w.heap.size, 0, none⟩, 1, by omega, rfl, rfl, HL0.out, Nat.le_refl _, Rd.of_blk HN0.out HN0.out.lt, HB0.out⟩
  have HST0 := Lib.hid hst0
  clear hst0 HL0 HN0 HB0
  go_loopw [2, 3] (fun v i wr => ∃ (k : Nat) (l : List Nat) (A1 : Option Addr) (c1 : Nat), k ≤ 38 ∧ i = .int .i64 (k : Int) ∧ v = .slice A1 l.length c1 ∧ SmL k l ∧ l.length ≤ c1 ∧ Rd wr wr.heap.size A1 (dV l) ∧ Below w.heap.size w wr) (fun _ i _ => 38 - (intOf i).toNat)
  case atStart => exact HST0.out
  case round =>
    clear HST0
    obtain ⟨k, l, A1, c1, hk, rfl, rfl, hl, hlc, hrd, hbel⟩ := hrel
    have hl16 := sm_len (by omega) hl.pos hl.val hl.top
    obtain ⟨m, hm⟩ : ∃ m, m = l.length := ⟨_, rfl⟩
    rw [← hm]
    have hm16 : m ≤ 16 := by omega
    have HRD := Lib.hid hrd
    have HBEL := Lib.hid hbel
    have HL := Lib.hid hl
    have HM := Lib.hid hm
    have HLC := Lib.hid hlc
    clear hl hlc hrd hbel
    by_cases hlt : k < 38
    · have hlt' : (k : Int) < 38 := by omega
      obtain ⟨d, hd⟩ : ∃ d, d = smD.getD k 0 := ⟨_, rfl⟩
      have hd10 : d < 10 := by rw [hd]; exact smD_lt k
      obtain ⟨ch, hch⟩ : ∃ ch, ch = 48 + d := ⟨_, rfl⟩
      have hix : ∀ u : World, (Instr.index 9 (.string S) (.int .i64 (k : Int))).run Try.prog u = .ok (.int .u8 (ch : Int)) u := fun u => by rw [hch, hd]; exact HIX.out k hlt u
      have hchd : (ch : Int) - 48 = (d : Int) := by omega
      have hch1 : (48 : Int) ≤ (ch : Int) := by omega
      have hch2 : (ch : Int) < 58 := by omega
      obtain ⟨l1, hl1⟩ : ∃ l1, l1 = digN (m + 1 + 1) (leV l * leV [10]) := ⟨_, rfl⟩
      have h10 : Dg [10] := by unfold Dg; decide
      have hdd : Dg [d] := fun x hx => by simp at hx; omega
      have hl1v : leV l1 = leV l * 10 := by
        have h := times_val HL.out.dg h10
        rw [← hm] at h
        rw [hl1]; exact h
      have hl1d : Dg l1 := by rw [hl1]; exact digN_dg _ _
      have hl1l : l1.length = m + 2 := by rw [hl1, digN_length]
      obtain ⟨l2, hl2⟩ : ∃ l2, l2 = digN (max (m + 2) 1 + 1) (leV l1 + leV [d]) := ⟨_, rfl⟩
      have hl2v : leV l2 = smV (k + 1) := by
        have h := plus_val hl1d hdd
        rw [hl1l] at h
        rw [hl2]
        refine h.trans ?_
        rw [hl1v, HL.out.val, smV, ← hd]
        simp [leV]
      have hl2d : Dg l2 := by rw [hl2]; exact digN_dg _ _
      have hl2l : l2.length = m + 3 := by rw [hl2, digN_length]; omega
      have CT := Lib.hid (show ∀ (u : World) A3 c3 A4 c4, Rd u u.heap.size A3 (dV l) → Rd u u.heap.size A4 (dV [10]) → Calls Try.prog 63 #[.slice A3 m c3, .slice A4 1 c4] u (DigPost l1 u) from fun u A3 c3 A4 c4 h3 h4 => by
        have h := times_any l [10] HL.out.dg h10 A3 A4 c3 c4 u h3 h4 (by omega) (by decide)
        rw [← hm] at h
        rw [hl1]; exact h)
      have CP := Lib.hid (show ∀ (u : World) A3 c3 A4 c4, Rd u u.heap.size A3 (dV l1) → Rd u u.heap.size A4 (dV [d]) → Calls Try.prog 20 #[.slice A3 (m + 2) c3, .slice A4 1 c4] u (DigPost l2 u) from fun u A3 c3 A4 c4 h3 h4 => by
        have h := rplus_any l1 [d] hl1d hdd A3 A4 c3 c4 u h3 h4 (by omega) (by simp)
        rw [hl1l] at h
        rw [hl2]; exact h)
      have HL1L := Lib.hid hl1l
      have HL2V := Lib.hid hl2v
      have HL2D := Lib.hid hl2d
      have HL2L := Lib.hid hl2l
      have HC0 : Cs [.rd A1 (dV l)] w wr.drew := ⟨⟨HRD.out, trivial⟩, HBEL.out.drew⟩
      clear hd hd10 hch hl1 h10 hdd hl1v hl1d hl1l hl2 hl2v hl2d hl2l hm
      go_wp2_with fail
      refine wp_region_list (fun u => Cs [.rd A1 (dV l)] w u) (fun | false => (fun _ => True) | true => (fun _ => True)) (fun | false, _ => false | true, _ => false)
        [fun z _ => z 0 = .slice A1 m c1,
         fun z u => (RdV 1 (dV [10])) (z 1) u,
         fun z u => (RdV l1.length (dV l1)) (z 2) u,
         fun z _ => z 3 = .string S,
         fun z _ => z 4 = .int .i64 (k : Int),
         fun z _ => z 5 = .int .u8 (ch : Int),
         fun z _ => z 6 = .int .u8 (d : Int),
         fun z _ => z 7 = .int .i64 (d : Int),
         fun z u => (RdV 1 (dV [d])) (z 8) u,
         fun z u => (RdV l2.length (dV l2)) (z 9) u,
         fun z u => (RdV l2.length (dV l2)) (z 10) u]
        [Eq, fun u u' => Below u.heap.size u u', fun u u' => Below u.heap.size u u', Eq, Eq, Eq, Eq, Eq, fun u u' => Below u.heap.size u u', fun u u' => Below u.heap.size u u', Eq]
        (fun _ _ => false) [(0, some 11), (1, some 12), (2, some 13), (3, some 14), (4, some 15), (5, some 16), (6, some 17), (7, some 18), (8, some 19), (9, some 20), (10, some 2)] (by kernel_rfl) (by kernel_rfl) rfl (fun _ => rfl) ?_ ?_ ?_ ?_ ?_ ?_
      · exact HC0
      · intro m; cases m; exact trivial; exact trivial
      · intro m; cases m
        · exact ⟨.inr (fun _ _ h h0 => h ▸ h0), .inr (fun _ _ _ h => h), .inr (fun _ _ _ h => h), .inr (fun _ _ h h0 => h ▸ h0), .inr (fun _ _ h h0 => h ▸ h0), .inr (fun _ _ h h0 => h ▸ h0), .inr (fun _ _ h h0 => h ▸ h0), .inr (fun _ _ h h0 => h ▸ h0), .inr (fun _ _ _ h => h), .inr (fun _ _ _ h => h), .inr (fun _ _ h h0 => h ▸ h0), trivial⟩
        · exact ⟨.inr (fun _ _ h h0 => h ▸ h0), .inr (fun _ _ _ h => h), .inr (fun _ _ _ h => h), .inr (fun _ _ h h0 => h ▸ h0), .inr (fun _ _ h h0 => h ▸ h0), .inr (fun _ _ h h0 => h ▸ h0), .inr (fun _ _ h h0 => h ▸ h0), .inr (fun _ _ h h0 => h ▸ h0), .inr (fun _ _ _ h => h), .inr (fun _ _ _ h => h), .inr (fun _ _ h h0 => h ▸ h0), trivial⟩
      · exact ⟨⟨.inl rfl, .inr (.inr (.inr (fun _ _ _ _ h h0 => by cases h; exact h0))), .inr (.inr (.inl rfl)), .inr (.inr (.inr (fun _ _ _ _ _ h => h))), .inr (.inr (.inr (fun _ _ _ _ _ h => h))), .inr (.inr (.inr (fun _ _ _ _ _ h => h))), .inr (.inr (.inr (fun _ _ _ _ _ h => h))), .inr (.inr (.inr (fun _ _ _ _ _ h => h))), .inr (.inr (.inr (fun _ _ _ _ h h0 => by cases h; exact h0))), .inr (.inr (.inl rfl)), .inr (.inr (.inl rfl)), trivial⟩,
          ⟨.inr (.inr (.inr (fun _ _ _ _ _ h => h))), .inl rfl, .inr (.inr (.inl rfl)), .inr (.inr (.inr (fun _ _ _ _ _ h => h))), .inr (.inr (.inr (fun _ _ _ _ _ h => h))), .inr (.inr (.inr (fun _ _ _ _ _ h => h))), .inr (.inr (.inr (fun _ _ _ _ _ h => h))), .inr (.inr (.inr (fun _ _ _ _ _ h => h))), .inr (.inr (.inr (fun _ _ _ _ h h0 => h0.next h))), .inr (.inr (.inl rfl)), .inr (.inr (.inl rfl)), trivial⟩,
          ⟨.inr (.inr (.inr (fun _ _ _ _ _ h => h))), .inr (.inr (.inr (fun _ _ _ _ h h0 => h0.next h))), .inl rfl, .inr (.inr (.inr (fun _ _ _ _ _ h => h))), .inr (.inr (.inr (fun _ _ _ _ _ h => h))), .inr (.inr (.inr (fun _ _ _ _ _ h => h))), .inr (.inr (.inr (fun _ _ _ _ _ h => h))), .inr (.inr (.inr (fun _ _ _ _ _ h => h))), .inr (.inr (.inr (fun _ _ _ _ h h0 => h0.next h))), .inr (.inr (.inl rfl)), .inr (.inr (.inl rfl)), trivial⟩,
          ⟨.inr (.inr (.inr (fun _ _ _ _ _ h => h))), .inr (.inr (.inr (fun _ _ _ _ h h0 => by cases h; exact h0))), .inr (.inr (.inr (fun _ _ _ _ h h0 => by cases h; exact h0))), .inl rfl, .inr (.inr (.inr (fun _ _ _ _ _ h => h))), .inr (.inr (.inl rfl)), .inr (.inr (.inl rfl)), .inr (.inr (.inl rfl)), .inr (.inr (.inr (fun _ _ _ _ h h0 => by cases h; exact h0))), .inr (.inr (.inr (fun _ _ _ _ h h0 => by cases h; exact h0))), .inr (.inr (.inl rfl)), trivial⟩,
          ⟨.inr (.inr (.inr (fun _ _ _ _ _ h => h))), .inr (.inr (.inr (fun _ _ _ _ h h0 => by cases h; exact h0))), .inr (.inr (.inr (fun _ _ _ _ h h0 => by cases h; exact h0))), .inr (.inr (.inr (fun _ _ _ _ _ h => h))), .inl rfl, .inr (.inr (.inl rfl)), .inr (.inr (.inl rfl)), .inr (.inr (.inl rfl)), .inr (.inr (.inr (fun _ _ _ _ h h0 => by cases h; exact h0))), .inr (.inr (.inr (fun _ _ _ _ h h0 => by cases h; exact h0))), .inr (.inr (.inl rfl)), trivial⟩,
          ⟨.inr (.inr (.inr (fun _ _ _ _ _ h => h))), .inr (.inr (.inr (fun _ _ _ _ h h0 => by cases h; exact h0))), .inr (.inr (.inr (fun _ _ _ _ h h0 => by cases h; exact h0))), .inr (.inr (.inr (fun _ _ _ _ _ h => h))), .inr (.inr (.inr (fun _ _ _ _ _ h => h))), .inl rfl, .inr (.inr (.inl rfl)), .inr (.inr (.inl rfl)), .inr (.inr (.inl rfl)), .inr (.inr (.inr (fun _ _ _ _ h h0 => by cases h; exact h0))), .inr (.inr (.inl rfl)), trivial⟩,
          ⟨.inr (.inr (.inr (fun _ _ _ _ _ h => h))), .inr (.inr (.inr (fun _ _ _ _ h h0 => by cases h; exact h0))), .inr (.inr (.inr (fun _ _ _ _ h h0 => by cases h; exact h0))), .inr (.inr (.inr (fun _ _ _ _ _ h => h))), .inr (.inr (.inr (fun _ _ _ _ _ h => h))), .inr (.inr (.inr (fun _ _ _ _ _ h => h))), .inl rfl, .inr (.inr (.inl rfl)), .inr (.inr (.inl rfl)), .inr (.inr (.inl rfl)), .inr (.inr (.inl rfl)), trivial⟩,
          ⟨.inr (.inr (.inr (fun _ _ _ _ _ h => h))), .inr (.inr (.inr (fun _ _ _ _ h h0 => by cases h; exact h0))), .inr (.inr (.inr (fun _ _ _ _ h h0 => by cases h; exact h0))), .inr (.inr (.inr (fun _ _ _ _ _ h => h))), .inr (.inr (.inr (fun _ _ _ _ _ h => h))), .inr (.inr (.inr (fun _ _ _ _ _ h => h))), .inr (.inr (.inr (fun _ _ _ _ _ h => h))), .inl rfl, .inr (.inr (.inl rfl)), .inr (.inr (.inl rfl)), .inr (.inr (.inl rfl)), trivial⟩,
          ⟨.inr (.inr (.inr (fun _ _ _ _ _ h => h))), .inr (.inr (.inr (fun _ _ _ _ h h0 => h0.next h))), .inr (.inr (.inr (fun _ _ _ _ h h0 => h0.next h))), .inr (.inr (.inr (fun _ _ _ _ _ h => h))), .inr (.inr (.inr (fun _ _ _ _ _ h => h))), .inr (.inr (.inr (fun _ _ _ _ _ h => h))), .inr (.inr (.inr (fun _ _ _ _ _ h => h))), .inr (.inr (.inr (fun _ _ _ _ _ h => h))), .inl rfl, .inr (.inr (.inl rfl)), .inr (.inr (.inl rfl)), trivial⟩,
          ⟨.inr (.inr (.inr (fun _ _ _ _ _ h => h))), .inr (.inr (.inr (fun _ _ _ _ h h0 => h0.next h))), .inr (.inr (.inr (fun _ _ _ _ h h0 => h0.next h))), .inr (.inr (.inr (fun _ _ _ _ _ h => h))), .inr (.inr (.inr (fun _ _ _ _ _ h => h))), .inr (.inr (.inr (fun _ _ _ _ _ h => h))), .inr (.inr (.inr (fun _ _ _ _ _ h => h))), .inr (.inr (.inr (fun _ _ _ _ _ h => h))), .inr (.inr (.inr (fun _ _ _ _ h h0 => h0.next h))), .inl rfl, .inr (.inr (.inl rfl)), trivial⟩,
          ⟨.inr (.inr (.inr (fun _ _ _ _ _ h => h))), .inr (.inr (.inr (fun _ _ _ _ h h0 => by cases h; exact h0))), .inr (.inr (.inr (fun _ _ _ _ h h0 => by cases h; exact h0))), .inr (.inr (.inr (fun _ _ _ _ _ h => h))), .inr (.inr (.inr (fun _ _ _ _ _ h => h))), .inr (.inr (.inr (fun _ _ _ _ _ h => h))), .inr (.inr (.inr (fun _ _ _ _ _ h => h))), .inr (.inr (.inr (fun _ _ _ _ _ h => h))), .inr (.inr (.inr (fun _ _ _ _ h h0 => by cases h; exact h0))), .inr (.inr (.inr (fun _ _ _ _ h h0 => by cases h; exact h0))), .inl rfl, trivial⟩, trivial⟩
      · refine ⟨?_, ?_, ?_, ?_, ?_, ?_, ?_, ?_, ?_, ?_, ?_, trivial⟩
        · -- 0: Op.move (Operand.tmp 2)
          refine step_plain [] (fun _ => rfl) rfl ?_
          intro w1 vals hC1 hi0 hf E hE
          clear hi0
          clear hf
          simp only [puts, act_put, act_put_none, List.setIfInBounds_toArray, List.set_cons_zero, List.set_cons_succ] at hE ⊢
          go_wp2
          exact .mk (hE _ _ rfl hC1 rfl)
        · -- 1: Op.buildSlice 32 1 #[(0, Operand.const (Value.int IntKind.i64 10))]
          refine step_plain [] (fun _ => rfl) rfl ?_
          intro w1 vals hC1 hi0 hf E hE
          clear hi0
          clear hf
          simp only [puts, act_put, act_put_none, List.setIfInBounds_toArray, List.set_cons_zero, List.set_cons_succ] at hE ⊢
          go_wp2
          have hnew := Blk.new w1 3 (dV [10]).toArray
          exact .mk (hE _ _ ⟨_, 1, rfl, Nat.le_refl _, Rd.of_blk hnew hnew.lt⟩ (hC1.next (below_new _ _)) (below_new _ _))
        · -- 2: Op.call { callee := Callee.value (Operand.func 63), args := #[Operand.tmp 11, Operand.tmp 12], argTypes := #[3
          refine step_plain [(0, some 11), (1, some 12)] (fun _ => rfl) rfl ?_
          intro w1 vals hC1 hi0 hf E hE
          clear hi0
          have f0 : vals 0 = .slice A1 m c1 := hf 0 rfl
          have f1 : (RdV 1 (dV [10])) (vals 1) w1 := hf 1 rfl
          try dsimp only at f0 f1
          clear hf
          obtain ⟨A4, c4, hx4, hc4, hr4⟩ := f1
          simp only [puts, act_put, act_put_none, List.setIfInBounds_toArray, List.set_cons_zero, List.set_cons_succ, f0, hx4] at hE ⊢
          clear f0
          clear hx4
          go_wp2_with fail
          refine calls_then (CT.out _ _ _ _ _ (hC1.1.1) hr4) ?_
          rintro e w2 ⟨A5, c5, rfl, hc5, hr5, hb5⟩
          go_wp2_with fail
          exact .mk (hE _ _ ⟨A5, c5, rfl, hc5, hr5⟩ (hC1.next hb5) hb5)
        · -- 3: Op.move (Operand.tmp 1)
          refine step_plain [] (fun _ => rfl) rfl ?_
          intro w1 vals hC1 hi0 hf E hE
          clear hi0
          clear hf
          simp only [puts, act_put, act_put_none, List.setIfInBounds_toArray, List.set_cons_zero, List.set_cons_succ] at hE ⊢
          go_wp2
          exact .mk (hE _ _ rfl hC1 rfl)
        · -- 4: Op.move (Operand.tmp 3)
          refine step_plain [] (fun _ => rfl) rfl ?_
          intro w1 vals hC1 hi0 hf E hE
          clear hi0
          clear hf
          simp only [puts, act_put, act_put_none, List.setIfInBounds_toArray, List.set_cons_zero, List.set_cons_succ] at hE ⊢
          go_wp2
          exact .mk (hE _ _ rfl hC1 rfl)
        · -- 5: Op.index 9 (Operand.tmp 14) (Operand.tmp 15)
          refine step_plain [(3, some 14), (4, some 15)] (fun _ => rfl) rfl ?_
          intro w1 vals hC1 hi0 hf E hE
          clear hi0
          have f3 : vals 3 = .string S := hf 3 rfl
          have f4 : vals 4 = .int .i64 (k : Int) := hf 4 rfl
          try dsimp only at f3 f4
          clear hf
          simp only [puts, act_put, act_put_none, List.setIfInBounds_toArray, List.set_cons_zero, List.set_cons_succ, f3, f4] at hE ⊢
          clear f3 f4
          go_wp2
          exact .mk (hE _ _ rfl hC1 rfl)
        · -- 6: Op.binOp BinOp.sub 5 (Operand.tmp 16) (Operand.const (Value.int IntKind.u8 48)) 5
          refine step_plain [(5, some 16)] (fun _ => rfl) rfl ?_
          intro w1 vals hC1 hi0 hf E hE
          clear hi0
          have f5 : vals 5 = .int .u8 (ch : Int) := hf 5 rfl
          try dsimp only at f5
          clear hf
          simp only [puts, act_put, act_put_none, List.setIfInBounds_toArray, List.set_cons_zero, List.set_cons_succ, f5] at hE ⊢
          clear f5
          go_wp2
          exact .mk (hE _ _ rfl hC1 rfl)
        · -- 7: Op.convert 5 3 (Operand.tmp 17)
          refine step_plain [(6, some 17)] (fun _ => rfl) rfl ?_
          intro w1 vals hC1 hi0 hf E hE
          clear hi0
          have f6 : vals 6 = .int .u8 (d : Int) := hf 6 rfl
          try dsimp only at f6
          clear hf
          simp only [puts, act_put, act_put_none, List.setIfInBounds_toArray, List.set_cons_zero, List.set_cons_succ, f6] at hE ⊢
          clear f6
          go_wp2
          exact .mk (hE _ _ rfl hC1 rfl)
        · -- 8: Op.buildSlice 32 1 #[(0, Operand.tmp 18)]
          refine step_plain [(7, some 18)] (fun _ => rfl) rfl ?_
          intro w1 vals hC1 hi0 hf E hE
          clear hi0
          have f7 : vals 7 = .int .i64 (d : Int) := hf 7 rfl
          try dsimp only at f7
          clear hf
          simp only [puts, act_put, act_put_none, List.setIfInBounds_toArray, List.set_cons_zero, List.set_cons_succ, f7] at hE ⊢
          clear f7
          go_wp2
          have hnew := Blk.new w1 3 (dV [d]).toArray
          exact .mk (hE _ _ ⟨_, 1, rfl, Nat.le_refl _, Rd.of_blk hnew hnew.lt⟩ (hC1.next (below_new _ _)) (below_new _ _))
        · -- 9: Op.call { callee := Callee.value (Operand.func 20), args := #[Operand.tmp 13, Operand.tmp 19], argTypes := #[3
          refine step_plain [(2, some 13), (8, some 19), (2, some 13)] (fun _ => rfl) rfl ?_
          intro w1 vals hC1 hi0 hf E hE
          clear hi0
          have f2 : (RdV l1.length (dV l1)) (vals 2) w1 := hf 2 rfl
          have f8 : (RdV 1 (dV [d])) (vals 8) w1 := hf 8 rfl
          try dsimp only at f2 f8
          clear hf
          obtain ⟨A3, c3, hx3, hc3, hr3⟩ := f2
          obtain ⟨A4, c4, hx4, hc4, hr4⟩ := f8
          rw [HL1L.out] at hx3
          simp only [puts, act_put, act_put_none, List.setIfInBounds_toArray, List.set_cons_zero, List.set_cons_succ, hx3, hx4] at hE ⊢
          clear hx3 hx4
          go_wp2_with fail
          refine calls_then (CP.out _ _ _ _ _ hr3 hr4) ?_
          rintro e w2 ⟨A5, c5, rfl, hc5, hr5, hb5⟩
          go_wp2_with fail
          exact .mk (hE _ _ ⟨A5, c5, rfl, hc5, hr5⟩ (hC1.next hb5) hb5)
        · -- 10: Op.assign (Operand.tmp 20)
          refine step_plain [(9, some 20), (9, some 20), (0, some 11), (1, some 12), (2, some 13), (3, some 14), (4, some 15), (5, some 16), (6, some 17), (7, some 18), (8, some 19), (9, some 20)] (fun _ => rfl) rfl ?_
          intro w1 vals hC1 hi0 hf E hE
          clear hi0
          have f0 : vals 0 = .slice A1 m c1 := hf 0 rfl
          have f1 : (RdV 1 (dV [10])) (vals 1) w1 := hf 1 rfl
          have f2 : (RdV l1.length (dV l1)) (vals 2) w1 := hf 2 rfl
          have f3 : vals 3 = .string S := hf 3 rfl
          have f4 : vals 4 = .int .i64 (k : Int) := hf 4 rfl
          have f5 : vals 5 = .int .u8 (ch : Int) := hf 5 rfl
          have f6 : vals 6 = .int .u8 (d : Int) := hf 6 rfl
          have f7 : vals 7 = .int .i64 (d : Int) := hf 7 rfl
          have f8 : (RdV 1 (dV [d])) (vals 8) w1 := hf 8 rfl
          have f9 : (RdV l2.length (dV l2)) (vals 9) w1 := hf 9 rfl
          try dsimp only at f0 f1 f2 f3 f4 f5 f6 f7 f8 f9
          clear hf
          obtain ⟨A4, c4, hx4, hc4, hr4⟩ := f9
          simp only [puts, act_put, act_put_none, List.setIfInBounds_toArray, List.set_cons_zero, List.set_cons_succ, f0, f3, f4, f5, f6, f7, hx4] at hE ⊢
          clear f0 f3 f4 f5 f6 f7
          clear hx4
          go_wp2
          exact .mk (hE _ _ ⟨A4, c4, rfl, hc4, hr4⟩ hC1 rfl)
      intro w1 vals hC1 hf
      have f0 : vals 0 = .slice A1 m c1 := hf 0 (by decide) rfl
      have f1 : (RdV 1 (dV [10])) (vals 1) w1 := hf 1 (by decide) rfl
      have f2 : (RdV l1.length (dV l1)) (vals 2) w1 := hf 2 (by decide) rfl
      have f3 : vals 3 = .string S := hf 3 (by decide) rfl
      have f4 : vals 4 = .int .i64 (k : Int) := hf 4 (by decide) rfl
      have f5 : vals 5 = .int .u8 (ch : Int) := hf 5 (by decide) rfl
      have f6 : vals 6 = .int .u8 (d : Int) := hf 6 (by decide) rfl
      have f7 : vals 7 = .int .i64 (d : Int) := hf 7 (by decide) rfl
      have f8 : (RdV 1 (dV [d])) (vals 8) w1 := hf 8 (by decide) rfl
      have f9 : (RdV l2.length (dV l2)) (vals 9) w1 := hf 9 (by decide) rfl
      have f10 : (RdV l2.length (dV l2)) (vals 10) w1 := hf 10 (by decide) rfl
      try dsimp only at f0 f1 f2 f3 f4 f5 f6 f7 f8 f9 f10
      clear hf
      simp only [puts, act_put, act_put_none, List.setIfInBounds_toArray, List.set_cons_zero, List.set_cons_succ, f0, f3, f4, f5, f6, f7]
      clear f0 f3 f4 f5 f6 f7
      generalize vals 1 = x1 at *
      generalize vals 2 = x2 at *
      generalize vals 8 = x8 at *
      generalize vals 9 = x9 at *
      generalize vals 10 = x10 at *
      obtain ⟨A5, c5, rfl, hc5, hr5⟩ := f10
      obtain ⟨q, hq⟩ : ∃ q, q = l2.length := ⟨_, rfl⟩
      rw [← hq]
      have hqm : q = m + 3 := by rw [hq]; exact HL2L.out
      have hq63 : (q : Int) ≤ 1000 := by omega
      have hqc : (q : Int) ≤ (c5 : Int) := by omega
      have HQ := Lib.hid hq
      have HR5 := Lib.hid hr5
      have HB5 := Lib.hid hC1.2
      have HST := Lib.hid (show ∃ p : Nat, 1 ≤ p ∧ p ≤ q ∧ Value.slice A5 q c5 = .slice A5 p c5 ∧ leV (l2.take p) = leV l2 from ⟨q, by omega, Nat.le_refl _, rfl, leV_take_all _ _ (by rw [hq]; exact Nat.le_refl _)⟩)
      clear hq hr5 hC1 HC0 hc5 hix hchd hch1 hch2 CT CP HL1L hqm
      go_wp2_with fail
      go_loop [2] (fun v => ∃ p : Nat, 1 ≤ p ∧ p ≤ q ∧ v = .slice A5 p c5 ∧ leV (l2.take p) = leV l2) (fun v => lenF v)
      case atStart => exact HST.out
      case round =>
        clear HST
        obtain ⟨p, hp1, hpq, rfl, hin⟩ := hrel
        have hnew : ∀ ad, A5 = some ad → p ≤ c5 → (p = 1 ∨ l2.getD (p - 1) 0 ≠ 0) → ∃ (k' : Nat) (l : List Nat) (A1 : Option Addr) (c1 : Nat), k' ≤ 38 ∧ (Value.int .i64 ((k : Int) + 1)) = .int .i64 (k' : Int) ∧ Value.slice (some ad) p c5 = .slice A1 l.length c1 ∧ SmL k' l ∧ l.length ≤ c1 ∧ Rd w1 w1.heap.size A1 (dV l) ∧ Below w.heap.size w w1 := fun ad had hpc ht => by
          have hlen : (l2.take p).length = p := by rw [List.length_take, Nat.min_eq_left (by rw [← HQ.out]; exact hpq)]
          refine ⟨k + 1, l2.take p, A5, c5, by omega, by simp, by rw [had, hlen], ⟨dg_take HL2D.out p, by omega, by rw [hin]; exact HL2V.out, ?_⟩, by rw [hlen]; exact hpc, rd_digs HR5.out, HB5.out⟩
          rw [hlen]
          rcases ht with h | h
          · exact .inl h
          · right
            rw [List.getD_eq_getElem?_getD, List.getElem?_take, if_pos (by omega), ← List.getD_eq_getElem?_getD]
            exact h
        have HNEW := Lib.hid hnew
        clear hnew
        have hpq2 : (p : Int) ≤ (q : Int) := by omega
        obtain ⟨r, hr⟩ : ∃ r, p = r + 1 := ⟨p - 1, by omega⟩
        obtain ⟨ad, rfl, hcell⟩ := dig_cell HR5.out (k := r) (by rw [← HQ.out]; omega)
        by_cases h1 : 1 < p
        · have h1' : (p : Int) > 1 := by omega
          have hri : (p : Int) - 1 = (r : Int) := by omega
          have hrp : (r : Int) < (p : Int) := by omega
          obtain ⟨x, hx⟩ : ∃ x, x = l2.getD r 0 := ⟨_, rfl⟩
          rw [← hx] at hcell
          by_cases hx0 : x = 0
          · subst hx0
            have hnext : leV (l2.take r) = leV l2 := by
              rw [← hin, hr, leV_take_step, ← hx]; simp
            have HNEXT := Lib.hid hnext
            have HRR := Lib.hid hr
            have HP := Lib.hid (show 1 ≤ r ∧ r ≤ q by omega)
            clear hnext hx hin hr hp1 hpq h1
            go_wp2_with fail
            exact ⟨⟨r, HP.out.1, HP.out.2, rfl, HNEXT.out⟩, by have := HRR.out; simp [lenF]; omega⟩
          · have hx0' : ¬ (x : Int) = 0 := by omega
            have HN := Lib.hid (HNEW.out ad rfl (by omega) (.inr (by rw [hr, Nat.add_sub_cancel, ← hx]; exact hx0)))
            clear hx0 hx hr hin hp1 hpq h1 HNEW
            go_wp2_with fail
            exact ⟨HN.out, by simp [intOf]; omega⟩
        · obtain rfl : p = 1 := by omega
          have HN := Lib.hid (HNEW.out ad rfl (by omega) (.inl rfl))
          clear hr hin hp1 hpq h1 HNEW hcell
          go_wp2_with fail
          exact ⟨HN.out, by simp [intOf]; omega⟩
    · obtain rfl : k = 38 := by omega
      clear hk hlt
      rw [hm]
      go_wp2_with fail
      go_ret
      exact ⟨l, A1, c1, rfl, HL.out, HLC.out, HRD.out, HBEL.out⟩
end Go.Proofs.Ytbeokfpbhemcfaa
/-
  Walk: the reference's L.
-/
namespace Go.Proofs.Ytbeokfpbhemcfaa
set_option linter.unusedSimpArgs false
set_option linter.unusedVariables false
open Go.RowKit

/-- the order of the base -/
def LN : Nat := 7237005577332262213973186563042994240857116359379907606001950938285454250989
def oL (l : List Nat) (j : Nat) : List Nat := l.take j ++ (List.replicate (31 - j) 0 ++ [16])
theorem oL_len {l : List Nat} {j : Nat} (h : j ≤ l.length) (h2 : j ≤ 16) : (oL l j).length = 32 := by
  rw [oL, List.length_append, List.length_append, List.length_take, List.length_replicate, List.length_singleton]; omega
theorem oL_at {l : List Nat} {j : Nat} (h : j ≤ l.length) (h2 : j ≤ 16) : (oL l j)[j]? = some 0 := by
  rw [oL, List.getElem?_append_right (by rw [List.length_take]; omega), List.length_take, Nat.min_eq_left h, Nat.sub_self, List.getElem?_append_left (by rw [List.length_replicate]; omega), List.getElem?_replicate, if_pos (by omega)]
theorem oL_set {l : List Nat} {j : Nat} (h : j < l.length) (h2 : j < 16) : (oL l j).set j l[j] = oL l (j + 1) := by
  rw [oL, List.set_append_right _ _ (by rw [List.length_take]; omega), List.length_take, Nat.min_eq_left (by omega), Nat.sub_self]
  have e : List.replicate (31 - j) 0 = 0 :: List.replicate (31 - (j + 1)) 0 := by rw [← List.replicate_succ]; congr 1; omega
  rw [e, List.cons_append, List.set_cons_zero, oL, List.take_succ_eq_append_getElem h, List.append_assoc]
  rfl
theorem oL_zero (l : List Nat) : ((List.replicate 32 0).set 31 16) = oL l 0 := by rw [oL, List.take_zero]; rfl
theorem small_first : 27742317777372353535851937790883648493 % 256 = 237 := by decide
theorem oL_dn {l : List Nat} (h : SmL 38 l) (h16 : l.length ≤ 16) : oL l l.length = digN 32 LN := by
  refine digN_eq ?_ (oL_len (Nat.le_refl _) h16) ?_
  · rw [oL, List.take_length]
    intro x hx
    rcases List.mem_append.1 hx with hx | hx
    · exact h.dg x hx
    · rcases List.mem_append.1 hx with hx | hx
      · rw [List.eq_of_mem_replicate hx]; decide
      · rw [List.mem_singleton.1 hx]; decide
  · rw [oL, List.take_length, leV_append, leV_append, leV_replicate, h.val, smV_end, List.length_replicate, Nat.zero_add, ← Nat.mul_assoc, ← Nat.pow_add, show l.length + (31 - l.length) = 31 by omega]
    decide
theorem Rd.wrote_ne {w w' : World} {B g : Nat} {ad : Addr} {xs : List Value} (h : Rd w B (some ad) xs) (hw : Wrote g w w') (hB : B ≤ w.heap.size) (hne : ad.block ≠ g) : Rd w' B (some ad) xs := fun i u hi => by
  obtain ⟨a2, ha, hlt, hc⟩ := h i u hi
  injection ha with ha
  subst ha
  refine ⟨ad, rfl, hlt, ?_⟩
  have e : w'.heap[ad.block]? = w.heap[ad.block]? := hw.grown.block ad.block (Nat.lt_of_lt_of_le hlt hB) (by simpa using hne)
  unfold World.cell? at hc ⊢
  rw [block_of_add] at hc ⊢
  rw [e]; exact hc
structure LS (w0 : World) (o : Nat) (l : List Nat) (ad : Addr) (j : Nat) (u : World) : Prop where
  bel : Below w0.heap.size w0 u
  out : Blk u o 3 (dV (oL l j)).toArray
  s : Rd u u.heap.size (some ad) (dV l)
theorem LS.drew {w0 u : World} {o : Nat} {l : List Nat} {ad : Addr} {j : Nat} (k : LS w0 o l ad j u) : LS w0 o l ad j u.drew := ⟨k.bel.drew, k.out, k.s⟩
set_option maxRecDepth 100000 in
set_option maxHeartbeats 4000000 in
theorem rl_any (w : World) : Calls Try.prog 24 #[] w (DigPost (digN 32 LN) w) := by
  have hmk : ∀ u : World, (Instr.makeSlice 32 (.int .i64 32) (.int .i64 32)).run Try.prog u = .ok (.slice (some ⟨u.heap.size, 0, none⟩) 32 32) (u.alloc (.cells (dV (List.replicate 32 0)).toArray 3)) := fun _ => by kernel_rfl
  have hst0 := d1_new (List.replicate 32 0) (Below.refl w.heap.size w)
  have HST0 := Lib.hid hst0
  clear hst0
  go_enter Try.func24, Try.ntmps24
  go_wp2_with (refine wpList_put_cell (x := .tmp 6) (i := 31) (v := .int .i64 16) HST0.out.out rfl rfl rfl rfl int_size (by rw [dig_len]; decide) rfl ?_; intro w1 hb1 hw1; have HST1 := Lib.hid (HST0.out.put (l' := oL [] 0) hw1 (by rw [show (Value.int IntKind.i64 16) = .int .i64 ((16 : Nat) : Int) from rfl, dV_set, oL_zero []] at hb1; exact hb1)); clear hb1 hw1 HST0)
  generalize ho : w.heap.size = o at HST1 ⊢
  have HO := Lib.hid ho
  clear ho hmk
  refine calls_then (small_any _) ?_
  rintro e w2 ⟨l, A, c, rfl, hl, hlc, hrd, hb⟩
  have hst2 := HST1.out.next hb
  have hl16 := sm_len (by omega) hl.pos hl.val hl.top
  obtain ⟨ad, rfl, hcell⟩ := dig_cell hrd (k := 0) hl.pos
  have h237 : l.getD 0 0 = 237 := by
    have h := leV_at l hl.dg 0
    rw [hl.val, smV_end, Nat.pow_zero, Nat.div_one, small_first] at h
    exact h.symm
  have hne : ad.block ≠ o := by
    intro e
    rw [h237] at hcell
    unfold World.cell? at hcell
    rw [block_of_add, e, show w2.heap[o]? = _ from hst2.out] at hcell
    by_cases hs : (ad.add 0).spot.isSome = true
    · simp [hs] at hcell
    · simp only [hs, if_false] at hcell
      have hm := List.mem_of_getElem? (by rw [List.getElem?_toArray] at hcell; exact hcell)
      obtain ⟨n, hn, e2⟩ := List.mem_map.1 (show _ ∈ (oL [] 0).map numV from hm)
      have e3 : n = 237 := by
        simp only [numV, Value.int.injEq, true_and] at e2
        omega
      rw [e3, oL, List.take_nil] at hn
      revert hn
      decide
  have hst : LS w o l ad 0 w2 := ⟨hst2.bel, by have h := hst2.out; rwa [show oL [] 0 = oL l 0 from rfl] at h, hrd⟩
  obtain ⟨m, hm⟩ : ∃ m, m = l.length := ⟨_, rfl⟩
  rw [← hm]
  have hm16 : (m : Int) ≤ 16 := by omega
  have HS := Lib.hid hst
  have HL := Lib.hid hl
  have HM := Lib.hid hm
  have HNE := Lib.hid hne
  have H16 := Lib.hid hl16
  clear hst hst2 hl hlc hrd hb hcell h237 hne hm hl16 HST1
  go_wp2_with fail
  go_loopw [3] (fun i wr => ∃ j : Nat, j ≤ m ∧ i = .int .i64 j ∧ LS w o l ad j wr) (fun i _ => m - (intOf i).toNat)
  case atStart => exact ⟨0, by omega, rfl, HS.out⟩
  case round =>
    clear HS
    obtain ⟨j, hj, rfl, hst⟩ := hrel
    have HS := Lib.hid hst
    clear hst
    by_cases hlt : j < m
    · have hlt' : (j : Int) < (m : Int) := by omega
      have hj32 : (j : Int) < 32 := by omega
      obtain ⟨x, hx⟩ : ∃ x, x = l.getD j 0 := ⟨_, rfl⟩
      have hjl : j < l.length := by rw [← HM.out]; exact hlt
      have hxe : l[j] = x := by rw [hx, List.getD_eq_getElem?_getD, List.getElem?_eq_getElem hjl]; rfl
      have hx256 : (x : Int) < 256 := by
        have := HL.out.dg l[j] (List.getElem_mem hjl)
        omega
      have hset : (oL l j).set j x = oL l (j + 1) := by rw [← hxe]; exact oL_set hjl (by omega)
      have hol : (oL l j).length = 32 := oL_len (by omega) (by omega)
      have h0 : (dV (oL l j)).toArray[j]? = some (.int .i64 0) := by
        rw [List.getElem?_toArray, dV, List.getElem?_map, oL_at (by omega) (by omega)]; rfl
      have HSET := Lib.hid hset
      have HOL := Lib.hid hol
      have H0 := Lib.hid h0
      have HJL := Lib.hid hjl
      have HXE := Lib.hid hxe
      clear hset hol h0 hx
      go_wp2_with fail
      have HC0 := HS.out.drew
      refine wp_region_det (fun u => LS w o l ad j u) (fun u => LS w o l ad (j + 1) u) [(0, some 14), (1, some 15), (2, some 16), (3, some 17), (4, some 18), (5, some 19), (6, some 20), (7, some 21), (8, some 22), (9, some 23), (10, some 24), (11, some 25), (12, none)] (by kernel_rfl) (by kernel_rfl) (by decide) (by kernel_rfl) (fun _ => rfl) HC0 ?_
      apply DetL.next
      · -- 0: Op.move (Operand.tmp 1)
        apply detStep_plain []
        exact fun _ => rfl
        rfl
        rintro vals - w1 hC1 E hE
        simp only [puts, act_put, act_put_none, List.setIfInBounds_toArray, List.set_cons_zero, List.set_cons_succ] at hE ⊢
        go_wp2
        exact .mk (hE _ hC1)
      apply DetL.next
      · -- 1: Op.move (Operand.tmp 3)
        apply detStep_plain []
        exact fun _ => rfl
        rfl
        rintro vals ⟨-, -⟩ w1 hC1 E hE
        simp only [puts, act_put, act_put_none, List.setIfInBounds_toArray, List.set_cons_zero, List.set_cons_succ] at hE ⊢
        go_wp2
        exact .mk (hE _ hC1)
      apply DetL.next
      · -- 2: Op.move (Operand.tmp 1)
        apply detStep_plain []
        exact fun _ => rfl
        rfl
        rintro vals ⟨⟨-, -⟩, -⟩ w1 hC1 E hE
        simp only [puts, act_put, act_put_none, List.setIfInBounds_toArray, List.set_cons_zero, List.set_cons_succ] at hE ⊢
        go_wp2
        exact .mk (hE _ hC1)
      apply DetL.next
      · -- 3: Op.move (Operand.tmp 3)
        apply detStep_plain []
        exact fun _ => rfl
        rfl
        rintro vals ⟨⟨⟨-, -⟩, -⟩, -⟩ w1 hC1 E hE
        simp only [puts, act_put, act_put_none, List.setIfInBounds_toArray, List.set_cons_zero, List.set_cons_succ] at hE ⊢
        go_wp2
        exact .mk (hE _ hC1)
      apply DetL.next
      · -- 4: Op.indexAddr 32 (Operand.tmp 16) (Operand.tmp 17)
        apply detStep_plain [(2, some 16), (3, some 17)]
        exact fun _ => rfl
        rfl
        rintro vals ⟨⟨⟨⟨-, -⟩, -⟩, f2⟩, f3⟩ w1 hC1 E hE
        simp only [puts, act_put, act_put_none, List.setIfInBounds_toArray, List.set_cons_zero, List.set_cons_succ, f2, f3] at hE ⊢
        clear f2 f3
        go_wp2
        exact .mk (hE _ hC1)
      apply DetL.next
      · -- 5: Op.load 3 (Operand.tmp 18)
        apply detStep_plain [(4, some 18)]
        exact fun _ => rfl
        rfl
        rintro vals ⟨⟨⟨⟨⟨-, -⟩, -⟩, -⟩, -⟩, f4⟩ w1 hC1 E hE
        have d0 := hC1.out.cell j
        rw [H0.out] at d0
        simp only [puts, act_put, act_put_none, List.setIfInBounds_toArray, List.set_cons_zero, List.set_cons_succ, f4] at hE ⊢
        clear f4
        go_wp2
        exact .mk (hE _ hC1)
      apply DetL.next
      · -- 6: Op.move (Operand.tmp 2)
        apply detStep_plain []
        exact fun _ => rfl
        rfl
        rintro vals ⟨⟨⟨⟨⟨⟨-, -⟩, -⟩, -⟩, -⟩, -⟩, -⟩ w1 hC1 E hE
        simp only [puts, act_put, act_put_none, List.setIfInBounds_toArray, List.set_cons_zero, List.set_cons_succ] at hE ⊢
        go_wp2
        exact .mk (hE _ hC1)
      apply DetL.next
      · -- 7: Op.move (Operand.tmp 3)
        apply detStep_plain []
        exact fun _ => rfl
        rfl
        rintro vals ⟨⟨⟨⟨⟨⟨⟨-, -⟩, -⟩, -⟩, -⟩, -⟩, -⟩, -⟩ w1 hC1 E hE
        simp only [puts, act_put, act_put_none, List.setIfInBounds_toArray, List.set_cons_zero, List.set_cons_succ] at hE ⊢
        go_wp2
        exact .mk (hE _ hC1)
      apply DetL.next
      · -- 8: Op.indexAddr 32 (Operand.tmp 20) (Operand.tmp 21)
        apply detStep_plain [(6, some 20), (7, some 21)]
        exact fun _ => rfl
        rfl
        rintro vals ⟨⟨⟨⟨⟨⟨⟨⟨-, -⟩, -⟩, -⟩, -⟩, -⟩, -⟩, f6⟩, f7⟩ w1 hC1 E hE
        simp only [puts, act_put, act_put_none, List.setIfInBounds_toArray, List.set_cons_zero, List.set_cons_succ, f6, f7] at hE ⊢
        clear f6 f7
        go_wp2
        exact .mk (hE _ hC1)
      apply DetL.next
      · -- 9: Op.load 3 (Operand.tmp 22)
        apply detStep_plain [(8, some 22)]
        exact fun _ => rfl
        rfl
        rintro vals ⟨⟨⟨⟨⟨⟨⟨⟨⟨-, -⟩, -⟩, -⟩, -⟩, -⟩, -⟩, -⟩, -⟩, f8⟩ w1 hC1 E hE
        have d0 := hC1.s.atc (k := j) (by rw [dV_length]; exact HJL.out)
        rw [dV_at HJL.out, HXE.out] at d0
        simp only [puts, act_put, act_put_none, List.setIfInBounds_toArray, List.set_cons_zero, List.set_cons_succ, f8] at hE ⊢
        clear f8
        go_wp2
        exact .mk (hE _ hC1)
      apply DetL.next
      · -- 10: Op.binOp BinOp.add 3 (Operand.tmp 19) (Operand.tmp 23) 3
        apply detStep_plain [(5, some 19), (9, some 23)]
        exact fun _ => rfl
        rfl
        rintro vals ⟨⟨⟨⟨⟨⟨⟨⟨⟨⟨-, -⟩, -⟩, -⟩, -⟩, -⟩, f5⟩, -⟩, -⟩, -⟩, f9⟩ w1 hC1 E hE
        simp only [puts, act_put, act_put_none, List.setIfInBounds_toArray, List.set_cons_zero, List.set_cons_succ, f5, f9] at hE ⊢
        clear f5 f9
        go_wp2
        exact .mk (hE _ hC1)
      apply DetL.next
      · -- 11: Op.indexAddr 32 (Operand.tmp 14) (Operand.tmp 15)
        apply detStep_plain [(0, some 14), (1, some 15), (0, some 14), (1, some 15), (2, some 16), (3, some 17), (4, some 18), (5, some 19), (6, some 20), (7, some 21), (8, some 22), (9, some 23), (10, some 24)]
        exact fun _ => rfl
        rfl
        rintro vals ⟨⟨⟨⟨⟨⟨⟨⟨⟨⟨⟨-, f0⟩, f1⟩, f2⟩, f3⟩, f4⟩, f5⟩, f6⟩, f7⟩, f8⟩, f9⟩, f10⟩ w1 hC1 E hE
        simp only [puts, act_put, act_put_none, List.setIfInBounds_toArray, List.set_cons_zero, List.set_cons_succ, f0, f1, f2, f3, f4, f5, f6, f7, f8, f9, f10] at hE ⊢
        clear f0 f1 f2 f3 f4 f5 f6 f7 f8 f9 f10
        go_wp2
        exact .mk (hE _ hC1)
      apply DetL.last (v := undef)
      · -- 12: Op.store 3 (Operand.tmp 25) (Operand.tmp 24)
        apply detStep_plain [(11, some 25), (10, some 24), (0, some 14), (1, some 15), (2, some 16), (3, some 17), (4, some 18), (5, some 19), (6, some 20), (7, some 21), (8, some 22), (9, some 23), (10, some 24)]
        exact fun _ => rfl
        rfl
        rintro vals ⟨⟨⟨⟨⟨⟨⟨⟨⟨⟨⟨⟨-, f0⟩, f1⟩, f2⟩, f3⟩, f4⟩, f5⟩, f6⟩, f7⟩, f8⟩, f9⟩, f10⟩, f11⟩ w1 hC1 E hE
        simp only [puts, act_put, act_put_none, List.setIfInBounds_toArray, List.set_cons_zero, List.set_cons_succ, f0, f1, f2, f3, f4, f5, f6, f7, f8, f9, f10, f11] at hE ⊢
        clear f0 f1 f2 f3 f4 f5 f6 f7 f8 f9 f10 f11
        refine wpList_put_cell (i := j) (v := .int .i64 (x : Int)) hC1.out rfl rfl rfl rfl int_size (by rw [dig_len, HOL.out]; omega) rfl ?_
        intro w6 hb6 hw6
        have HB6 := Lib.hid hb6
        have HW6 := Lib.hid hw6
        clear hb6 hw6
        go_wp2_with fail
        exact .mk (hE _ ⟨HW6.out.below hC1.bel (Nat.le_of_eq HO.out) hC1.bel.size, by have h := HB6.out; rwa [dV_set, HSET.out] at h, by have h := hC1.s.wrote_ne HW6.out (Nat.le_refl _) HNE.out; rwa [← HW6.out.size] at h⟩)
      rintro vals ⟨⟨⟨⟨⟨⟨⟨⟨⟨⟨⟨⟨⟨-, f0⟩, f1⟩, f2⟩, f3⟩, f4⟩, f5⟩, f6⟩, f7⟩, f8⟩, f9⟩, f10⟩, f11⟩, f12⟩ w1 hC1
      simp only [puts, act_put, act_put_none, List.setIfInBounds_toArray, List.set_cons_zero, List.set_cons_succ, f0, f1, f2, f3, f4, f5, f6, f7, f8, f9, f10, f11, f12]
      clear f0 f1 f2 f3 f4 f5 f6 f7 f8 f9 f10 f11 f12
      have HS1 := Lib.hid hC1
      clear hC1 HC0 HS
      go_wp2_with fail
      exact ⟨⟨j + 1, by omega, by go_num, HS1.out⟩, by simp [intOf]; omega⟩
    · obtain rfl : j = m := by omega
      go_wp2_with fail
      go_ret
      have h := HS.out.out
      rw [HM.out, oL_dn HL.out H16.out] at h
      exact ⟨some ⟨o, 0, none⟩, 32, by rw [digN_length]; rfl, by rw [digN_length]; exact Nat.le_refl _, Rd.of_blk h h.lt, HS.out.bel⟩
end Go.Proofs.Ytbeokfpbhemcfaa
/-
  Plain: the order of the base.
-/
namespace Go.Proofs.Ytbeokfpbhemcfaa
set_option linter.unusedSimpArgs false
set_option linter.unusedVariables false
open Go.RowKit

/-- the bytes of the order -/
def LB : List UInt8 := byB LN
theorem LN_lt : LN < 256 ^ 32 := by decide
theorem LB_val : leV (digs (LB.take 32)) = LN := by
  rw [List.take_of_length_le (by rw [LB, byB_length]; exact Nat.le_refl _), LB, digs_byB, leV_byN LN LN_lt]
theorem order_run : eqN (mulN baseN LB) zeroN = true := by decide +kernel
theorem base_order : times baseF LN = zeroF := by
  have h : eqP (mulP baseP LB) zeroP = true := by
    rw [eqP_rep (mulP_ok baseP_ok _) zeroP_ok (rep_mul baseP_ok rep_base _) rep_zero]
    exact order_run
  have h2 := (eqP_is (mulP_ok baseP_ok _) zeroP_ok (Is.mul baseP_ok is_base LB) is_zero).1 h
  rwa [LB_val] at h2
theorem byte_run : ∀ k, k < 256 → eqN (mulN baseN [UInt8.ofNat k]) zeroN = decide (k = 0) := by decide +kernel
theorem byte_val {k : Nat} (h : k < 256) : leV (digs ([UInt8.ofNat k].take 32)) = k := by
  show (UInt8.ofNat k).toNat + 256 * 0 = k
  rw [UInt8.toNat_ofNat', Nat.mod_eq_of_lt (by omega)]
  omega
theorem byte_zero {k : Nat} (h : k < 256) : eqP (mulP baseP [UInt8.ofNat k]) zeroP = decide (k = 0) := by
  rw [eqP_rep (mulP_ok baseP_ok _) zeroP_ok (rep_mul baseP_ok rep_base _) rep_zero]
  exact byte_run k h
theorem base_back : times baseF (LN - 1) = Ed.neg baseF := by
  refine Ed.neg_eq FF ?_
  have h := base_order
  rw [show LN = (LN - 1) + 1 by decide] at h
  exact h
end Go.Proofs.Ytbeokfpbhemcfaa
