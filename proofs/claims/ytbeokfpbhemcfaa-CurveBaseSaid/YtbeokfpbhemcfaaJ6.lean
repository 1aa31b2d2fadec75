/-
  Joined texts: Rev Cd Pa Pmul.
-/
import Derived.Test.YtbeokfpbhemcfaaJ4
import Derived.Test.YtbeokfpbhemcfaaJ5
/-
  Walks: slices.Reverse of 32 bytes; the curve's known.
-/
namespace Go.Proofs.Ytbeokfpbhemcfaa
set_option linter.unusedSimpArgs false
set_option linter.unusedVariables false
open Go.RowKit

theorem Wrote.refl (g : Nat) (w : World) : Wrote g w w := ⟨World.grownBy.refl w _, rfl⟩
theorem Wrote.trans {g : Nat} {a b c : World} (h : Wrote g a b) (k : Wrote g b c) : Wrote g a c := ⟨h.grown.trans k.grown, k.size.trans h.size⟩
theorem Wrote.drew {g : Nat} {a b : World} (h : Wrote g a b) : Wrote g a b.drew := ⟨grown_drew h.grown, h.size⟩
/-- so many swaps from both ends -/
def revS (l : List Nat) : Nat → List Nat
  | 0 => l
  | k + 1 => ((revS l k).set k ((revS l k).getD (31 - k) 0)).set (31 - k) ((revS l k).getD k 0)
theorem revS_length (l : List Nat) : ∀ k, (revS l k).length = l.length
  | 0 => rfl
  | k + 1 => by rw [revS, List.length_set, List.length_set, revS_length l k]
theorem revS_dg {l : List Nat} (h : Dg l) : ∀ k, Dg (revS l k)
  | 0 => h
  | k + 1 => dg_set (dg_set (revS_dg h k) _ _ (dg_getD (revS_dg h k) _)) _ _ (dg_getD (revS_dg h k) _)
theorem bnV_len (l : List Nat) : (bnV l).toArray.size = l.length := by simp [bnV]
theorem u8_size : (Try.prog.info? 5).map (·.size) = some 1 := by kernel_rfl
theorem bnV_get {l : List Nat} {k : Nat} (h : k < l.length) : (bnV l).toArray[k]? = some (.int .u8 ((l.getD k 0 : Nat) : Int)) := by
  simp [bnV, List.getElem?_eq_getElem h, List.getD_eq_getElem?_getD]
set_option maxRecDepth 100000 in
set_option maxHeartbeats 2000000 in
theorem reverse_any (l : List Nat) (hl : l.length = 32) (g : Nat) (t : TypeId) (c : Nat) (w : World) (hb : Blk w g t (bnV l).toArray) :
    Calls Try.prog 55 #[.slice (some ⟨g, 0, none⟩) 32 c] w (fun e w' => (∃ v, e = .returned v) ∧ Blk w' g t (bnV (revS l 16)).toArray ∧ Wrote g w w') := by
  have hs0 : Blk w g t (bnV (revS l 0)).toArray ∧ Wrote g w w := ⟨hb, Wrote.refl g w⟩
  have HS0 := Lib.hid hs0
  have HL := Lib.hid hl
  clear hs0 hb hl
  go_enter Try.func55, Try.ntmps55
  go_wp2_with fail
  go_loopw [2, 3] (fun i j wr => ∃ k : Nat, k ≤ 16 ∧ i = .int .i64 k ∧ j = .int .i64 (31 - (k : Int)) ∧ Blk wr g t (bnV (revS l k)).toArray ∧ Wrote g w wr) (fun i _ _ => 16 - (intOf i).toNat)
  case atStart => exact ⟨0, by omega, rfl, rfl, HS0.out.1, HS0.out.2⟩
  case round =>
    clear HS0
    obtain ⟨k, hk, rfl, rfl, hblk, hwr⟩ := hrel
    by_cases hlt : k < 16
    · obtain ⟨m, hm⟩ : ∃ m, m = 31 - k := ⟨_, rfl⟩
      have hmi : (31 : Int) - (k : Int) = (m : Int) := by omega
      have hkm : (k : Int) < (m : Int) := by omega
      have hm32 : (m : Int) < 32 := by omega
      rw [hmi]
      obtain ⟨R, hR⟩ : ∃ R, R = revS l k := ⟨_, rfl⟩
      obtain ⟨a, ha⟩ : ∃ a, a = R.getD k 0 := ⟨_, rfl⟩
      obtain ⟨b, hbb⟩ : ∃ b, b = R.getD m 0 := ⟨_, rfl⟩
      have hRl : R.length = 32 := by rw [hR, revS_length]; exact HL.out
      have hnext : revS l (k + 1) = (R.set k b).set m a := by rw [revS, ← hR, ← hm, ← ha, ← hbb]
      rw [← hR] at hblk
      have HKA := Lib.hid (show (bnV R).toArray[k]? = some (.int .u8 (a : Int)) by rw [ha]; exact bnV_get (by omega))
      have HKB := Lib.hid (show (bnV R).toArray[m]? = some (.int .u8 (b : Int)) by rw [hbb]; exact bnV_get (by omega))
      have HNEXT := Lib.hid hnext
      have HRL := Lib.hid hRl
      have HK := Lib.hid hlt
      have HM := Lib.hid hm
      have HWR := Lib.hid hwr
      have HI0 : Blk wr.drew g t (bnV R).toArray := hblk
      have HC0 : Wrote g wr wr.drew := (Wrote.refl g wr).drew
      clear hnext hRl ha hbb hR hwr hblk hm hlt hmi
      go_wp2_with fail
      refine wp_region_list (fun u => Wrote g wr u) (fun | false => (fun u => Blk u g t (bnV R).toArray) | true => (fun _ => True)) (fun | false, i => i == 13 || i == 15 | true, _ => false)
        [fun z _ => z 0 = .slice (some ⟨g, 0, none⟩) 32 c,
         fun z _ => z 1 = .int .i64 (k : Int),
         fun z _ => z 2 = .slice (some ⟨g, 0, none⟩) 32 c,
         fun z _ => z 3 = .int .i64 (m : Int),
         fun z _ => z 4 = .slice (some ⟨g, 0, none⟩) 32 c,
         fun z _ => z 5 = .int .i64 (m : Int),
         fun z _ => z 6 = .pointer (some ⟨g, m, none⟩),
         fun z _ => z 7 = .int .u8 (b : Int),
         fun z _ => z 8 = .slice (some ⟨g, 0, none⟩) 32 c,
         fun z _ => z 9 = .int .i64 (k : Int),
         fun z _ => z 10 = .pointer (some ⟨g, k, none⟩),
         fun z _ => z 11 = .int .u8 (a : Int),
         fun z _ => z 12 = .pointer (some ⟨g, k, none⟩),
         fun z u => Blk u g t (bnV (R.set k b)).toArray,
         fun z _ => z 14 = .pointer (some ⟨g, m, none⟩),
         fun z u => Blk u g t (bnV ((R.set k b).set m a)).toArray]
        [Eq, Eq, Eq, Eq, Eq, Eq, Eq, Eq, Eq, Eq, Eq, Eq, Eq, fun _ _ => True, Eq, fun _ _ => True]
        (fun i k => (i == 15 && k == 13)) [(0, some 14), (1, some 15), (2, some 16), (3, some 17), (4, some 18), (5, some 19), (6, some 20), (7, some 21), (8, some 22), (9, some 23), (10, some 24), (11, some 25), (12, some 26), (13, none), (14, some 27), (15, none)] (by kernel_rfl) (by kernel_rfl) rfl (fun _ => rfl) ?_ ?_ ?_ ?_ ?_ ?_
      · exact HC0
      · intro m; cases m; exact HI0; exact trivial
      · intro m; cases m
        · exact ⟨.inr (fun _ _ h h0 => h ▸ h0), .inr (fun _ _ h h0 => h ▸ h0), .inr (fun _ _ h h0 => h ▸ h0), .inr (fun _ _ h h0 => h ▸ h0), .inr (fun _ _ h h0 => h ▸ h0), .inr (fun _ _ h h0 => h ▸ h0), .inr (fun _ _ h h0 => h ▸ h0), .inr (fun _ _ h h0 => h ▸ h0), .inr (fun _ _ h h0 => h ▸ h0), .inr (fun _ _ h h0 => h ▸ h0), .inr (fun _ _ h h0 => h ▸ h0), .inr (fun _ _ h h0 => h ▸ h0), .inr (fun _ _ h h0 => h ▸ h0), .inl rfl, .inr (fun _ _ h h0 => h ▸ h0), .inl rfl, trivial⟩
        · exact ⟨.inr (fun _ _ h h0 => h ▸ h0), .inr (fun _ _ h h0 => h ▸ h0), .inr (fun _ _ h h0 => h ▸ h0), .inr (fun _ _ h h0 => h ▸ h0), .inr (fun _ _ h h0 => h ▸ h0), .inr (fun _ _ h h0 => h ▸ h0), .inr (fun _ _ h h0 => h ▸ h0), .inr (fun _ _ h h0 => h ▸ h0), .inr (fun _ _ h h0 => h ▸ h0), .inr (fun _ _ h h0 => h ▸ h0), .inr (fun _ _ h h0 => h ▸ h0), .inr (fun _ _ h h0 => h ▸ h0), .inr (fun _ _ h h0 => h ▸ h0), .inr (fun _ _ _ h => h), .inr (fun _ _ h h0 => h ▸ h0), .inr (fun _ _ _ h => h), trivial⟩
      · exact ⟨⟨.inl rfl, .inr (.inr (.inr (fun _ _ _ _ _ h => h))), .inr (.inr (.inr (fun _ _ _ _ _ h => h))), .inr (.inr (.inr (fun _ _ _ _ _ h => h))), .inr (.inr (.inr (fun _ _ _ _ _ h => h))), .inr (.inr (.inr (fun _ _ _ _ _ h => h))), .inr (.inr (.inr (fun _ _ _ _ _ h => h))), .inr (.inr (.inr (fun _ _ _ _ _ h => h))), .inr (.inr (.inr (fun _ _ _ _ _ h => h))), .inr (.inr (.inr (fun _ _ _ _ _ h => h))), .inr (.inr (.inr (fun _ _ _ _ _ h => h))), .inr (.inr (.inr (fun _ _ _ _ _ h => h))), .inr (.inr (.inl rfl)), .inr (.inr (.inl rfl)), .inr (.inr (.inl rfl)), .inr (.inr (.inl rfl)), trivial⟩,
          ⟨.inr (.inr (.inr (fun _ _ _ _ _ h => h))), .inl rfl, .inr (.inr (.inr (fun _ _ _ _ _ h => h))), .inr (.inr (.inr (fun _ _ _ _ _ h => h))), .inr (.inr (.inr (fun _ _ _ _ _ h => h))), .inr (.inr (.inr (fun _ _ _ _ _ h => h))), .inr (.inr (.inr (fun _ _ _ _ _ h => h))), .inr (.inr (.inr (fun _ _ _ _ _ h => h))), .inr (.inr (.inr (fun _ _ _ _ _ h => h))), .inr (.inr (.inr (fun _ _ _ _ _ h => h))), .inr (.inr (.inr (fun _ _ _ _ _ h => h))), .inr (.inr (.inr (fun _ _ _ _ _ h => h))), .inr (.inr (.inl rfl)), .inr (.inr (.inl rfl)), .inr (.inr (.inl rfl)), .inr (.inr (.inl rfl)), trivial⟩,
          ⟨.inr (.inr (.inr (fun _ _ _ _ _ h => h))), .inr (.inr (.inr (fun _ _ _ _ _ h => h))), .inl rfl, .inr (.inr (.inr (fun _ _ _ _ _ h => h))), .inr (.inr (.inr (fun _ _ _ _ _ h => h))), .inr (.inr (.inr (fun _ _ _ _ _ h => h))), .inr (.inr (.inr (fun _ _ _ _ _ h => h))), .inr (.inr (.inr (fun _ _ _ _ _ h => h))), .inr (.inr (.inr (fun _ _ _ _ _ h => h))), .inr (.inr (.inr (fun _ _ _ _ _ h => h))), .inr (.inr (.inr (fun _ _ _ _ _ h => h))), .inr (.inr (.inr (fun _ _ _ _ _ h => h))), .inr (.inr (.inr (fun _ _ _ _ _ h => h))), .inr (.inr (.inr (fun _ _ _ _ h h0 => by cases h; exact h0))), .inr (.inr (.inl rfl)), .inr (.inr (.inl rfl)), trivial⟩,
          ⟨.inr (.inr (.inr (fun _ _ _ _ _ h => h))), .inr (.inr (.inr (fun _ _ _ _ _ h => h))), .inr (.inr (.inr (fun _ _ _ _ _ h => h))), .inl rfl, .inr (.inr (.inr (fun _ _ _ _ _ h => h))), .inr (.inr (.inr (fun _ _ _ _ _ h => h))), .inr (.inr (.inr (fun _ _ _ _ _ h => h))), .inr (.inr (.inr (fun _ _ _ _ _ h => h))), .inr (.inr (.inr (fun _ _ _ _ _ h => h))), .inr (.inr (.inr (fun _ _ _ _ _ h => h))), .inr (.inr (.inr (fun _ _ _ _ _ h => h))), .inr (.inr (.inr (fun _ _ _ _ _ h => h))), .inr (.inr (.inr (fun _ _ _ _ _ h => h))), .inr (.inr (.inr (fun _ _ _ _ h h0 => by cases h; exact h0))), .inr (.inr (.inl rfl)), .inr (.inr (.inl rfl)), trivial⟩,
          ⟨.inr (.inr (.inr (fun _ _ _ _ _ h => h))), .inr (.inr (.inr (fun _ _ _ _ _ h => h))), .inr (.inr (.inr (fun _ _ _ _ _ h => h))), .inr (.inr (.inr (fun _ _ _ _ _ h => h))), .inl rfl, .inr (.inr (.inr (fun _ _ _ _ _ h => h))), .inr (.inr (.inl rfl)), .inr (.inr (.inl rfl)), .inr (.inr (.inr (fun _ _ _ _ _ h => h))), .inr (.inr (.inr (fun _ _ _ _ _ h => h))), .inr (.inr (.inr (fun _ _ _ _ _ h => h))), .inr (.inr (.inr (fun _ _ _ _ _ h => h))), .inr (.inr (.inl rfl)), .inr (.inr (.inl rfl)), .inr (.inr (.inl rfl)), .inr (.inr (.inl rfl)), trivial⟩,
          ⟨.inr (.inr (.inr (fun _ _ _ _ _ h => h))), .inr (.inr (.inr (fun _ _ _ _ _ h => h))), .inr (.inr (.inr (fun _ _ _ _ _ h => h))), .inr (.inr (.inr (fun _ _ _ _ _ h => h))), .inr (.inr (.inr (fun _ _ _ _ _ h => h))), .inl rfl, .inr (.inr (.inl rfl)), .inr (.inr (.inl rfl)), .inr (.inr (.inr (fun _ _ _ _ _ h => h))), .inr (.inr (.inr (fun _ _ _ _ _ h => h))), .inr (.inr (.inr (fun _ _ _ _ _ h => h))), .inr (.inr (.inr (fun _ _ _ _ _ h => h))), .inr (.inr (.inl rfl)), .inr (.inr (.inl rfl)), .inr (.inr (.inl rfl)), .inr (.inr (.inl rfl)), trivial⟩,
          ⟨.inr (.inr (.inr (fun _ _ _ _ _ h => h))), .inr (.inr (.inr (fun _ _ _ _ _ h => h))), .inr (.inr (.inr (fun _ _ _ _ _ h => h))), .inr (.inr (.inr (fun _ _ _ _ _ h => h))), .inr (.inr (.inr (fun _ _ _ _ _ h => h))), .inr (.inr (.inr (fun _ _ _ _ _ h => h))), .inl rfl, .inr (.inr (.inl rfl)), .inr (.inr (.inr (fun _ _ _ _ _ h => h))), .inr (.inr (.inr (fun _ _ _ _ _ h => h))), .inr (.inr (.inr (fun _ _ _ _ _ h => h))), .inr (.inr (.inr (fun _ _ _ _ _ h => h))), .inr (.inr (.inl rfl)), .inr (.inr (.inl rfl)), .inr (.inr (.inl rfl)), .inr (.inr (.inl rfl)), trivial⟩,
          ⟨.inr (.inr (.inr (fun _ _ _ _ _ h => h))), .inr (.inr (.inr (fun _ _ _ _ _ h => h))), .inr (.inr (.inr (fun _ _ _ _ _ h => h))), .inr (.inr (.inr (fun _ _ _ _ _ h => h))), .inr (.inr (.inr (fun _ _ _ _ _ h => h))), .inr (.inr (.inr (fun _ _ _ _ _ h => h))), .inr (.inr (.inr (fun _ _ _ _ _ h => h))), .inl rfl, .inr (.inr (.inr (fun _ _ _ _ _ h => h))), .inr (.inr (.inr (fun _ _ _ _ _ h => h))), .inr (.inr (.inr (fun _ _ _ _ _ h => h))), .inr (.inr (.inr (fun _ _ _ _ _ h => h))), .inr (.inr (.inl rfl)), .inr (.inr (.inl rfl)), .inr (.inr (.inl rfl)), .inr (.inr (.inl rfl)), trivial⟩,
          ⟨.inr (.inr (.inr (fun _ _ _ _ _ h => h))), .inr (.inr (.inr (fun _ _ _ _ _ h => h))), .inr (.inr (.inr (fun _ _ _ _ _ h => h))), .inr (.inr (.inr (fun _ _ _ _ _ h => h))), .inr (.inr (.inr (fun _ _ _ _ _ h => h))), .inr (.inr (.inr (fun _ _ _ _ _ h => h))), .inr (.inr (.inr (fun _ _ _ _ _ h => h))), .inr (.inr (.inr (fun _ _ _ _ _ h => h))), .inl rfl, .inr (.inr (.inr (fun _ _ _ _ _ h => h))), .inr (.inr (.inl rfl)), .inr (.inr (.inl rfl)), .inr (.inr (.inl rfl)), .inr (.inr (.inl rfl)), .inr (.inr (.inl rfl)), .inr (.inr (.inl rfl)), trivial⟩,
          ⟨.inr (.inr (.inr (fun _ _ _ _ _ h => h))), .inr (.inr (.inr (fun _ _ _ _ _ h => h))), .inr (.inr (.inr (fun _ _ _ _ _ h => h))), .inr (.inr (.inr (fun _ _ _ _ _ h => h))), .inr (.inr (.inr (fun _ _ _ _ _ h => h))), .inr (.inr (.inr (fun _ _ _ _ _ h => h))), .inr (.inr (.inr (fun _ _ _ _ _ h => h))), .inr (.inr (.inr (fun _ _ _ _ _ h => h))), .inr (.inr (.inr (fun _ _ _ _ _ h => h))), .inl rfl, .inr (.inr (.inl rfl)), .inr (.inr (.inl rfl)), .inr (.inr (.inl rfl)), .inr (.inr (.inl rfl)), .inr (.inr (.inl rfl)), .inr (.inr (.inl rfl)), trivial⟩,
          ⟨.inr (.inr (.inr (fun _ _ _ _ _ h => h))), .inr (.inr (.inr (fun _ _ _ _ _ h => h))), .inr (.inr (.inr (fun _ _ _ _ _ h => h))), .inr (.inr (.inr (fun _ _ _ _ _ h => h))), .inr (.inr (.inr (fun _ _ _ _ _ h => h))), .inr (.inr (.inr (fun _ _ _ _ _ h => h))), .inr (.inr (.inr (fun _ _ _ _ _ h => h))), .inr (.inr (.inr (fun _ _ _ _ _ h => h))), .inr (.inr (.inr (fun _ _ _ _ _ h => h))), .inr (.inr (.inr (fun _ _ _ _ _ h => h))), .inl rfl, .inr (.inr (.inl rfl)), .inr (.inr (.inl rfl)), .inr (.inr (.inl rfl)), .inr (.inr (.inl rfl)), .inr (.inr (.inl rfl)), trivial⟩,
          ⟨.inr (.inr (.inr (fun _ _ _ _ _ h => h))), .inr (.inr (.inr (fun _ _ _ _ _ h => h))), .inr (.inr (.inr (fun _ _ _ _ _ h => h))), .inr (.inr (.inr (fun _ _ _ _ _ h => h))), .inr (.inr (.inr (fun _ _ _ _ _ h => h))), .inr (.inr (.inr (fun _ _ _ _ _ h => h))), .inr (.inr (.inr (fun _ _ _ _ _ h => h))), .inr (.inr (.inr (fun _ _ _ _ _ h => h))), .inr (.inr (.inr (fun _ _ _ _ _ h => h))), .inr (.inr (.inr (fun _ _ _ _ _ h => h))), .inr (.inr (.inr (fun _ _ _ _ _ h => h))), .inl rfl, .inr (.inr (.inl rfl)), .inr (.inr (.inl rfl)), .inr (.inr (.inl rfl)), .inr (.inr (.inl rfl)), trivial⟩,
          ⟨.inr (.inr (.inr (fun _ _ _ _ _ h => h))), .inr (.inr (.inr (fun _ _ _ _ _ h => h))), .inr (.inr (.inr (fun _ _ _ _ _ h => h))), .inr (.inr (.inr (fun _ _ _ _ _ h => h))), .inr (.inr (.inr (fun _ _ _ _ _ h => h))), .inr (.inr (.inr (fun _ _ _ _ _ h => h))), .inr (.inr (.inr (fun _ _ _ _ _ h => h))), .inr (.inr (.inr (fun _ _ _ _ _ h => h))), .inr (.inr (.inr (fun _ _ _ _ _ h => h))), .inr (.inr (.inr (fun _ _ _ _ _ h => h))), .inr (.inr (.inr (fun _ _ _ _ _ h => h))), .inr (.inr (.inr (fun _ _ _ _ _ h => h))), .inl rfl, .inr (.inr (.inl rfl)), .inr (.inr (.inl rfl)), .inr (.inr (.inl rfl)), trivial⟩,
          ⟨.inr (.inr (.inr (fun _ _ _ _ _ h => h))), .inr (.inr (.inr (fun _ _ _ _ _ h => h))), .inr (.inr (.inr (fun _ _ _ _ _ h => h))), .inr (.inr (.inr (fun _ _ _ _ _ h => h))), .inr (.inr (.inr (fun _ _ _ _ _ h => h))), .inr (.inr (.inr (fun _ _ _ _ _ h => h))), .inr (.inr (.inr (fun _ _ _ _ _ h => h))), .inr (.inr (.inr (fun _ _ _ _ _ h => h))), .inr (.inr (.inr (fun _ _ _ _ _ h => h))), .inr (.inr (.inr (fun _ _ _ _ _ h => h))), .inr (.inr (.inr (fun _ _ _ _ _ h => h))), .inr (.inr (.inr (fun _ _ _ _ _ h => h))), .inr (.inr (.inr (fun _ _ _ _ _ h => h))), .inl rfl, .inr (.inr (.inl rfl)), .inr (.inr (.inl rfl)), trivial⟩,
          ⟨.inr (.inr (.inr (fun _ _ _ _ _ h => h))), .inr (.inr (.inr (fun _ _ _ _ _ h => h))), .inr (.inr (.inr (fun _ _ _ _ _ h => h))), .inr (.inr (.inr (fun _ _ _ _ _ h => h))), .inr (.inr (.inr (fun _ _ _ _ _ h => h))), .inr (.inr (.inr (fun _ _ _ _ _ h => h))), .inr (.inr (.inr (fun _ _ _ _ _ h => h))), .inr (.inr (.inr (fun _ _ _ _ _ h => h))), .inr (.inr (.inr (fun _ _ _ _ _ h => h))), .inr (.inr (.inr (fun _ _ _ _ _ h => h))), .inr (.inr (.inr (fun _ _ _ _ _ h => h))), .inr (.inr (.inr (fun _ _ _ _ _ h => h))), .inr (.inr (.inr (fun _ _ _ _ _ h => h))), .inr (.inr (.inr (fun _ _ _ _ h h0 => by cases h; exact h0))), .inl rfl, .inr (.inr (.inl rfl)), trivial⟩,
          ⟨.inr (.inr (.inr (fun _ _ _ _ _ h => h))), .inr (.inr (.inr (fun _ _ _ _ _ h => h))), .inr (.inr (.inr (fun _ _ _ _ _ h => h))), .inr (.inr (.inr (fun _ _ _ _ _ h => h))), .inr (.inr (.inr (fun _ _ _ _ _ h => h))), .inr (.inr (.inr (fun _ _ _ _ _ h => h))), .inr (.inr (.inr (fun _ _ _ _ _ h => h))), .inr (.inr (.inr (fun _ _ _ _ _ h => h))), .inr (.inr (.inr (fun _ _ _ _ _ h => h))), .inr (.inr (.inr (fun _ _ _ _ _ h => h))), .inr (.inr (.inr (fun _ _ _ _ _ h => h))), .inr (.inr (.inr (fun _ _ _ _ _ h => h))), .inr (.inr (.inr (fun _ _ _ _ _ h => h))), .inr (.inl rfl), .inr (.inr (.inr (fun _ _ _ _ _ h => h))), .inl rfl, trivial⟩, trivial⟩
      · refine ⟨?_, ?_, ?_, ?_, ?_, ?_, ?_, ?_, ?_, ?_, ?_, ?_, ?_, ?_, ?_, ?_, trivial⟩
        · -- 0: Op.move (Operand.tmp 0)
          refine step_plain [] (fun _ => rfl) rfl ?_
          intro w1 vals hC1 hi0 hf E hE
          have hI1 : (fun u => Blk u g t (bnV R).toArray) w1 := hi0 false rfl
          try dsimp only at hI1
          clear hi0
          clear hf
          simp only [puts, act_put, act_put_none, List.setIfInBounds_toArray, List.set_cons_zero, List.set_cons_succ] at hE ⊢
          go_wp2
          exact .mk (hE _ _ rfl hC1 rfl)
        · -- 1: Op.move (Operand.tmp 2)
          refine step_plain [] (fun _ => rfl) rfl ?_
          intro w1 vals hC1 hi0 hf E hE
          have hI1 : (fun u => Blk u g t (bnV R).toArray) w1 := hi0 false rfl
          try dsimp only at hI1
          clear hi0
          clear hf
          simp only [puts, act_put, act_put_none, List.setIfInBounds_toArray, List.set_cons_zero, List.set_cons_succ] at hE ⊢
          go_wp2
          exact .mk (hE _ _ rfl hC1 rfl)
        · -- 2: Op.move (Operand.tmp 0)
          refine step_plain [] (fun _ => rfl) rfl ?_
          intro w1 vals hC1 hi0 hf E hE
          clear hi0
          clear hf
          simp only [puts, act_put, act_put_none, List.setIfInBounds_toArray, List.set_cons_zero, List.set_cons_succ] at hE ⊢
          go_wp2
          exact .mk (hE _ _ rfl hC1 rfl)
        · -- 3: Op.move (Operand.tmp 3)
          refine step_plain [] (fun _ => rfl) rfl ?_
          intro w1 vals hC1 hi0 hf E hE
          clear hi0
          clear hf
          simp only [puts, act_put, act_put_none, List.setIfInBounds_toArray, List.set_cons_zero, List.set_cons_succ] at hE ⊢
          go_wp2
          exact .mk (hE _ _ rfl hC1 rfl)
        · -- 4: Op.move (Operand.tmp 0)
          refine step_plain [] (fun _ => rfl) rfl ?_
          intro w1 vals hC1 hi0 hf E hE
          have hI1 : (fun u => Blk u g t (bnV R).toArray) w1 := hi0 false rfl
          try dsimp only at hI1
          clear hi0
          clear hf
          simp only [puts, act_put, act_put_none, List.setIfInBounds_toArray, List.set_cons_zero, List.set_cons_succ] at hE ⊢
          go_wp2
          exact .mk (hE _ _ rfl hC1 rfl)
        · -- 5: Op.move (Operand.tmp 3)
          refine step_plain [] (fun _ => rfl) rfl ?_
          intro w1 vals hC1 hi0 hf E hE
          have hI1 : (fun u => Blk u g t (bnV R).toArray) w1 := hi0 false rfl
          try dsimp only at hI1
          clear hi0
          clear hf
          simp only [puts, act_put, act_put_none, List.setIfInBounds_toArray, List.set_cons_zero, List.set_cons_succ] at hE ⊢
          go_wp2
          exact .mk (hE _ _ rfl hC1 rfl)
        · -- 6: Op.indexAddr 22 (Operand.tmp 18) (Operand.tmp 19)
          refine step_plain [(4, some 18), (5, some 19)] (fun _ => rfl) rfl ?_
          intro w1 vals hC1 hi0 hf E hE
          have hI1 : (fun u => Blk u g t (bnV R).toArray) w1 := hi0 false rfl
          try dsimp only at hI1
          clear hi0
          have f4 : vals 4 = .slice (some ⟨g, 0, none⟩) 32 c := hf 4 rfl
          have f5 : vals 5 = .int .i64 (m : Int) := hf 5 rfl
          try dsimp only at f4 f5
          clear hf
          simp only [puts, act_put, act_put_none, List.setIfInBounds_toArray, List.set_cons_zero, List.set_cons_succ, f4, f5] at hE ⊢
          clear f4 f5
          go_wp2
          exact .mk (hE _ _ rfl hC1 rfl)
        · -- 7: Op.load 5 (Operand.tmp 20)
          refine step_plain [(6, some 20)] (fun _ => rfl) rfl ?_
          intro w1 vals hC1 hi0 hf E hE
          have hI1 : (fun u => Blk u g t (bnV R).toArray) w1 := hi0 false rfl
          try dsimp only at hI1
          clear hi0
          have f6 : vals 6 = .pointer (some ⟨g, m, none⟩) := hf 6 rfl
          try dsimp only at f6
          clear hf
          have d0 := hI1.cell m
          rw [HKB.out] at d0
          simp only [puts, act_put, act_put_none, List.setIfInBounds_toArray, List.set_cons_zero, List.set_cons_succ, f6] at hE ⊢
          clear f6
          go_wp2
          exact .mk (hE _ _ rfl hC1 rfl)
        · -- 8: Op.move (Operand.tmp 0)
          refine step_plain [] (fun _ => rfl) rfl ?_
          intro w1 vals hC1 hi0 hf E hE
          have hI1 : (fun u => Blk u g t (bnV R).toArray) w1 := hi0 false rfl
          try dsimp only at hI1
          clear hi0
          clear hf
          simp only [puts, act_put, act_put_none, List.setIfInBounds_toArray, List.set_cons_zero, List.set_cons_succ] at hE ⊢
          go_wp2
          exact .mk (hE _ _ rfl hC1 rfl)
        · -- 9: Op.move (Operand.tmp 2)
          refine step_plain [] (fun _ => rfl) rfl ?_
          intro w1 vals hC1 hi0 hf E hE
          have hI1 : (fun u => Blk u g t (bnV R).toArray) w1 := hi0 false rfl
          try dsimp only at hI1
          clear hi0
          clear hf
          simp only [puts, act_put, act_put_none, List.setIfInBounds_toArray, List.set_cons_zero, List.set_cons_succ] at hE ⊢
          go_wp2
          exact .mk (hE _ _ rfl hC1 rfl)
        · -- 10: Op.indexAddr 22 (Operand.tmp 22) (Operand.tmp 23)
          refine step_plain [(8, some 22), (9, some 23)] (fun _ => rfl) rfl ?_
          intro w1 vals hC1 hi0 hf E hE
          have hI1 : (fun u => Blk u g t (bnV R).toArray) w1 := hi0 false rfl
          try dsimp only at hI1
          clear hi0
          have f8 : vals 8 = .slice (some ⟨g, 0, none⟩) 32 c := hf 8 rfl
          have f9 : vals 9 = .int .i64 (k : Int) := hf 9 rfl
          try dsimp only at f8 f9
          clear hf
          simp only [puts, act_put, act_put_none, List.setIfInBounds_toArray, List.set_cons_zero, List.set_cons_succ, f8, f9] at hE ⊢
          clear f8 f9
          go_wp2
          exact .mk (hE _ _ rfl hC1 rfl)
        · -- 11: Op.load 5 (Operand.tmp 24)
          refine step_plain [(10, some 24)] (fun _ => rfl) rfl ?_
          intro w1 vals hC1 hi0 hf E hE
          have hI1 : (fun u => Blk u g t (bnV R).toArray) w1 := hi0 false rfl
          try dsimp only at hI1
          clear hi0
          have f10 : vals 10 = .pointer (some ⟨g, k, none⟩) := hf 10 rfl
          try dsimp only at f10
          clear hf
          have d0 := hI1.cell k
          rw [HKA.out] at d0
          simp only [puts, act_put, act_put_none, List.setIfInBounds_toArray, List.set_cons_zero, List.set_cons_succ, f10] at hE ⊢
          clear f10
          go_wp2
          exact .mk (hE _ _ rfl hC1 rfl)
        · -- 12: Op.indexAddr 22 (Operand.tmp 14) (Operand.tmp 15)
          refine step_plain [(0, some 14), (1, some 15), (0, some 14), (1, some 15), (4, some 18), (5, some 19), (6, some 20), (7, some 21), (11, some 25)] (fun _ => rfl) rfl ?_
          intro w1 vals hC1 hi0 hf E hE
          have hI1 : (fun u => Blk u g t (bnV R).toArray) w1 := hi0 false rfl
          try dsimp only at hI1
          clear hi0
          have f0 : vals 0 = .slice (some ⟨g, 0, none⟩) 32 c := hf 0 rfl
          have f1 : vals 1 = .int .i64 (k : Int) := hf 1 rfl
          have f4 : vals 4 = .slice (some ⟨g, 0, none⟩) 32 c := hf 4 rfl
          have f5 : vals 5 = .int .i64 (m : Int) := hf 5 rfl
          have f6 : vals 6 = .pointer (some ⟨g, m, none⟩) := hf 6 rfl
          have f7 : vals 7 = .int .u8 (b : Int) := hf 7 rfl
          have f11 : vals 11 = .int .u8 (a : Int) := hf 11 rfl
          try dsimp only at f0 f1 f4 f5 f6 f7 f11
          clear hf
          simp only [puts, act_put, act_put_none, List.setIfInBounds_toArray, List.set_cons_zero, List.set_cons_succ, f0, f1, f4, f5, f6, f7, f11] at hE ⊢
          clear f0 f1 f4 f5 f6 f7 f11
          go_wp2
          exact .mk (hE _ _ rfl hC1 rfl)
        · -- 13: Op.store 5 (Operand.tmp 26) (Operand.tmp 21)
          refine step_plain [(12, some 26), (7, some 21), (0, some 14), (1, some 15), (4, some 18), (5, some 19), (6, some 20), (7, some 21), (11, some 25)] (fun _ => rfl) rfl ?_
          intro w1 vals hC1 hi0 hf E hE
          have hI1 : (fun u => Blk u g t (bnV R).toArray) w1 := hi0 false rfl
          try dsimp only at hI1
          clear hi0
          have f0 : vals 0 = .slice (some ⟨g, 0, none⟩) 32 c := hf 0 rfl
          have f1 : vals 1 = .int .i64 (k : Int) := hf 1 rfl
          have f4 : vals 4 = .slice (some ⟨g, 0, none⟩) 32 c := hf 4 rfl
          have f5 : vals 5 = .int .i64 (m : Int) := hf 5 rfl
          have f6 : vals 6 = .pointer (some ⟨g, m, none⟩) := hf 6 rfl
          have f7 : vals 7 = .int .u8 (b : Int) := hf 7 rfl
          have f11 : vals 11 = .int .u8 (a : Int) := hf 11 rfl
          have f12 : vals 12 = .pointer (some ⟨g, k, none⟩) := hf 12 rfl
          try dsimp only at f0 f1 f4 f5 f6 f7 f11 f12
          clear hf
          simp only [puts, act_put, act_put_none, List.setIfInBounds_toArray, List.set_cons_zero, List.set_cons_succ, f0, f1, f4, f5, f6, f7, f11, f12] at hE ⊢
          clear f0 f1 f4 f5 f6 f7 f11 f12
          refine wpList_put_cell (i := k) (v := .int .u8 (b : Int)) hI1 rfl rfl rfl rfl u8_size (by rw [bnV_len, HRL.out]; have := HK.out; omega) rfl ?_
          intro w2 hb2 hw2
          rw [bnV_set] at hb2
          go_wp2_with fail
          exact .mk (hE undef _ hb2 (hC1.trans hw2) trivial)
        · -- 14: Op.indexAddr 22 (Operand.tmp 16) (Operand.tmp 17)
          refine step_plain [(2, some 16), (3, some 17), (0, some 14), (1, some 15), (2, some 16), (3, some 17), (4, some 18), (5, some 19), (6, some 20), (7, some 21), (8, some 22), (9, some 23), (10, some 24), (11, some 25), (12, some 26), (13, none)] (fun _ => rfl) rfl ?_
          intro w1 vals hC1 hi0 hf E hE
          clear hi0
          have f0 : vals 0 = .slice (some ⟨g, 0, none⟩) 32 c := hf 0 rfl
          have f1 : vals 1 = .int .i64 (k : Int) := hf 1 rfl
          have f2 : vals 2 = .slice (some ⟨g, 0, none⟩) 32 c := hf 2 rfl
          have f3 : vals 3 = .int .i64 (m : Int) := hf 3 rfl
          have f4 : vals 4 = .slice (some ⟨g, 0, none⟩) 32 c := hf 4 rfl
          have f5 : vals 5 = .int .i64 (m : Int) := hf 5 rfl
          have f6 : vals 6 = .pointer (some ⟨g, m, none⟩) := hf 6 rfl
          have f7 : vals 7 = .int .u8 (b : Int) := hf 7 rfl
          have f8 : vals 8 = .slice (some ⟨g, 0, none⟩) 32 c := hf 8 rfl
          have f9 : vals 9 = .int .i64 (k : Int) := hf 9 rfl
          have f10 : vals 10 = .pointer (some ⟨g, k, none⟩) := hf 10 rfl
          have f11 : vals 11 = .int .u8 (a : Int) := hf 11 rfl
          have f12 : vals 12 = .pointer (some ⟨g, k, none⟩) := hf 12 rfl
          have f13 : (fun z u => Blk u g t (bnV (R.set k b)).toArray) vals w1 := hf 13 rfl
          try dsimp only at f0 f1 f2 f3 f4 f5 f6 f7 f8 f9 f10 f11 f12 f13
          clear hf
          simp only [puts, act_put, act_put_none, List.setIfInBounds_toArray, List.set_cons_zero, List.set_cons_succ, f0, f1, f2, f3, f4, f5, f6, f7, f8, f9, f10, f11, f12] at hE ⊢
          clear f0 f1 f2 f3 f4 f5 f6 f7 f8 f9 f10 f11 f12
          go_wp2
          exact .mk (hE _ _ rfl hC1 rfl)
        · -- 15: Op.store 5 (Operand.tmp 27) (Operand.tmp 25)
          refine step_plain [(14, some 27), (11, some 25), (13, none), (0, some 14), (1, some 15), (2, some 16), (3, some 17), (4, some 18), (5, some 19), (6, some 20), (7, some 21), (8, some 22), (9, some 23), (10, some 24), (11, some 25), (12, some 26), (13, none)] (fun _ => rfl) rfl ?_
          intro w1 vals hC1 hi0 hf E hE
          clear hi0
          have f0 : vals 0 = .slice (some ⟨g, 0, none⟩) 32 c := hf 0 rfl
          have f1 : vals 1 = .int .i64 (k : Int) := hf 1 rfl
          have f2 : vals 2 = .slice (some ⟨g, 0, none⟩) 32 c := hf 2 rfl
          have f3 : vals 3 = .int .i64 (m : Int) := hf 3 rfl
          have f4 : vals 4 = .slice (some ⟨g, 0, none⟩) 32 c := hf 4 rfl
          have f5 : vals 5 = .int .i64 (m : Int) := hf 5 rfl
          have f6 : vals 6 = .pointer (some ⟨g, m, none⟩) := hf 6 rfl
          have f7 : vals 7 = .int .u8 (b : Int) := hf 7 rfl
          have f8 : vals 8 = .slice (some ⟨g, 0, none⟩) 32 c := hf 8 rfl
          have f9 : vals 9 = .int .i64 (k : Int) := hf 9 rfl
          have f10 : vals 10 = .pointer (some ⟨g, k, none⟩) := hf 10 rfl
          have f11 : vals 11 = .int .u8 (a : Int) := hf 11 rfl
          have f12 : vals 12 = .pointer (some ⟨g, k, none⟩) := hf 12 rfl
          have f13 : (fun z u => Blk u g t (bnV (R.set k b)).toArray) vals w1 := hf 13 rfl
          have f14 : vals 14 = .pointer (some ⟨g, m, none⟩) := hf 14 rfl
          try dsimp only at f0 f1 f2 f3 f4 f5 f6 f7 f8 f9 f10 f11 f12 f13 f14
          clear hf
          simp only [puts, act_put, act_put_none, List.setIfInBounds_toArray, List.set_cons_zero, List.set_cons_succ, f0, f1, f2, f3, f4, f5, f6, f7, f8, f9, f10, f11, f12, f14] at hE ⊢
          clear f0 f1 f2 f3 f4 f5 f6 f7 f8 f9 f10 f11 f12 f14
          refine wpList_put_cell (i := m) (v := .int .u8 (a : Int)) f13 rfl rfl rfl rfl u8_size (by rw [bnV_len, List.length_set, HRL.out]; have := HM.out; omega) rfl ?_
          intro w2 hb2 hw2
          rw [bnV_set] at hb2
          go_wp2_with fail
          exact .mk (hE undef _ hb2 (hC1.trans hw2) trivial)
      intro w1 vals hC1 hf
      have f0 : vals 0 = .slice (some ⟨g, 0, none⟩) 32 c := hf 0 (by decide) rfl
      have f1 : vals 1 = .int .i64 (k : Int) := hf 1 (by decide) rfl
      have f2 : vals 2 = .slice (some ⟨g, 0, none⟩) 32 c := hf 2 (by decide) rfl
      have f3 : vals 3 = .int .i64 (m : Int) := hf 3 (by decide) rfl
      have f4 : vals 4 = .slice (some ⟨g, 0, none⟩) 32 c := hf 4 (by decide) rfl
      have f5 : vals 5 = .int .i64 (m : Int) := hf 5 (by decide) rfl
      have f6 : vals 6 = .pointer (some ⟨g, m, none⟩) := hf 6 (by decide) rfl
      have f7 : vals 7 = .int .u8 (b : Int) := hf 7 (by decide) rfl
      have f8 : vals 8 = .slice (some ⟨g, 0, none⟩) 32 c := hf 8 (by decide) rfl
      have f9 : vals 9 = .int .i64 (k : Int) := hf 9 (by decide) rfl
      have f10 : vals 10 = .pointer (some ⟨g, k, none⟩) := hf 10 (by decide) rfl
      have f11 : vals 11 = .int .u8 (a : Int) := hf 11 (by decide) rfl
      have f12 : vals 12 = .pointer (some ⟨g, k, none⟩) := hf 12 (by decide) rfl
      have f14 : vals 14 = .pointer (some ⟨g, m, none⟩) := hf 14 (by decide) rfl
      have f15 : (fun z u => Blk u g t (bnV ((R.set k b).set m a)).toArray) vals w1 := hf 15 (by decide) rfl
      try dsimp only at f0 f1 f2 f3 f4 f5 f6 f7 f8 f9 f10 f11 f12 f14 f15
      clear hf
      simp only [puts, act_put, act_put_none, List.setIfInBounds_toArray, List.set_cons_zero, List.set_cons_succ, f0, f1, f2, f3, f4, f5, f6, f7, f8, f9, f10, f11, f12, f14]
      clear f0 f1 f2 f3 f4 f5 f6 f7 f8 f9 f10 f11 f12 f14
      rw [← HNEXT.out] at f15
      have HF := Lib.hid f15
      have HC1 := Lib.hid hC1
      clear hC1 f15 HC0 HI0
      have hm1 : (m : Int) - 1 = 31 - ((k + 1 : Nat) : Int) := by have := HM.out; have := HK.out; omega
      have HM1 := Lib.hid hm1
      clear hm1
      go_wp2_with fail
      exact ⟨⟨k + 1, HK.out, by go_num, by rw [HM1.out], HF.out, HWR.out.trans HC1.out⟩, by have := HK.out; simp [intOf]; omega⟩
    · obtain rfl : k = 16 := by omega
      have HF := Lib.hid hblk
      have HWR := Lib.hid hwr
      clear hblk hwr hlt hk
      go_wp2_with fail
      refine bodyPost_end (results_none rfl _ _ _) rfl ?_
      exact ⟨⟨_, rfl⟩, HF.out, HWR.out⟩
def toB (l : List Nat) : List UInt8 := l.map UInt8.ofNat
theorem toB_v {l : List Nat} (h : Dg l) : bytesV (toB l) = bnV l := by rw [← bnV_digs, toB, digs_ofNat l h]
/-- an element of 32 bytes, the highest first -/
def knownE (l : List Nat) : E5 := readE (toB (revS l 16))
theorem readE_ok (l : List UInt8) : (readE l).Ok := by
  unfold readE
  split
  · exact ofN_ok _
  · exact zE_ok
theorem knownE_ok (l : List Nat) : (knownE l).Ok := readE_ok _
set_option maxRecDepth 100000 in
set_option maxHeartbeats 2000000 in
theorem known_any (l : List Nat) (hd : Dg l) (hl : l.length = 32) (w : World) : Calls Try.prog 29 #[.agg (bnV l).toArray] w (ElemPost (knownE l) w) := by
  have hu := Try.underlying26
  obtain ⟨w0, hw0⟩ : ∃ w0, w0 = (w.alloc (.cells (bnV l).toArray 57)).alloc (.cells (eV zE) 26) := ⟨_, rfl⟩
  obtain ⟨R, hR⟩ : ∃ R, R = revS l 16 := ⟨_, rfl⟩
  have hRl : R.length = 32 := by rw [hR, revS_length]; exact hl
  have hbg : Blk w0 w.heap.size 57 (bnV l).toArray := by rw [hw0]; exact (Blk.new _ _ _).alloc _
  have hbr : Blk w0 (w.heap.size + 1) 26 (eV zE) := by rw [hw0]; exact Blk.newAt (by simp)
  have hbel : Below w.heap.size w w0 := by rw [hw0]; exact (below_new _ _).alloc (by simp) _
  have hrev := reverse_any l hl w.heap.size 57 32 w0 hbg
  rw [← hR] at hrev
  have hread : ∀ u g, Blk u g 57 (bnV R).toArray → Calls Try.prog 52 #[.slice (some ⟨g, 0, none⟩) 32 32] u (ReadPost (toB R) u) := fun u g hb => by
    have hv : bytesV (toB R) = bnV R := toB_v (by rw [hR]; exact revS_dg hd 16)
    have hlen : (toB R).length = 32 := by rw [toB, List.length_map, hRl]
    have h := read_any (toB R) (some ⟨g, 0, none⟩) 32 u (by rw [hv]; exact Rd.of_blk hb hb.lt) (by rw [hlen]; exact Nat.le_refl _) (by rw [hlen]; decide)
    rw [hlen] at h; exact h
  have HW := Lib.hid hw0
  have HREV := Lib.hid hrev
  have HREAD := Lib.hid hread
  have HBR := Lib.hid hbr
  have HBEL := Lib.hid hbel
  have HR := Lib.hid hR
  have hne : w.heap.size + 1 ≠ w.heap.size := by omega
  have HNE := Lib.hid hne
  have HLR := Lib.hid (show w.heap.size ≤ w.heap.size + 1 by omega)
  clear hw0 hRl hbg hbr hbel hrev hread hR hd hl hne
  generalize hcs : (bnV l).toArray = cs at *
  go_enter Try.func29, Try.ntmps29
  go_wp2_with fail
  show Calls _ _ _ ((w.alloc (.cells cs _)).alloc (.cells (eV zE) _)) _
  rw [← HW.out]
  generalize w.heap.size + 1 = r at *
  generalize hgg : w.heap.size = g at *
  have HG := Lib.hid hgg
  clear hgg HW
  refine calls_then HREV.out ?_
  rintro e w1 ⟨⟨v, rfl⟩, hb1, hw1⟩
  have HB1 := Lib.hid hb1
  have HBR1 := Lib.hid (hw1.blk HBR.out HNE.out)
  have HBEL1 := Lib.hid (hw1.below HBEL.out (Nat.le_refl _) (by have h := HBEL.out; rw [← HG.out] at h ⊢; exact h.size))
  clear hb1 hw1 HBR HBEL HREV
  go_wp2_with fail
  refine calls_then (HREAD.out w1 g HB1.out) ?_
  rintro e w2 ⟨rfl, hb2⟩
  have HGS : Hid (g ≤ w1.heap.size) := Lib.hid (by have h := HBEL1.out; rw [← HG.out] at h ⊢; exact h.size)
  have HBEL2 := Lib.hid (HBEL1.out.trans (hb2.mono HGS.out))
  have HBR2 := Lib.hid (HBR1.out.below hb2 HBR1.out.lt)
  clear hb2 HBEL1 HBR1
  go_wp2_with (first
    | (refine wpList_put_box (x := .tmp 4) (cells := eV (readE (toB R))) (Blk.new _ _ _) rfl rfl rfl rfl elem_size rfl (by simp [eV, wV, limbs, Value.oneCell']) ?_; intro w3 hb3 hw3; have HB3 := Lib.hid hb3; have HBR3 := Lib.hid (HBR2.out.below (box_low hw3) HBR2.out.lt); have HBEL3 := Lib.hid (HBEL2.out.trans ((box_low hw3).mono (by have h := HBEL2.out; rw [← HG.out] at h ⊢; exact h.size))); clear hb3 hw3)
    | (refine wpList_get_box (x := .tmp 4) HB3.out rfl rfl rfl hu rfl elem_size ?_)
    | (refine wpList_put_box (x := .tmp 2) (cells := eV (readE (toB R))) HBR3.out rfl rfl rfl rfl elem_size rfl (by simp [eV, wV, limbs, Value.oneCell']) ?_; intro w4 hb4 hw4; have HB4 := Lib.hid hb4; have HW4 := Lib.hid hw4; clear hb4 hw4))
  refine bodyPost_ret (results_box (P := Try.prog) rfl rfl HB4.out hu rfl elem_size) rfl ⟨by rw [knownE, ← HR.out], ?_⟩
  rw [HG.out]
  exact HW4.out.below HBEL3.out HLR.out (by have h := HBEL3.out; rw [← HG.out] at h ⊢; exact h.size)
end Go.Proofs.Ytbeokfpbhemcfaa
/-
  Walks: the curve's d, turn, Zero and Base.
-/
namespace Go.Proofs.Ytbeokfpbhemcfaa
set_option linter.unusedSimpArgs false
set_option linter.unusedVariables false
open Go.RowKit

def dL : List Nat := [82, 3, 108, 238, 43, 111, 254, 115, 140, 199, 64, 121, 119, 121, 232, 152, 0, 112, 10, 77, 65, 65, 216, 171, 117, 235, 77, 202, 19, 89, 120, 163]
def turnL : List Nat := [43, 131, 36, 128, 79, 193, 223, 11, 43, 77, 0, 153, 61, 251, 215, 167, 47, 67, 24, 6, 173, 47, 228, 120, 196, 238, 27, 39, 74, 14, 160, 176]
def bxL : List Nat := [33, 105, 54, 211, 205, 110, 83, 254, 192, 164, 226, 49, 253, 214, 220, 92, 105, 44, 199, 96, 149, 37, 167, 178, 201, 86, 45, 96, 143, 37, 213, 26]
def byL : List Nat := List.replicate 31 102 ++ [88]
def dE : E5 := knownE dL
def turnE : E5 := knownE turnL
theorem dE_ok : dE.Ok := knownE_ok _
theorem turnE_ok : turnE.Ok := knownE_ok _
theorem d_known (u : World) : Calls Try.prog 29 #[.agg (bnV dL).toArray] u (ElemPost dE u) := known_any dL (by unfold Dg; decide) rfl u
theorem turn_known (u : World) : Calls Try.prog 29 #[.agg (bnV turnL).toArray] u (ElemPost turnE u) := known_any turnL (by unfold Dg; decide) rfl u
theorem bx_known (u : World) : Calls Try.prog 29 #[.agg (bnV bxL).toArray] u (ElemPost (knownE bxL) u) := known_any bxL (by unfold Dg; decide) rfl u
theorem by_known (u : World) : Calls Try.prog 29 #[.agg (bnV byL).toArray] u (ElemPost (knownE byL) u) := known_any byL (by unfold Dg; decide) rfl u
set_option maxRecDepth 100000 in
set_option maxHeartbeats 2000000 in
theorem d_any (w : World) : Calls Try.prog 31 #[] w (ElemPost dE w) := by
  have hu := Try.underlying26
  have HK := Lib.hid d_known
  have hbr : Blk (w.alloc (.cells (eV zE) 26)) w.heap.size 26 (eV zE) := Blk.new _ _ _
  have hbel : Below w.heap.size w (w.alloc (.cells (eV zE) 26)) := below_new _ _
  have HBR := Lib.hid hbr
  have HBEL := Lib.hid hbel
  clear hbr hbel
  generalize dE = X at *
  go_enter Try.func31, Try.ntmps31
  go_wp2_with fail
  refine calls_then (HK.out _) ?_
  rintro e w2 ⟨rfl, hb2⟩
  have HBR2 := Lib.hid (HBR.out.below hb2 HBR.out.lt)
  have HBEL2 := Lib.hid (HBEL.out.trans (hb2.mono (by simp)))
  clear hb2 HBR HBEL
  go_wp2_with (refine wpList_put_box (x := .tmp 0) (cells := eV X) HBR2.out rfl rfl rfl rfl elem_size rfl (by simp [eV, wV, limbs, Value.oneCell']) ?_; intro w4 hb4 hw4; have HB4 := Lib.hid hb4; have HW4 := Lib.hid hw4; clear hb4 hw4)
  refine bodyPost_ret (results_box (P := Try.prog) rfl rfl HB4.out hu rfl elem_size) rfl ⟨rfl, HW4.out.below HBEL2.out (Nat.le_refl _) HBEL2.out.size⟩
set_option maxRecDepth 100000 in
set_option maxHeartbeats 2000000 in
theorem turn_any (w : World) : Calls Try.prog 67 #[] w (ElemPost turnE w) := by
  have hu := Try.underlying26
  have HK := Lib.hid turn_known
  have hbr : Blk (w.alloc (.cells (eV zE) 26)) w.heap.size 26 (eV zE) := Blk.new _ _ _
  have hbel : Below w.heap.size w (w.alloc (.cells (eV zE) 26)) := below_new _ _
  have HBR := Lib.hid hbr
  have HBEL := Lib.hid hbel
  clear hbr hbel
  generalize turnE = X at *
  go_enter Try.func67, Try.ntmps67
  go_wp2_with fail
  refine calls_then (HK.out _) ?_
  rintro e w2 ⟨rfl, hb2⟩
  have HBR2 := Lib.hid (HBR.out.below hb2 HBR.out.lt)
  have HBEL2 := Lib.hid (HBEL.out.trans (hb2.mono (by simp)))
  clear hb2 HBR HBEL
  go_wp2_with (refine wpList_put_box (x := .tmp 0) (cells := eV X) HBR2.out rfl rfl rfl rfl elem_size rfl (by simp [eV, wV, limbs, Value.oneCell']) ?_; intro w4 hb4 hw4; have HB4 := Lib.hid hb4; have HW4 := Lib.hid hw4; clear hb4 hw4)
  refine bodyPost_ret (results_box (P := Try.prog) rfl rfl HB4.out hu rfl elem_size) rfl ⟨rfl, HW4.out.below HBEL2.out (Nat.le_refl _) HBEL2.out.size⟩
/-- the neutral point -/
def zeroP : Pt4 := ofP (intE 0) (intE 1)
theorem int0_ok : (intE 0).Ok := intE_ok (by decide) (by decide)
theorem zeroP_ok : zeroP.Ok := ofP_ok int0_ok one_ok
set_option maxRecDepth 100000 in
set_option maxHeartbeats 2000000 in
theorem zero_any (w : World) : Calls Try.prog 26 #[] w (PtPost zeroP w) := by
  have hp := Try.underlying28
  have H0 := Lib.hid int0_c
  have H1 := Lib.hid int1_c
  have HO := Lib.hid (fun u => pof_any (intE 0) (intE 1) int0_ok one_ok u)
  have hbr : Blk (w.alloc (.cells (ptV zP) 28)) w.heap.size 28 (ptV zP) := Blk.new _ _ _
  have hbel : Below w.heap.size w (w.alloc (.cells (ptV zP) 28)) := below_new _ _
  have HBR := Lib.hid hbr
  have HBEL := Lib.hid hbel
  clear hbr hbel
  have HZ : Hid (zeroP = ofP (intE 0) (intE 1)) := Lib.hid rfl
  generalize ofP (intE 0) (intE 1) = X at *
  generalize intE 0 = I0 at *
  generalize intE 1 = I1 at *
  go_enter Try.func26, Try.ntmps26
  go_wp2_with fail
  refine calls_then (H0.out _) ?_
  rintro e w1 ⟨rfl, hb1⟩
  have HBR1 := Lib.hid (HBR.out.below hb1 HBR.out.lt)
  have HBEL1 := Lib.hid (HBEL.out.trans (hb1.mono (by simp)))
  clear hb1 HBR HBEL
  go_wp2_with fail
  refine calls_then (H1.out _) ?_
  rintro e w2 ⟨rfl, hb2⟩
  have HBR2 := Lib.hid (HBR1.out.below hb2 HBR1.out.lt)
  have HBEL2 := Lib.hid (HBEL1.out.trans (hb2.mono HBEL1.out.size))
  clear hb2 HBR1 HBEL1
  go_wp2_with fail
  refine calls_then (HO.out _) ?_
  rintro e w3 ⟨rfl, hb3⟩
  have HBR3 := Lib.hid (HBR2.out.below hb3 HBR2.out.lt)
  have HBEL3 := Lib.hid (HBEL2.out.trans (hb3.mono HBEL2.out.size))
  clear hb3 HBR2 HBEL2
  go_wp2_with (refine wpList_put_box (x := .tmp 0) (cells := ptV X) HBR3.out rfl rfl rfl rfl point_size rfl (by simp [ptV, wV, limbs, Value.oneCell']) ?_; intro w4 hb4 hw4; have HB4 := Lib.hid hb4; have HW4 := Lib.hid hw4; clear hb4 hw4)
  refine bodyPost_ret (results_box (P := Try.prog) rfl rfl HB4.out hp rfl point_size) rfl ⟨by rw [HZ.out], HW4.out.below HBEL3.out (Nat.le_refl _) HBEL3.out.size⟩
end Go.Proofs.Ytbeokfpbhemcfaa
/-
  Walks: the curve's Add, Neg and Equal.
-/
namespace Go.Proofs.Ytbeokfpbhemcfaa
set_option linter.unusedSimpArgs false
set_option linter.unusedVariables false
open Go.RowKit

theorem d2_ok : (addE dE dE).Ok := add_ok dE_ok dE_ok
def addP (p q : Pt4) : Pt4 := sumP p q (addE dE dE)
theorem addP_ok {p q : Pt4} (hp : p.Ok) (hq : q.Ok) : (addP p q).Ok := sumP_ok hp hq d2_ok
def eqP (p q : Pt4) : Bool := eqB (mulE p.x q.z) (mulE q.x p.z) && eqB (mulE p.y q.z) (mulE q.y p.z)
set_option maxRecDepth 100000 in
set_option maxHeartbeats 1000000 in
theorem padd_any (p q : Pt4) (w : World) (hkp : p.Ok) (hkq : q.Ok) : Calls Try.prog 16 #[.agg (ptV p), .agg (ptV q)] w (PtPost (addP p q) w) := by
  have hu := Try.underlying26
  have hp := Try.underlying28
  have KP := Lib.hid hkp
  have KQ := Lib.hid hkq
  obtain ⟨X, hX⟩ : ∃ X, X = dE := ⟨_, rfl⟩
  have hadd : addP p q = sumP p q (addE X X) := by rw [hX]; rfl
  have CD := Lib.hid (show ∀ u, Calls Try.prog 31 #[] u (ElemPost X u) from fun u => by rw [hX]; exact d_any u)
  have KX := Lib.hid (show X.Ok by rw [hX]; exact dE_ok)
  rw [hadd]
  clear hX hadd
  obtain ⟨w0, hw0⟩ : ∃ w0, w0 = (((w.alloc (.cells (ptV p) 28)).alloc (.cells (ptV q) 28)).alloc (.cells (ptV zP) 28)) := ⟨_, rfl⟩
  have hst : Cs [.box (w.heap.size) 28 (ptV p), .box (w.heap.size + 1) 28 (ptV q), .box (w.heap.size + 1 + 1) 28 (ptV zP)] w w0 := by
    rw [hw0]
    exact ⟨⟨(((Blk.new _ _ _).alloc _).alloc _), ((Blk.newAt (by simp)).alloc _), (Blk.newAt (by simp)), trivial⟩, (((below_new _ _).alloc (by simp; try omega) _).alloc (by simp; try omega) _)⟩
  have HLR := Lib.hid (show w.heap.size ≤ w.heap.size + 1 + 1 by omega)
  have HW := Lib.hid hw0
  have HST0 := Lib.hid hst
  clear hw0 hst hkp hkq
  go_enter Try.func16, Try.ntmps16
  go_wp2_with fail
  show Code.wp Try.prog _ _ _ (((w.alloc (.cells (ptV p) _)).alloc (.cells (ptV q) _)).alloc (.cells (ptV zP) _))
  rw [← HW.out]
  generalize w.heap.size + 1 + 1 = r at *
  generalize w.heap.size + 1 = gq at *
  generalize hgp : w.heap.size = gp at HST0 ⊢
  clear HW hgp
  have HC0 := HST0.out.drew
  clear HST0
  refine wp_region_det (fun u => Cs [.box gp 28 (ptV p), .box gq 28 (ptV q), .box r 28 (ptV zP)] w u) (fun u => Blk u r 28 (ptV (sumP (p) (q) (addE (X) (X)))) ∧ Below w.heap.size w u) [(0, some 5), (1, some 6), (2, some 7), (3, some 8), (4, some 9), (5, some 10), (6, none)] (by kernel_rfl) (by kernel_rfl) (by decide) (by kernel_rfl) (fun _ => rfl) HC0 ?_
  apply DetL.next
  · -- 0: Op.load 28 (Operand.tmp 2)
    apply detStep_plain []
    exact fun _ => rfl
    rfl
    rintro vals - w1 hC1 E hE
    have hs := hC1
    simp only [puts, act_put, act_put_none, List.setIfInBounds_toArray, List.set_cons_zero, List.set_cons_succ] at hE ⊢
    refine wpList_get_box (hs.1.1) rfl rfl rfl hp rfl point_size ?_
    go_wp2_with fail
    exact .mk (hE _ hC1)
  apply DetL.next
  · -- 1: Op.load 28 (Operand.tmp 3)
    apply detStep_plain []
    exact fun _ => rfl
    rfl
    rintro vals ⟨-, -⟩ w1 hC1 E hE
    have hs := hC1
    simp only [puts, act_put, act_put_none, List.setIfInBounds_toArray, List.set_cons_zero, List.set_cons_succ] at hE ⊢
    refine wpList_get_box (hs.1.2.1) rfl rfl rfl hp rfl point_size ?_
    go_wp2_with fail
    exact .mk (hE _ hC1)
  apply DetL.next
  · -- 2: Op.call { callee := Callee.value (Operand.func 31), args := #[], argTypes := #[] }
    apply detStep_plain []
    exact fun _ => rfl
    rfl
    rintro vals ⟨⟨-, -⟩, -⟩ w1 hC1 E hE
    simp only [puts, act_put, act_put_none, List.setIfInBounds_toArray, List.set_cons_zero, List.set_cons_succ] at hE ⊢
    go_wp2_with fail
    refine calls_then (CD.out _) ?_
    rintro e w2 ⟨rfl, hb2⟩
    go_wp2_with fail
    exact .mk (hE _ (hC1.next hb2))
  apply DetL.next
  · -- 3: Op.call { callee := Callee.value (Operand.func 31), args := #[], argTypes := #[] }
    apply detStep_plain [(2, some 7)]
    exact fun _ => rfl
    rfl
    rintro vals ⟨⟨⟨-, -⟩, -⟩, f2⟩ w1 hC1 E hE
    simp only [puts, act_put, act_put_none, List.setIfInBounds_toArray, List.set_cons_zero, List.set_cons_succ, f2] at hE ⊢
    clear f2
    go_wp2_with fail
    refine calls_then (CD.out _) ?_
    rintro e w2 ⟨rfl, hb2⟩
    go_wp2_with fail
    exact .mk (hE _ (hC1.next hb2))
  apply DetL.next
  · -- 4: Op.call { callee := Callee.value (Operand.func 32), args := #[Operand.tmp 7, Operand.tmp 8], argTypes := #[26,
    apply detStep_plain [(2, some 7), (3, some 8), (3, some 8)]
    exact fun _ => rfl
    rfl
    rintro vals ⟨⟨⟨⟨-, -⟩, -⟩, f2⟩, f3⟩ w1 hC1 E hE
    simp only [puts, act_put, act_put_none, List.setIfInBounds_toArray, List.set_cons_zero, List.set_cons_succ, f2, f3] at hE ⊢
    clear f2 f3
    go_wp2_with fail
    refine calls_then (add_c _ _ _ (KX.out) (KX.out)) ?_
    rintro e w2 ⟨rfl, hb2⟩
    go_wp2_with fail
    exact .mk (hE _ (hC1.next hb2))
  apply DetL.next
  · -- 5: Op.call { callee := Callee.value (Operand.func 33), args := #[Operand.tmp 5, Operand.tmp 6, Operand.tmp 9], ar
    apply detStep_plain [(0, some 5), (1, some 6), (4, some 9), (4, some 9)]
    exact fun _ => rfl
    rfl
    rintro vals ⟨⟨⟨⟨⟨-, f0⟩, f1⟩, -⟩, -⟩, f4⟩ w1 hC1 E hE
    simp only [puts, act_put, act_put_none, List.setIfInBounds_toArray, List.set_cons_zero, List.set_cons_succ, f0, f1, f4] at hE ⊢
    clear f0 f1 f4
    go_wp2_with fail
    refine calls_then (sum_any _ _ _ _ (KP.out) (KQ.out) (add_ok (KX.out) (KX.out))) ?_
    rintro e w2 ⟨rfl, hb2⟩
    go_wp2_with fail
    exact .mk (hE _ (hC1.next hb2))
  apply DetL.last (v := undef)
  · -- 6: Op.store 28 (Operand.tmp 4) (Operand.tmp 10)
    apply detStep_plain [(5, some 10), (5, some 10), (0, some 5), (1, some 6), (2, some 7), (3, some 8), (4, some 9), (5, some 10)]
    exact fun _ => rfl
    rfl
    rintro vals ⟨⟨⟨⟨⟨⟨-, f0⟩, f1⟩, f2⟩, f3⟩, f4⟩, f5⟩ w1 hC1 E hE
    have hlr := HLR.out
    simp only [puts, act_put, act_put_none, List.setIfInBounds_toArray, List.set_cons_zero, List.set_cons_succ, f0, f1, f2, f3, f4, f5] at hE ⊢
    clear f0 f1 f2 f3 f4 f5
    refine wpList_put_box (cells := ptV (sumP (p) (q) (addE (X) (X)))) (hC1.1.2.2.1) rfl rfl rfl rfl point_size rfl (by simp [eV, ptV, wV, limbs, Value.oneCell']) ?_
    intro w6 hb6 hw6
    go_wp2_with fail
    exact .mk (hE _ ⟨hb6, hw6.below hC1.2 hlr hC1.2.size⟩)
  rintro vals ⟨⟨⟨⟨⟨⟨⟨-, f0⟩, f1⟩, f2⟩, f3⟩, f4⟩, f5⟩, f6⟩ w1 hC1
  simp only [puts, act_put, act_put_none, List.setIfInBounds_toArray, List.set_cons_zero, List.set_cons_succ, f0, f1, f2, f3, f4, f5, f6]
  clear f0 f1 f2 f3 f4 f5 f6
  clear HC0
  go_wp2_with fail
  refine bodyPost_ret (results_box (P := Try.prog) rfl rfl hC1.1 hp rfl point_size) rfl ⟨rfl, hC1.2⟩
set_option maxRecDepth 100000 in
set_option maxHeartbeats 1000000 in
theorem pneg_any (p : Pt4) (w : World) (hkp : p.Ok) : Calls Try.prog 23 #[.agg (ptV p)] w (PtPost (negP p) w) := by
  have hu := Try.underlying26
  have hp := Try.underlying28
  have KP := Lib.hid hkp
  obtain ⟨w0, hw0⟩ : ∃ w0, w0 = ((w.alloc (.cells (ptV p) 28)).alloc (.cells (ptV zP) 28)) := ⟨_, rfl⟩
  have hst : Cs [.box (w.heap.size) 28 (ptV p), .box (w.heap.size + 1) 28 (ptV zP)] w w0 := by
    rw [hw0]
    exact ⟨⟨((Blk.new _ _ _).alloc _), (Blk.newAt (by simp)), trivial⟩, ((below_new _ _).alloc (by simp; try omega) _)⟩
  have HLR := Lib.hid (show w.heap.size ≤ w.heap.size + 1 by omega)
  have HW := Lib.hid hw0
  have HST0 := Lib.hid hst
  clear hw0 hst hkp
  go_enter Try.func23, Try.ntmps23
  go_wp2_with fail
  show Code.wp Try.prog _ _ _ ((w.alloc (.cells (ptV p) _)).alloc (.cells (ptV zP) _))
  rw [← HW.out]
  generalize w.heap.size + 1 = r at *
  generalize hgp : w.heap.size = gp at HST0 ⊢
  clear HW hgp
  have HC0 := HST0.out.drew
  clear HST0
  refine wp_region_det (fun u => Cs [.box gp 28 (ptV p), .box r 28 (ptV zP)] w u) (fun u => Blk u r 28 (ptV (⟨subE (zE) (p.x), p.y, p.z, subE (zE) (p.t)⟩)) ∧ Below w.heap.size w u) [(0, some 3), (1, some 4), (2, some 5), (3, some 6), (4, some 7), (5, some 8), (6, some 9), (7, some 10), (8, some 11), (9, some 12), (10, some 13), (11, some 14), (12, some 15), (13, none)] (by kernel_rfl) (by kernel_rfl) (by decide) (by kernel_rfl) (fun _ => rfl) HC0 ?_
  apply DetL.next
  · -- 0: Op.build 26 #[]
    apply detStep_plain []
    exact fun _ => rfl
    rfl
    rintro vals - w1 hC1 E hE
    simp only [puts, act_put, act_put_none, List.setIfInBounds_toArray, List.set_cons_zero, List.set_cons_succ] at hE ⊢
    go_wp2
    exact .mk (hE _ hC1)
  apply DetL.next
  · -- 1: Op.fieldAddr 28 (Operand.tmp 1) 0
    apply detStep_plain []
    exact fun _ => rfl
    rfl
    rintro vals ⟨-, -⟩ w1 hC1 E hE
    simp only [puts, act_put, act_put_none, List.setIfInBounds_toArray, List.set_cons_zero, List.set_cons_succ] at hE ⊢
    go_wp2
    exact .mk (hE _ hC1)
  apply DetL.next
  · -- 2: Op.load 26 (Operand.tmp 4)
    apply detStep_plain [(1, some 4)]
    exact fun _ => rfl
    rfl
    rintro vals ⟨⟨-, -⟩, f1⟩ w1 hC1 E hE
    have hs := hC1
    simp only [puts, act_put, act_put_none, List.setIfInBounds_toArray, List.set_cons_zero, List.set_cons_succ, f1] at hE ⊢
    clear f1
    refine wpList_get_part (n := 5) (r := eV (p.x)) (hs.1.1) (by rw [ptV_size]; decide) rfl rfl rfl rfl hu rfl elem_size ?_
    go_wp2_with fail
    exact .mk (hE _ hC1)
  apply DetL.next
  · -- 3: Op.call { callee := Callee.value (Operand.func 48), args := #[Operand.tmp 3, Operand.tmp 5], argTypes := #[26,
    apply detStep_plain [(0, some 3), (2, some 5)]
    exact fun _ => rfl
    rfl
    rintro vals ⟨⟨⟨-, f0⟩, -⟩, f2⟩ w1 hC1 E hE
    simp only [puts, act_put, act_put_none, List.setIfInBounds_toArray, List.set_cons_zero, List.set_cons_succ, f0, f2] at hE ⊢
    clear f0 f2
    go_wp2_with fail
    refine calls_then (sub_z _ (KP.out.x) _) ?_
    rintro e w2 ⟨rfl, hb2⟩
    go_wp2_with fail
    exact .mk (hE _ (hC1.next hb2))
  apply DetL.next
  · -- 4: Op.fieldAddr 28 (Operand.tmp 1) 1
    apply detStep_plain []
    exact fun _ => rfl
    rfl
    rintro vals ⟨⟨⟨⟨-, -⟩, -⟩, -⟩, -⟩ w1 hC1 E hE
    simp only [puts, act_put, act_put_none, List.setIfInBounds_toArray, List.set_cons_zero, List.set_cons_succ] at hE ⊢
    go_wp2
    exact .mk (hE _ hC1)
  apply DetL.next
  · -- 5: Op.load 26 (Operand.tmp 7)
    apply detStep_plain [(4, some 7)]
    exact fun _ => rfl
    rfl
    rintro vals ⟨⟨⟨⟨⟨-, -⟩, -⟩, -⟩, -⟩, f4⟩ w1 hC1 E hE
    have hs := hC1
    simp only [puts, act_put, act_put_none, List.setIfInBounds_toArray, List.set_cons_zero, List.set_cons_succ, f4] at hE ⊢
    clear f4
    refine wpList_get_part (n := 5) (r := eV (p.y)) (hs.1.1) (by rw [ptV_size]; decide) rfl rfl rfl rfl hu rfl elem_size ?_
    go_wp2_with fail
    exact .mk (hE _ hC1)
  apply DetL.next
  · -- 6: Op.fieldAddr 28 (Operand.tmp 1) 2
    apply detStep_plain []
    exact fun _ => rfl
    rfl
    rintro vals ⟨⟨⟨⟨⟨⟨-, -⟩, -⟩, -⟩, -⟩, -⟩, -⟩ w1 hC1 E hE
    simp only [puts, act_put, act_put_none, List.setIfInBounds_toArray, List.set_cons_zero, List.set_cons_succ] at hE ⊢
    go_wp2
    exact .mk (hE _ hC1)
  apply DetL.next
  · -- 7: Op.load 26 (Operand.tmp 9)
    apply detStep_plain [(6, some 9)]
    exact fun _ => rfl
    rfl
    rintro vals ⟨⟨⟨⟨⟨⟨⟨-, -⟩, -⟩, -⟩, -⟩, -⟩, -⟩, f6⟩ w1 hC1 E hE
    have hs := hC1
    simp only [puts, act_put, act_put_none, List.setIfInBounds_toArray, List.set_cons_zero, List.set_cons_succ, f6] at hE ⊢
    clear f6
    refine wpList_get_part (n := 5) (r := eV (p.z)) (hs.1.1) (by rw [ptV_size]; decide) rfl rfl rfl rfl hu rfl elem_size ?_
    go_wp2_with fail
    exact .mk (hE _ hC1)
  apply DetL.next
  · -- 8: Op.build 26 #[]
    apply detStep_plain []
    exact fun _ => rfl
    rfl
    rintro vals ⟨⟨⟨⟨⟨⟨⟨⟨-, -⟩, -⟩, -⟩, -⟩, -⟩, -⟩, -⟩, -⟩ w1 hC1 E hE
    simp only [puts, act_put, act_put_none, List.setIfInBounds_toArray, List.set_cons_zero, List.set_cons_succ] at hE ⊢
    go_wp2
    exact .mk (hE _ hC1)
  apply DetL.next
  · -- 9: Op.fieldAddr 28 (Operand.tmp 1) 3
    apply detStep_plain []
    exact fun _ => rfl
    rfl
    rintro vals ⟨⟨⟨⟨⟨⟨⟨⟨⟨-, -⟩, -⟩, -⟩, -⟩, -⟩, -⟩, -⟩, -⟩, -⟩ w1 hC1 E hE
    simp only [puts, act_put, act_put_none, List.setIfInBounds_toArray, List.set_cons_zero, List.set_cons_succ] at hE ⊢
    go_wp2
    exact .mk (hE _ hC1)
  apply DetL.next
  · -- 10: Op.load 26 (Operand.tmp 12)
    apply detStep_plain [(9, some 12)]
    exact fun _ => rfl
    rfl
    rintro vals ⟨⟨⟨⟨⟨⟨⟨⟨⟨⟨-, -⟩, -⟩, -⟩, -⟩, -⟩, -⟩, -⟩, -⟩, -⟩, f9⟩ w1 hC1 E hE
    have hs := hC1
    simp only [puts, act_put, act_put_none, List.setIfInBounds_toArray, List.set_cons_zero, List.set_cons_succ, f9] at hE ⊢
    clear f9
    refine wpList_get_part (n := 5) (r := eV (p.t)) (hs.1.1) (by rw [ptV_size]; decide) rfl rfl rfl rfl hu rfl elem_size ?_
    go_wp2_with fail
    exact .mk (hE _ hC1)
  apply DetL.next
  · -- 11: Op.call { callee := Callee.value (Operand.func 48), args := #[Operand.tmp 11, Operand.tmp 13], argTypes := #[2
    apply detStep_plain [(8, some 11), (10, some 13), (3, some 6)]
    exact fun _ => rfl
    rfl
    rintro vals ⟨⟨⟨⟨⟨⟨⟨⟨⟨⟨⟨-, -⟩, -⟩, -⟩, f3⟩, -⟩, -⟩, -⟩, -⟩, f8⟩, -⟩, f10⟩ w1 hC1 E hE
    simp only [puts, act_put, act_put_none, List.setIfInBounds_toArray, List.set_cons_zero, List.set_cons_succ, f3, f8, f10] at hE ⊢
    clear f3 f8 f10
    go_wp2_with fail
    refine calls_then (sub_z _ (KP.out.t) _) ?_
    rintro e w2 ⟨rfl, hb2⟩
    go_wp2_with fail
    exact .mk (hE _ (hC1.next hb2))
  apply DetL.next
  · -- 12: Op.build 28 #[(0, Operand.tmp 6), (1, Operand.tmp 8), (2, Operand.tmp 10), (3, Operand.tmp 14)]
    apply detStep_plain [(3, some 6), (5, some 8), (7, some 10), (11, some 14)]
    exact fun _ => rfl
    rfl
    rintro vals ⟨⟨⟨⟨⟨⟨⟨⟨⟨⟨⟨⟨-, -⟩, -⟩, -⟩, f3⟩, -⟩, f5⟩, -⟩, f7⟩, -⟩, -⟩, -⟩, f11⟩ w1 hC1 E hE
    simp only [puts, act_put, act_put_none, List.setIfInBounds_toArray, List.set_cons_zero, List.set_cons_succ, f3, f5, f7, f11] at hE ⊢
    clear f3 f5 f7 f11
    refine wpList_build_pt (subE (zE) (p.x)) (p.y) (p.z) (subE (zE) (p.t)) rfl rfl rfl rfl rfl rfl ?_
    go_wp2_with fail
    exact .mk (hE _ hC1)
  apply DetL.last (v := undef)
  · -- 13: Op.store 28 (Operand.tmp 2) (Operand.tmp 15)
    apply detStep_plain [(12, some 15), (11, some 14), (0, some 3), (1, some 4), (2, some 5), (3, some 6), (4, some 7), (5, some 8), (6, some 9), (7, some 10), (8, some 11), (9, some 12), (10, some 13), (11, some 14), (12, some 15)]
    exact fun _ => rfl
    rfl
    rintro vals ⟨⟨⟨⟨⟨⟨⟨⟨⟨⟨⟨⟨⟨-, f0⟩, f1⟩, f2⟩, f3⟩, f4⟩, f5⟩, f6⟩, f7⟩, f8⟩, f9⟩, f10⟩, f11⟩, f12⟩ w1 hC1 E hE
    have hlr := HLR.out
    simp only [puts, act_put, act_put_none, List.setIfInBounds_toArray, List.set_cons_zero, List.set_cons_succ, f0, f1, f2, f3, f4, f5, f6, f7, f8, f9, f10, f11, f12] at hE ⊢
    clear f0 f1 f2 f3 f4 f5 f6 f7 f8 f9 f10 f11 f12
    refine wpList_put_box (cells := ptV (⟨subE (zE) (p.x), p.y, p.z, subE (zE) (p.t)⟩)) (hC1.1.2.1) rfl rfl rfl rfl point_size rfl (by simp [eV, ptV, wV, limbs, Value.oneCell']) ?_
    intro w6 hb6 hw6
    go_wp2_with fail
    exact .mk (hE _ ⟨hb6, hw6.below hC1.2 hlr hC1.2.size⟩)
  rintro vals ⟨⟨⟨⟨⟨⟨⟨⟨⟨⟨⟨⟨⟨⟨-, f0⟩, f1⟩, f2⟩, f3⟩, f4⟩, f5⟩, f6⟩, f7⟩, f8⟩, f9⟩, f10⟩, f11⟩, f12⟩, f13⟩ w1 hC1
  simp only [puts, act_put, act_put_none, List.setIfInBounds_toArray, List.set_cons_zero, List.set_cons_succ, f0, f1, f2, f3, f4, f5, f6, f7, f8, f9, f10, f11, f12, f13]
  clear f0 f1 f2 f3 f4 f5 f6 f7 f8 f9 f10 f11 f12 f13
  clear HC0
  go_wp2_with fail
  refine bodyPost_ret (results_box (P := Try.prog) rfl rfl hC1.1 hp rfl point_size) rfl ⟨rfl, hC1.2⟩
set_option maxRecDepth 100000 in
set_option maxHeartbeats 1000000 in
theorem pequal_any (p q : Pt4) (w : World) (hkp : p.Ok) (hkq : q.Ok) : Calls Try.prog 22 #[.agg (ptV p), .agg (ptV q)] w (BoolPost (eqP p q) w) := by
  have hu := Try.underlying26
  have hp := Try.underlying28
  have KP := Lib.hid hkp
  have KQ := Lib.hid hkq
  have he : ∀ u, Calls Try.prog 47 #[.agg (eV (mulE p.x q.z)), .agg (eV (mulE q.x p.z))] u (BoolPost (eqB (mulE p.x q.z) (mulE q.x p.z)) u) := fun u => equal_c _ _ u (mul_ok hkp.x hkq.z) (mul_ok hkq.x hkp.z)
  have hr : eqP p q = (eqB (mulE p.x q.z) (mulE q.x p.z) && eqB (mulE p.y q.z) (mulE q.y p.z)) := rfl
  generalize eqB (mulE p.x q.z) (mulE q.x p.z) = b1 at he hr
  rw [hr]
  have HE := Lib.hid he
  clear he hr
  obtain ⟨w0, hw0⟩ : ∃ w0, w0 = ((w.alloc (.cells (ptV p) 28)).alloc (.cells (ptV q) 28)) := ⟨_, rfl⟩
  have hst : Cs [.box (w.heap.size) 28 (ptV p), .box (w.heap.size + 1) 28 (ptV q)] w w0 := by
    rw [hw0]
    exact ⟨⟨((Blk.new _ _ _).alloc _), (Blk.newAt (by simp)), trivial⟩, ((below_new _ _).alloc (by simp; try omega) _)⟩
  have HW := Lib.hid hw0
  have HST0 := Lib.hid hst
  clear hw0 hst hkp hkq
  go_enter Try.func22, Try.ntmps22
  go_wp2_with fail
  show Code.wp Try.prog _ _ _ ((w.alloc (.cells (ptV p) _)).alloc (.cells (ptV q) _))
  rw [← HW.out]
  generalize w.heap.size + 1 = gq at *
  generalize hgp : w.heap.size = gp at HST0 ⊢
  clear HW hgp
  cases b1
  · have HC0 := HST0.out.drew
    clear HST0
    refine wp_region_det (fun u => Cs [.box gp 28 (ptV p), .box gq 28 (ptV q)] w u) (fun u => Cs [.box gp 28 (ptV p), .box gq 28 (ptV q)] w u) [(0, some 5), (1, some 6), (2, some 7), (3, some 8), (4, some 9), (5, some 10), (6, some 11), (7, some 12), (8, some 13), (9, some 14), (10, some 15), (11, some 16), (12, some 17), (13, some 18), (14, some 19), (15, some 20), (16, some 21), (17, some 22), (18, some 23), (19, some 24), (20, some 25), (21, some 26), (22, some 27), (23, some 28), (24, some 4)] (by kernel_rfl) (by kernel_rfl) (by decide) (by kernel_rfl) (fun _ => rfl) HC0 ?_
    apply DetL.next
    · -- 0: Op.fieldAddr 28 (Operand.tmp 2) 0
      apply detStep_plain []
      exact fun _ => rfl
      rfl
      rintro vals - w1 hC1 E hE
      simp only [puts, act_put, act_put_none, List.setIfInBounds_toArray, List.set_cons_zero, List.set_cons_succ] at hE ⊢
      go_wp2
      exact .mk (hE _ hC1)
    apply DetL.next
    · -- 1: Op.load 26 (Operand.tmp 5)
      apply detStep_plain [(0, some 5)]
      exact fun _ => rfl
      rfl
      rintro vals ⟨-, f0⟩ w1 hC1 E hE
      have hs := hC1
      simp only [puts, act_put, act_put_none, List.setIfInBounds_toArray, List.set_cons_zero, List.set_cons_succ, f0] at hE ⊢
      clear f0
      refine wpList_get_part (n := 5) (r := eV (p.x)) (hs.1.1) (by rw [ptV_size]; decide) rfl rfl rfl rfl hu rfl elem_size ?_
      go_wp2_with fail
      exact .mk (hE _ hC1)
    apply DetL.next
    · -- 2: Op.fieldAddr 28 (Operand.tmp 3) 2
      apply detStep_plain []
      exact fun _ => rfl
      rfl
      rintro vals ⟨⟨-, -⟩, -⟩ w1 hC1 E hE
      simp only [puts, act_put, act_put_none, List.setIfInBounds_toArray, List.set_cons_zero, List.set_cons_succ] at hE ⊢
      go_wp2
      exact .mk (hE _ hC1)
    apply DetL.next
    · -- 3: Op.load 26 (Operand.tmp 7)
      apply detStep_plain [(2, some 7)]
      exact fun _ => rfl
      rfl
      rintro vals ⟨⟨⟨-, -⟩, -⟩, f2⟩ w1 hC1 E hE
      have hs := hC1
      simp only [puts, act_put, act_put_none, List.setIfInBounds_toArray, List.set_cons_zero, List.set_cons_succ, f2] at hE ⊢
      clear f2
      refine wpList_get_part (n := 5) (r := eV (q.z)) (hs.1.2.1) (by rw [ptV_size]; decide) rfl rfl rfl rfl hu rfl elem_size ?_
      go_wp2_with fail
      exact .mk (hE _ hC1)
    apply DetL.next
    · -- 4: Op.call { callee := Callee.value (Operand.func 38), args := #[Operand.tmp 6, Operand.tmp 8], argTypes := #[26,
      apply detStep_plain [(1, some 6), (3, some 8)]
      exact fun _ => rfl
      rfl
      rintro vals ⟨⟨⟨⟨-, -⟩, f1⟩, -⟩, f3⟩ w1 hC1 E hE
      simp only [puts, act_put, act_put_none, List.setIfInBounds_toArray, List.set_cons_zero, List.set_cons_succ, f1, f3] at hE ⊢
      clear f1 f3
      go_wp2_with fail
      refine calls_then (mul_c _ _ _ (KP.out.x) (KQ.out.z)) ?_
      rintro e w2 ⟨rfl, hb2⟩
      go_wp2_with fail
      exact .mk (hE _ (hC1.next hb2))
    apply DetL.next
    · -- 5: Op.fieldAddr 28 (Operand.tmp 3) 0
      apply detStep_plain []
      exact fun _ => rfl
      rfl
      rintro vals ⟨⟨⟨⟨⟨-, -⟩, -⟩, -⟩, -⟩, -⟩ w1 hC1 E hE
      simp only [puts, act_put, act_put_none, List.setIfInBounds_toArray, List.set_cons_zero, List.set_cons_succ] at hE ⊢
      go_wp2
      exact .mk (hE _ hC1)
    apply DetL.next
    · -- 6: Op.load 26 (Operand.tmp 10)
      apply detStep_plain [(5, some 10)]
      exact fun _ => rfl
      rfl
      rintro vals ⟨⟨⟨⟨⟨⟨-, -⟩, -⟩, -⟩, -⟩, -⟩, f5⟩ w1 hC1 E hE
      have hs := hC1
      simp only [puts, act_put, act_put_none, List.setIfInBounds_toArray, List.set_cons_zero, List.set_cons_succ, f5] at hE ⊢
      clear f5
      refine wpList_get_part (n := 5) (r := eV (q.x)) (hs.1.2.1) (by rw [ptV_size]; decide) rfl rfl rfl rfl hu rfl elem_size ?_
      go_wp2_with fail
      exact .mk (hE _ hC1)
    apply DetL.next
    · -- 7: Op.fieldAddr 28 (Operand.tmp 2) 2
      apply detStep_plain []
      exact fun _ => rfl
      rfl
      rintro vals ⟨⟨⟨⟨⟨⟨⟨-, -⟩, -⟩, -⟩, -⟩, -⟩, -⟩, -⟩ w1 hC1 E hE
      simp only [puts, act_put, act_put_none, List.setIfInBounds_toArray, List.set_cons_zero, List.set_cons_succ] at hE ⊢
      go_wp2
      exact .mk (hE _ hC1)
    apply DetL.next
    · -- 8: Op.load 26 (Operand.tmp 12)
      apply detStep_plain [(7, some 12)]
      exact fun _ => rfl
      rfl
      rintro vals ⟨⟨⟨⟨⟨⟨⟨⟨-, -⟩, -⟩, -⟩, -⟩, -⟩, -⟩, -⟩, f7⟩ w1 hC1 E hE
      have hs := hC1
      simp only [puts, act_put, act_put_none, List.setIfInBounds_toArray, List.set_cons_zero, List.set_cons_succ, f7] at hE ⊢
      clear f7
      refine wpList_get_part (n := 5) (r := eV (p.z)) (hs.1.1) (by rw [ptV_size]; decide) rfl rfl rfl rfl hu rfl elem_size ?_
      go_wp2_with fail
      exact .mk (hE _ hC1)
    apply DetL.next
    · -- 9: Op.call { callee := Callee.value (Operand.func 38), args := #[Operand.tmp 11, Operand.tmp 13], argTypes := #[2
      apply detStep_plain [(6, some 11), (8, some 13), (4, some 9)]
      exact fun _ => rfl
      rfl
      rintro vals ⟨⟨⟨⟨⟨⟨⟨⟨⟨-, -⟩, -⟩, -⟩, -⟩, f4⟩, -⟩, f6⟩, -⟩, f8⟩ w1 hC1 E hE
      simp only [puts, act_put, act_put_none, List.setIfInBounds_toArray, List.set_cons_zero, List.set_cons_succ, f4, f6, f8] at hE ⊢
      clear f4 f6 f8
      go_wp2_with fail
      refine calls_then (mul_c _ _ _ (KQ.out.x) (KP.out.z)) ?_
      rintro e w2 ⟨rfl, hb2⟩
      go_wp2_with fail
      exact .mk (hE _ (hC1.next hb2))
    apply DetL.next
    · -- 10: Op.call { callee := Callee.value (Operand.func 47), args := #[Operand.tmp 9, Operand.tmp 14], argTypes := #[26
      apply detStep_plain [(4, some 9), (9, some 14), (9, some 14)]
      exact fun _ => rfl
      rfl
      rintro vals ⟨⟨⟨⟨⟨⟨⟨⟨⟨⟨-, -⟩, -⟩, -⟩, -⟩, f4⟩, -⟩, -⟩, -⟩, -⟩, f9⟩ w1 hC1 E hE
      simp only [puts, act_put, act_put_none, List.setIfInBounds_toArray, List.set_cons_zero, List.set_cons_succ, f4, f9] at hE ⊢
      clear f4 f9
      go_wp2_with fail
      refine calls_then (HE.out _) ?_
      rintro e w2 ⟨rfl, hb2⟩
      go_wp2_with fail
      exact .mk (hE _ (hC1.next hb2))
    apply DetL.next
    · -- 11: Op.move (Operand.tmp 15)
      apply detStep_plain [(10, some 15), (10, some 15)]
      exact fun _ => rfl
      rfl
      rintro vals ⟨⟨⟨⟨⟨⟨⟨⟨⟨⟨⟨-, -⟩, -⟩, -⟩, -⟩, -⟩, -⟩, -⟩, -⟩, -⟩, -⟩, f10⟩ w1 hC1 E hE
      simp only [puts, act_put, act_put_none, List.setIfInBounds_toArray, List.set_cons_zero, List.set_cons_succ, f10] at hE ⊢
      clear f10
      go_wp2
      exact .mk (hE _ hC1)
    apply DetL.next (v := undef)
    · -- 12: Op.fieldAddr 28 (Operand.tmp 2) 1
      refine detStep_no [(11, some 16)] (fun _ => rfl) 11 16 true rfl rfl ?_ (fun _ h => h)
      rintro vals ⟨⟨⟨⟨⟨⟨⟨⟨⟨⟨⟨⟨-, -⟩, -⟩, -⟩, -⟩, -⟩, -⟩, -⟩, -⟩, -⟩, -⟩, -⟩, f11⟩
      simp only [puts, act_put, act_put_none, List.setIfInBounds_toArray, List.set_cons_zero, List.set_cons_succ, f11]
      rfl
    apply DetL.next (v := undef)
    · -- 13: Op.load 26 (Operand.tmp 17)
      refine detStep_no [(12, some 17), (11, some 16)] (fun _ => rfl) 11 16 true rfl rfl ?_ (fun _ h => h)
      rintro vals ⟨⟨⟨⟨⟨⟨⟨⟨⟨⟨⟨⟨⟨-, -⟩, -⟩, -⟩, -⟩, -⟩, -⟩, -⟩, -⟩, -⟩, -⟩, -⟩, f11⟩, f12⟩
      simp only [puts, act_put, act_put_none, List.setIfInBounds_toArray, List.set_cons_zero, List.set_cons_succ, f11, f12]
      rfl
    apply DetL.next (v := undef)
    · -- 14: Op.fieldAddr 28 (Operand.tmp 3) 2
      refine detStep_no [(11, some 16)] (fun _ => rfl) 11 16 true rfl rfl ?_ (fun _ h => h)
      rintro vals ⟨⟨⟨⟨⟨⟨⟨⟨⟨⟨⟨⟨⟨⟨-, -⟩, -⟩, -⟩, -⟩, -⟩, -⟩, -⟩, -⟩, -⟩, -⟩, -⟩, f11⟩, -⟩, -⟩
      simp only [puts, act_put, act_put_none, List.setIfInBounds_toArray, List.set_cons_zero, List.set_cons_succ, f11]
      rfl
    apply DetL.next (v := undef)
    · -- 15: Op.load 26 (Operand.tmp 19)
      refine detStep_no [(14, some 19), (11, some 16)] (fun _ => rfl) 11 16 true rfl rfl ?_ (fun _ h => h)
      rintro vals ⟨⟨⟨⟨⟨⟨⟨⟨⟨⟨⟨⟨⟨⟨⟨-, -⟩, -⟩, -⟩, -⟩, -⟩, -⟩, -⟩, -⟩, -⟩, -⟩, -⟩, f11⟩, -⟩, -⟩, f14⟩
      simp only [puts, act_put, act_put_none, List.setIfInBounds_toArray, List.set_cons_zero, List.set_cons_succ, f11, f14]
      rfl
    apply DetL.next (v := undef)
    · -- 16: Op.call { callee := Callee.value (Operand.func 38), args := #[Operand.tmp 18, Operand.tmp 20], argTypes := #[2
      refine detStep_no [(13, some 18), (15, some 20), (11, some 16), (11, some 16)] (fun _ => rfl) 11 16 true rfl rfl ?_ (fun _ h => h)
      rintro vals ⟨⟨⟨⟨⟨⟨⟨⟨⟨⟨⟨⟨⟨⟨⟨⟨-, -⟩, -⟩, -⟩, -⟩, -⟩, -⟩, -⟩, -⟩, -⟩, -⟩, -⟩, f11⟩, -⟩, f13⟩, -⟩, f15⟩
      simp only [puts, act_put, act_put_none, List.setIfInBounds_toArray, List.set_cons_zero, List.set_cons_succ, f11, f13, f15]
      rfl
    apply DetL.next (v := undef)
    · -- 17: Op.fieldAddr 28 (Operand.tmp 3) 1
      refine detStep_no [(11, some 16)] (fun _ => rfl) 11 16 true rfl rfl ?_ (fun _ h => h)
      rintro vals ⟨⟨⟨⟨⟨⟨⟨⟨⟨⟨⟨⟨⟨⟨⟨⟨⟨-, -⟩, -⟩, -⟩, -⟩, -⟩, -⟩, -⟩, -⟩, -⟩, -⟩, -⟩, f11⟩, -⟩, -⟩, -⟩, -⟩, -⟩
      simp only [puts, act_put, act_put_none, List.setIfInBounds_toArray, List.set_cons_zero, List.set_cons_succ, f11]
      rfl
    apply DetL.next (v := undef)
    · -- 18: Op.load 26 (Operand.tmp 22)
      refine detStep_no [(17, some 22), (11, some 16)] (fun _ => rfl) 11 16 true rfl rfl ?_ (fun _ h => h)
      rintro vals ⟨⟨⟨⟨⟨⟨⟨⟨⟨⟨⟨⟨⟨⟨⟨⟨⟨⟨-, -⟩, -⟩, -⟩, -⟩, -⟩, -⟩, -⟩, -⟩, -⟩, -⟩, -⟩, f11⟩, -⟩, -⟩, -⟩, -⟩, -⟩, f17⟩
      simp only [puts, act_put, act_put_none, List.setIfInBounds_toArray, List.set_cons_zero, List.set_cons_succ, f11, f17]
      rfl
    apply DetL.next (v := undef)
    · -- 19: Op.fieldAddr 28 (Operand.tmp 2) 2
      refine detStep_no [(11, some 16)] (fun _ => rfl) 11 16 true rfl rfl ?_ (fun _ h => h)
      rintro vals ⟨⟨⟨⟨⟨⟨⟨⟨⟨⟨⟨⟨⟨⟨⟨⟨⟨⟨⟨-, -⟩, -⟩, -⟩, -⟩, -⟩, -⟩, -⟩, -⟩, -⟩, -⟩, -⟩, f11⟩, -⟩, -⟩, -⟩, -⟩, -⟩, -⟩, -⟩
      simp only [puts, act_put, act_put_none, List.setIfInBounds_toArray, List.set_cons_zero, List.set_cons_succ, f11]
      rfl
    apply DetL.next (v := undef)
    · -- 20: Op.load 26 (Operand.tmp 24)
      refine detStep_no [(19, some 24), (11, some 16)] (fun _ => rfl) 11 16 true rfl rfl ?_ (fun _ h => h)
      rintro vals ⟨⟨⟨⟨⟨⟨⟨⟨⟨⟨⟨⟨⟨⟨⟨⟨⟨⟨⟨⟨-, -⟩, -⟩, -⟩, -⟩, -⟩, -⟩, -⟩, -⟩, -⟩, -⟩, -⟩, f11⟩, -⟩, -⟩, -⟩, -⟩, -⟩, -⟩, -⟩, f19⟩
      simp only [puts, act_put, act_put_none, List.setIfInBounds_toArray, List.set_cons_zero, List.set_cons_succ, f11, f19]
      rfl
    apply DetL.next (v := undef)
    · -- 21: Op.call { callee := Callee.value (Operand.func 38), args := #[Operand.tmp 23, Operand.tmp 25], argTypes := #[2
      refine detStep_no [(18, some 23), (20, some 25), (16, some 21), (11, some 16)] (fun _ => rfl) 11 16 true rfl rfl ?_ (fun _ h => h)
      rintro vals ⟨⟨⟨⟨⟨⟨⟨⟨⟨⟨⟨⟨⟨⟨⟨⟨⟨⟨⟨⟨⟨-, -⟩, -⟩, -⟩, -⟩, -⟩, -⟩, -⟩, -⟩, -⟩, -⟩, -⟩, f11⟩, -⟩, -⟩, -⟩, -⟩, f16⟩, -⟩, f18⟩, -⟩, f20⟩
      simp only [puts, act_put, act_put_none, List.setIfInBounds_toArray, List.set_cons_zero, List.set_cons_succ, f11, f16, f18, f20]
      rfl
    apply DetL.next (v := undef)
    · -- 22: Op.call { callee := Callee.value (Operand.func 47), args := #[Operand.tmp 21, Operand.tmp 26], argTypes := #[2
      refine detStep_no [(16, some 21), (21, some 26), (21, some 26), (11, some 16)] (fun _ => rfl) 11 16 true rfl rfl ?_ (fun _ h => h)
      rintro vals ⟨⟨⟨⟨⟨⟨⟨⟨⟨⟨⟨⟨⟨⟨⟨⟨⟨⟨⟨⟨⟨⟨-, -⟩, -⟩, -⟩, -⟩, -⟩, -⟩, -⟩, -⟩, -⟩, -⟩, -⟩, f11⟩, -⟩, -⟩, -⟩, -⟩, f16⟩, -⟩, -⟩, -⟩, -⟩, f21⟩
      simp only [puts, act_put, act_put_none, List.setIfInBounds_toArray, List.set_cons_zero, List.set_cons_succ, f11, f16, f21]
      rfl
    apply DetL.next
    · -- 23: Op.pick (Operand.tmp 16) (Operand.tmp 27) (Operand.const (Value.bool false))
      apply detStep_plain [(11, some 16), (22, some 27)]
      exact fun _ => rfl
      rfl
      rintro vals ⟨⟨⟨⟨⟨⟨⟨⟨⟨⟨⟨⟨⟨⟨⟨⟨⟨⟨⟨⟨⟨⟨⟨-, -⟩, -⟩, -⟩, -⟩, -⟩, -⟩, -⟩, -⟩, -⟩, -⟩, -⟩, f11⟩, -⟩, -⟩, -⟩, -⟩, -⟩, -⟩, -⟩, -⟩, -⟩, -⟩, f22⟩ w1 hC1 E hE
      simp only [puts, act_put, act_put_none, List.setIfInBounds_toArray, List.set_cons_zero, List.set_cons_succ, f11, f22] at hE ⊢
      clear f11 f22
      go_wp2
      exact .mk (hE _ hC1)
    apply DetL.last
    · -- 24: Op.assign (Operand.tmp 28)
      apply detStep_plain [(23, some 28), (22, some 27), (0, some 5), (1, some 6), (2, some 7), (3, some 8), (4, some 9), (5, some 10), (6, some 11), (7, some 12), (8, some 13), (9, some 14), (10, some 15), (11, some 16), (12, some 17), (13, some 18), (14, some 19), (15, some 20), (16, some 21), (17, some 22), (18, some 23), (19, some 24), (20, some 25), (21, some 26), (22, some 27), (23, some 28)]
      exact fun _ => rfl
      rfl
      rintro vals ⟨⟨⟨⟨⟨⟨⟨⟨⟨⟨⟨⟨⟨⟨⟨⟨⟨⟨⟨⟨⟨⟨⟨⟨-, f0⟩, f1⟩, f2⟩, f3⟩, f4⟩, f5⟩, f6⟩, f7⟩, f8⟩, f9⟩, f10⟩, f11⟩, f12⟩, f13⟩, f14⟩, f15⟩, f16⟩, f17⟩, f18⟩, f19⟩, f20⟩, f21⟩, f22⟩, f23⟩ w1 hC1 E hE
      simp only [puts, act_put, act_put_none, List.setIfInBounds_toArray, List.set_cons_zero, List.set_cons_succ, f0, f1, f2, f3, f4, f5, f6, f7, f8, f9, f10, f11, f12, f13, f14, f15, f16, f17, f18, f19, f20, f21, f22, f23] at hE ⊢
      clear f0 f1 f2 f3 f4 f5 f6 f7 f8 f9 f10 f11 f12 f13 f14 f15 f16 f17 f18 f19 f20 f21 f22 f23
      go_wp2
      exact .mk (hE _ hC1)
    rintro vals ⟨⟨⟨⟨⟨⟨⟨⟨⟨⟨⟨⟨⟨⟨⟨⟨⟨⟨⟨⟨⟨⟨⟨⟨⟨-, f0⟩, f1⟩, f2⟩, f3⟩, f4⟩, f5⟩, f6⟩, f7⟩, f8⟩, f9⟩, f10⟩, f11⟩, f12⟩, f13⟩, f14⟩, f15⟩, f16⟩, f17⟩, f18⟩, f19⟩, f20⟩, f21⟩, f22⟩, f23⟩, f24⟩ w1 hC1
    simp only [puts, act_put, act_put_none, List.setIfInBounds_toArray, List.set_cons_zero, List.set_cons_succ, f0, f1, f2, f3, f4, f5, f6, f7, f8, f9, f10, f11, f12, f13, f14, f15, f16, f17, f18, f19, f20, f21, f22, f23, f24]
    clear f0 f1 f2 f3 f4 f5 f6 f7 f8 f9 f10 f11 f12 f13 f14 f15 f16 f17 f18 f19 f20 f21 f22 f23 f24
    clear HC0
    go_wp2_with fail
    go_ret
    exact ⟨rfl, hC1.2⟩
  · have HC0 := HST0.out.drew
    clear HST0
    refine wp_region_det (fun u => Cs [.box gp 28 (ptV p), .box gq 28 (ptV q)] w u) (fun u => Cs [.box gp 28 (ptV p), .box gq 28 (ptV q)] w u) [(0, some 5), (1, some 6), (2, some 7), (3, some 8), (4, some 9), (5, some 10), (6, some 11), (7, some 12), (8, some 13), (9, some 14), (10, some 15), (11, some 16), (12, some 17), (13, some 18), (14, some 19), (15, some 20), (16, some 21), (17, some 22), (18, some 23), (19, some 24), (20, some 25), (21, some 26), (22, some 27), (23, some 28), (24, some 4)] (by kernel_rfl) (by kernel_rfl) (by decide) (by kernel_rfl) (fun _ => rfl) HC0 ?_
    apply DetL.next
    · -- 0: Op.fieldAddr 28 (Operand.tmp 2) 0
      apply detStep_plain []
      exact fun _ => rfl
      rfl
      rintro vals - w1 hC1 E hE
      simp only [puts, act_put, act_put_none, List.setIfInBounds_toArray, List.set_cons_zero, List.set_cons_succ] at hE ⊢
      go_wp2
      exact .mk (hE _ hC1)
    apply DetL.next
    · -- 1: Op.load 26 (Operand.tmp 5)
      apply detStep_plain [(0, some 5)]
      exact fun _ => rfl
      rfl
      rintro vals ⟨-, f0⟩ w1 hC1 E hE
      have hs := hC1
      simp only [puts, act_put, act_put_none, List.setIfInBounds_toArray, List.set_cons_zero, List.set_cons_succ, f0] at hE ⊢
      clear f0
      refine wpList_get_part (n := 5) (r := eV (p.x)) (hs.1.1) (by rw [ptV_size]; decide) rfl rfl rfl rfl hu rfl elem_size ?_
      go_wp2_with fail
      exact .mk (hE _ hC1)
    apply DetL.next
    · -- 2: Op.fieldAddr 28 (Operand.tmp 3) 2
      apply detStep_plain []
      exact fun _ => rfl
      rfl
      rintro vals ⟨⟨-, -⟩, -⟩ w1 hC1 E hE
      simp only [puts, act_put, act_put_none, List.setIfInBounds_toArray, List.set_cons_zero, List.set_cons_succ] at hE ⊢
      go_wp2
      exact .mk (hE _ hC1)
    apply DetL.next
    · -- 3: Op.load 26 (Operand.tmp 7)
      apply detStep_plain [(2, some 7)]
      exact fun _ => rfl
      rfl
      rintro vals ⟨⟨⟨-, -⟩, -⟩, f2⟩ w1 hC1 E hE
      have hs := hC1
      simp only [puts, act_put, act_put_none, List.setIfInBounds_toArray, List.set_cons_zero, List.set_cons_succ, f2] at hE ⊢
      clear f2
      refine wpList_get_part (n := 5) (r := eV (q.z)) (hs.1.2.1) (by rw [ptV_size]; decide) rfl rfl rfl rfl hu rfl elem_size ?_
      go_wp2_with fail
      exact .mk (hE _ hC1)
    apply DetL.next
    · -- 4: Op.call { callee := Callee.value (Operand.func 38), args := #[Operand.tmp 6, Operand.tmp 8], argTypes := #[26,
      apply detStep_plain [(1, some 6), (3, some 8)]
      exact fun _ => rfl
      rfl
      rintro vals ⟨⟨⟨⟨-, -⟩, f1⟩, -⟩, f3⟩ w1 hC1 E hE
      simp only [puts, act_put, act_put_none, List.setIfInBounds_toArray, List.set_cons_zero, List.set_cons_succ, f1, f3] at hE ⊢
      clear f1 f3
      go_wp2_with fail
      refine calls_then (mul_c _ _ _ (KP.out.x) (KQ.out.z)) ?_
      rintro e w2 ⟨rfl, hb2⟩
      go_wp2_with fail
      exact .mk (hE _ (hC1.next hb2))
    apply DetL.next
    · -- 5: Op.fieldAddr 28 (Operand.tmp 3) 0
      apply detStep_plain []
      exact fun _ => rfl
      rfl
      rintro vals ⟨⟨⟨⟨⟨-, -⟩, -⟩, -⟩, -⟩, -⟩ w1 hC1 E hE
      simp only [puts, act_put, act_put_none, List.setIfInBounds_toArray, List.set_cons_zero, List.set_cons_succ] at hE ⊢
      go_wp2
      exact .mk (hE _ hC1)
    apply DetL.next
    · -- 6: Op.load 26 (Operand.tmp 10)
      apply detStep_plain [(5, some 10)]
      exact fun _ => rfl
      rfl
      rintro vals ⟨⟨⟨⟨⟨⟨-, -⟩, -⟩, -⟩, -⟩, -⟩, f5⟩ w1 hC1 E hE
      have hs := hC1
      simp only [puts, act_put, act_put_none, List.setIfInBounds_toArray, List.set_cons_zero, List.set_cons_succ, f5] at hE ⊢
      clear f5
      refine wpList_get_part (n := 5) (r := eV (q.x)) (hs.1.2.1) (by rw [ptV_size]; decide) rfl rfl rfl rfl hu rfl elem_size ?_
      go_wp2_with fail
      exact .mk (hE _ hC1)
    apply DetL.next
    · -- 7: Op.fieldAddr 28 (Operand.tmp 2) 2
      apply detStep_plain []
      exact fun _ => rfl
      rfl
      rintro vals ⟨⟨⟨⟨⟨⟨⟨-, -⟩, -⟩, -⟩, -⟩, -⟩, -⟩, -⟩ w1 hC1 E hE
      simp only [puts, act_put, act_put_none, List.setIfInBounds_toArray, List.set_cons_zero, List.set_cons_succ] at hE ⊢
      go_wp2
      exact .mk (hE _ hC1)
    apply DetL.next
    · -- 8: Op.load 26 (Operand.tmp 12)
      apply detStep_plain [(7, some 12)]
      exact fun _ => rfl
      rfl
      rintro vals ⟨⟨⟨⟨⟨⟨⟨⟨-, -⟩, -⟩, -⟩, -⟩, -⟩, -⟩, -⟩, f7⟩ w1 hC1 E hE
      have hs := hC1
      simp only [puts, act_put, act_put_none, List.setIfInBounds_toArray, List.set_cons_zero, List.set_cons_succ, f7] at hE ⊢
      clear f7
      refine wpList_get_part (n := 5) (r := eV (p.z)) (hs.1.1) (by rw [ptV_size]; decide) rfl rfl rfl rfl hu rfl elem_size ?_
      go_wp2_with fail
      exact .mk (hE _ hC1)
    apply DetL.next
    · -- 9: Op.call { callee := Callee.value (Operand.func 38), args := #[Operand.tmp 11, Operand.tmp 13], argTypes := #[2
      apply detStep_plain [(6, some 11), (8, some 13), (4, some 9)]
      exact fun _ => rfl
      rfl
      rintro vals ⟨⟨⟨⟨⟨⟨⟨⟨⟨-, -⟩, -⟩, -⟩, -⟩, f4⟩, -⟩, f6⟩, -⟩, f8⟩ w1 hC1 E hE
      simp only [puts, act_put, act_put_none, List.setIfInBounds_toArray, List.set_cons_zero, List.set_cons_succ, f4, f6, f8] at hE ⊢
      clear f4 f6 f8
      go_wp2_with fail
      refine calls_then (mul_c _ _ _ (KQ.out.x) (KP.out.z)) ?_
      rintro e w2 ⟨rfl, hb2⟩
      go_wp2_with fail
      exact .mk (hE _ (hC1.next hb2))
    apply DetL.next
    · -- 10: Op.call { callee := Callee.value (Operand.func 47), args := #[Operand.tmp 9, Operand.tmp 14], argTypes := #[26
      apply detStep_plain [(4, some 9), (9, some 14), (9, some 14)]
      exact fun _ => rfl
      rfl
      rintro vals ⟨⟨⟨⟨⟨⟨⟨⟨⟨⟨-, -⟩, -⟩, -⟩, -⟩, f4⟩, -⟩, -⟩, -⟩, -⟩, f9⟩ w1 hC1 E hE
      simp only [puts, act_put, act_put_none, List.setIfInBounds_toArray, List.set_cons_zero, List.set_cons_succ, f4, f9] at hE ⊢
      clear f4 f9
      go_wp2_with fail
      refine calls_then (HE.out _) ?_
      rintro e w2 ⟨rfl, hb2⟩
      go_wp2_with fail
      exact .mk (hE _ (hC1.next hb2))
    apply DetL.next
    · -- 11: Op.move (Operand.tmp 15)
      apply detStep_plain [(10, some 15), (10, some 15)]
      exact fun _ => rfl
      rfl
      rintro vals ⟨⟨⟨⟨⟨⟨⟨⟨⟨⟨⟨-, -⟩, -⟩, -⟩, -⟩, -⟩, -⟩, -⟩, -⟩, -⟩, -⟩, f10⟩ w1 hC1 E hE
      simp only [puts, act_put, act_put_none, List.setIfInBounds_toArray, List.set_cons_zero, List.set_cons_succ, f10] at hE ⊢
      clear f10
      go_wp2
      exact .mk (hE _ hC1)
    apply DetL.next
    · -- 12: Op.fieldAddr 28 (Operand.tmp 2) 1
      apply detStep_yes [(11, some 16)] (g := 11) (t := 16) (want := true)
      exact fun _ => rfl
      rfl
      rfl
      · rintro vals ⟨⟨⟨⟨⟨⟨⟨⟨⟨⟨⟨⟨-, -⟩, -⟩, -⟩, -⟩, -⟩, -⟩, -⟩, -⟩, -⟩, -⟩, -⟩, f11⟩
        simp only [puts, act_put, act_put_none, List.setIfInBounds_toArray, List.set_cons_zero, List.set_cons_succ, f11]
        rfl
      rintro vals ⟨⟨⟨⟨⟨⟨⟨⟨⟨⟨⟨⟨-, -⟩, -⟩, -⟩, -⟩, -⟩, -⟩, -⟩, -⟩, -⟩, -⟩, -⟩, f11⟩ w1 hC1 E hE
      dsimp only at hE ⊢
      simp only [puts, act_put, act_put_none, List.setIfInBounds_toArray, List.set_cons_zero, List.set_cons_succ, f11] at hE ⊢
      clear f11
      go_wp2
      exact .mk (hE _ hC1)
    apply DetL.next
    · -- 13: Op.load 26 (Operand.tmp 17)
      apply detStep_yes [(12, some 17), (11, some 16)] (g := 11) (t := 16) (want := true)
      exact fun _ => rfl
      rfl
      rfl
      · rintro vals ⟨⟨⟨⟨⟨⟨⟨⟨⟨⟨⟨⟨⟨-, -⟩, -⟩, -⟩, -⟩, -⟩, -⟩, -⟩, -⟩, -⟩, -⟩, -⟩, f11⟩, f12⟩
        simp only [puts, act_put, act_put_none, List.setIfInBounds_toArray, List.set_cons_zero, List.set_cons_succ, f11, f12]
        rfl
      rintro vals ⟨⟨⟨⟨⟨⟨⟨⟨⟨⟨⟨⟨⟨-, -⟩, -⟩, -⟩, -⟩, -⟩, -⟩, -⟩, -⟩, -⟩, -⟩, -⟩, f11⟩, f12⟩ w1 hC1 E hE
      dsimp only at hE ⊢
      have hs := hC1
      simp only [puts, act_put, act_put_none, List.setIfInBounds_toArray, List.set_cons_zero, List.set_cons_succ, f11, f12] at hE ⊢
      clear f11 f12
      refine wpList_get_part (n := 5) (r := eV (p.y)) (hs.1.1) (by rw [ptV_size]; decide) rfl rfl rfl rfl hu rfl elem_size ?_
      go_wp2_with fail
      exact .mk (hE _ hC1)
    apply DetL.next
    · -- 14: Op.fieldAddr 28 (Operand.tmp 3) 2
      apply detStep_yes [(11, some 16)] (g := 11) (t := 16) (want := true)
      exact fun _ => rfl
      rfl
      rfl
      · rintro vals ⟨⟨⟨⟨⟨⟨⟨⟨⟨⟨⟨⟨⟨⟨-, -⟩, -⟩, -⟩, -⟩, -⟩, -⟩, -⟩, -⟩, -⟩, -⟩, -⟩, f11⟩, -⟩, -⟩
        simp only [puts, act_put, act_put_none, List.setIfInBounds_toArray, List.set_cons_zero, List.set_cons_succ, f11]
        rfl
      rintro vals ⟨⟨⟨⟨⟨⟨⟨⟨⟨⟨⟨⟨⟨⟨-, -⟩, -⟩, -⟩, -⟩, -⟩, -⟩, -⟩, -⟩, -⟩, -⟩, -⟩, f11⟩, -⟩, -⟩ w1 hC1 E hE
      dsimp only at hE ⊢
      simp only [puts, act_put, act_put_none, List.setIfInBounds_toArray, List.set_cons_zero, List.set_cons_succ, f11] at hE ⊢
      clear f11
      go_wp2
      exact .mk (hE _ hC1)
    apply DetL.next
    · -- 15: Op.load 26 (Operand.tmp 19)
      apply detStep_yes [(14, some 19), (11, some 16)] (g := 11) (t := 16) (want := true)
      exact fun _ => rfl
      rfl
      rfl
      · rintro vals ⟨⟨⟨⟨⟨⟨⟨⟨⟨⟨⟨⟨⟨⟨⟨-, -⟩, -⟩, -⟩, -⟩, -⟩, -⟩, -⟩, -⟩, -⟩, -⟩, -⟩, f11⟩, -⟩, -⟩, f14⟩
        simp only [puts, act_put, act_put_none, List.setIfInBounds_toArray, List.set_cons_zero, List.set_cons_succ, f11, f14]
        rfl
      rintro vals ⟨⟨⟨⟨⟨⟨⟨⟨⟨⟨⟨⟨⟨⟨⟨-, -⟩, -⟩, -⟩, -⟩, -⟩, -⟩, -⟩, -⟩, -⟩, -⟩, -⟩, f11⟩, -⟩, -⟩, f14⟩ w1 hC1 E hE
      dsimp only at hE ⊢
      have hs := hC1
      simp only [puts, act_put, act_put_none, List.setIfInBounds_toArray, List.set_cons_zero, List.set_cons_succ, f11, f14] at hE ⊢
      clear f11 f14
      refine wpList_get_part (n := 5) (r := eV (q.z)) (hs.1.2.1) (by rw [ptV_size]; decide) rfl rfl rfl rfl hu rfl elem_size ?_
      go_wp2_with fail
      exact .mk (hE _ hC1)
    apply DetL.next
    · -- 16: Op.call { callee := Callee.value (Operand.func 38), args := #[Operand.tmp 18, Operand.tmp 20], argTypes := #[2
      apply detStep_yes [(13, some 18), (15, some 20), (11, some 16), (11, some 16)] (g := 11) (t := 16) (want := true)
      exact fun _ => rfl
      rfl
      rfl
      · rintro vals ⟨⟨⟨⟨⟨⟨⟨⟨⟨⟨⟨⟨⟨⟨⟨⟨-, -⟩, -⟩, -⟩, -⟩, -⟩, -⟩, -⟩, -⟩, -⟩, -⟩, -⟩, f11⟩, -⟩, f13⟩, -⟩, f15⟩
        simp only [puts, act_put, act_put_none, List.setIfInBounds_toArray, List.set_cons_zero, List.set_cons_succ, f11, f13, f15]
        rfl
      rintro vals ⟨⟨⟨⟨⟨⟨⟨⟨⟨⟨⟨⟨⟨⟨⟨⟨-, -⟩, -⟩, -⟩, -⟩, -⟩, -⟩, -⟩, -⟩, -⟩, -⟩, -⟩, f11⟩, -⟩, f13⟩, -⟩, f15⟩ w1 hC1 E hE
      dsimp only at hE ⊢
      simp only [puts, act_put, act_put_none, List.setIfInBounds_toArray, List.set_cons_zero, List.set_cons_succ, f11, f13, f15] at hE ⊢
      clear f11 f13 f15
      go_wp2_with fail
      refine calls_then (mul_c _ _ _ (KP.out.y) (KQ.out.z)) ?_
      rintro e w2 ⟨rfl, hb2⟩
      go_wp2_with fail
      exact .mk (hE _ (hC1.next hb2))
    apply DetL.next
    · -- 17: Op.fieldAddr 28 (Operand.tmp 3) 1
      apply detStep_yes [(11, some 16)] (g := 11) (t := 16) (want := true)
      exact fun _ => rfl
      rfl
      rfl
      · rintro vals ⟨⟨⟨⟨⟨⟨⟨⟨⟨⟨⟨⟨⟨⟨⟨⟨⟨-, -⟩, -⟩, -⟩, -⟩, -⟩, -⟩, -⟩, -⟩, -⟩, -⟩, -⟩, f11⟩, -⟩, -⟩, -⟩, -⟩, -⟩
        simp only [puts, act_put, act_put_none, List.setIfInBounds_toArray, List.set_cons_zero, List.set_cons_succ, f11]
        rfl
      rintro vals ⟨⟨⟨⟨⟨⟨⟨⟨⟨⟨⟨⟨⟨⟨⟨⟨⟨-, -⟩, -⟩, -⟩, -⟩, -⟩, -⟩, -⟩, -⟩, -⟩, -⟩, -⟩, f11⟩, -⟩, -⟩, -⟩, -⟩, -⟩ w1 hC1 E hE
      dsimp only at hE ⊢
      simp only [puts, act_put, act_put_none, List.setIfInBounds_toArray, List.set_cons_zero, List.set_cons_succ, f11] at hE ⊢
      clear f11
      go_wp2
      exact .mk (hE _ hC1)
    apply DetL.next
    · -- 18: Op.load 26 (Operand.tmp 22)
      apply detStep_yes [(17, some 22), (11, some 16)] (g := 11) (t := 16) (want := true)
      exact fun _ => rfl
      rfl
      rfl
      · rintro vals ⟨⟨⟨⟨⟨⟨⟨⟨⟨⟨⟨⟨⟨⟨⟨⟨⟨⟨-, -⟩, -⟩, -⟩, -⟩, -⟩, -⟩, -⟩, -⟩, -⟩, -⟩, -⟩, f11⟩, -⟩, -⟩, -⟩, -⟩, -⟩, f17⟩
        simp only [puts, act_put, act_put_none, List.setIfInBounds_toArray, List.set_cons_zero, List.set_cons_succ, f11, f17]
        rfl
      rintro vals ⟨⟨⟨⟨⟨⟨⟨⟨⟨⟨⟨⟨⟨⟨⟨⟨⟨⟨-, -⟩, -⟩, -⟩, -⟩, -⟩, -⟩, -⟩, -⟩, -⟩, -⟩, -⟩, f11⟩, -⟩, -⟩, -⟩, -⟩, -⟩, f17⟩ w1 hC1 E hE
      dsimp only at hE ⊢
      have hs := hC1
      simp only [puts, act_put, act_put_none, List.setIfInBounds_toArray, List.set_cons_zero, List.set_cons_succ, f11, f17] at hE ⊢
      clear f11 f17
      refine wpList_get_part (n := 5) (r := eV (q.y)) (hs.1.2.1) (by rw [ptV_size]; decide) rfl rfl rfl rfl hu rfl elem_size ?_
      go_wp2_with fail
      exact .mk (hE _ hC1)
    apply DetL.next
    · -- 19: Op.fieldAddr 28 (Operand.tmp 2) 2
      apply detStep_yes [(11, some 16)] (g := 11) (t := 16) (want := true)
      exact fun _ => rfl
      rfl
      rfl
      · rintro vals ⟨⟨⟨⟨⟨⟨⟨⟨⟨⟨⟨⟨⟨⟨⟨⟨⟨⟨⟨-, -⟩, -⟩, -⟩, -⟩, -⟩, -⟩, -⟩, -⟩, -⟩, -⟩, -⟩, f11⟩, -⟩, -⟩, -⟩, -⟩, -⟩, -⟩, -⟩
        simp only [puts, act_put, act_put_none, List.setIfInBounds_toArray, List.set_cons_zero, List.set_cons_succ, f11]
        rfl
      rintro vals ⟨⟨⟨⟨⟨⟨⟨⟨⟨⟨⟨⟨⟨⟨⟨⟨⟨⟨⟨-, -⟩, -⟩, -⟩, -⟩, -⟩, -⟩, -⟩, -⟩, -⟩, -⟩, -⟩, f11⟩, -⟩, -⟩, -⟩, -⟩, -⟩, -⟩, -⟩ w1 hC1 E hE
      dsimp only at hE ⊢
      simp only [puts, act_put, act_put_none, List.setIfInBounds_toArray, List.set_cons_zero, List.set_cons_succ, f11] at hE ⊢
      clear f11
      go_wp2
      exact .mk (hE _ hC1)
    apply DetL.next
    · -- 20: Op.load 26 (Operand.tmp 24)
      apply detStep_yes [(19, some 24), (11, some 16)] (g := 11) (t := 16) (want := true)
      exact fun _ => rfl
      rfl
      rfl
      · rintro vals ⟨⟨⟨⟨⟨⟨⟨⟨⟨⟨⟨⟨⟨⟨⟨⟨⟨⟨⟨⟨-, -⟩, -⟩, -⟩, -⟩, -⟩, -⟩, -⟩, -⟩, -⟩, -⟩, -⟩, f11⟩, -⟩, -⟩, -⟩, -⟩, -⟩, -⟩, -⟩, f19⟩
        simp only [puts, act_put, act_put_none, List.setIfInBounds_toArray, List.set_cons_zero, List.set_cons_succ, f11, f19]
        rfl
      rintro vals ⟨⟨⟨⟨⟨⟨⟨⟨⟨⟨⟨⟨⟨⟨⟨⟨⟨⟨⟨⟨-, -⟩, -⟩, -⟩, -⟩, -⟩, -⟩, -⟩, -⟩, -⟩, -⟩, -⟩, f11⟩, -⟩, -⟩, -⟩, -⟩, -⟩, -⟩, -⟩, f19⟩ w1 hC1 E hE
      dsimp only at hE ⊢
      have hs := hC1
      simp only [puts, act_put, act_put_none, List.setIfInBounds_toArray, List.set_cons_zero, List.set_cons_succ, f11, f19] at hE ⊢
      clear f11 f19
      refine wpList_get_part (n := 5) (r := eV (p.z)) (hs.1.1) (by rw [ptV_size]; decide) rfl rfl rfl rfl hu rfl elem_size ?_
      go_wp2_with fail
      exact .mk (hE _ hC1)
    apply DetL.next
    · -- 21: Op.call { callee := Callee.value (Operand.func 38), args := #[Operand.tmp 23, Operand.tmp 25], argTypes := #[2
      apply detStep_yes [(18, some 23), (20, some 25), (16, some 21), (11, some 16)] (g := 11) (t := 16) (want := true)
      exact fun _ => rfl
      rfl
      rfl
      · rintro vals ⟨⟨⟨⟨⟨⟨⟨⟨⟨⟨⟨⟨⟨⟨⟨⟨⟨⟨⟨⟨⟨-, -⟩, -⟩, -⟩, -⟩, -⟩, -⟩, -⟩, -⟩, -⟩, -⟩, -⟩, f11⟩, -⟩, -⟩, -⟩, -⟩, f16⟩, -⟩, f18⟩, -⟩, f20⟩
        simp only [puts, act_put, act_put_none, List.setIfInBounds_toArray, List.set_cons_zero, List.set_cons_succ, f11, f16, f18, f20]
        rfl
      rintro vals ⟨⟨⟨⟨⟨⟨⟨⟨⟨⟨⟨⟨⟨⟨⟨⟨⟨⟨⟨⟨⟨-, -⟩, -⟩, -⟩, -⟩, -⟩, -⟩, -⟩, -⟩, -⟩, -⟩, -⟩, f11⟩, -⟩, -⟩, -⟩, -⟩, f16⟩, -⟩, f18⟩, -⟩, f20⟩ w1 hC1 E hE
      dsimp only at hE ⊢
      simp only [puts, act_put, act_put_none, List.setIfInBounds_toArray, List.set_cons_zero, List.set_cons_succ, f11, f16, f18, f20] at hE ⊢
      clear f11 f16 f18 f20
      go_wp2_with fail
      refine calls_then (mul_c _ _ _ (KQ.out.y) (KP.out.z)) ?_
      rintro e w2 ⟨rfl, hb2⟩
      go_wp2_with fail
      exact .mk (hE _ (hC1.next hb2))
    apply DetL.next
    · -- 22: Op.call { callee := Callee.value (Operand.func 47), args := #[Operand.tmp 21, Operand.tmp 26], argTypes := #[2
      apply detStep_yes [(16, some 21), (21, some 26), (21, some 26), (11, some 16)] (g := 11) (t := 16) (want := true)
      exact fun _ => rfl
      rfl
      rfl
      · rintro vals ⟨⟨⟨⟨⟨⟨⟨⟨⟨⟨⟨⟨⟨⟨⟨⟨⟨⟨⟨⟨⟨⟨-, -⟩, -⟩, -⟩, -⟩, -⟩, -⟩, -⟩, -⟩, -⟩, -⟩, -⟩, f11⟩, -⟩, -⟩, -⟩, -⟩, f16⟩, -⟩, -⟩, -⟩, -⟩, f21⟩
        simp only [puts, act_put, act_put_none, List.setIfInBounds_toArray, List.set_cons_zero, List.set_cons_succ, f11, f16, f21]
        rfl
      rintro vals ⟨⟨⟨⟨⟨⟨⟨⟨⟨⟨⟨⟨⟨⟨⟨⟨⟨⟨⟨⟨⟨⟨-, -⟩, -⟩, -⟩, -⟩, -⟩, -⟩, -⟩, -⟩, -⟩, -⟩, -⟩, f11⟩, -⟩, -⟩, -⟩, -⟩, f16⟩, -⟩, -⟩, -⟩, -⟩, f21⟩ w1 hC1 E hE
      dsimp only at hE ⊢
      simp only [puts, act_put, act_put_none, List.setIfInBounds_toArray, List.set_cons_zero, List.set_cons_succ, f11, f16, f21] at hE ⊢
      clear f11 f16 f21
      go_wp2_with fail
      refine calls_then (equal_c _ _ _ (mul_ok (KP.out.y) (KQ.out.z)) (mul_ok (KQ.out.y) (KP.out.z))) ?_
      rintro e w2 ⟨rfl, hb2⟩
      go_wp2_with fail
      exact .mk (hE _ (hC1.next hb2))
    apply DetL.next
    · -- 23: Op.pick (Operand.tmp 16) (Operand.tmp 27) (Operand.const (Value.bool false))
      apply detStep_plain [(11, some 16), (22, some 27)]
      exact fun _ => rfl
      rfl
      rintro vals ⟨⟨⟨⟨⟨⟨⟨⟨⟨⟨⟨⟨⟨⟨⟨⟨⟨⟨⟨⟨⟨⟨⟨-, -⟩, -⟩, -⟩, -⟩, -⟩, -⟩, -⟩, -⟩, -⟩, -⟩, -⟩, f11⟩, -⟩, -⟩, -⟩, -⟩, -⟩, -⟩, -⟩, -⟩, -⟩, -⟩, f22⟩ w1 hC1 E hE
      simp only [puts, act_put, act_put_none, List.setIfInBounds_toArray, List.set_cons_zero, List.set_cons_succ, f11, f22] at hE ⊢
      clear f11 f22
      go_wp2
      exact .mk (hE _ hC1)
    apply DetL.last
    · -- 24: Op.assign (Operand.tmp 28)
      apply detStep_plain [(23, some 28), (22, some 27), (0, some 5), (1, some 6), (2, some 7), (3, some 8), (4, some 9), (5, some 10), (6, some 11), (7, some 12), (8, some 13), (9, some 14), (10, some 15), (11, some 16), (12, some 17), (13, some 18), (14, some 19), (15, some 20), (16, some 21), (17, some 22), (18, some 23), (19, some 24), (20, some 25), (21, some 26), (22, some 27), (23, some 28)]
      exact fun _ => rfl
      rfl
      rintro vals ⟨⟨⟨⟨⟨⟨⟨⟨⟨⟨⟨⟨⟨⟨⟨⟨⟨⟨⟨⟨⟨⟨⟨⟨-, f0⟩, f1⟩, f2⟩, f3⟩, f4⟩, f5⟩, f6⟩, f7⟩, f8⟩, f9⟩, f10⟩, f11⟩, f12⟩, f13⟩, f14⟩, f15⟩, f16⟩, f17⟩, f18⟩, f19⟩, f20⟩, f21⟩, f22⟩, f23⟩ w1 hC1 E hE
      simp only [puts, act_put, act_put_none, List.setIfInBounds_toArray, List.set_cons_zero, List.set_cons_succ, f0, f1, f2, f3, f4, f5, f6, f7, f8, f9, f10, f11, f12, f13, f14, f15, f16, f17, f18, f19, f20, f21, f22, f23] at hE ⊢
      clear f0 f1 f2 f3 f4 f5 f6 f7 f8 f9 f10 f11 f12 f13 f14 f15 f16 f17 f18 f19 f20 f21 f22 f23
      go_wp2
      exact .mk (hE _ hC1)
    rintro vals ⟨⟨⟨⟨⟨⟨⟨⟨⟨⟨⟨⟨⟨⟨⟨⟨⟨⟨⟨⟨⟨⟨⟨⟨⟨-, f0⟩, f1⟩, f2⟩, f3⟩, f4⟩, f5⟩, f6⟩, f7⟩, f8⟩, f9⟩, f10⟩, f11⟩, f12⟩, f13⟩, f14⟩, f15⟩, f16⟩, f17⟩, f18⟩, f19⟩, f20⟩, f21⟩, f22⟩, f23⟩, f24⟩ w1 hC1
    simp only [puts, act_put, act_put_none, List.setIfInBounds_toArray, List.set_cons_zero, List.set_cons_succ, f0, f1, f2, f3, f4, f5, f6, f7, f8, f9, f10, f11, f12, f13, f14, f15, f16, f17, f18, f19, f20, f21, f22, f23, f24]
    clear f0 f1 f2 f3 f4 f5 f6 f7 f8 f9 f10 f11 f12 f13 f14 f15 f16 f17 f18 f19 f20 f21 f22 f23 f24
    clear HC0
    go_wp2_with fail
    go_ret
    exact ⟨by rw [Bool.true_and]; rfl, hC1.2⟩
end Go.Proofs.Ytbeokfpbhemcfaa
/-
  Walk: a point's multiple.
-/
namespace Go.Proofs.Ytbeokfpbhemcfaa
set_option linter.unusedSimpArgs false
set_option linter.unusedVariables false
open Go.RowKit

def pmS (T : E5) (p out : Pt4) (bit : Nat) : Pt4 := if bit = 1 then sumP (sumP out out T) p T else sumP out out T
def pmB (T : E5) (p out : Pt4) (b : Nat) : Nat → Pt4
  | 0 => out
  | j + 1 => pmS T p (pmB T p out b j) (b / 2 ^ (7 - j) % 2)
def pmL (T : E5) (p : Pt4) (l : List Nat) : Nat → Pt4
  | 0 => zeroP
  | j + 1 => pmB T p (pmL T p l j) (l.getD (l.length - 1 - j) 0) 8
section
variable {T : E5} {p out : Pt4} (hT : T.Ok) (hp : p.Ok)
include hT hp
theorem pmS_ok (ho : out.Ok) (bit : Nat) : (pmS T p out bit).Ok := by
  unfold pmS
  split
  · exact sumP_ok (sumP_ok ho ho hT) hp hT
  · exact sumP_ok ho ho hT
theorem pmB_ok (ho : out.Ok) (b : Nat) : ∀ j, (pmB T p out b j).Ok
  | 0 => ho
  | j + 1 => pmS_ok hT hp (pmB_ok ho b j) _
theorem pmL_ok (l : List Nat) : ∀ j, (pmL T p l j).Ok
  | 0 => zeroP_ok
  | j + 1 => pmB_ok hT hp (pmL_ok l j) _ 8
end
def mulP (p : Pt4) (l : List UInt8) : Pt4 := pmL (addE dE dE) p (digs (l.take 32)) (min l.length 32)
theorem mulP_ok {p : Pt4} (hp : p.Ok) (l : List UInt8) : (mulP p l).Ok := pmL_ok d2_ok hp _ _
structure PM (w0 : World) (g r o ow : Nat) (p cur : Pt4) (T : E5) (u : World) : Prop where
  bel : Below w0.heap.size w0 u
  x : Blk u g 28 (ptV p)
  z : Blk u r 28 (ptV zP)
  y : Blk u o 28 (ptV cur)
  t : Blk u ow 26 (eV T)
  lo : w0.heap.size ≤ o
  lr : w0.heap.size ≤ r
  go : g ≠ o
  ro : r ≠ o
  wo : ow ≠ o
theorem PM.next {w0 u u' : World} {g r o ow : Nat} {p cur : Pt4} {T : E5} (k : PM w0 g r o ow p cur T u) (hb : Below u.heap.size u u') : PM w0 g r o ow p cur T u' :=
  ⟨k.bel.trans (hb.mono k.bel.size), k.x.below hb k.x.lt, k.z.below hb k.z.lt, k.y.below hb k.y.lt, k.t.below hb k.t.lt, k.lo, k.lr, k.go, k.ro, k.wo⟩
theorem PM.put {w0 u u' : World} {g r o ow : Nat} {p cur cur' : Pt4} {T : E5} (k : PM w0 g r o ow p cur T u) (hw : Wrote o u u') (hb : Blk u' o 28 (ptV cur')) : PM w0 g r o ow p cur' T u' :=
  ⟨hw.below k.bel k.lo k.bel.size, hw.blk k.x k.go, hw.blk k.z k.ro, hb, hw.blk k.t k.wo, k.lo, k.lr, k.go, k.ro, k.wo⟩
theorem and8_one' (l : Nat) (h : l < 256) : bits .and .u8 (l : Int) 1 = ((l % 2 : Nat) : Int) := and8_one l h
set_option maxRecDepth 100000 in
set_option maxHeartbeats 2000000 in
theorem pmul_any (p : Pt4) (hkp : p.Ok) (l : List UInt8) (A : Option Addr) (c : Nat) (w : World) (hr : Rd w w.heap.size A (bytesV l)) (hc : l.length ≤ c) :
    Calls Try.prog 11 #[.agg (ptV p), .slice A l.length c] w (PtPost (mulP p l) w) := by
  have hu := Try.underlying26
  have hp := Try.underlying28
  obtain ⟨X, hX⟩ : ∃ X, X = dE := ⟨_, rfl⟩
  obtain ⟨T, hT⟩ : ∃ T, T = addE X X := ⟨_, rfl⟩
  have okX : X.Ok := by rw [hX]; exact dE_ok
  have okT : T.Ok := by rw [hT]; exact add_ok okX okX
  have CD := Lib.hid (show ∀ u, Calls Try.prog 31 #[] u (ElemPost X u) from fun u => by rw [hX]; exact d_any u)
  have CA := Lib.hid (show ∀ u, Calls Try.prog 32 #[.agg (eV X), .agg (eV X)] u (ElemPost T u) from fun u => by rw [hT]; exact add_c X X u okX okX)
  have CS := Lib.hid (show ∀ (a b : Pt4), a.Ok → b.Ok → ∀ u, Calls Try.prog 33 #[.agg (ptV a), .agg (ptV b), .agg (eV T)] u (PtPost (sumP a b T) u) from fun a b ha hb u => sum_any a b T u ha hb okT)
  have hmul : mulP p l = pmL T p (digs (l.take 32)) (min l.length 32) := by rw [hT, hX]; rfl
  obtain ⟨Z, hZ⟩ : ∃ Z, Z = zeroP := ⟨_, rfl⟩
  have CZ := Lib.hid (show ∀ u, Calls Try.prog 26 #[] u (PtPost Z u) from fun u => by rw [hZ]; exact zero_any u)
  obtain ⟨n, hn⟩ : ∃ n, n = l.length := ⟨_, rfl⟩
  rw [hmul, ← hn]
  rw [← hn] at hc
  obtain ⟨m, hm⟩ : ∃ m, m = min n 32 := ⟨_, rfl⟩
  have hmin1 : (if (32 : Int) < (n : Int) then (32 : Int) else (n : Int)) = (m : Int) := by rw [hm]; split <;> omega
  have hmin2 : (if 32 < n then (32 : Int) else (n : Int)) = (m : Int) := by rw [hm]; split <;> omega
  have hm32 : (m : Int) ≤ 32 := by omega
  have hmn : (m : Int) ≤ (n : Int) := by omega
  rw [← hm]
  generalize hL : digs (l.take 32) = L at *
  have hLl : L.length = m := by rw [← hL, digs, List.length_map, List.length_take, hm, hn, Nat.min_comm]
  have hLat : ∀ k, k < m → ∀ u, Below w.heap.size w u → ∃ ad, A = some ad ∧ u.cell? (ad.add k) = some (.int .u8 ((L.getD k 0 : Nat) : Int)) := fun k hk u hb => by
    have hkl : k < l.length := by omega
    obtain ⟨ad, h1, _, h3⟩ := (hr.below hb).at_ (k := k) (by rw [bytesV_length]; exact hkl)
    refine ⟨ad, h1, ?_⟩
    rw [h3, ← hL]
    have hk32 : k < 32 := by omega
    simp [bytesV, byteV, digs, List.getD_eq_getElem?_getD, List.getElem?_take, hk32, hkl]
  have hLd : Dg L := by rw [← hL]; exact digs_lt _
  have KP := Lib.hid hkp
  have OKT := Lib.hid okT
  have HLAT := Lib.hid hLat
  have HLL := Lib.hid hLl
  have HLD := Lib.hid hLd
  have HZ := Lib.hid hZ
  obtain ⟨w0, hw0⟩ : ∃ w0, w0 = (w.alloc (.cells (ptV p) 28)).alloc (.cells (ptV zP) 28) := ⟨_, rfl⟩
  have HX0 := Lib.hid (show Blk w0 w.heap.size 28 (ptV p) by rw [hw0]; exact (Blk.new _ _ _).alloc _)
  have HR0 := Lib.hid (show Blk w0 (w.heap.size + 1) 28 (ptV zP) by rw [hw0]; exact Blk.newAt (by simp))
  have HB0 := Lib.hid (show Below w.heap.size w w0 by rw [hw0]; exact (below_new _ _).alloc (by simp) _)
  have HLR := Lib.hid (show w.heap.size ≤ w.heap.size + 1 by omega)
  have HW := Lib.hid hw0
  clear hw0 hkp hX hT okX okT hmul hZ hn hm hL hLl hLat hLd hr hc
  go_enter Try.func11, Try.ntmps11
  go_wp2_with fail
  show Calls _ _ _ ((w.alloc (.cells (ptV p) _)).alloc (.cells (ptV zP) _)) _
  rw [← HW.out]
  generalize w.heap.size + 1 = r at *
  generalize hgg : w.heap.size = g at HX0 ⊢
  clear hgg HW
  refine calls_then (CZ.out _) ?_
  rintro e w1 ⟨rfl, hb1⟩
  have HX1 := Lib.hid (HX0.out.below hb1 HX0.out.lt)
  have HR1 := Lib.hid (HR0.out.below hb1 HR0.out.lt)
  have HB1 := Lib.hid (HB0.out.trans (hb1.mono HB0.out.size))
  clear hb1 HX0 HR0 HB0
  go_wp2_with fail
  refine calls_then (CD.out _) ?_
  rintro e w2 ⟨rfl, hb2⟩
  have HX2 := Lib.hid (HX1.out.below hb2 HX1.out.lt)
  have HR2 := Lib.hid (HR1.out.below hb2 HR1.out.lt)
  have HB2 := Lib.hid (HB1.out.trans (hb2.mono HB1.out.size))
  clear hb2 HX1 HR1 HB1
  go_wp2_with fail
  refine calls_then (CD.out _) ?_
  rintro e w3 ⟨rfl, hb3⟩
  have HX3 := Lib.hid (HX2.out.below hb3 HX2.out.lt)
  have HR3 := Lib.hid (HR2.out.below hb3 HR2.out.lt)
  have HB3 := Lib.hid (HB2.out.trans (hb3.mono HB2.out.size))
  clear hb3 HX2 HR2 HB2
  go_wp2_with fail
  refine calls_then (CA.out _) ?_
  rintro e w4 ⟨rfl, hb4⟩
  have hx4 := HX3.out.below hb4 HX3.out.lt
  have hr4 := HR3.out.below hb4 HR3.out.lt
  have hb4' := HB3.out.trans (hb4.mono HB3.out.size)
  clear hb4 HX3 HR3 HB3
  obtain ⟨w5, hw5⟩ : ∃ w5, w5 = (w4.alloc (.cells (ptV zP) 28)).alloc (.cells (eV zE) 26) := ⟨_, rfl⟩
  have hsz5 : (w4.alloc (.cells (ptV zP) 28)).heap.size = w4.heap.size + 1 := by simp
  have HB5 := Lib.hid (show Below w.heap.size w w5 by rw [hw5]; exact (hb4'.alloc hb4'.size _).alloc (by rw [hsz5]; have := hb4'.size; omega) _)
  have HX5 := Lib.hid (show Blk w5 g 28 (ptV p) by rw [hw5]; exact (hx4.alloc _).alloc _)
  have HR5 := Lib.hid (show Blk w5 r 28 (ptV zP) by rw [hw5]; exact (hr4.alloc _).alloc _)
  have HY5 := Lib.hid (show Blk w5 w4.heap.size 28 (ptV zP) by rw [hw5]; exact (Blk.new _ _ _).alloc _)
  have HT5 := Lib.hid (show Blk w5 (w4.heap.size + 1) 26 (eV zE) by rw [hw5]; exact Blk.newAt (by simp))
  have HGO := Lib.hid (Nat.ne_of_lt hx4.lt)
  have HRO := Lib.hid (Nat.ne_of_lt hr4.lt)
  have HLO := Lib.hid hb4'.size
  have HW5 := Lib.hid hw5
  have HWO := Lib.hid (show w4.heap.size + 1 ≠ w4.heap.size by omega)
  have HLW := Lib.hid (show w.heap.size ≤ w4.heap.size + 1 by have := hb4'.size; omega)
  have HGW := Lib.hid (show g ≠ w4.heap.size + 1 by have := hx4.lt; omega)
  have HRW := Lib.hid (show r ≠ w4.heap.size + 1 by have := hr4.lt; omega)
  clear hw5 hx4 hr4 hb4' hsz5
  go_wp2_with (first
    | (refine wpList_put_box (x := .tmp 5) (g := w4.heap.size) (cells := ptV Z) (old := ptV zP) (t := 28) ((Blk.new _ _ _).alloc _) rfl rfl rfl rfl point_size rfl (by simp [ptV, wV, limbs, Value.oneCell']) ?_; intro w6 hb6 hw6)
    | (refine wpList_put_box (x := .tmp 6) (g := w4.heap.size + 1) (cells := eV T) (old := eV zE) (t := 26) (hw6.blk (Blk.newAt (by simp)) HWO.out) rfl rfl rfl rfl elem_size rfl (by simp [eV, wV, limbs, Value.oneCell']) ?_; intro w7 hb7 hw7))
  have hw6' : Wrote w4.heap.size w5 w6 := by rw [HW5.out]; exact hw6
  have hst : PM w g r w4.heap.size (w4.heap.size + 1) p (pmL T p L 0) T w7 := by
    have h6 := hw6'.below HB5.out HLO.out HB5.out.size
    refine ⟨hw7.below h6 HLW.out h6.size, hw7.blk (hw6'.blk HX5.out HGO.out) HGW.out, hw7.blk (hw6'.blk HR5.out HRO.out) HRW.out, ?_, hb7, HLO.out, HLR.out, HGO.out, HRO.out, HWO.out⟩
    rw [HZ.out] at hb6
    exact hw7.blk hb6 (Ne.symm HWO.out)
  have HST := Lib.hid hst
  clear hw6' hst hb6 hw6 hb7 hw7 HB5 HX5 HR5 HY5 HT5 HGO HRO HLO HW5 HWO HLW HGW HRW hmin1 hmin2 HZ CZ CD CA HLR
  generalize w4.heap.size + 1 = ow at *
  generalize w4.heap.size = o at *
  clear w5
  go_loopw [7] (fun i wr => ∃ j : Nat, j ≤ m ∧ i = .int .i64 ((m : Int) - 1 - (j : Int)) ∧ PM w g r o ow p (pmL T p L j) T wr) (fun i _ => (intOf i + 1).toNat)
  case atStart => exact ⟨0, Nat.zero_le _, by go_num, HST.out⟩
  case round =>
    clear HST
    obtain ⟨j, hj, rfl, hst⟩ := hrel
    by_cases hlt : j < m
    · obtain ⟨q, hq⟩ : ∃ q, q + 1 + j = m := ⟨m - 1 - j, by omega⟩
      have hqi : (m : Int) - 1 - (j : Int) = (q : Int) := by omega
      rw [hqi]
      obtain ⟨cur, hcur⟩ : ∃ cur, cur = pmL T p L j := ⟨_, rfl⟩
      rw [← hcur] at hst
      obtain ⟨b, hb⟩ : ∃ b, b = L.getD q 0 := ⟨_, rfl⟩
      have hst' : PM w g r o ow p (pmB T p cur b 0) T wr := hst
      have hcok : cur.Ok := by rw [hcur]; exact pmL_ok OKT.out KP.out L j
      have hqm : (q : Int) < (m : Int) := by omega
      have HST := Lib.hid hst'
      have HCUR := Lib.hid hcur
      have HCOK := Lib.hid hcok
      have HB := Lib.hid hb
      have HQ := Lib.hid hq
      have HJ := Lib.hid hlt
      clear hst hst' hcur hcok hb hqi hq hlt hj
      go_wp2_with fail
      obtain ⟨wo, rfl⟩ : ∃ x, x = wr := ⟨_, rfl⟩
      go_loopw [8] (fun c wr => ∃ k : Nat, k ≤ 8 ∧ c = .int .i64 (7 - (k : Int)) ∧ PM w g r o ow p (pmB T p cur b k) T wr) (fun c _ => (intOf c + 1).toNat)
      case atStart => exact ⟨0, by omega, rfl, HST.out⟩
      case round =>
        clear HST
        obtain ⟨k, hk, rfl, hst⟩ := hrel
        by_cases hltk : k < 8
        · obtain ⟨s, hs⟩ : ∃ s, s + k = 7 := ⟨7 - k, by omega⟩
          have hsi : (7 : Int) - (k : Int) = (s : Int) := by omega
          have hs8 : (s : Int) < 8 := by omega
          have hbit : pmB T p cur b (k + 1) = pmS T p (pmB T p cur b k) (b / 2 ^ s % 2) := by rw [pmB, show 7 - k = s by omega]
          obtain ⟨y, hy⟩ : ∃ y, y = pmB T p cur b k := ⟨_, rfl⟩
          have hyok : y.Ok := by rw [hy]; exact pmB_ok OKT.out KP.out HCOK.out b k
          rw [← hy] at hst hbit
          rw [hsi]
          obtain ⟨ad, rfl, _⟩ := HLAT.out q (by omega) wr hst.bel
          have hb256 : b < 256 := by rw [HB.out]; exact dg_getD HLD.out q
          obtain ⟨bq, hbq⟩ : ∃ bq, bq = b / 2 ^ s := ⟨_, rfl⟩
          have hbqi : (b : Int) / 2 ^ s = (bq : Int) := by rw [hbq, shr_int]
          have hbql : bq < 256 := by rw [hbq]; exact Nat.lt_of_le_of_lt (Nat.div_le_self _ _) hb256
          rw [← hbq] at hbit
          have hand := and8_one bq hbql
          obtain ⟨cb, hcb⟩ : ∃ cb, cb = bq % 2 := ⟨_, rfl⟩
          rw [← hcb] at hbit hand
          have hcb2 : cb < 2 := by omega
          have hcell : ∀ u, Below w.heap.size w u → u.cell? (ad.add q) = some (.int .u8 (b : Int)) := fun u hu => by
            obtain ⟨ad2, h1, h2⟩ := HLAT.out q (by omega) u hu
            injection h1 with h1
            rw [h1, HB.out]; exact h2
          have HCELL := Lib.hid hcell
          have HBIT := Lib.hid hbit
          have HAND := Lib.hid hand
          have HYOK := Lib.hid hyok
          have HBQI := Lib.hid hbqi
          have HS := Lib.hid hs
          have HK := Lib.hid hltk
          have HST := Lib.hid hst
          have hqn : (q : Int) < (n : Int) := by omega
          clear hcell hbit hand hyok hbqi hs hst hb256 hbq hbql hcb hy hk hsi
          rcases Nat.lt_or_ge cb 1 with hc1 | hc1
          · have hcc : cb = 0 := by omega
            rw [hcc] at HAND HBIT
            have hand2 : bits .and .u8 ((b : Int) / 2 ^ s) 1 = 0 := by rw [HBQI.out]; exact HAND.out
            clear hcc hcb2 hc1 hltk
            go_wp2_with (first
              | (refine wpList_get_box (x := .tmp 5) HST.out.y rfl rfl rfl hp rfl point_size ?_)
              | (refine wpList_get_box (x := .tmp 6) HST.out.t rfl rfl rfl hu rfl elem_size ?_))
            refine calls_then (CS.out y y HYOK.out HYOK.out _) ?_
            rintro e w3 ⟨rfl, hb3⟩
            have hst3 := HST.out.next hb3
            clear HST
            go_wp2_with (refine wpList_put_box (x := .tmp 5) (cells := ptV (sumP y y T)) hst3.y rfl rfl rfl rfl point_size rfl (by simp [ptV, wV, limbs, Value.oneCell']) ?_; intro w6 hb6 hw6; have hst6 := hst3.put hw6 hb6; have hcell6 := HCELL.out w6 hst6.bel; have HST6 := Lib.hid hst6; clear hst3 hst6 hb6 hw6)
            have hq1 : (s : Int) - 1 = 7 - ((k + 1 : Nat) : Int) := by have := HS.out; omega
            refine ⟨⟨k + 1, by have := HK.out; omega, by rw [hq1], ?_⟩, by simp [intOf]⟩
            rw [HBIT.out]
            exact HST6.out
          · have hcc : cb = 1 := by omega
            rw [hcc] at HAND HBIT
            have hand2 : bits .and .u8 ((b : Int) / 2 ^ s) 1 = 1 := by rw [HBQI.out]; exact HAND.out
            clear hcc hcb2 hc1 hltk
            go_wp2_with (first
              | (refine wpList_get_box (x := .tmp 5) HST.out.y rfl rfl rfl hp rfl point_size ?_)
              | (refine wpList_get_box (x := .tmp 6) HST.out.t rfl rfl rfl hu rfl elem_size ?_))
            refine calls_then (CS.out y y HYOK.out HYOK.out _) ?_
            rintro e w3 ⟨rfl, hb3⟩
            have hst3 := HST.out.next hb3
            clear HST
            go_wp2_with (first
              | (refine wpList_put_box (x := .tmp 5) (cells := ptV (sumP y y T)) hst3.y rfl rfl rfl rfl point_size rfl (by simp [ptV, wV, limbs, Value.oneCell']) ?_; intro w6 hb6 hw6; have hst6 := hst3.put hw6 hb6; have hcell6 := HCELL.out w6 hst6.bel; have HST6 := Lib.hid hst6; clear hst3 hst6 hb6 hw6)
              | (refine wpList_get_box (x := .tmp 5) HST6.out.y rfl rfl rfl hp rfl point_size ?_)
              | (refine wpList_get_box (x := .tmp 2) HST6.out.x rfl rfl rfl hp rfl point_size ?_)
              | (refine wpList_get_box (x := .tmp 6) HST6.out.t rfl rfl rfl hu rfl elem_size ?_))
            refine calls_then (CS.out (sumP y y T) p (sumP_ok HYOK.out HYOK.out OKT.out) KP.out _) ?_
            rintro e w7 ⟨rfl, hb7⟩
            have hst7 := HST6.out.next hb7
            go_wp2_with (refine wpList_put_box (x := .tmp 5) (cells := ptV (sumP (sumP y y T) p T)) hst7.y rfl rfl rfl rfl point_size rfl (by simp [ptV, wV, limbs, Value.oneCell']) ?_; intro w8 hb8 hw8; have hst8 := hst7.put hw8 hb8; have HST8 := Lib.hid hst8; clear hst7 hst8 hb8 hw8)
            have hq1 : (s : Int) - 1 = 7 - ((k + 1 : Nat) : Int) := by have := HS.out; omega
            refine ⟨⟨k + 1, by have := HK.out; omega, by rw [hq1], ?_⟩, by simp [intOf]⟩
            rw [HBIT.out]
            exact HST8.out
        · obtain rfl : k = 8 := by omega
          have hend : pmB T p cur b 8 = pmL T p L (j + 1) := by
            rw [pmL, ← HCUR.out, HB.out, HLL.out, show m - 1 - j = q by have := HQ.out; omega]
          rw [hend] at hst
          have hq1 : (q : Int) - 1 = (m : Int) - 1 - ((j + 1 : Nat) : Int) := by have := HQ.out; omega
          have HQ1 := Lib.hid hq1
          have HST := Lib.hid hst
          clear hst hend hq1 hk hltk
          go_wp2_with fail
          exact ⟨⟨j + 1, HJ.out, by rw [HQ1.out], HST.out⟩, by simp [intOf]⟩
    · obtain rfl : j = m := by omega
      have hpi : (j : Int) - 1 - (j : Int) = -1 := by omega
      rw [hpi]
      have HST := Lib.hid hst
      clear hst hpi hlt
      go_wp2_with (first
        | (refine wpList_get_box (x := .tmp 5) HST.out.y rfl rfl rfl hp rfl point_size ?_)
        | (refine wpList_put_box (x := .tmp 4) (cells := ptV (pmL T p L j)) HST.out.z rfl rfl rfl rfl point_size rfl (by simp [ptV, wV, limbs, Value.oneCell']) ?_; intro w6 hb6 hw6))
      refine bodyPost_ret (results_box (P := Try.prog) rfl rfl hb6 hp rfl point_size) rfl ⟨rfl, ?_⟩
      exact hw6.below HST.out.bel HST.out.lr HST.out.bel.size
end Go.Proofs.Ytbeokfpbhemcfaa
