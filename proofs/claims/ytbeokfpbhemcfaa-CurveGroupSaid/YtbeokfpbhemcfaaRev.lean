/-
  Walks: slices.Reverse of 32 bytes; the curve's known.
-/
import Derived.Test.YtbeokfpbhemcfaaSt
import Derived.Test.YtbeokfpbhemcfaaDgn
namespace Go.Proofs.Ytbeokfpbhemcfaa
set_option linter.unusedSimpArgs false
set_option linter.unusedVariables false
open Go.RowKit

theorem Wrote.refl (g : Nat) (w : World) : Wrote g w w := ⟨World.grownBy.refl w _, rfl⟩
theorem Wrote.trans {g : Nat} {a b c : World} (h : Wrote g a b) (k : Wrote g b c) : Wrote g a c := ⟨h.grown.trans k.grown, k.size.trans h.size⟩
theorem Wrote.drew {g : Nat} {a b : World} (h : Wrote g a b) : Wrote g a b.drew := ⟨grown_drew h.grown, h.size⟩
/-- so many swaps from both ends -/
def revS (l : List Nat) : Nat → List Nat
  | 0 => l
  | k + 1 => ((revS l k).set k ((revS l k).getD (31 - k) 0)).set (31 - k) ((revS l k).getD k 0)
theorem revS_length (l : List Nat) : ∀ k, (revS l k).length = l.length
  | 0 => rfl
  | k + 1 => by rw [revS, List.length_set, List.length_set, revS_length l k]
theorem revS_dg {l : List Nat} (h : Dg l) : ∀ k, Dg (revS l k)
  | 0 => h
  | k + 1 => dg_set (dg_set (revS_dg h k) _ _ (dg_getD (revS_dg h k) _)) _ _ (dg_getD (revS_dg h k) _)
theorem bnV_len (l : List Nat) : (bnV l).toArray.size = l.length := by simp [bnV]
theorem u8_size : (Try.prog.info? 5).map (·.size) = some 1 := by kernel_rfl
theorem bnV_get {l : List Nat} {k : Nat} (h : k < l.length) : (bnV l).toArray[k]? = some (.int .u8 ((l.getD k 0 : Nat) : Int)) := by
  simp [bnV, List.getElem?_eq_getElem h, List.getD_eq_getElem?_getD]
set_option maxRecDepth 100000 in
set_option maxHeartbeats 2000000 in
theorem reverse_any (l : List Nat) (hl : l.length = 32) (g : Nat) (t : TypeId) (c : Nat) (w : World) (hb : Blk w g t (bnV l).toArray) :
    Calls Try.prog 55 #[.slice (some ⟨g, 0, none⟩) 32 c] w (fun e w' => (∃ v, e = .returned v) ∧ Blk w' g t (bnV (revS l 16)).toArray ∧ Wrote g w w') := by
  have hs0 : Blk w g t (bnV (revS l 0)).toArray ∧ Wrote g w w := ⟨hb, Wrote.refl g w⟩
  have HS0 := Lib.hid hs0
  have HL := Lib.hid hl
  clear hs0 hb hl
  go_enter Try.func55, Try.ntmps55
  go_wp2_with fail
  go_loopw [2, 3] (fun i j wr => ∃ k : Nat, k ≤ 16 ∧ i = .int .i64 k ∧ j = .int .i64 (31 - (k : Int)) ∧ Blk wr g t (bnV (revS l k)).toArray ∧ Wrote g w wr) (fun i _ _ => 16 - (intOf i).toNat)
  case atStart => exact ⟨0, by omega, rfl, rfl, HS0.out.1, HS0.out.2⟩
  case round =>
    clear HS0
    obtain ⟨k, hk, rfl, rfl, hblk, hwr⟩ := hrel
    by_cases hlt : k < 16
    · obtain ⟨m, hm⟩ : ∃ m, m = 31 - k := ⟨_, rfl⟩
      have hmi : (31 : Int) - (k : Int) = (m : Int) := by omega
      have hkm : (k : Int) < (m : Int) := by omega
      have hm32 : (m : Int) < 32 := by omega
      rw [hmi]
      obtain ⟨R, hR⟩ : ∃ R, R = revS l k := ⟨_, rfl⟩
      obtain ⟨a, ha⟩ : ∃ a, a = R.getD k 0 := ⟨_, rfl⟩
      obtain ⟨b, hbb⟩ : ∃ b, b = R.getD m 0 := ⟨_, rfl⟩
      have hRl : R.length = 32 := by rw [hR, revS_length]; exact HL.out
      have hnext : revS l (k + 1) = (R.set k b).set m a := by rw [revS, ← hR, ← hm, ← ha, ← hbb]
      rw [← hR] at hblk
      have HKA := Lib.hid (show (bnV R).toArray[k]? = some (.int .u8 (a : Int)) by rw [ha]; exact bnV_get (by omega))
      have HKB := Lib.hid (show (bnV R).toArray[m]? = some (.int .u8 (b : Int)) by rw [hbb]; exact bnV_get (by omega))
      have HNEXT := Lib.hid hnext
      have HRL := Lib.hid hRl
      have HK := Lib.hid hlt
      have HM := Lib.hid hm
      have HWR := Lib.hid hwr
      have HI0 : Blk wr.drew g t (bnV R).toArray := hblk
      have HC0 : Wrote g wr wr.drew := (Wrote.refl g wr).drew
      clear hnext hRl ha hbb hR hwr hblk hm hlt hmi
      go_wp2_with fail
      refine wp_region_list (fun u => Wrote g wr u) (fun | false => (fun u => Blk u g t (bnV R).toArray) | true => (fun _ => True)) (fun | false, i => i == 13 || i == 15 | true, _ => false)
        [fun z _ => z 0 = .slice (some ⟨g, 0, none⟩) 32 c,
         fun z _ => z 1 = .int .i64 (k : Int),
         fun z _ => z 2 = .slice (some ⟨g, 0, none⟩) 32 c,
         fun z _ => z 3 = .int .i64 (m : Int),
         fun z _ => z 4 = .slice (some ⟨g, 0, none⟩) 32 c,
         fun z _ => z 5 = .int .i64 (m : Int),
         fun z _ => z 6 = .pointer (some ⟨g, m, none⟩),
         fun z _ => z 7 = .int .u8 (b : Int),
         fun z _ => z 8 = .slice (some ⟨g, 0, none⟩) 32 c,
         fun z _ => z 9 = .int .i64 (k : Int),
         fun z _ => z 10 = .pointer (some ⟨g, k, none⟩),
         fun z _ => z 11 = .int .u8 (a : Int),
         fun z _ => z 12 = .pointer (some ⟨g, k, none⟩),
         fun z u => Blk u g t (bnV (R.set k b)).toArray,
         fun z _ => z 14 = .pointer (some ⟨g, m, none⟩),
         fun z u => Blk u g t (bnV ((R.set k b).set m a)).toArray]
        [Eq, Eq, Eq, Eq, Eq, Eq, Eq, Eq, Eq, Eq, Eq, Eq, Eq, fun _ _ => True, Eq, fun _ _ => True]
        (fun i k => (i == 15 && k == 13)) [(0, some 14), (1, some 15), (2, some 16), (3, some 17), (4, some 18), (5, some 19), (6, some 20), (7, some 21), (8, some 22), (9, some 23), (10, some 24), (11, some 25), (12, some 26), (13, none), (14, some 27), (15, none)] (by kernel_rfl) (by kernel_rfl) rfl (fun _ => rfl) ?_ ?_ ?_ ?_ ?_ ?_
      · exact HC0
      · intro m; cases m; exact HI0; exact trivial
      · intro m; cases m
        · exact ⟨.inr (fun _ _ h h0 => h ▸ h0), .inr (fun _ _ h h0 => h ▸ h0), .inr (fun _ _ h h0 => h ▸ h0), .inr (fun _ _ h h0 => h ▸ h0), .inr (fun _ _ h h0 => h ▸ h0), .inr (fun _ _ h h0 => h ▸ h0), .inr (fun _ _ h h0 => h ▸ h0), .inr (fun _ _ h h0 => h ▸ h0), .inr (fun _ _ h h0 => h ▸ h0), .inr (fun _ _ h h0 => h ▸ h0), .inr (fun _ _ h h0 => h ▸ h0), .inr (fun _ _ h h0 => h ▸ h0), .inr (fun _ _ h h0 => h ▸ h0), .inl rfl, .inr (fun _ _ h h0 => h ▸ h0), .inl rfl, trivial⟩
        · exact ⟨.inr (fun _ _ h h0 => h ▸ h0), .inr (fun _ _ h h0 => h ▸ h0), .inr (fun _ _ h h0 => h ▸ h0), .inr (fun _ _ h h0 => h ▸ h0), .inr (fun _ _ h h0 => h ▸ h0), .inr (fun _ _ h h0 => h ▸ h0), .inr (fun _ _ h h0 => h ▸ h0), .inr (fun _ _ h h0 => h ▸ h0), .inr (fun _ _ h h0 => h ▸ h0), .inr (fun _ _ h h0 => h ▸ h0), .inr (fun _ _ h h0 => h ▸ h0), .inr (fun _ _ h h0 => h ▸ h0), .inr (fun _ _ h h0 => h ▸ h0), .inr (fun _ _ _ h => h), .inr (fun _ _ h h0 => h ▸ h0), .inr (fun _ _ _ h => h), trivial⟩
      · exact ⟨⟨.inl rfl, .inr (.inr (.inr (fun _ _ _ _ _ h => h))), .inr (.inr (.inr (fun _ _ _ _ _ h => h))), .inr (.inr (.inr (fun _ _ _ _ _ h => h))), .inr (.inr (.inr (fun _ _ _ _ _ h => h))), .inr (.inr (.inr (fun _ _ _ _ _ h => h))), .inr (.inr (.inr (fun _ _ _ _ _ h => h))), .inr (.inr (.inr (fun _ _ _ _ _ h => h))), .inr (.inr (.inr (fun _ _ _ _ _ h => h))), .inr (.inr (.inr (fun _ _ _ _ _ h => h))), .inr (.inr (.inr (fun _ _ _ _ _ h => h))), .inr (.inr (.inr (fun _ _ _ _ _ h => h))), .inr (.inr (.inl rfl)), .inr (.inr (.inl rfl)), .inr (.inr (.inl rfl)), .inr (.inr (.inl rfl)), trivial⟩,
          ⟨.inr (.inr (.inr (fun _ _ _ _ _ h => h))), .inl rfl, .inr (.inr (.inr (fun _ _ _ _ _ h => h))), .inr (.inr (.inr (fun _ _ _ _ _ h => h))), .inr (.inr (.inr (fun _ _ _ _ _ h => h))), .inr (.inr (.inr (fun _ _ _ _ _ h => h))), .inr (.inr (.inr (fun _ _ _ _ _ h => h))), .inr (.inr (.inr (fun _ _ _ _ _ h => h))), .inr (.inr (.inr (fun _ _ _ _ _ h => h))), .inr (.inr (.inr (fun _ _ _ _ _ h => h))), .inr (.inr (.inr (fun _ _ _ _ _ h => h))), .inr (.inr (.inr (fun _ _ _ _ _ h => h))), .inr (.inr (.inl rfl)), .inr (.inr (.inl rfl)), .inr (.inr (.inl rfl)), .inr (.inr (.inl rfl)), trivial⟩,
          ⟨.inr (.inr (.inr (fun _ _ _ _ _ h => h))), .inr (.inr (.inr (fun _ _ _ _ _ h => h))), .inl rfl, .inr (.inr (.inr (fun _ _ _ _ _ h => h))), .inr (.inr (.inr (fun _ _ _ _ _ h => h))), .inr (.inr (.inr (fun _ _ _ _ _ h => h))), .inr (.inr (.inr (fun _ _ _ _ _ h => h))), .inr (.inr (.inr (fun _ _ _ _ _ h => h))), .inr (.inr (.inr (fun _ _ _ _ _ h => h))), .inr (.inr (.inr (fun _ _ _ _ _ h => h))), .inr (.inr (.inr (fun _ _ _ _ _ h => h))), .inr (.inr (.inr (fun _ _ _ _ _ h => h))), .inr (.inr (.inr (fun _ _ _ _ _ h => h))), .inr (.inr (.inr (fun _ _ _ _ h h0 => by cases h; exact h0))), .inr (.inr (.inl rfl)), .inr (.inr (.inl rfl)), trivial⟩,
          ⟨.inr (.inr (.inr (fun _ _ _ _ _ h => h))), .inr (.inr (.inr (fun _ _ _ _ _ h => h))), .inr (.inr (.inr (fun _ _ _ _ _ h => h))), .inl rfl, .inr (.inr (.inr (fun _ _ _ _ _ h => h))), .inr (.inr (.inr (fun _ _ _ _ _ h => h))), .inr (.inr (.inr (fun _ _ _ _ _ h => h))), .inr (.inr (.inr (fun _ _ _ _ _ h => h))), .inr (.inr (.inr (fun _ _ _ _ _ h => h))), .inr (.inr (.inr (fun _ _ _ _ _ h => h))), .inr (.inr (.inr (fun _ _ _ _ _ h => h))), .inr (.inr (.inr (fun _ _ _ _ _ h => h))), .inr (.inr (.inr (fun _ _ _ _ _ h => h))), .inr (.inr (.inr (fun _ _ _ _ h h0 => by cases h; exact h0))), .inr (.inr (.inl rfl)), .inr (.inr (.inl rfl)), trivial⟩,
          ⟨.inr (.inr (.inr (fun _ _ _ _ _ h => h))), .inr (.inr (.inr (fun _ _ _ _ _ h => h))), .inr (.inr (.inr (fun _ _ _ _ _ h => h))), .inr (.inr (.inr (fun _ _ _ _ _ h => h))), .inl rfl, .inr (.inr (.inr (fun _ _ _ _ _ h => h))), .inr (.inr (.inl rfl)), .inr (.inr (.inl rfl)), .inr (.inr (.inr (fun _ _ _ _ _ h => h))), .inr (.inr (.inr (fun _ _ _ _ _ h => h))), .inr (.inr (.inr (fun _ _ _ _ _ h => h))), .inr (.inr (.inr (fun _ _ _ _ _ h => h))), .inr (.inr (.inl rfl)), .inr (.inr (.inl rfl)), .inr (.inr (.inl rfl)), .inr (.inr (.inl rfl)), trivial⟩,
          ⟨.inr (.inr (.inr (fun _ _ _ _ _ h => h))), .inr (.inr (.inr (fun _ _ _ _ _ h => h))), .inr (.inr (.inr (fun _ _ _ _ _ h => h))), .inr (.inr (.inr (fun _ _ _ _ _ h => h))), .inr (.inr (.inr (fun _ _ _ _ _ h => h))), .inl rfl, .inr (.inr (.inl rfl)), .inr (.inr (.inl rfl)), .inr (.inr (.inr (fun _ _ _ _ _ h => h))), .inr (.inr (.inr (fun _ _ _ _ _ h => h))), .inr (.inr (.inr (fun _ _ _ _ _ h => h))), .inr (.inr (.inr (fun _ _ _ _ _ h => h))), .inr (.inr (.inl rfl)), .inr (.inr (.inl rfl)), .inr (.inr (.inl rfl)), .inr (.inr (.inl rfl)), trivial⟩,
          ⟨.inr (.inr (.inr (fun _ _ _ _ _ h => h))), .inr (.inr (.inr (fun _ _ _ _ _ h => h))), .inr (.inr (.inr (fun _ _ _ _ _ h => h))), .inr (.inr (.inr (fun _ _ _ _ _ h => h))), .inr (.inr (.inr (fun _ _ _ _ _ h => h))), .inr (.inr (.inr (fun _ _ _ _ _ h => h))), .inl rfl, .inr (.inr (.inl rfl)), .inr (.inr (.inr (fun _ _ _ _ _ h => h))), .inr (.inr (.inr (fun _ _ _ _ _ h => h))), .inr (.inr (.inr (fun _ _ _ _ _ h => h))), .inr (.inr (.inr (fun _ _ _ _ _ h => h))), .inr (.inr (.inl rfl)), .inr (.inr (.inl rfl)), .inr (.inr (.inl rfl)), .inr (.inr (.inl rfl)), trivial⟩,
          ⟨.inr (.inr (.inr (fun _ _ _ _ _ h => h))), .inr (.inr (.inr (fun _ _ _ _ _ h => h))), .inr (.inr (.inr (fun _ _ _ _ _ h => h))), .inr (.inr (.inr (fun _ _ _ _ _ h => h))), .inr (.inr (.inr (fun _ _ _ _ _ h => h))), .inr (.inr (.inr (fun _ _ _ _ _ h => h))), .inr (.inr (.inr (fun _ _ _ _ _ h => h))), .inl rfl, .inr (.inr (.inr (fun _ _ _ _ _ h => h))), .inr (.inr (.inr (fun _ _ _ _ _ h => h))), .inr (.inr (.inr (fun _ _ _ _ _ h => h))), .inr (.inr (.inr (fun _ _ _ _ _ h => h))), .inr (.inr (.inl rfl)), .inr (.inr (.inl rfl)), .inr (.inr (.inl rfl)), .inr (.inr (.inl rfl)), trivial⟩,
          ⟨.inr (.inr (.inr (fun _ _ _ _ _ h => h))), .inr (.inr (.inr (fun _ _ _ _ _ h => h))), .inr (.inr (.inr (fun _ _ _ _ _ h => h))), .inr (.inr (.inr (fun _ _ _ _ _ h => h))), .inr (.inr (.inr (fun _ _ _ _ _ h => h))), .inr (.inr (.inr (fun _ _ _ _ _ h => h))), .inr (.inr (.inr (fun _ _ _ _ _ h => h))), .inr (.inr (.inr (fun _ _ _ _ _ h => h))), .inl rfl, .inr (.inr (.inr (fun _ _ _ _ _ h => h))), .inr (.inr (.inl rfl)), .inr (.inr (.inl rfl)), .inr (.inr (.inl rfl)), .inr (.inr (.inl rfl)), .inr (.inr (.inl rfl)), .inr (.inr (.inl rfl)), trivial⟩,
          ⟨.inr (.inr (.inr (fun _ _ _ _ _ h => h))), .inr (.inr (.inr (fun _ _ _ _ _ h => h))), .inr (.inr (.inr (fun _ _ _ _ _ h => h))), .inr (.inr (.inr (fun _ _ _ _ _ h => h))), .inr (.inr (.inr (fun _ _ _ _ _ h => h))), .inr (.inr (.inr (fun _ _ _ _ _ h => h))), .inr (.inr (.inr (fun _ _ _ _ _ h => h))), .inr (.inr (.inr (fun _ _ _ _ _ h => h))), .inr (.inr (.inr (fun _ _ _ _ _ h => h))), .inl rfl, .inr (.inr (.inl rfl)), .inr (.inr (.inl rfl)), .inr (.inr (.inl rfl)), .inr (.inr (.inl rfl)), .inr (.inr (.inl rfl)), .inr (.inr (.inl rfl)), trivial⟩,
          ⟨.inr (.inr (.inr (fun _ _ _ _ _ h => h))), .inr (.inr (.inr (fun _ _ _ _ _ h => h))), .inr (.inr (.inr (fun _ _ _ _ _ h => h))), .inr (.inr (.inr (fun _ _ _ _ _ h => h))), .inr (.inr (.inr (fun _ _ _ _ _ h => h))), .inr (.inr (.inr (fun _ _ _ _ _ h => h))), .inr (.inr (.inr (fun _ _ _ _ _ h => h))), .inr (.inr (.inr (fun _ _ _ _ _ h => h))), .inr (.inr (.inr (fun _ _ _ _ _ h => h))), .inr (.inr (.inr (fun _ _ _ _ _ h => h))), .inl rfl, .inr (.inr (.inl rfl)), .inr (.inr (.inl rfl)), .inr (.inr (.inl rfl)), .inr (.inr (.inl rfl)), .inr (.inr (.inl rfl)), trivial⟩,
          ⟨.inr (.inr (.inr (fun _ _ _ _ _ h => h))), .inr (.inr (.inr (fun _ _ _ _ _ h => h))), .inr (.inr (.inr (fun _ _ _ _ _ h => h))), .inr (.inr (.inr (fun _ _ _ _ _ h => h))), .inr (.inr (.inr (fun _ _ _ _ _ h => h))), .inr (.inr (.inr (fun _ _ _ _ _ h => h))), .inr (.inr (.inr (fun _ _ _ _ _ h => h))), .inr (.inr (.inr (fun _ _ _ _ _ h => h))), .inr (.inr (.inr (fun _ _ _ _ _ h => h))), .inr (.inr (.inr (fun _ _ _ _ _ h => h))), .inr (.inr (.inr (fun _ _ _ _ _ h => h))), .inl rfl, .inr (.inr (.inl rfl)), .inr (.inr (.inl rfl)), .inr (.inr (.inl rfl)), .inr (.inr (.inl rfl)), trivial⟩,
          ⟨.inr (.inr (.inr (fun _ _ _ _ _ h => h))), .inr (.inr (.inr (fun _ _ _ _ _ h => h))), .inr (.inr (.inr (fun _ _ _ _ _ h => h))), .inr (.inr (.inr (fun _ _ _ _ _ h => h))), .inr (.inr (.inr (fun _ _ _ _ _ h => h))), .inr (.inr (.inr (fun _ _ _ _ _ h => h))), .inr (.inr (.inr (fun _ _ _ _ _ h => h))), .inr (.inr (.inr (fun _ _ _ _ _ h => h))), .inr (.inr (.inr (fun _ _ _ _ _ h => h))), .inr (.inr (.inr (fun _ _ _ _ _ h => h))), .inr (.inr (.inr (fun _ _ _ _ _ h => h))), .inr (.inr (.inr (fun _ _ _ _ _ h => h))), .inl rfl, .inr (.inr (.inl rfl)), .inr (.inr (.inl rfl)), .inr (.inr (.inl rfl)), trivial⟩,
          ⟨.inr (.inr (.inr (fun _ _ _ _ _ h => h))), .inr (.inr (.inr (fun _ _ _ _ _ h => h))), .inr (.inr (.inr (fun _ _ _ _ _ h => h))), .inr (.inr (.inr (fun _ _ _ _ _ h => h))), .inr (.inr (.inr (fun _ _ _ _ _ h => h))), .inr (.inr (.inr (fun _ _ _ _ _ h => h))), .inr (.inr (.inr (fun _ _ _ _ _ h => h))), .inr (.inr (.inr (fun _ _ _ _ _ h => h))), .inr (.inr (.inr (fun _ _ _ _ _ h => h))), .inr (.inr (.inr (fun _ _ _ _ _ h => h))), .inr (.inr (.inr (fun _ _ _ _ _ h => h))), .inr (.inr (.inr (fun _ _ _ _ _ h => h))), .inr (.inr (.inr (fun _ _ _ _ _ h => h))), .inl rfl, .inr (.inr (.inl rfl)), .inr (.inr (.inl rfl)), trivial⟩,
          ⟨.inr (.inr (.inr (fun _ _ _ _ _ h => h))), .inr (.inr (.inr (fun _ _ _ _ _ h => h))), .inr (.inr (.inr (fun _ _ _ _ _ h => h))), .inr (.inr (.inr (fun _ _ _ _ _ h => h))), .inr (.inr (.inr (fun _ _ _ _ _ h => h))), .inr (.inr (.inr (fun _ _ _ _ _ h => h))), .inr (.inr (.inr (fun _ _ _ _ _ h => h))), .inr (.inr (.inr (fun _ _ _ _ _ h => h))), .inr (.inr (.inr (fun _ _ _ _ _ h => h))), .inr (.inr (.inr (fun _ _ _ _ _ h => h))), .inr (.inr (.inr (fun _ _ _ _ _ h => h))), .inr (.inr (.inr (fun _ _ _ _ _ h => h))), .inr (.inr (.inr (fun _ _ _ _ _ h => h))), .inr (.inr (.inr (fun _ _ _ _ h h0 => by cases h; exact h0))), .inl rfl, .inr (.inr (.inl rfl)), trivial⟩,
          ⟨.inr (.inr (.inr (fun _ _ _ _ _ h => h))), .inr (.inr (.inr (fun _ _ _ _ _ h => h))), .inr (.inr (.inr (fun _ _ _ _ _ h => h))), .inr (.inr (.inr (fun _ _ _ _ _ h => h))), .inr (.inr (.inr (fun _ _ _ _ _ h => h))), .inr (.inr (.inr (fun _ _ _ _ _ h => h))), .inr (.inr (.inr (fun _ _ _ _ _ h => h))), .inr (.inr (.inr (fun _ _ _ _ _ h => h))), .inr (.inr (.inr (fun _ _ _ _ _ h => h))), .inr (.inr (.inr (fun _ _ _ _ _ h => h))), .inr (.inr (.inr (fun _ _ _ _ _ h => h))), .inr (.inr (.inr (fun _ _ _ _ _ h => h))), .inr (.inr (.inr (fun _ _ _ _ _ h => h))), .inr (.inl rfl), .inr (.inr (.inr (fun _ _ _ _ _ h => h))), .inl rfl, trivial⟩, trivial⟩
      · refine ⟨?_, ?_, ?_, ?_, ?_, ?_, ?_, ?_, ?_, ?_, ?_, ?_, ?_, ?_, ?_, ?_, trivial⟩
        · -- 0: Op.move (Operand.tmp 0)
          refine step_plain [] (fun _ => rfl) rfl ?_
          intro w1 vals hC1 hi0 hf E hE
          have hI1 : (fun u => Blk u g t (bnV R).toArray) w1 := hi0 false rfl
          try dsimp only at hI1
          clear hi0
          clear hf
          simp only [puts, act_put, act_put_none, List.setIfInBounds_toArray, List.set_cons_zero, List.set_cons_succ] at hE ⊢
          go_wp2
          exact .mk (hE _ _ rfl hC1 rfl)
        · -- 1: Op.move (Operand.tmp 2)
          refine step_plain [] (fun _ => rfl) rfl ?_
          intro w1 vals hC1 hi0 hf E hE
          have hI1 : (fun u => Blk u g t (bnV R).toArray) w1 := hi0 false rfl
          try dsimp only at hI1
          clear hi0
          clear hf
          simp only [puts, act_put, act_put_none, List.setIfInBounds_toArray, List.set_cons_zero, List.set_cons_succ] at hE ⊢
          go_wp2
          exact .mk (hE _ _ rfl hC1 rfl)
        · -- 2: Op.move (Operand.tmp 0)
          refine step_plain [] (fun _ => rfl) rfl ?_
          intro w1 vals hC1 hi0 hf E hE
          clear hi0
          clear hf
          simp only [puts, act_put, act_put_none, List.setIfInBounds_toArray, List.set_cons_zero, List.set_cons_succ] at hE ⊢
          go_wp2
          exact .mk (hE _ _ rfl hC1 rfl)
        · -- 3: Op.move (Operand.tmp 3)
          refine step_plain [] (fun _ => rfl) rfl ?_
          intro w1 vals hC1 hi0 hf E hE
          clear hi0
          clear hf
          simp only [puts, act_put, act_put_none, List.setIfInBounds_toArray, List.set_cons_zero, List.set_cons_succ] at hE ⊢
          go_wp2
          exact .mk (hE _ _ rfl hC1 rfl)
        · -- 4: Op.move (Operand.tmp 0)
          refine step_plain [] (fun _ => rfl) rfl ?_
          intro w1 vals hC1 hi0 hf E hE
          have hI1 : (fun u => Blk u g t (bnV R).toArray) w1 := hi0 false rfl
          try dsimp only at hI1
          clear hi0
          clear hf
          simp only [puts, act_put, act_put_none, List.setIfInBounds_toArray, List.set_cons_zero, List.set_cons_succ] at hE ⊢
          go_wp2
          exact .mk (hE _ _ rfl hC1 rfl)
        · -- 5: Op.move (Operand.tmp 3)
          refine step_plain [] (fun _ => rfl) rfl ?_
          intro w1 vals hC1 hi0 hf E hE
          have hI1 : (fun u => Blk u g t (bnV R).toArray) w1 := hi0 false rfl
          try dsimp only at hI1
          clear hi0
          clear hf
          simp only [puts, act_put, act_put_none, List.setIfInBounds_toArray, List.set_cons_zero, List.set_cons_succ] at hE ⊢
          go_wp2
          exact .mk (hE _ _ rfl hC1 rfl)
        · -- 6: Op.indexAddr 22 (Operand.tmp 18) (Operand.tmp 19)
          refine step_plain [(4, some 18), (5, some 19)] (fun _ => rfl) rfl ?_
          intro w1 vals hC1 hi0 hf E hE
          have hI1 : (fun u => Blk u g t (bnV R).toArray) w1 := hi0 false rfl
          try dsimp only at hI1
          clear hi0
          have f4 : vals 4 = .slice (some ⟨g, 0, none⟩) 32 c := hf 4 rfl
          have f5 : vals 5 = .int .i64 (m : Int) := hf 5 rfl
          try dsimp only at f4 f5
          clear hf
          simp only [puts, act_put, act_put_none, List.setIfInBounds_toArray, List.set_cons_zero, List.set_cons_succ, f4, f5] at hE ⊢
          clear f4 f5
          go_wp2
          exact .mk (hE _ _ rfl hC1 rfl)
        · -- 7: Op.load 5 (Operand.tmp 20)
          refine step_plain [(6, some 20)] (fun _ => rfl) rfl ?_
          intro w1 vals hC1 hi0 hf E hE
          have hI1 : (fun u => Blk u g t (bnV R).toArray) w1 := hi0 false rfl
          try dsimp only at hI1
          clear hi0
          have f6 : vals 6 = .pointer (some ⟨g, m, none⟩) := hf 6 rfl
          try dsimp only at f6
          clear hf
          have d0 := hI1.cell m
          rw [HKB.out] at d0
          simp only [puts, act_put, act_put_none, List.setIfInBounds_toArray, List.set_cons_zero, List.set_cons_succ, f6] at hE ⊢
          clear f6
          go_wp2
          exact .mk (hE _ _ rfl hC1 rfl)
        · -- 8: Op.move (Operand.tmp 0)
          refine step_plain [] (fun _ => rfl) rfl ?_
          intro w1 vals hC1 hi0 hf E hE
          have hI1 : (fun u => Blk u g t (bnV R).toArray) w1 := hi0 false rfl
          try dsimp only at hI1
          clear hi0
          clear hf
          simp only [puts, act_put, act_put_none, List.setIfInBounds_toArray, List.set_cons_zero, List.set_cons_succ] at hE ⊢
          go_wp2
          exact .mk (hE _ _ rfl hC1 rfl)
        · -- 9: Op.move (Operand.tmp 2)
          refine step_plain [] (fun _ => rfl) rfl ?_
          intro w1 vals hC1 hi0 hf E hE
          have hI1 : (fun u => Blk u g t (bnV R).toArray) w1 := hi0 false rfl
          try dsimp only at hI1
          clear hi0
          clear hf
          simp only [puts, act_put, act_put_none, List.setIfInBounds_toArray, List.set_cons_zero, List.set_cons_succ] at hE ⊢
          go_wp2
          exact .mk (hE _ _ rfl hC1 rfl)
        · -- 10: Op.indexAddr 22 (Operand.tmp 22) (Operand.tmp 23)
          refine step_plain [(8, some 22), (9, some 23)] (fun _ => rfl) rfl ?_
          intro w1 vals hC1 hi0 hf E hE
          have hI1 : (fun u => Blk u g t (bnV R).toArray) w1 := hi0 false rfl
          try dsimp only at hI1
          clear hi0
          have f8 : vals 8 = .slice (some ⟨g, 0, none⟩) 32 c := hf 8 rfl
          have f9 : vals 9 = .int .i64 (k : Int) := hf 9 rfl
          try dsimp only at f8 f9
          clear hf
          simp only [puts, act_put, act_put_none, List.setIfInBounds_toArray, List.set_cons_zero, List.set_cons_succ, f8, f9] at hE ⊢
          clear f8 f9
          go_wp2
          exact .mk (hE _ _ rfl hC1 rfl)
        · -- 11: Op.load 5 (Operand.tmp 24)
          refine step_plain [(10, some 24)] (fun _ => rfl) rfl ?_
          intro w1 vals hC1 hi0 hf E hE
          have hI1 : (fun u => Blk u g t (bnV R).toArray) w1 := hi0 false rfl
          try dsimp only at hI1
          clear hi0
          have f10 : vals 10 = .pointer (some ⟨g, k, none⟩) := hf 10 rfl
          try dsimp only at f10
          clear hf
          have d0 := hI1.cell k
          rw [HKA.out] at d0
          simp only [puts, act_put, act_put_none, List.setIfInBounds_toArray, List.set_cons_zero, List.set_cons_succ, f10] at hE ⊢
          clear f10
          go_wp2
          exact .mk (hE _ _ rfl hC1 rfl)
        · -- 12: Op.indexAddr 22 (Operand.tmp 14) (Operand.tmp 15)
          refine step_plain [(0, some 14), (1, some 15), (0, some 14), (1, some 15), (4, some 18), (5, some 19), (6, some 20), (7, some 21), (11, some 25)] (fun _ => rfl) rfl ?_
          intro w1 vals hC1 hi0 hf E hE
          have hI1 : (fun u => Blk u g t (bnV R).toArray) w1 := hi0 false rfl
          try dsimp only at hI1
          clear hi0
          have f0 : vals 0 = .slice (some ⟨g, 0, none⟩) 32 c := hf 0 rfl
          have f1 : vals 1 = .int .i64 (k : Int) := hf 1 rfl
          have f4 : vals 4 = .slice (some ⟨g, 0, none⟩) 32 c := hf 4 rfl
          have f5 : vals 5 = .int .i64 (m : Int) := hf 5 rfl
          have f6 : vals 6 = .pointer (some ⟨g, m, none⟩) := hf 6 rfl
          have f7 : vals 7 = .int .u8 (b : Int) := hf 7 rfl
          have f11 : vals 11 = .int .u8 (a : Int) := hf 11 rfl
          try dsimp only at f0 f1 f4 f5 f6 f7 f11
          clear hf
          simp only [puts, act_put, act_put_none, List.setIfInBounds_toArray, List.set_cons_zero, List.set_cons_succ, f0, f1, f4, f5, f6, f7, f11] at hE ⊢
          clear f0 f1 f4 f5 f6 f7 f11
          go_wp2
          exact .mk (hE _ _ rfl hC1 rfl)
        · -- 13: Op.store 5 (Operand.tmp 26) (Operand.tmp 21)
          refine step_plain [(12, some 26), (7, some 21), (0, some 14), (1, some 15), (4, some 18), (5, some 19), (6, some 20), (7, some 21), (11, some 25)] (fun _ => rfl) rfl ?_
          intro w1 vals hC1 hi0 hf E hE
          have hI1 : (fun u => Blk u g t (bnV R).toArray) w1 := hi0 false rfl
          try dsimp only at hI1
          clear hi0
          have f0 : vals 0 = .slice (some ⟨g, 0, none⟩) 32 c := hf 0 rfl
          have f1 : vals 1 = .int .i64 (k : Int) := hf 1 rfl
          have f4 : vals 4 = .slice (some ⟨g, 0, none⟩) 32 c := hf 4 rfl
          have f5 : vals 5 = .int .i64 (m : Int) := hf 5 rfl
          have f6 : vals 6 = .pointer (some ⟨g, m, none⟩) := hf 6 rfl
          have f7 : vals 7 = .int .u8 (b : Int) := hf 7 rfl
          have f11 : vals 11 = .int .u8 (a : Int) := hf 11 rfl
          have f12 : vals 12 = .pointer (some ⟨g, k, none⟩) := hf 12 rfl
          try dsimp only at f0 f1 f4 f5 f6 f7 f11 f12
          clear hf
          simp only [puts, act_put, act_put_none, List.setIfInBounds_toArray, List.set_cons_zero, List.set_cons_succ, f0, f1, f4, f5, f6, f7, f11, f12] at hE ⊢
          clear f0 f1 f4 f5 f6 f7 f11 f12
          refine wpList_put_cell (i := k) (v := .int .u8 (b : Int)) hI1 rfl rfl rfl rfl u8_size (by rw [bnV_len, HRL.out]; have := HK.out; omega) rfl ?_
          intro w2 hb2 hw2
          rw [bnV_set] at hb2
          go_wp2_with fail
          exact .mk (hE undef _ hb2 (hC1.trans hw2) trivial)
        · -- 14: Op.indexAddr 22 (Operand.tmp 16) (Operand.tmp 17)
          refine step_plain [(2, some 16), (3, some 17), (0, some 14), (1, some 15), (2, some 16), (3, some 17), (4, some 18), (5, some 19), (6, some 20), (7, some 21), (8, some 22), (9, some 23), (10, some 24), (11, some 25), (12, some 26), (13, none)] (fun _ => rfl) rfl ?_
          intro w1 vals hC1 hi0 hf E hE
          clear hi0
          have f0 : vals 0 = .slice (some ⟨g, 0, none⟩) 32 c := hf 0 rfl
          have f1 : vals 1 = .int .i64 (k : Int) := hf 1 rfl
          have f2 : vals 2 = .slice (some ⟨g, 0, none⟩) 32 c := hf 2 rfl
          have f3 : vals 3 = .int .i64 (m : Int) := hf 3 rfl
          have f4 : vals 4 = .slice (some ⟨g, 0, none⟩) 32 c := hf 4 rfl
          have f5 : vals 5 = .int .i64 (m : Int) := hf 5 rfl
          have f6 : vals 6 = .pointer (some ⟨g, m, none⟩) := hf 6 rfl
          have f7 : vals 7 = .int .u8 (b : Int) := hf 7 rfl
          have f8 : vals 8 = .slice (some ⟨g, 0, none⟩) 32 c := hf 8 rfl
          have f9 : vals 9 = .int .i64 (k : Int) := hf 9 rfl
          have f10 : vals 10 = .pointer (some ⟨g, k, none⟩) := hf 10 rfl
          have f11 : vals 11 = .int .u8 (a : Int) := hf 11 rfl
          have f12 : vals 12 = .pointer (some ⟨g, k, none⟩) := hf 12 rfl
          have f13 : (fun z u => Blk u g t (bnV (R.set k b)).toArray) vals w1 := hf 13 rfl
          try dsimp only at f0 f1 f2 f3 f4 f5 f6 f7 f8 f9 f10 f11 f12 f13
          clear hf
          simp only [puts, act_put, act_put_none, List.setIfInBounds_toArray, List.set_cons_zero, List.set_cons_succ, f0, f1, f2, f3, f4, f5, f6, f7, f8, f9, f10, f11, f12] at hE ⊢
          clear f0 f1 f2 f3 f4 f5 f6 f7 f8 f9 f10 f11 f12
          go_wp2
          exact .mk (hE _ _ rfl hC1 rfl)
        · -- 15: Op.store 5 (Operand.tmp 27) (Operand.tmp 25)
          refine step_plain [(14, some 27), (11, some 25), (13, none), (0, some 14), (1, some 15), (2, some 16), (3, some 17), (4, some 18), (5, some 19), (6, some 20), (7, some 21), (8, some 22), (9, some 23), (10, some 24), (11, some 25), (12, some 26), (13, none)] (fun _ => rfl) rfl ?_
          intro w1 vals hC1 hi0 hf E hE
          clear hi0
          have f0 : vals 0 = .slice (some ⟨g, 0, none⟩) 32 c := hf 0 rfl
          have f1 : vals 1 = .int .i64 (k : Int) := hf 1 rfl
          have f2 : vals 2 = .slice (some ⟨g, 0, none⟩) 32 c := hf 2 rfl
          have f3 : vals 3 = .int .i64 (m : Int) := hf 3 rfl
          have f4 : vals 4 = .slice (some ⟨g, 0, none⟩) 32 c := hf 4 rfl
          have f5 : vals 5 = .int .i64 (m : Int) := hf 5 rfl
          have f6 : vals 6 = .pointer (some ⟨g, m, none⟩) := hf 6 rfl
          have f7 : vals 7 = .int .u8 (b : Int) := hf 7 rfl
          have f8 : vals 8 = .slice (some ⟨g, 0, none⟩) 32 c := hf 8 rfl
          have f9 : vals 9 = .int .i64 (k : Int) := hf 9 rfl
          have f10 : vals 10 = .pointer (some ⟨g, k, none⟩) := hf 10 rfl
          have f11 : vals 11 = .int .u8 (a : Int) := hf 11 rfl
          have f12 : vals 12 = .pointer (some ⟨g, k, none⟩) := hf 12 rfl
          have f13 : (fun z u => Blk u g t (bnV (R.set k b)).toArray) vals w1 := hf 13 rfl
          have f14 : vals 14 = .pointer (some ⟨g, m, none⟩) := hf 14 rfl
          try dsimp only at f0 f1 f2 f3 f4 f5 f6 f7 f8 f9 f10 f11 f12 f13 f14
          clear hf
          simp only [puts, act_put, act_put_none, List.setIfInBounds_toArray, List.set_cons_zero, List.set_cons_succ, f0, f1, f2, f3, f4, f5, f6, f7, f8, f9, f10, f11, f12, f14] at hE ⊢
          clear f0 f1 f2 f3 f4 f5 f6 f7 f8 f9 f10 f11 f12 f14
          refine wpList_put_cell (i := m) (v := .int .u8 (a : Int)) f13 rfl rfl rfl rfl u8_size (by rw [bnV_len, List.length_set, HRL.out]; have := HM.out; omega) rfl ?_
          intro w2 hb2 hw2
          rw [bnV_set] at hb2
          go_wp2_with fail
          exact .mk (hE undef _ hb2 (hC1.trans hw2) trivial)
      intro w1 vals hC1 hf
      have f0 : vals 0 = .slice (some ⟨g, 0, none⟩) 32 c := hf 0 (by decide) rfl
      have f1 : vals 1 = .int .i64 (k : Int) := hf 1 (by decide) rfl
      have f2 : vals 2 = .slice (some ⟨g, 0, none⟩) 32 c := hf 2 (by decide) rfl
      have f3 : vals 3 = .int .i64 (m : Int) := hf 3 (by decide) rfl
      have f4 : vals 4 = .slice (some ⟨g, 0, none⟩) 32 c := hf 4 (by decide) rfl
      have f5 : vals 5 = .int .i64 (m : Int) := hf 5 (by decide) rfl
      have f6 : vals 6 = .pointer (some ⟨g, m, none⟩) := hf 6 (by decide) rfl
      have f7 : vals 7 = .int .u8 (b : Int) := hf 7 (by decide) rfl
      have f8 : vals 8 = .slice (some ⟨g, 0, none⟩) 32 c := hf 8 (by decide) rfl
      have f9 : vals 9 = .int .i64 (k : Int) := hf 9 (by decide) rfl
      have f10 : vals 10 = .pointer (some ⟨g, k, none⟩) := hf 10 (by decide) rfl
      have f11 : vals 11 = .int .u8 (a : Int) := hf 11 (by decide) rfl
      have f12 : vals 12 = .pointer (some ⟨g, k, none⟩) := hf 12 (by decide) rfl
      have f14 : vals 14 = .pointer (some ⟨g, m, none⟩) := hf 14 (by decide) rfl
      have f15 : (fun z u => Blk u g t (bnV ((R.set k b).set m a)).toArray) vals w1 := hf 15 (by decide) rfl
      try dsimp only at f0 f1 f2 f3 f4 f5 f6 f7 f8 f9 f10 f11 f12 f14 f15
      clear hf
      simp only [puts, act_put, act_put_none, List.setIfInBounds_toArray, List.set_cons_zero, List.set_cons_succ, f0, f1, f2, f3, f4, f5, f6, f7, f8, f9, f10, f11, f12, f14]
      clear f0 f1 f2 f3 f4 f5 f6 f7 f8 f9 f10 f11 f12 f14
      rw [← HNEXT.out] at f15
      have HF := Lib.hid f15
      have HC1 := Lib.hid hC1
      clear hC1 f15 HC0 HI0
      have hm1 : (m : Int) - 1 = 31 - ((k + 1 : Nat) : Int) := by have := HM.out; have := HK.out; omega
      have HM1 := Lib.hid hm1
      clear hm1
      go_wp2_with fail
      exact ⟨⟨k + 1, HK.out, by go_num, by rw [HM1.out], HF.out, HWR.out.trans HC1.out⟩, by have := HK.out; simp [intOf]; omega⟩
    · obtain rfl : k = 16 := by omega
      have HF := Lib.hid hblk
      have HWR := Lib.hid hwr
      clear hblk hwr hlt hk
      go_wp2_with fail
      refine bodyPost_end (results_none rfl _ _ _) rfl ?_
      exact ⟨⟨_, rfl⟩, HF.out, HWR.out⟩
def toB (l : List Nat) : List UInt8 := l.map UInt8.ofNat
theorem toB_v {l : List Nat} (h : Dg l) : bytesV (toB l) = bnV l := by rw [← bnV_digs, toB, digs_ofNat l h]
/-- an element of 32 bytes, the highest first -/
def knownE (l : List Nat) : E5 := readE (toB (revS l 16))
theorem readE_ok (l : List UInt8) : (readE l).Ok := by
  unfold readE
  split
  · exact ofN_ok _
  · exact zE_ok
theorem knownE_ok (l : List Nat) : (knownE l).Ok := readE_ok _
set_option maxRecDepth 100000 in
set_option maxHeartbeats 2000000 in
theorem known_any (l : List Nat) (hd : Dg l) (hl : l.length = 32) (w : World) : Calls Try.prog 29 #[.agg (bnV l).toArray] w (ElemPost (knownE l) w) := by
  have hu := Try.underlying26
  obtain ⟨w0, hw0⟩ : ∃ w0, w0 = (w.alloc (.cells (bnV l).toArray 57)).alloc (.cells (eV zE) 26) := ⟨_, rfl⟩
  obtain ⟨R, hR⟩ : ∃ R, R = revS l 16 := ⟨_, rfl⟩
  have hRl : R.length = 32 := by rw [hR, revS_length]; exact hl
  have hbg : Blk w0 w.heap.size 57 (bnV l).toArray := by rw [hw0]; exact (Blk.new _ _ _).alloc _
  have hbr : Blk w0 (w.heap.size + 1) 26 (eV zE) := by rw [hw0]; exact Blk.newAt (by simp)
  have hbel : Below w.heap.size w w0 := by rw [hw0]; exact (below_new _ _).alloc (by simp) _
  have hrev := reverse_any l hl w.heap.size 57 32 w0 hbg
  rw [← hR] at hrev
  have hread : ∀ u g, Blk u g 57 (bnV R).toArray → Calls Try.prog 52 #[.slice (some ⟨g, 0, none⟩) 32 32] u (ReadPost (toB R) u) := fun u g hb => by
    have hv : bytesV (toB R) = bnV R := toB_v (by rw [hR]; exact revS_dg hd 16)
    have hlen : (toB R).length = 32 := by rw [toB, List.length_map, hRl]
    have h := read_any (toB R) (some ⟨g, 0, none⟩) 32 u (by rw [hv]; exact Rd.of_blk hb hb.lt) (by rw [hlen]; exact Nat.le_refl _) (by rw [hlen]; decide)
    rw [hlen] at h; exact h
  have HW := Lib.hid hw0
  have HREV := Lib.hid hrev
  have HREAD := Lib.hid hread
  have HBR := Lib.hid hbr
  have HBEL := Lib.hid hbel
  have HR := Lib.hid hR
  have hne : w.heap.size + 1 ≠ w.heap.size := by omega
  have HNE := Lib.hid hne
  have HLR := Lib.hid (show w.heap.size ≤ w.heap.size + 1 by omega)
  clear hw0 hRl hbg hbr hbel hrev hread hR hd hl hne
  generalize hcs : (bnV l).toArray = cs at *
  go_enter Try.func29, Try.ntmps29
  go_wp2_with fail
  show Calls _ _ _ ((w.alloc (.cells cs _)).alloc (.cells (eV zE) _)) _
  rw [← HW.out]
  generalize w.heap.size + 1 = r at *
  generalize hgg : w.heap.size = g at *
  have HG := Lib.hid hgg
  clear hgg HW
  refine calls_then HREV.out ?_
  rintro e w1 ⟨⟨v, rfl⟩, hb1, hw1⟩
  have HB1 := Lib.hid hb1
  have HBR1 := Lib.hid (hw1.blk HBR.out HNE.out)
  have HBEL1 := Lib.hid (hw1.below HBEL.out (Nat.le_refl _) (by have h := HBEL.out; rw [← HG.out] at h ⊢; exact h.size))
  clear hb1 hw1 HBR HBEL HREV
  go_wp2_with fail
  refine calls_then (HREAD.out w1 g HB1.out) ?_
  rintro e w2 ⟨rfl, hb2⟩
  have HGS : Hid (g ≤ w1.heap.size) := Lib.hid (by have h := HBEL1.out; rw [← HG.out] at h ⊢; exact h.size)
  have HBEL2 := Lib.hid (HBEL1.out.trans (hb2.mono HGS.out))
  have HBR2 := Lib.hid (HBR1.out.below hb2 HBR1.out.lt)
  clear hb2 HBEL1 HBR1
  go_wp2_with (first
    | (refine wpList_put_box (x := .tmp 4) (cells := eV (readE (toB R))) (Blk.new _ _ _) rfl rfl rfl rfl elem_size rfl (by simp [eV, wV, limbs, Value.oneCell']) ?_; intro w3 hb3 hw3; have HB3 := Lib.hid hb3; have HBR3 := Lib.hid (HBR2.out.below (box_low hw3) HBR2.out.lt); have HBEL3 := Lib.hid (HBEL2.out.trans ((box_low hw3).mono (by have h := HBEL2.out; rw [← HG.out] at h ⊢; exact h.size))); clear hb3 hw3)
    | (refine wpList_get_box (x := .tmp 4) HB3.out rfl rfl rfl hu rfl elem_size ?_)
    | (refine wpList_put_box (x := .tmp 2) (cells := eV (readE (toB R))) HBR3.out rfl rfl rfl rfl elem_size rfl (by simp [eV, wV, limbs, Value.oneCell']) ?_; intro w4 hb4 hw4; have HB4 := Lib.hid hb4; have HW4 := Lib.hid hw4; clear hb4 hw4))
  refine bodyPost_ret (results_box (P := Try.prog) rfl rfl HB4.out hu rfl elem_size) rfl ⟨by rw [knownE, ← HR.out], ?_⟩
  rw [HG.out]
  exact HW4.out.below HBEL3.out HLR.out (by have h := HBEL3.out; rw [← HG.out] at h ⊢; exact h.size)
end Go.Proofs.Ytbeokfpbhemcfaa
