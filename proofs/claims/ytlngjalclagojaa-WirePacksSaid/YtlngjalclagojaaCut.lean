/-
  Walks: brevetref12.Cut.
-/
import Derived.Test.YtlngjalclagojaaRefA
import Derived.Test.YtlngjalclagojaaBox
import Derived.Test.YtlngjalclagojaaRegion
import Derived.Test.YtlngjalclagojaaRefB
namespace Go.Proofs.Ytlngjalclagojaa
open Go.RowKit

def cutM (m : MsgD) : MsgD := ⟨m.kind, fewS m.src, fewS m.dst, m.seq, (m.fields.take 10).map fewS, fewS m.sig⟩
theorem sl_strs : SlT Try.prog 22 9 1 16 := SlT.mk1 (z := .string ⟨#[]⟩) Try.underlying22 (by kernel_rfl) rfl (by decide)


def CutPost (m : MsgD) (w : World) (e : Ending) (w' : World) : Prop :=
  ∃ A c, e = .returned (.agg (msgCells (cutM m) A c)) ∧ (cutM m).fields.length ≤ c ∧ OwnX w' w.heap.size 9 1 (.slice A (cutM m).fields.length c) (cutM m).fields.length (strsV (cutM m).fields) ∧ Below w.heap.size w w'

set_option maxHeartbeats 1000000 in
theorem cut_any (m : MsgD) (A : Option Addr) (c B : Nat) (w : World) (hr : Rd w B A (strsV m.fields)) (hB : B ≤ w.heap.size) (hc : m.fields.length ≤ c) (ok : MsgOk m) :
    Calls Try.prog 6 #[.agg (msgCells m A c)] w (CutPost m w) := by
  obtain ⟨W0, hW0⟩ : ∃ W0, W0 = ((w.alloc (.cells (msgCells m A c) 24)).alloc (.cells #[.int .i64 0, .string ⟨#[]⟩, .string ⟨#[]⟩, .int .i64 0, .slice none 0 0, .string ⟨#[]⟩] 24)) := ⟨_, rfl⟩
  have hb2 : Below w.heap.size w W0 := by rw [hW0]; exact ((Below.refl _ _).alloc (Nat.le_refl _) _).alloc (by simp) _
  have hbox : Blk W0 w.heap.size 24 (msgCells m A c) := by rw [hW0]; exact (Blk.new _ _ _).alloc _
  have hout : Blk W0 (w.heap.size + 1) 24 #[.int .i64 0, .string ⟨#[]⟩, .string ⟨#[]⟩, .int .i64 0, .slice none 0 0, .string ⟨#[]⟩] := by
    have := Blk.new (w.alloc (.cells (msgCells m A c) 24)) 24 #[.int .i64 0, .string ⟨#[]⟩, .string ⟨#[]⟩, .int .i64 0, .slice none 0 0, .string ⟨#[]⟩]
    rw [hW0]; simpa using this
  have hsz : W0.heap.size = w.heap.size + 2 := by rw [hW0]; simp
  have hcell : ∀ (u : World), Below W0.heap.size W0 u → ∀ i, u.cell? ⟨w.heap.size, i, none⟩ = (msgCells m A c)[i]? := fun u hu i => (hbox.below hu (by omega)).cell i
  have HC0 : Below W0.heap.size W0 W0.drew := (Below.refl _ _).drew
  have HR := Lib.hid hr
  have HB2 := Lib.hid hb2
  have HW0 := Lib.hid hW0
  have HS := Lib.hid hsz
  have HC := Lib.hid hcell
  have HO := Lib.hid hout
  clear hb2 hbox hsz hcell hout hr
  obtain ⟨kind, src, dst, seq, fields, sig⟩ := m
  obtain ⟨ok1, ok2, ok3, ok4, ok5⟩ := ok
  have HOK5 := Lib.hid ok5
  clear ok5
  dsimp only [msgCells] at *
  obtain ⟨S1, hS1⟩ : ∃ S, S = fewS src := ⟨_, rfl⟩
  obtain ⟨S2, hS2⟩ : ∃ S, S = fewS dst := ⟨_, rfl⟩
  obtain ⟨S3, hS3⟩ : ∃ S, S = fewS sig := ⟨_, rfl⟩
  have HS1 := Lib.hid hS1
  have HS2 := Lib.hid hS2
  have HS3 := Lib.hid hS3
  clear hS1 hS2 hS3
  go_enter Try.func6, Try.ntmps6
  go_wp2_with fail
  rw [show (w.alloc (.cells #[.int .i64 kind, .string src, .string dst, .int .i64 seq, .slice A fields.length c, .string sig] 24)).alloc (.cells #[.int .i64 0, .string ⟨#[]⟩, .string ⟨#[]⟩, .int .i64 0, .slice none 0 0, .string ⟨#[]⟩] 24) = W0 from hW0.symm]
  clear hW0
  refine wp_region_list (fun u => Below W0.heap.size W0 u) (fun | false => (fun _ => True) | true => (fun _ => True)) (fun | false, _ => false | true, _ => false)
    [fun z _ => z 0 = .pointer (some ⟨w.heap.size, 0, none⟩),
     fun z _ => z 1 = .int .i64 kind,
     fun z _ => z 2 = .pointer (some ⟨w.heap.size, 1, none⟩),
     fun z _ => z 3 = .string src,
     fun z _ => z 4 = .string S1,
     fun z _ => z 5 = .pointer (some ⟨w.heap.size, 2, none⟩),
     fun z _ => z 6 = .string dst,
     fun z _ => z 7 = .string S2,
     fun z _ => z 8 = .pointer (some ⟨w.heap.size, 3, none⟩),
     fun z _ => z 9 = .int .i64 seq,
     fun z _ => z 10 = .pointer (some ⟨w.heap.size, 5, none⟩),
     fun z _ => z 11 = .string sig,
     fun z _ => z 12 = .string S3,
     fun z _ => z 13 = .agg #[.int .i64 kind, .string S1, .string S2, .int .i64 seq, .slice none 0 0, .string S3],
     fun z u => ∃ g, z 14 = .pointer (some ⟨g, 0, none⟩) ∧ W0.heap.size ≤ g ∧ Blk u g 24 #[.int .i64 0, .string ⟨#[]⟩, .string ⟨#[]⟩, .int .i64 0, .slice none 0 0, .string ⟨#[]⟩],
     fun z u => ∃ g, z 14 = .pointer (some ⟨g, 0, none⟩) ∧ W0.heap.size ≤ g ∧ Blk u g 24 #[.int .i64 kind, .string S1, .string S2, .int .i64 seq, .slice none 0 0, .string S3]]
    [Eq, Eq, Eq, Eq, Eq, Eq, Eq, Eq, Eq, Eq, Eq, Eq, Eq, Eq, Alloc1, fun _ _ => True]
    (fun i k => (i == 15 && k == 14)) [(0, some 5), (1, some 6), (2, some 7), (3, some 8), (4, some 9), (5, some 10), (6, some 11), (7, some 12), (8, some 13), (9, some 14), (10, some 15), (11, some 16), (12, some 17), (13, some 18), (14, some 3), (15, none)] (by kernel_rfl) (by kernel_rfl) rfl (fun _ => rfl) ?_ ?_ ?_ ?_ ?_ ?_
  · exact HC0
  · intro m; cases m; exact trivial; exact trivial
  · intro m; cases m
    · exact ⟨.inr (fun _ _ h h0 => h ▸ h0), .inr (fun _ _ h h0 => h ▸ h0), .inr (fun _ _ h h0 => h ▸ h0), .inr (fun _ _ h h0 => h ▸ h0), .inr (fun _ _ h h0 => h ▸ h0), .inr (fun _ _ h h0 => h ▸ h0), .inr (fun _ _ h h0 => h ▸ h0), .inr (fun _ _ h h0 => h ▸ h0), .inr (fun _ _ h h0 => h ▸ h0), .inr (fun _ _ h h0 => h ▸ h0), .inr (fun _ _ h h0 => h ▸ h0), .inr (fun _ _ h h0 => h ▸ h0), .inr (fun _ _ h h0 => h ▸ h0), .inr (fun _ _ h h0 => h ▸ h0), .inr (fun _ _ _ h => h), .inr (fun _ _ _ h => h), trivial⟩
    · exact ⟨.inr (fun _ _ h h0 => h ▸ h0), .inr (fun _ _ h h0 => h ▸ h0), .inr (fun _ _ h h0 => h ▸ h0), .inr (fun _ _ h h0 => h ▸ h0), .inr (fun _ _ h h0 => h ▸ h0), .inr (fun _ _ h h0 => h ▸ h0), .inr (fun _ _ h h0 => h ▸ h0), .inr (fun _ _ h h0 => h ▸ h0), .inr (fun _ _ h h0 => h ▸ h0), .inr (fun _ _ h h0 => h ▸ h0), .inr (fun _ _ h h0 => h ▸ h0), .inr (fun _ _ h h0 => h ▸ h0), .inr (fun _ _ h h0 => h ▸ h0), .inr (fun _ _ h h0 => h ▸ h0), .inr (fun _ _ _ h => h), .inr (fun _ _ _ h => h), trivial⟩
  · exact ⟨⟨.inl rfl, .inr (.inr (.inl rfl)), .inr (.inr (.inr (fun _ _ _ _ _ h => h))), .inr (.inr (.inr (fun _ _ _ _ _ h => h))), .inr (.inr (.inr (fun _ _ _ _ _ h => h))), .inr (.inr (.inr (fun _ _ _ _ _ h => h))), .inr (.inr (.inr (fun _ _ _ _ _ h => h))), .inr (.inr (.inr (fun _ _ _ _ _ h => h))), .inr (.inr (.inr (fun _ _ _ _ _ h => h))), .inr (.inr (.inr (fun _ _ _ _ _ h => h))), .inr (.inr (.inr (fun _ _ _ _ _ h => h))), .inr (.inr (.inr (fun _ _ _ _ _ h => h))), .inr (.inr (.inr (fun _ _ _ _ _ h => h))), .inr (.inr (.inl rfl)), .inr (.inr (.inr (fun _ _ _ _ h h0 => by cases h; exact h0))), .inr (.inr (.inl rfl)), trivial⟩,
      ⟨.inr (.inr (.inr (fun _ _ _ _ _ h => h))), .inl rfl, .inr (.inr (.inr (fun _ _ _ _ _ h => h))), .inr (.inr (.inr (fun _ _ _ _ _ h => h))), .inr (.inr (.inr (fun _ _ _ _ _ h => h))), .inr (.inr (.inr (fun _ _ _ _ _ h => h))), .inr (.inr (.inr (fun _ _ _ _ _ h => h))), .inr (.inr (.inr (fun _ _ _ _ _ h => h))), .inr (.inr (.inr (fun _ _ _ _ _ h => h))), .inr (.inr (.inr (fun _ _ _ _ _ h => h))), .inr (.inr (.inr (fun _ _ _ _ _ h => h))), .inr (.inr (.inr (fun _ _ _ _ _ h => h))), .inr (.inr (.inr (fun _ _ _ _ _ h => h))), .inr (.inr (.inl rfl)), .inr (.inr (.inr (fun _ _ _ _ h h0 => by cases h; exact h0))), .inr (.inr (.inl rfl)), trivial⟩,
      ⟨.inr (.inr (.inr (fun _ _ _ _ _ h => h))), .inr (.inr (.inr (fun _ _ _ _ _ h => h))), .inl rfl, .inr (.inr (.inl rfl)), .inr (.inr (.inl rfl)), .inr (.inr (.inr (fun _ _ _ _ _ h => h))), .inr (.inr (.inr (fun _ _ _ _ _ h => h))), .inr (.inr (.inl rfl)), .inr (.inr (.inr (fun _ _ _ _ _ h => h))), .inr (.inr (.inr (fun _ _ _ _ _ h => h))), .inr (.inr (.inr (fun _ _ _ _ _ h => h))), .inr (.inr (.inr (fun _ _ _ _ _ h => h))), .inr (.inr (.inr (fun _ _ _ _ _ h => h))), .inr (.inr (.inl rfl)), .inr (.inr (.inr (fun _ _ _ _ h h0 => by cases h; exact h0))), .inr (.inr (.inl rfl)), trivial⟩,
      ⟨.inr (.inr (.inr (fun _ _ _ _ _ h => h))), .inr (.inr (.inr (fun _ _ _ _ _ h => h))), .inr (.inr (.inr (fun _ _ _ _ _ h => h))), .inl rfl, .inr (.inr (.inl rfl)), .inr (.inr (.inr (fun _ _ _ _ _ h => h))), .inr (.inr (.inr (fun _ _ _ _ _ h => h))), .inr (.inr (.inl rfl)), .inr (.inr (.inr (fun _ _ _ _ _ h => h))), .inr (.inr (.inr (fun _ _ _ _ _ h => h))), .inr (.inr (.inr (fun _ _ _ _ _ h => h))), .inr (.inr (.inr (fun _ _ _ _ _ h => h))), .inr (.inr (.inl rfl)), .inr (.inr (.inl rfl)), .inr (.inr (.inr (fun _ _ _ _ h h0 => by cases h; exact h0))), .inr (.inr (.inl rfl)), trivial⟩,
      ⟨.inr (.inr (.inr (fun _ _ _ _ _ h => h))), .inr (.inr (.inr (fun _ _ _ _ _ h => h))), .inr (.inr (.inr (fun _ _ _ _ _ h => h))), .inr (.inr (.inr (fun _ _ _ _ _ h => h))), .inl rfl, .inr (.inr (.inr (fun _ _ _ _ _ h => h))), .inr (.inr (.inr (fun _ _ _ _ _ h => h))), .inr (.inr (.inl rfl)), .inr (.inr (.inr (fun _ _ _ _ _ h => h))), .inr (.inr (.inr (fun _ _ _ _ _ h => h))), .inr (.inr (.inr (fun _ _ _ _ _ h => h))), .inr (.inr (.inr (fun _ _ _ _ _ h => h))), .inr (.inr (.inl rfl)), .inr (.inr (.inl rfl)), .inr (.inr (.inr (fun _ _ _ _ h h0 => by cases h; exact h0))), .inr (.inr (.inl rfl)), trivial⟩,
      ⟨.inr (.inr (.inr (fun _ _ _ _ _ h => h))), .inr (.inr (.inr (fun _ _ _ _ _ h => h))), .inr (.inr (.inr (fun _ _ _ _ _ h => h))), .inr (.inr (.inr (fun _ _ _ _ _ h => h))), .inr (.inr (.inr (fun _ _ _ _ _ h => h))), .inl rfl, .inr (.inr (.inl rfl)), .inr (.inr (.inl rfl)), .inr (.inr (.inr (fun _ _ _ _ _ h => h))), .inr (.inr (.inr (fun _ _ _ _ _ h => h))), .inr (.inr (.inr (fun _ _ _ _ _ h => h))), .inr (.inr (.inr (fun _ _ _ _ _ h => h))), .inr (.inr (.inl rfl)), .inr (.inr (.inl rfl)), .inr (.inr (.inr (fun _ _ _ _ h h0 => by cases h; exact h0))), .inr (.inr (.inl rfl)), trivial⟩,
      ⟨.inr (.inr (.inr (fun _ _ _ _ _ h => h))), .inr (.inr (.inr (fun _ _ _ _ _ h => h))), .inr (.inr (.inr (fun _ _ _ _ _ h => h))), .inr (.inr (.inr (fun _ _ _ _ _ h => h))), .inr (.inr (.inr (fun _ _ _ _ _ h => h))), .inr (.inr (.inr (fun _ _ _ _ _ h => h))), .inl rfl, .inr (.inr (.inl rfl)), .inr (.inr (.inr (fun _ _ _ _ _ h => h))), .inr (.inr (.inr (fun _ _ _ _ _ h => h))), .inr (.inr (.inr (fun _ _ _ _ _ h => h))), .inr (.inr (.inr (fun _ _ _ _ _ h => h))), .inr (.inr (.inl rfl)), .inr (.inr (.inl rfl)), .inr (.inr (.inr (fun _ _ _ _ h h0 => by cases h; exact h0))), .inr (.inr (.inl rfl)), trivial⟩,
      ⟨.inr (.inr (.inr (fun _ _ _ _ _ h => h))), .inr (.inr (.inr (fun _ _ _ _ _ h => h))), .inr (.inr (.inr (fun _ _ _ _ _ h => h))), .inr (.inr (.inr (fun _ _ _ _ _ h => h))), .inr (.inr (.inr (fun _ _ _ _ _ h => h))), .inr (.inr (.inr (fun _ _ _ _ _ h => h))), .inr (.inr (.inr (fun _ _ _ _ _ h => h))), .inl rfl, .inr (.inr (.inr (fun _ _ _ _ _ h => h))), .inr (.inr (.inr (fun _ _ _ _ _ h => h))), .inr (.inr (.inr (fun _ _ _ _ _ h => h))), .inr (.inr (.inr (fun _ _ _ _ _ h => h))), .inr (.inr (.inl rfl)), .inr (.inr (.inl rfl)), .inr (.inr (.inr (fun _ _ _ _ h h0 => by cases h; exact h0))), .inr (.inr (.inl rfl)), trivial⟩,
      ⟨.inr (.inr (.inr (fun _ _ _ _ _ h => h))), .inr (.inr (.inr (fun _ _ _ _ _ h => h))), .inr (.inr (.inr (fun _ _ _ _ _ h => h))), .inr (.inr (.inr (fun _ _ _ _ _ h => h))), .inr (.inr (.inr (fun _ _ _ _ _ h => h))), .inr (.inr (.inr (fun _ _ _ _ _ h => h))), .inr (.inr (.inr (fun _ _ _ _ _ h => h))), .inr (.inr (.inr (fun _ _ _ _ _ h => h))), .inl rfl, .inr (.inr (.inl rfl)), .inr (.inr (.inr (fun _ _ _ _ _ h => h))), .inr (.inr (.inr (fun _ _ _ _ _ h => h))), .inr (.inr (.inr (fun _ _ _ _ _ h => h))), .inr (.inr (.inl rfl)), .inr (.inr (.inr (fun _ _ _ _ h h0 => by cases h; exact h0))), .inr (.inr (.inl rfl)), trivial⟩,
      ⟨.inr (.inr (.inr (fun _ _ _ _ _ h => h))), .inr (.inr (.inr (fun _ _ _ _ _ h => h))), .inr (.inr (.inr (fun _ _ _ _ _ h => h))), .inr (.inr (.inr (fun _ _ _ _ _ h => h))), .inr (.inr (.inr (fun _ _ _ _ _ h => h))), .inr (.inr (.inr (fun _ _ _ _ _ h => h))), .inr (.inr (.inr (fun _ _ _ _ _ h => h))), .inr (.inr (.inr (fun _ _ _ _ _ h => h))), .inr (.inr (.inr (fun _ _ _ _ _ h => h))), .inl rfl, .inr (.inr (.inr (fun _ _ _ _ _ h => h))), .inr (.inr (.inr (fun _ _ _ _ _ h => h))), .inr (.inr (.inr (fun _ _ _ _ _ h => h))), .inr (.inr (.inl rfl)), .inr (.inr (.inr (fun _ _ _ _ h h0 => by cases h; exact h0))), .inr (.inr (.inl rfl)), trivial⟩,
      ⟨.inr (.inr (.inr (fun _ _ _ _ _ h => h))), .inr (.inr (.inr (fun _ _ _ _ _ h => h))), .inr (.inr (.inr (fun _ _ _ _ _ h => h))), .inr (.inr (.inr (fun _ _ _ _ _ h => h))), .inr (.inr (.inr (fun _ _ _ _ _ h => h))), .inr (.inr (.inr (fun _ _ _ _ _ h => h))), .inr (.inr (.inr (fun _ _ _ _ _ h => h))), .inr (.inr (.inr (fun _ _ _ _ _ h => h))), .inr (.inr (.inr (fun _ _ _ _ _ h => h))), .inr (.inr (.inr (fun _ _ _ _ _ h => h))), .inl rfl, .inr (.inr (.inl rfl)), .inr (.inr (.inl rfl)), .inr (.inr (.inl rfl)), .inr (.inr (.inr (fun _ _ _ _ h h0 => by cases h; exact h0))), .inr (.inr (.inl rfl)), trivial⟩,
      ⟨.inr (.inr (.inr (fun _ _ _ _ _ h => h))), .inr (.inr (.inr (fun _ _ _ _ _ h => h))), .inr (.inr (.inr (fun _ _ _ _ _ h => h))), .inr (.inr (.inr (fun _ _ _ _ _ h => h))), .inr (.inr (.inr (fun _ _ _ _ _ h => h))), .inr (.inr (.inr (fun _ _ _ _ _ h => h))), .inr (.inr (.inr (fun _ _ _ _ _ h => h))), .inr (.inr (.inr (fun _ _ _ _ _ h => h))), .inr (.inr (.inr (fun _ _ _ _ _ h => h))), .inr (.inr (.inr (fun _ _ _ _ _ h => h))), .inr (.inr (.inr (fun _ _ _ _ _ h => h))), .inl rfl, .inr (.inr (.inl rfl)), .inr (.inr (.inl rfl)), .inr (.inr (.inr (fun _ _ _ _ h h0 => by cases h; exact h0))), .inr (.inr (.inl rfl)), trivial⟩,
      ⟨.inr (.inr (.inr (fun _ _ _ _ _ h => h))), .inr (.inr (.inr (fun _ _ _ _ _ h => h))), .inr (.inr (.inr (fun _ _ _ _ _ h => h))), .inr (.inr (.inr (fun _ _ _ _ _ h => h))), .inr (.inr (.inr (fun _ _ _ _ _ h => h))), .inr (.inr (.inr (fun _ _ _ _ _ h => h))), .inr (.inr (.inr (fun _ _ _ _ _ h => h))), .inr (.inr (.inr (fun _ _ _ _ _ h => h))), .inr (.inr (.inr (fun _ _ _ _ _ h => h))), .inr (.inr (.inr (fun _ _ _ _ _ h => h))), .inr (.inr (.inr (fun _ _ _ _ _ h => h))), .inr (.inr (.inr (fun _ _ _ _ _ h => h))), .inl rfl, .inr (.inr (.inl rfl)), .inr (.inr (.inr (fun _ _ _ _ h h0 => by cases h; exact h0))), .inr (.inr (.inl rfl)), trivial⟩,
      ⟨.inr (.inr (.inr (fun _ _ _ _ _ h => h))), .inr (.inr (.inr (fun _ _ _ _ _ h => h))), .inr (.inr (.inr (fun _ _ _ _ _ h => h))), .inr (.inr (.inr (fun _ _ _ _ _ h => h))), .inr (.inr (.inr (fun _ _ _ _ _ h => h))), .inr (.inr (.inr (fun _ _ _ _ _ h => h))), .inr (.inr (.inr (fun _ _ _ _ _ h => h))), .inr (.inr (.inr (fun _ _ _ _ _ h => h))), .inr (.inr (.inr (fun _ _ _ _ _ h => h))), .inr (.inr (.inr (fun _ _ _ _ _ h => h))), .inr (.inr (.inr (fun _ _ _ _ _ h => h))), .inr (.inr (.inr (fun _ _ _ _ _ h => h))), .inr (.inr (.inr (fun _ _ _ _ _ h => h))), .inl rfl, .inr (.inr (.inr (fun _ _ _ _ h h0 => by cases h; exact h0))), .inr (.inr (.inl rfl)), trivial⟩,
      ⟨.inr (.inr (.inr (fun _ _ _ _ _ h => h))), .inr (.inr (.inr (fun _ _ _ _ _ h => h))), .inr (.inr (.inr (fun _ _ _ _ _ h => h))), .inr (.inr (.inr (fun _ _ _ _ _ h => h))), .inr (.inr (.inr (fun _ _ _ _ _ h => h))), .inr (.inr (.inr (fun _ _ _ _ _ h => h))), .inr (.inr (.inr (fun _ _ _ _ _ h => h))), .inr (.inr (.inr (fun _ _ _ _ _ h => h))), .inr (.inr (.inr (fun _ _ _ _ _ h => h))), .inr (.inr (.inr (fun _ _ _ _ _ h => h))), .inr (.inr (.inr (fun _ _ _ _ _ h => h))), .inr (.inr (.inr (fun _ _ _ _ _ h => h))), .inr (.inr (.inr (fun _ _ _ _ _ h => h))), .inr (.inr (.inr (fun _ _ _ _ _ h => h))), .inl rfl, .inr (.inr (.inl rfl)), trivial⟩,
      ⟨.inr (.inr (.inr (fun _ _ _ _ _ h => h))), .inr (.inr (.inr (fun _ _ _ _ _ h => h))), .inr (.inr (.inr (fun _ _ _ _ _ h => h))), .inr (.inr (.inr (fun _ _ _ _ _ h => h))), .inr (.inr (.inr (fun _ _ _ _ _ h => h))), .inr (.inr (.inr (fun _ _ _ _ _ h => h))), .inr (.inr (.inr (fun _ _ _ _ _ h => h))), .inr (.inr (.inr (fun _ _ _ _ _ h => h))), .inr (.inr (.inr (fun _ _ _ _ _ h => h))), .inr (.inr (.inr (fun _ _ _ _ _ h => h))), .inr (.inr (.inr (fun _ _ _ _ _ h => h))), .inr (.inr (.inr (fun _ _ _ _ _ h => h))), .inr (.inr (.inr (fun _ _ _ _ _ h => h))), .inr (.inr (.inr (fun _ _ _ _ _ h => h))), .inr (.inl rfl), .inl rfl, trivial⟩, trivial⟩
  · refine ⟨?_, ?_, ?_, ?_, ?_, ?_, ?_, ?_, ?_, ?_, ?_, ?_, ?_, ?_, ?_, ?_, trivial⟩
    · -- 0: Op.fieldAddr 24 (Operand.tmp 1) 0
      refine step_plain [] (fun _ => rfl) rfl ?_
      intro w1 vals hC1 hi0 hf E hE
      clear hi0
      clear hf
      simp only [puts, act_put, act_put_none, List.setIfInBounds_toArray, List.set_cons_zero, List.set_cons_succ] at hE ⊢
      go_wp2
      exact .mk (hE _ _ rfl hC1 rfl)
    · -- 1: Op.load 3 (Operand.tmp 5)
      refine step_plain [(0, some 5)] (fun _ => rfl) rfl ?_
      intro w1 vals hC1 hi0 hf E hE
      clear hi0
      have f0 : vals 0 = .pointer (some ⟨w.heap.size, 0, none⟩) := hf 0 rfl
      try dsimp only at f0
      clear hf
      have hc0 := HC.out w1 hC1 0
      simp at hc0
      simp only [puts, act_put, act_put_none, List.setIfInBounds_toArray, List.set_cons_zero, List.set_cons_succ, f0] at hE ⊢
      clear f0
      go_wp2
      exact .mk (hE _ _ rfl hC1 rfl)
    · -- 2: Op.fieldAddr 24 (Operand.tmp 1) 1
      refine step_plain [] (fun _ => rfl) rfl ?_
      intro w1 vals hC1 hi0 hf E hE
      clear hi0
      clear hf
      simp only [puts, act_put, act_put_none, List.setIfInBounds_toArray, List.set_cons_zero, List.set_cons_succ] at hE ⊢
      go_wp2
      exact .mk (hE _ _ rfl hC1 rfl)
    · -- 3: Op.load 9 (Operand.tmp 7)
      refine step_plain [(2, some 7)] (fun _ => rfl) rfl ?_
      intro w1 vals hC1 hi0 hf E hE
      clear hi0
      have f2 : vals 2 = .pointer (some ⟨w.heap.size, 1, none⟩) := hf 2 rfl
      try dsimp only at f2
      clear hf
      have hc0 := HC.out w1 hC1 1
      simp at hc0
      simp only [puts, act_put, act_put_none, List.setIfInBounds_toArray, List.set_cons_zero, List.set_cons_succ, f2] at hE ⊢
      clear f2
      go_wp2
      exact .mk (hE _ _ rfl hC1 rfl)
    · -- 4: Op.call { callee := Callee.value (Operand.func 16), args := #[Operand.tmp 8], argTypes := #[9] }
      refine step_plain [(3, some 8)] (fun _ => rfl) rfl ?_
      intro w1 vals hC1 hi0 hf E hE
      clear hi0
      have f3 : vals 3 = .string src := hf 3 rfl
      try dsimp only at f3
      clear hf
      simp only [puts, act_put, act_put_none, List.setIfInBounds_toArray, List.set_cons_zero, List.set_cons_succ, f3] at hE ⊢
      clear f3
      go_wp2_with fail
      refine calls_then (few_any src _ ok1) ?_
      rintro e w2 ⟨rfl, rfl⟩
      rw [← HS1.out]
      go_wp2_with fail
      exact .mk (hE _ _ rfl hC1 rfl)
    · -- 5: Op.fieldAddr 24 (Operand.tmp 1) 2
      refine step_plain [] (fun _ => rfl) rfl ?_
      intro w1 vals hC1 hi0 hf E hE
      clear hi0
      clear hf
      simp only [puts, act_put, act_put_none, List.setIfInBounds_toArray, List.set_cons_zero, List.set_cons_succ] at hE ⊢
      go_wp2
      exact .mk (hE _ _ rfl hC1 rfl)
    · -- 6: Op.load 9 (Operand.tmp 10)
      refine step_plain [(5, some 10)] (fun _ => rfl) rfl ?_
      intro w1 vals hC1 hi0 hf E hE
      clear hi0
      have f5 : vals 5 = .pointer (some ⟨w.heap.size, 2, none⟩) := hf 5 rfl
      try dsimp only at f5
      clear hf
      have hc0 := HC.out w1 hC1 2
      simp at hc0
      simp only [puts, act_put, act_put_none, List.setIfInBounds_toArray, List.set_cons_zero, List.set_cons_succ, f5] at hE ⊢
      clear f5
      go_wp2
      exact .mk (hE _ _ rfl hC1 rfl)
    · -- 7: Op.call { callee := Callee.value (Operand.func 16), args := #[Operand.tmp 11], argTypes := #[9] }
      refine step_plain [(6, some 11), (4, some 9)] (fun _ => rfl) rfl ?_
      intro w1 vals hC1 hi0 hf E hE
      clear hi0
      have f4 : vals 4 = .string S1 := hf 4 rfl
      have f6 : vals 6 = .string dst := hf 6 rfl
      try dsimp only at f4 f6
      clear hf
      simp only [puts, act_put, act_put_none, List.setIfInBounds_toArray, List.set_cons_zero, List.set_cons_succ, f4, f6] at hE ⊢
      clear f4 f6
      go_wp2_with fail
      refine calls_then (few_any dst _ ok2) ?_
      rintro e w2 ⟨rfl, rfl⟩
      rw [← HS2.out]
      go_wp2_with fail
      exact .mk (hE _ _ rfl hC1 rfl)
    · -- 8: Op.fieldAddr 24 (Operand.tmp 1) 3
      refine step_plain [] (fun _ => rfl) rfl ?_
      intro w1 vals hC1 hi0 hf E hE
      clear hi0
      clear hf
      simp only [puts, act_put, act_put_none, List.setIfInBounds_toArray, List.set_cons_zero, List.set_cons_succ] at hE ⊢
      go_wp2
      exact .mk (hE _ _ rfl hC1 rfl)
    · -- 9: Op.load 3 (Operand.tmp 13)
      refine step_plain [(8, some 13)] (fun _ => rfl) rfl ?_
      intro w1 vals hC1 hi0 hf E hE
      clear hi0
      have f8 : vals 8 = .pointer (some ⟨w.heap.size, 3, none⟩) := hf 8 rfl
      try dsimp only at f8
      clear hf
      have hc0 := HC.out w1 hC1 3
      simp at hc0
      simp only [puts, act_put, act_put_none, List.setIfInBounds_toArray, List.set_cons_zero, List.set_cons_succ, f8] at hE ⊢
      clear f8
      go_wp2
      exact .mk (hE _ _ rfl hC1 rfl)
    · -- 10: Op.fieldAddr 24 (Operand.tmp 1) 5
      refine step_plain [] (fun _ => rfl) rfl ?_
      intro w1 vals hC1 hi0 hf E hE
      clear hi0
      clear hf
      simp only [puts, act_put, act_put_none, List.setIfInBounds_toArray, List.set_cons_zero, List.set_cons_succ] at hE ⊢
      go_wp2
      exact .mk (hE _ _ rfl hC1 rfl)
    · -- 11: Op.load 9 (Operand.tmp 15)
      refine step_plain [(10, some 15)] (fun _ => rfl) rfl ?_
      intro w1 vals hC1 hi0 hf E hE
      clear hi0
      have f10 : vals 10 = .pointer (some ⟨w.heap.size, 5, none⟩) := hf 10 rfl
      try dsimp only at f10
      clear hf
      have hc0 := HC.out w1 hC1 5
      simp at hc0
      simp only [puts, act_put, act_put_none, List.setIfInBounds_toArray, List.set_cons_zero, List.set_cons_succ, f10] at hE ⊢
      clear f10
      go_wp2
      exact .mk (hE _ _ rfl hC1 rfl)
    · -- 12: Op.call { callee := Callee.value (Operand.func 16), args := #[Operand.tmp 16], argTypes := #[9] }
      refine step_plain [(11, some 16), (7, some 12)] (fun _ => rfl) rfl ?_
      intro w1 vals hC1 hi0 hf E hE
      clear hi0
      have f7 : vals 7 = .string S2 := hf 7 rfl
      have f11 : vals 11 = .string sig := hf 11 rfl
      try dsimp only at f7 f11
      clear hf
      simp only [puts, act_put, act_put_none, List.setIfInBounds_toArray, List.set_cons_zero, List.set_cons_succ, f7, f11] at hE ⊢
      clear f7 f11
      go_wp2_with fail
      refine calls_then (few_any sig _ ok3) ?_
      rintro e w2 ⟨rfl, rfl⟩
      rw [← HS3.out]
      go_wp2_with fail
      exact .mk (hE _ _ rfl hC1 rfl)
    · -- 13: Op.build 24 #[(0, Operand.tmp 6), (1, Operand.tmp 9), (2, Operand.tmp 12), (3, Operand.tmp 14), (5, Operand.tm
      refine step_plain [(1, some 6), (4, some 9), (7, some 12), (9, some 14), (12, some 17)] (fun _ => rfl) rfl ?_
      intro w1 vals hC1 hi0 hf E hE
      clear hi0
      have f1 : vals 1 = .int .i64 kind := hf 1 rfl
      have f4 : vals 4 = .string S1 := hf 4 rfl
      have f7 : vals 7 = .string S2 := hf 7 rfl
      have f9 : vals 9 = .int .i64 seq := hf 9 rfl
      have f12 : vals 12 = .string S3 := hf 12 rfl
      try dsimp only at f1 f4 f7 f9 f12
      clear hf
      simp only [puts, act_put, act_put_none, List.setIfInBounds_toArray, List.set_cons_zero, List.set_cons_succ, f1, f4, f7, f9, f12] at hE ⊢
      clear f1 f4 f7 f9 f12
      go_wp2
      exact .mk (hE _ _ rfl hC1 rfl)
    · -- 14: Op.alloc 24
      refine step_plain [] (fun _ => rfl) rfl ?_
      intro w1 vals hC1 hi0 hf E hE
      clear hi0
      clear hf
      simp only [puts, act_put, act_put_none, List.setIfInBounds_toArray, List.set_cons_zero, List.set_cons_succ] at hE ⊢
      go_wp2
      exact .mk (hE _ _ ⟨_, rfl, hC1.size, heap_alloc_new _ _⟩ (hC1.alloc hC1.size _) ⟨_, rfl⟩)
    · -- 15: Op.store 24 (Operand.tmp 3) (Operand.tmp 18)
      refine step_plain [(14, some 3), (13, some 18), (12, some 17), (0, some 5), (1, some 6), (2, some 7), (3, some 8), (4, some 9), (5, some 10), (6, some 11), (7, some 12), (8, some 13), (9, some 14), (10, some 15), (11, some 16), (12, some 17), (13, some 18), (14, some 3)] (fun _ => rfl) rfl ?_
      intro w1 vals hC1 hi0 hf E hE
      clear hi0
      have f0 : vals 0 = .pointer (some ⟨w.heap.size, 0, none⟩) := hf 0 rfl
      have f1 : vals 1 = .int .i64 kind := hf 1 rfl
      have f2 : vals 2 = .pointer (some ⟨w.heap.size, 1, none⟩) := hf 2 rfl
      have f3 : vals 3 = .string src := hf 3 rfl
      have f4 : vals 4 = .string S1 := hf 4 rfl
      have f5 : vals 5 = .pointer (some ⟨w.heap.size, 2, none⟩) := hf 5 rfl
      have f6 : vals 6 = .string dst := hf 6 rfl
      have f7 : vals 7 = .string S2 := hf 7 rfl
      have f8 : vals 8 = .pointer (some ⟨w.heap.size, 3, none⟩) := hf 8 rfl
      have f9 : vals 9 = .int .i64 seq := hf 9 rfl
      have f10 : vals 10 = .pointer (some ⟨w.heap.size, 5, none⟩) := hf 10 rfl
      have f11 : vals 11 = .string sig := hf 11 rfl
      have f12 : vals 12 = .string S3 := hf 12 rfl
      have f13 : vals 13 = .agg #[.int .i64 kind, .string S1, .string S2, .int .i64 seq, .slice none 0 0, .string S3] := hf 13 rfl
      have f14 : (fun z u => ∃ g, z 14 = .pointer (some ⟨g, 0, none⟩) ∧ W0.heap.size ≤ g ∧ Blk u g 24 #[.int .i64 0, .string ⟨#[]⟩, .string ⟨#[]⟩, .int .i64 0, .slice none 0 0, .string ⟨#[]⟩]) vals w1 := hf 14 rfl
      try dsimp only at f0 f1 f2 f3 f4 f5 f6 f7 f8 f9 f10 f11 f12 f13 f14
      clear hf
      obtain ⟨g, hx, hg1, hg2⟩ := f14
      have hx' := Lib.hid hx
      simp only [puts, act_put, act_put_none, List.setIfInBounds_toArray, List.set_cons_zero, List.set_cons_succ, f0, f1, f2, f3, f4, f5, f6, f7, f8, f9, f10, f11, f12, f13, hx] at hE ⊢
      clear f0 f1 f2 f3 f4 f5 f6 f7 f8 f9 f10 f11 f12 f13
      clear hx
      refine wpList_put_box hg2 rfl rfl rfl rfl msg_size rfl (by simp [Value.oneCell']) ?_
      intro w2 hb2 hw2
      go_wp2_with fail
      exact .mk (hE undef _ ⟨g, hx'.out, hg1, hb2⟩ (hw2.below hC1 hg1 hC1.size) trivial)
  intro w1 vals hC1 hf
  have f0 : vals 0 = .pointer (some ⟨w.heap.size, 0, none⟩) := hf 0 (by decide) rfl
  have f1 : vals 1 = .int .i64 kind := hf 1 (by decide) rfl
  have f2 : vals 2 = .pointer (some ⟨w.heap.size, 1, none⟩) := hf 2 (by decide) rfl
  have f3 : vals 3 = .string src := hf 3 (by decide) rfl
  have f4 : vals 4 = .string S1 := hf 4 (by decide) rfl
  have f5 : vals 5 = .pointer (some ⟨w.heap.size, 2, none⟩) := hf 5 (by decide) rfl
  have f6 : vals 6 = .string dst := hf 6 (by decide) rfl
  have f7 : vals 7 = .string S2 := hf 7 (by decide) rfl
  have f8 : vals 8 = .pointer (some ⟨w.heap.size, 3, none⟩) := hf 8 (by decide) rfl
  have f9 : vals 9 = .int .i64 seq := hf 9 (by decide) rfl
  have f10 : vals 10 = .pointer (some ⟨w.heap.size, 5, none⟩) := hf 10 (by decide) rfl
  have f11 : vals 11 = .string sig := hf 11 (by decide) rfl
  have f12 : vals 12 = .string S3 := hf 12 (by decide) rfl
  have f13 : vals 13 = .agg #[.int .i64 kind, .string S1, .string S2, .int .i64 seq, .slice none 0 0, .string S3] := hf 13 (by decide) rfl
  have f15 : (fun z u => ∃ g, z 14 = .pointer (some ⟨g, 0, none⟩) ∧ W0.heap.size ≤ g ∧ Blk u g 24 #[.int .i64 kind, .string S1, .string S2, .int .i64 seq, .slice none 0 0, .string S3]) vals w1 := hf 15 (by decide) rfl
  try dsimp only at f0 f1 f2 f3 f4 f5 f6 f7 f8 f9 f10 f11 f12 f13 f15
  clear hf
  simp only [puts, act_put, act_put_none, List.setIfInBounds_toArray, List.set_cons_zero, List.set_cons_succ, f0, f1, f2, f3, f4, f5, f6, f7, f8, f9, f10, f11, f12, f13]
  clear f0 f1 f2 f3 f4 f5 f6 f7 f8 f9 f10 f11 f12 f13
  generalize vals 14 = x14 at *
  obtain ⟨g, hx, hg1, hb1⟩ := f15
  rw [hx] at *
  clear hx
  go_wp2_with fail
  go_loopw [4] (fun i wr => ∃ (k : Nat) (A1 : Option Addr) (c1 : Nat), k ≤ fields.length ∧ k ≤ 10 ∧ i = .int .i64 k ∧ k ≤ c1 ∧ OwnX wr W0.heap.size 9 1 (.slice A1 k c1) k (strsV ((fields.take k).map fewS)) ∧
      Blk wr g 24 #[.int .i64 kind, .string S1, .string S2, .int .i64 seq, .slice A1 k c1, .string S3] ∧ Below W0.heap.size W0 wr) (fun i _ => 10 - (intOf i).toNat)
  case atStart => exact ⟨0, none, 0, by omega, by omega, rfl, by omega, OwnX.nil _ _ _ _, hb1, hC1⟩
  case round =>
    obtain ⟨k, A1, c1, hk, hk10, rfl, hkc, hown1, hbk, hC2⟩ := hrel
    have hc4 := HC.out wr hC2 4
    simp at hc4
    by_cases hlt : k < fields.length
    · by_cases hlt10 : k < 10
      · obtain ⟨ad, rfl, hadB, hcl⟩ := HR.out.at_ (k := k) (by rw [strsV_length]; exact hlt)
        simp only [strsV, List.getElem_map] at hcl
        have hcr : ∀ u : World, Below W0.heap.size W0 u → u.cell? (ad.add k) = some (.string fields[k]) := fun u hu => by
          rw [← hcl]
          have h1 := (hu.cell (p := ad.add k) (by rw [block_of_add]; have := HS.out; omega))
          rw [h1]
          exact HB2.out.cell (p := ad.add k) (by rw [block_of_add]; omega)
        have HCR := Lib.hid hcr
        have hsz := HOK5.out _ (List.getElem_mem hlt)
        have hi1 : (0 : Int) ≤ (k : Int) := by omega
        have hi2 : (k : Int) < (fields.length : Int) := by omega
        have hd10 : decide ((k : Int) < 10) = true := by simp; omega
        obtain ⟨F, hF⟩ : ∃ F, F = fields[k] := ⟨_, rfl⟩
        rw [← hF] at hsz
        have HF := Lib.hid hF
        obtain ⟨Y, hY⟩ : ∃ Y, Y = fewS F := ⟨_, rfl⟩
        have HY := Lib.hid hY
        clear hcr hY hcl hF
        go_wp2_with fail
        have HC0 : Below W0.heap.size W0 wr.drew := hC2.drew
        have HI0 : Blk wr.drew g 24 #[.int .i64 kind, .string S1, .string S2, .int .i64 seq, .slice A1 k c1, .string S3] ∧ OwnX wr.drew W0.heap.size 9 1 (.slice A1 k c1) k (strsV ((fields.take k).map fewS)) := ⟨hbk, hown1⟩
        have hsz2 : strsV ((fields.take (k + 1)).map fewS) = strsV ((fields.take k).map fewS) ++ [.string Y] := by
          rw [List.take_succ_eq_append_getElem hlt, HY.out, HF.out, List.map_append]
          simp only [strsV, List.map_append]
          rfl
        have HT := Lib.hid hsz2
        clear hsz2 hbk hown1 hC2 hb1 hC1 hc4
        refine wp_region_list (fun u => Below W0.heap.size W0 u) (fun | false => (fun u => Blk u g 24 #[.int .i64 kind, .string S1, .string S2, .int .i64 seq, .slice A1 k c1, .string S3] ∧ OwnX u W0.heap.size 9 1 (.slice A1 k c1) k (strsV ((fields.take k).map fewS))) | true => (fun _ => True)) (fun | false, i => i == 9 || i == 11 | true, _ => false)
          [fun z u => z 0 = .pointer (some ⟨g, 4, none⟩) ∧ Blk u g 24 #[.int .i64 kind, .string S1, .string S2, .int .i64 seq, .slice A1 k c1, .string S3],
           fun z _ => z 1 = .slice A1 k c1,
           fun z _ => z 2 = .pointer (some ⟨w.heap.size, 4, none⟩),
           fun z _ => z 3 = .slice (some ad) fields.length c,
           fun z _ => z 4 = .int .i64 k,
           fun z _ => z 5 = .pointer (some (ad.add k)),
           fun z _ => z 6 = .string F,
           fun z _ => z 7 = .string Y,
           fun z u => (One 9 (.string Y)) (z 8) u,
           fun z u => ∃ A2 c2, z 9 = .slice A2 (k + 1) c2 ∧ k + 1 ≤ c2 ∧ OwnX u W0.heap.size 9 1 (.slice A2 (k + 1) c2) (k + 1) (strsV ((fields.take (k + 1)).map fewS)),
           fun z _ => z 10 = .pointer (some ⟨g, 4, none⟩),
           fun z u => ∃ A2 c2, k + 1 ≤ c2 ∧ OwnX u W0.heap.size 9 1 (.slice A2 (k + 1) c2) (k + 1) (strsV ((fields.take (k + 1)).map fewS)) ∧ Blk u g 24 #[.int .i64 kind, .string S1, .string S2, .int .i64 seq, .slice A2 (k + 1) c2, .string S3]]
          [Eq, Eq, Eq, Eq, Eq, Eq, Eq, Eq, Alloc1, KeepBut 9, Eq, fun _ _ => True]
          (fun i k => (i == 9 && k == 8) || (i == 11 && k == 0) || (i == 11 && k == 8) || (i == 11 && k == 9)) [(0, some 30), (1, some 31), (2, some 32), (3, some 33), (4, some 34), (5, some 35), (6, some 36), (7, some 37), (8, some 38), (9, some 39), (10, some 40), (11, none)] (by kernel_rfl) (by kernel_rfl) rfl (fun _ => rfl) ?_ ?_ ?_ ?_ ?_ ?_
        · exact HC0
        · intro m; cases m; exact HI0; exact trivial
        · intro m; cases m
          · exact ⟨.inr (fun _ _ h h0 => h ▸ h0), .inr (fun _ _ h h0 => h ▸ h0), .inr (fun _ _ h h0 => h ▸ h0), .inr (fun _ _ h h0 => h ▸ h0), .inr (fun _ _ h h0 => h ▸ h0), .inr (fun _ _ h h0 => h ▸ h0), .inr (fun _ _ h h0 => h ▸ h0), .inr (fun _ _ h h0 => h ▸ h0), .inr (fun _ _ h h0 => ⟨h0.1.alloc1 h, own_alloc1 h h0.2⟩), .inl rfl, .inr (fun _ _ h h0 => h ▸ h0), .inl rfl, trivial⟩
          · exact ⟨.inr (fun _ _ h h0 => h ▸ h0), .inr (fun _ _ h h0 => h ▸ h0), .inr (fun _ _ h h0 => h ▸ h0), .inr (fun _ _ h h0 => h ▸ h0), .inr (fun _ _ h h0 => h ▸ h0), .inr (fun _ _ h h0 => h ▸ h0), .inr (fun _ _ h h0 => h ▸ h0), .inr (fun _ _ h h0 => h ▸ h0), .inr (fun _ _ _ h => h), .inr (fun _ _ _ h => h), .inr (fun _ _ h h0 => h ▸ h0), .inr (fun _ _ _ h => h), trivial⟩
        · exact ⟨⟨.inl rfl, .inr (.inr (.inl rfl)), .inr (.inr (.inr (fun _ _ _ _ _ h => h))), .inr (.inr (.inr (fun _ _ _ _ _ h => h))), .inr (.inr (.inr (fun _ _ _ _ _ h => h))), .inr (.inr (.inr (fun _ _ _ _ _ h => h))), .inr (.inr (.inr (fun _ _ _ _ _ h => h))), .inr (.inr (.inr (fun _ _ _ _ _ h => h))), .inr (.inr (.inr (fun _ _ _ _ h h0 => by cases h; exact h0))), .inr (.inr (.inl rfl)), .inr (.inr (.inl rfl)), .inr (.inr (.inl rfl)), trivial⟩,
            ⟨.inr (.inr (.inr (fun _ _ _ _ h h0 => by cases h; exact h0))), .inl rfl, .inr (.inr (.inr (fun _ _ _ _ _ h => h))), .inr (.inr (.inr (fun _ _ _ _ _ h => h))), .inr (.inr (.inr (fun _ _ _ _ _ h => h))), .inr (.inr (.inr (fun _ _ _ _ _ h => h))), .inr (.inr (.inr (fun _ _ _ _ _ h => h))), .inr (.inr (.inr (fun _ _ _ _ _ h => h))), .inr (.inr (.inr (fun _ _ _ _ h h0 => by cases h; exact h0))), .inr (.inr (.inl rfl)), .inr (.inr (.inl rfl)), .inr (.inr (.inl rfl)), trivial⟩,
            ⟨.inr (.inr (.inr (fun _ _ _ _ h h0 => by cases h; exact h0))), .inr (.inr (.inr (fun _ _ _ _ _ h => h))), .inl rfl, .inr (.inr (.inl rfl)), .inr (.inr (.inr (fun _ _ _ _ _ h => h))), .inr (.inr (.inl rfl)), .inr (.inr (.inl rfl)), .inr (.inr (.inr (fun _ _ _ _ _ h => h))), .inr (.inr (.inr (fun _ _ _ _ h h0 => by cases h; exact h0))), .inr (.inr (.inr (fun _ _ _ _ h h0 => by cases h; exact h0))), .inr (.inr (.inl rfl)), .inr (.inr (.inl rfl)), trivial⟩,
            ⟨.inr (.inr (.inr (fun _ _ _ _ h h0 => by cases h; exact h0))), .inr (.inr (.inr (fun _ _ _ _ _ h => h))), .inr (.inr (.inr (fun _ _ _ _ _ h => h))), .inl rfl, .inr (.inr (.inr (fun _ _ _ _ _ h => h))), .inr (.inr (.inl rfl)), .inr (.inr (.inl rfl)), .inr (.inr (.inl rfl)), .inr (.inr (.inr (fun _ _ _ _ h h0 => by cases h; exact h0))), .inr (.inr (.inr (fun _ _ _ _ h h0 => by cases h; exact h0))), .inr (.inr (.inl rfl)), .inr (.inr (.inl rfl)), trivial⟩,
            ⟨.inr (.inr (.inr (fun _ _ _ _ h h0 => by cases h; exact h0))), .inr (.inr (.inr (fun _ _ _ _ _ h => h))), .inr (.inr (.inr (fun _ _ _ _ _ h => h))), .inr (.inr (.inr (fun _ _ _ _ _ h => h))), .inl rfl, .inr (.inr (.inl rfl)), .inr (.inr (.inl rfl)), .inr (.inr (.inl rfl)), .inr (.inr (.inr (fun _ _ _ _ h h0 => by cases h; exact h0))), .inr (.inr (.inr (fun _ _ _ _ h h0 => by cases h; exact h0))), .inr (.inr (.inl rfl)), .inr (.inr (.inl rfl)), trivial⟩,
            ⟨.inr (.inr (.inr (fun _ _ _ _ h h0 => by cases h; exact h0))), .inr (.inr (.inr (fun _ _ _ _ _ h => h))), .inr (.inr (.inr (fun _ _ _ _ _ h => h))), .inr (.inr (.inr (fun _ _ _ _ _ h => h))), .inr (.inr (.inr (fun _ _ _ _ _ h => h))), .inl rfl, .inr (.inr (.inl rfl)), .inr (.inr (.inl rfl)), .inr (.inr (.inl rfl)), .inr (.inr (.inl rfl)), .inr (.inr (.inl rfl)), .inr (.inr (.inl rfl)), trivial⟩,
            ⟨.inr (.inr (.inr (fun _ _ _ _ h h0 => by cases h; exact h0))), .inr (.inr (.inr (fun _ _ _ _ _ h => h))), .inr (.inr (.inr (fun _ _ _ _ _ h => h))), .inr (.inr (.inr (fun _ _ _ _ _ h => h))), .inr (.inr (.inr (fun _ _ _ _ _ h => h))), .inr (.inr (.inr (fun _ _ _ _ _ h => h))), .inl rfl, .inr (.inr (.inl rfl)), .inr (.inr (.inl rfl)), .inr (.inr (.inl rfl)), .inr (.inr (.inl rfl)), .inr (.inr (.inl rfl)), trivial⟩,
            ⟨.inr (.inr (.inr (fun _ _ _ _ h h0 => by cases h; exact h0))), .inr (.inr (.inr (fun _ _ _ _ _ h => h))), .inr (.inr (.inr (fun _ _ _ _ _ h => h))), .inr (.inr (.inr (fun _ _ _ _ _ h => h))), .inr (.inr (.inr (fun _ _ _ _ _ h => h))), .inr (.inr (.inr (fun _ _ _ _ _ h => h))), .inr (.inr (.inr (fun _ _ _ _ _ h => h))), .inl rfl, .inr (.inr (.inl rfl)), .inr (.inr (.inl rfl)), .inr (.inr (.inl rfl)), .inr (.inr (.inl rfl)), trivial⟩,
            ⟨.inr (.inr (.inr (fun _ _ _ _ h h0 => ⟨h0.1, h0.2.alloc1 h⟩))), .inr (.inr (.inr (fun _ _ _ _ _ h => h))), .inr (.inr (.inr (fun _ _ _ _ _ h => h))), .inr (.inr (.inr (fun _ _ _ _ _ h => h))), .inr (.inr (.inr (fun _ _ _ _ _ h => h))), .inr (.inr (.inr (fun _ _ _ _ _ h => h))), .inr (.inr (.inr (fun _ _ _ _ _ h => h))), .inr (.inr (.inr (fun _ _ _ _ _ h => h))), .inl rfl, .inr (.inr (.inl rfl)), .inr (.inr (.inl rfl)), .inr (.inr (.inl rfl)), trivial⟩,
            ⟨.inr (.inr (.inr (fun _ _ _ _ h h0 => ⟨h0.1, h0.2.keep h (by decide)⟩))), .inr (.inr (.inr (fun _ _ _ _ _ h => h))), .inr (.inr (.inr (fun _ _ _ _ _ h => h))), .inr (.inr (.inr (fun _ _ _ _ _ h => h))), .inr (.inr (.inr (fun _ _ _ _ _ h => h))), .inr (.inr (.inr (fun _ _ _ _ _ h => h))), .inr (.inr (.inr (fun _ _ _ _ _ h => h))), .inr (.inr (.inr (fun _ _ _ _ _ h => h))), .inr (.inl rfl), .inl rfl, .inr (.inr (.inl rfl)), .inr (.inr (.inl rfl)), trivial⟩,
            ⟨.inr (.inr (.inr (fun _ _ _ _ h h0 => by cases h; exact h0))), .inr (.inr (.inr (fun _ _ _ _ _ h => h))), .inr (.inr (.inr (fun _ _ _ _ _ h => h))), .inr (.inr (.inr (fun _ _ _ _ _ h => h))), .inr (.inr (.inr (fun _ _ _ _ _ h => h))), .inr (.inr (.inr (fun _ _ _ _ _ h => h))), .inr (.inr (.inr (fun _ _ _ _ _ h => h))), .inr (.inr (.inr (fun _ _ _ _ _ h => h))), .inr (.inr (.inr (fun _ _ _ _ h h0 => by cases h; exact h0))), .inr (.inr (.inr (fun _ _ _ _ h h0 => by cases h; exact h0))), .inl rfl, .inr (.inr (.inl rfl)), trivial⟩,
            ⟨.inr (.inl rfl), .inr (.inr (.inr (fun _ _ _ _ _ h => h))), .inr (.inr (.inr (fun _ _ _ _ _ h => h))), .inr (.inr (.inr (fun _ _ _ _ _ h => h))), .inr (.inr (.inr (fun _ _ _ _ _ h => h))), .inr (.inr (.inr (fun _ _ _ _ _ h => h))), .inr (.inr (.inr (fun _ _ _ _ _ h => h))), .inr (.inr (.inr (fun _ _ _ _ _ h => h))), .inr (.inl rfl), .inr (.inl rfl), .inr (.inr (.inr (fun _ _ _ _ _ h => h))), .inl rfl, trivial⟩, trivial⟩
        · refine ⟨?_, ?_, ?_, ?_, ?_, ?_, ?_, ?_, ?_, ?_, ?_, ?_, trivial⟩
          · -- 0: Op.fieldAddr 24 (Operand.tmp 3) 4
            refine step_plain [] (fun _ => rfl) rfl ?_
            intro w1 vals hC1 hi0 hf E hE
            have hI1 : (fun u => Blk u g 24 #[.int .i64 kind, .string S1, .string S2, .int .i64 seq, .slice A1 k c1, .string S3] ∧ OwnX u W0.heap.size 9 1 (.slice A1 k c1) k (strsV ((fields.take k).map fewS))) w1 := hi0 false rfl
            try dsimp only at hI1
            clear hi0
            clear hf
            simp only [puts, act_put, act_put_none, List.setIfInBounds_toArray, List.set_cons_zero, List.set_cons_succ] at hE ⊢
            go_wp2
            exact .mk (hE _ _ ⟨rfl, hI1.1⟩ hC1 rfl)
          · -- 1: Op.load 22 (Operand.tmp 30)
            refine step_plain [(0, some 30)] (fun _ => rfl) rfl ?_
            intro w1 vals hC1 hi0 hf E hE
            have hI1 : (fun u => Blk u g 24 #[.int .i64 kind, .string S1, .string S2, .int .i64 seq, .slice A1 k c1, .string S3] ∧ OwnX u W0.heap.size 9 1 (.slice A1 k c1) k (strsV ((fields.take k).map fewS))) w1 := hi0 false rfl
            try dsimp only at hI1
            clear hi0
            have f0 : (fun z u => z 0 = .pointer (some ⟨g, 4, none⟩) ∧ Blk u g 24 #[.int .i64 kind, .string S1, .string S2, .int .i64 seq, .slice A1 k c1, .string S3]) vals w1 := hf 0 rfl
            try dsimp only at f0
            clear hf
            obtain ⟨hx, hb⟩ := f0
            have hc0 := hb.cell 4
            simp at hc0
            simp only [puts, act_put, act_put_none, List.setIfInBounds_toArray, List.set_cons_zero, List.set_cons_succ, hx] at hE ⊢
            clear hx
            go_wp2
            exact .mk (hE _ _ rfl hC1 rfl)
          · -- 2: Op.fieldAddr 24 (Operand.tmp 1) 4
            refine step_plain [] (fun _ => rfl) rfl ?_
            intro w1 vals hC1 hi0 hf E hE
            clear hi0
            clear hf
            simp only [puts, act_put, act_put_none, List.setIfInBounds_toArray, List.set_cons_zero, List.set_cons_succ] at hE ⊢
            go_wp2
            exact .mk (hE _ _ rfl hC1 rfl)
          · -- 3: Op.load 22 (Operand.tmp 32)
            refine step_plain [(2, some 32)] (fun _ => rfl) rfl ?_
            intro w1 vals hC1 hi0 hf E hE
            clear hi0
            have f2 : vals 2 = .pointer (some ⟨w.heap.size, 4, none⟩) := hf 2 rfl
            try dsimp only at f2
            clear hf
            have hc0 := HC.out w1 hC1 4
            simp at hc0
            simp only [puts, act_put, act_put_none, List.setIfInBounds_toArray, List.set_cons_zero, List.set_cons_succ, f2] at hE ⊢
            clear f2
            go_wp2
            exact .mk (hE _ _ rfl hC1 rfl)
          · -- 4: Op.move (Operand.tmp 4)
            refine step_plain [] (fun _ => rfl) rfl ?_
            intro w1 vals hC1 hi0 hf E hE
            clear hi0
            clear hf
            simp only [puts, act_put, act_put_none, List.setIfInBounds_toArray, List.set_cons_zero, List.set_cons_succ] at hE ⊢
            go_wp2
            exact .mk (hE _ _ rfl hC1 rfl)
          · -- 5: Op.indexAddr 22 (Operand.tmp 33) (Operand.tmp 34)
            refine step_plain [(3, some 33), (4, some 34)] (fun _ => rfl) rfl ?_
            intro w1 vals hC1 hi0 hf E hE
            have hI1 : (fun u => Blk u g 24 #[.int .i64 kind, .string S1, .string S2, .int .i64 seq, .slice A1 k c1, .string S3] ∧ OwnX u W0.heap.size 9 1 (.slice A1 k c1) k (strsV ((fields.take k).map fewS))) w1 := hi0 false rfl
            try dsimp only at hI1
            clear hi0
            have f3 : vals 3 = .slice (some ad) fields.length c := hf 3 rfl
            have f4 : vals 4 = .int .i64 k := hf 4 rfl
            try dsimp only at f3 f4
            clear hf
            simp only [puts, act_put, act_put_none, List.setIfInBounds_toArray, List.set_cons_zero, List.set_cons_succ, f3, f4] at hE ⊢
            clear f3 f4
            go_wp2
            exact .mk (hE _ _ rfl hC1 rfl)
          · -- 6: Op.load 9 (Operand.tmp 35)
            refine step_plain [(5, some 35)] (fun _ => rfl) rfl ?_
            intro w1 vals hC1 hi0 hf E hE
            have hI1 : (fun u => Blk u g 24 #[.int .i64 kind, .string S1, .string S2, .int .i64 seq, .slice A1 k c1, .string S3] ∧ OwnX u W0.heap.size 9 1 (.slice A1 k c1) k (strsV ((fields.take k).map fewS))) w1 := hi0 false rfl
            try dsimp only at hI1
            clear hi0
            have f5 : vals 5 = .pointer (some (ad.add k)) := hf 5 rfl
            try dsimp only at f5
            clear hf
            have hc0 := HCR.out w1 hC1
            rw [← HF.out] at hc0
            simp only [puts, act_put, act_put_none, List.setIfInBounds_toArray, List.set_cons_zero, List.set_cons_succ, f5] at hE ⊢
            clear f5
            go_wp2
            exact .mk (hE _ _ rfl hC1 rfl)
          · -- 7: Op.call { callee := Callee.value (Operand.func 16), args := #[Operand.tmp 36], argTypes := #[9] }
            refine step_plain [(6, some 36)] (fun _ => rfl) rfl ?_
            intro w1 vals hC1 hi0 hf E hE
            have hI1 : (fun u => Blk u g 24 #[.int .i64 kind, .string S1, .string S2, .int .i64 seq, .slice A1 k c1, .string S3] ∧ OwnX u W0.heap.size 9 1 (.slice A1 k c1) k (strsV ((fields.take k).map fewS))) w1 := hi0 false rfl
            try dsimp only at hI1
            clear hi0
            have f6 : vals 6 = .string F := hf 6 rfl
            try dsimp only at f6
            clear hf
            simp only [puts, act_put, act_put_none, List.setIfInBounds_toArray, List.set_cons_zero, List.set_cons_succ, f6] at hE ⊢
            clear f6
            go_wp2_with fail
            refine calls_then (few_any F _ hsz) ?_
            rintro e w2 ⟨rfl, rfl⟩
            rw [← HY.out]
            go_wp2_with fail
            exact .mk (hE _ _ rfl hC1 rfl)
          · -- 8: Op.buildSlice 22 1 #[(0, Operand.tmp 37)]
            refine step_plain [(7, some 37)] (fun _ => rfl) rfl ?_
            intro w1 vals hC1 hi0 hf E hE
            have hI1 : (fun u => Blk u g 24 #[.int .i64 kind, .string S1, .string S2, .int .i64 seq, .slice A1 k c1, .string S3] ∧ OwnX u W0.heap.size 9 1 (.slice A1 k c1) k (strsV ((fields.take k).map fewS))) w1 := hi0 false rfl
            try dsimp only at hI1
            clear hi0
            have f7 : vals 7 = .string Y := hf 7 rfl
            try dsimp only at f7
            clear hf
            simp only [puts, act_put, act_put_none, List.setIfInBounds_toArray, List.set_cons_zero, List.set_cons_succ, f7] at hE ⊢
            clear f7
            go_wp2
            exact .mk (hE _ _ (One.new _ _ _) (hC1.alloc hC1.size _) ⟨_, rfl⟩)
          · -- 9: Op.call { callee := Callee.builtin Builtin.append, args := #[Operand.tmp 31, Operand.tmp 38], argTypes := #[22
            refine step_plain [(1, some 31), (8, some 38), (7, some 37)] (fun _ => rfl) rfl ?_
            intro w1 vals hC1 hi0 hf E hE
            have hI1 : (fun u => Blk u g 24 #[.int .i64 kind, .string S1, .string S2, .int .i64 seq, .slice A1 k c1, .string S3] ∧ OwnX u W0.heap.size 9 1 (.slice A1 k c1) k (strsV ((fields.take k).map fewS))) w1 := hi0 false rfl
            try dsimp only at hI1
            clear hi0
            have f1 : vals 1 = .slice A1 k c1 := hf 1 rfl
            have f7 : vals 7 = .string Y := hf 7 rfl
            have f8 : (One 9 (.string Y)) (vals 8) w1 := hf 8 rfl
            try dsimp only at f1 f7 f8
            clear hf
            obtain ⟨g8, hx8, hg8⟩ := f8
            simp only [puts, act_put, act_put_none, List.setIfInBounds_toArray, List.set_cons_zero, List.set_cons_succ, f1, f7, hx8] at hE ⊢
            clear f1 f7
            clear hx8
            obtain ⟨A2, c2, w2, hr2, hown2, hgr2, hn2⟩ := run_append_x (ty := 22) (c := 1) (Ad := some ⟨g8, 0, none⟩) sl_strs hI1.2 (news := [.string Y]) (m := 1) rfl (fun j u hu => ⟨_, rfl, by match j, hu with | 0, hu => (simp at hu; subst hu; simpa [Addr.add] using cell_of_one hg8)⟩) (by intro u hu; simp at hu; subst hu; rfl) (by unfold maxLen; omega) (by omega) hC1.size
            refine wpList_of_append (R := fun v' u' => v' = .slice A2 (k + 1) c2 ∧ u' = w2) rfl rfl rfl rfl ⟨_, _, hr2, rfl, rfl⟩ ?_
            rintro v' u' ⟨rfl, rfl⟩
            go_wp2_with fail
            have hc2 : k + 1 ≤ c2 := hown2.le_cap
            exact .mk (hE _ _ ⟨A2, c2, rfl, hc2, by rw [HT.out]; exact hown2⟩ (hC1.grown hgr2 hC1.size (fun j hj => (hI1.2.lt j hj).1)) (keepBut_of_grown hI1.2 hgr2))
          · -- 10: Op.fieldAddr 24 (Operand.tmp 3) 4
            refine step_plain [(0, some 30), (1, some 31), (2, some 32), (3, some 33), (4, some 34), (5, some 35), (6, some 36), (7, some 37), (8, some 38), (9, some 39)] (fun _ => rfl) rfl ?_
            intro w1 vals hC1 hi0 hf E hE
            clear hi0
            have f0 : (fun z u => z 0 = .pointer (some ⟨g, 4, none⟩) ∧ Blk u g 24 #[.int .i64 kind, .string S1, .string S2, .int .i64 seq, .slice A1 k c1, .string S3]) vals w1 := hf 0 rfl
            have f1 : vals 1 = .slice A1 k c1 := hf 1 rfl
            have f2 : vals 2 = .pointer (some ⟨w.heap.size, 4, none⟩) := hf 2 rfl
            have f3 : vals 3 = .slice (some ad) fields.length c := hf 3 rfl
            have f4 : vals 4 = .int .i64 k := hf 4 rfl
            have f5 : vals 5 = .pointer (some (ad.add k)) := hf 5 rfl
            have f6 : vals 6 = .string F := hf 6 rfl
            have f7 : vals 7 = .string Y := hf 7 rfl
            have f9 : (fun z u => ∃ A2 c2, z 9 = .slice A2 (k + 1) c2 ∧ k + 1 ≤ c2 ∧ OwnX u W0.heap.size 9 1 (.slice A2 (k + 1) c2) (k + 1) (strsV ((fields.take (k + 1)).map fewS))) vals w1 := hf 9 rfl
            try dsimp only at f0 f1 f2 f3 f4 f5 f6 f7 f9
            clear hf
            simp only [puts, act_put, act_put_none, List.setIfInBounds_toArray, List.set_cons_zero, List.set_cons_succ, f1, f2, f3, f4, f5, f6, f7] at hE ⊢
            clear f1 f2 f3 f4 f5 f6 f7
            go_wp2
            exact .mk (hE _ _ rfl hC1 rfl)
          · -- 11: Op.store 22 (Operand.tmp 40) (Operand.tmp 39)
            refine step_plain [(10, some 40), (9, some 39), (9, some 39), (0, some 30), (1, some 31), (2, some 32), (3, some 33), (4, some 34), (5, some 35), (6, some 36), (7, some 37), (8, some 38), (9, some 39)] (fun _ => rfl) rfl ?_
            intro w1 vals hC1 hi0 hf E hE
            clear hi0
            have f0 : (fun z u => z 0 = .pointer (some ⟨g, 4, none⟩) ∧ Blk u g 24 #[.int .i64 kind, .string S1, .string S2, .int .i64 seq, .slice A1 k c1, .string S3]) vals w1 := hf 0 rfl
            have f1 : vals 1 = .slice A1 k c1 := hf 1 rfl
            have f2 : vals 2 = .pointer (some ⟨w.heap.size, 4, none⟩) := hf 2 rfl
            have f3 : vals 3 = .slice (some ad) fields.length c := hf 3 rfl
            have f4 : vals 4 = .int .i64 k := hf 4 rfl
            have f5 : vals 5 = .pointer (some (ad.add k)) := hf 5 rfl
            have f6 : vals 6 = .string F := hf 6 rfl
            have f7 : vals 7 = .string Y := hf 7 rfl
            have f9 : (fun z u => ∃ A2 c2, z 9 = .slice A2 (k + 1) c2 ∧ k + 1 ≤ c2 ∧ OwnX u W0.heap.size 9 1 (.slice A2 (k + 1) c2) (k + 1) (strsV ((fields.take (k + 1)).map fewS))) vals w1 := hf 9 rfl
            have f10 : vals 10 = .pointer (some ⟨g, 4, none⟩) := hf 10 rfl
            try dsimp only at f0 f1 f2 f3 f4 f5 f6 f7 f9 f10
            clear hf
            obtain ⟨A2, c2, hx9, hc2, hown2⟩ := f9
            obtain ⟨hx0, hb0⟩ := f0
            simp only [puts, act_put, act_put_none, List.setIfInBounds_toArray, List.set_cons_zero, List.set_cons_succ, f1, f2, f3, f4, f5, f6, f7, f10, hx9, hx0] at hE ⊢
            clear f1 f2 f3 f4 f5 f6 f7 f10
            clear hx9 hx0
            refine wpList_put_cell hb0 rfl rfl rfl rfl (by kernel_rfl) (by simp) rfl ?_
            intro w2 hb2 hw2
            go_wp2_with fail
            exact .mk (hE undef _ ⟨A2, c2, hc2, hw2.own hown2 (own_ne_blk hown2 hb0 (by decide)), hb2⟩ (hw2.below hC1 hg1 hC1.size) trivial)
        intro w1 vals hC1 hf
        have f1 : vals 1 = .slice A1 k c1 := hf 1 (by decide) rfl
        have f2 : vals 2 = .pointer (some ⟨w.heap.size, 4, none⟩) := hf 2 (by decide) rfl
        have f3 : vals 3 = .slice (some ad) fields.length c := hf 3 (by decide) rfl
        have f4 : vals 4 = .int .i64 k := hf 4 (by decide) rfl
        have f5 : vals 5 = .pointer (some (ad.add k)) := hf 5 (by decide) rfl
        have f6 : vals 6 = .string F := hf 6 (by decide) rfl
        have f7 : vals 7 = .string Y := hf 7 (by decide) rfl
        have f10 : vals 10 = .pointer (some ⟨g, 4, none⟩) := hf 10 (by decide) rfl
        have f11 : (fun z u => ∃ A2 c2, k + 1 ≤ c2 ∧ OwnX u W0.heap.size 9 1 (.slice A2 (k + 1) c2) (k + 1) (strsV ((fields.take (k + 1)).map fewS)) ∧ Blk u g 24 #[.int .i64 kind, .string S1, .string S2, .int .i64 seq, .slice A2 (k + 1) c2, .string S3]) vals w1 := hf 11 (by decide) rfl
        try dsimp only at f1 f2 f3 f4 f5 f6 f7 f10 f11
        clear hf
        simp only [puts, act_put, act_put_none, List.setIfInBounds_toArray, List.set_cons_zero, List.set_cons_succ, f1, f2, f3, f4, f5, f6, f7, f10]
        clear f1 f2 f3 f4 f5 f6 f7 f10
        generalize vals 0 = x0 at *
        generalize vals 8 = x8 at *
        generalize vals 9 = x9 at *
        obtain ⟨A2, c2, hc2, hown2, hb2⟩ := f11
        clear HI0 HC0
        go_wp2_with fail
        go_roundw
        case rel => exact ⟨k + 1, A2, c2, hlt, hlt10, by go_num, hc2, hown2, hb2, hC1⟩
        case measure => simp [intOf]; omega
      · have hd10 : decide ((k : Int) < 10) = false := by simp; omega
        obtain rfl : k = 10 := by omega
        have hob := HO.out.below hC2 (by have := HS.out; omega)
        go_wp2_with (first | refine wpList_get_box hbk rfl rfl rfl Try.underlying24 rfl msg_size ?_ | (refine wpList_put_box hob rfl rfl rfl rfl msg_size rfl (by simp [Value.oneCell']) ?_; intro w2 hb2 hw2))
        refine bodyPost_ret (results_box rfl rfl hb2 Try.underlying24 rfl msg_size) rfl ?_
        have hn : (cutM ⟨kind, src, dst, seq, fields, sig⟩).fields.length = 10 := by simp [cutM]; omega
        have hf : (cutM ⟨kind, src, dst, seq, fields, sig⟩).fields = (fields.take 10).map fewS := by
          simp only [cutM]
        refine ⟨A1, c1, ?_, by omega, ?_, hw2.below (HB2.out.trans (hC2.mono HB2.out.size)) (by omega) (by have := hC2.size; have := HS.out; omega)⟩
        · rw [HS1.out, HS2.out, HS3.out]
          simp only [msgCells, hn]
          rfl
        · rw [hn, hf]
          exact (hw2.own hown1 (own_ne_blk (t := 24) hown1 hob (by decide))).mono HB2.out.size
    · obtain rfl : k = fields.length := by omega
      have hob := HO.out.below hC2 (by have := HS.out; omega)
      go_wp2_with (first | refine wpList_get_box hbk rfl rfl rfl Try.underlying24 rfl msg_size ?_ | (refine wpList_put_box hob rfl rfl rfl rfl msg_size rfl (by simp [Value.oneCell']) ?_; intro w2 hb2 hw2))
      refine bodyPost_ret (results_box rfl rfl hb2 Try.underlying24 rfl msg_size) rfl ?_
      have hn : (cutM ⟨kind, src, dst, seq, fields, sig⟩).fields.length = fields.length := by simp [cutM]; omega
      have hf : (cutM ⟨kind, src, dst, seq, fields, sig⟩).fields = (fields.take fields.length).map fewS := by
        simp only [cutM]
        congr 1
        rw [List.take_of_length_le (show fields.length ≤ 10 by omega), List.take_length]
      refine ⟨A1, c1, ?_, by omega, ?_, hw2.below (HB2.out.trans (hC2.mono HB2.out.size)) (by omega) (by have := hC2.size; have := HS.out; omega)⟩
      · rw [HS1.out, HS2.out, HS3.out]
        simp only [msgCells, hn]
        rfl
      · rw [hn, hf]
        exact (hw2.own hown1 (own_ne_blk (t := 24) hown1 hob (by decide))).mono HB2.out.size
end Go.Proofs.Ytlngjalclagojaa
