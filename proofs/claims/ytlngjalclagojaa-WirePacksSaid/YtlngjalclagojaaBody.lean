/-
  Walks: wire.body.
-/
import Derived.Test.YtlngjalclagojaaFrame
import Derived.Test.YtlngjalclagojaaMsg
import Derived.Test.YtlngjalclagojaaRegion
namespace Go.Proofs.Ytlngjalclagojaa
open Go.RowKit

def bodyB (m : MsgD) : List UInt8 := beB m.kind 1 1 ++ beB m.seq 8 8 ++ frameB m.src ++ frameB m.dst ++ beB m.fields.length 1 1 ++ m.fields.flatMap frameB

set_option maxHeartbeats 1000000 in
theorem body_any (B : Nat) (v : Value) (l : List UInt8) (m : MsgD) (A : Option Addr) (c : Nat) (w : World) (hB : B ≤ w.heap.size) (hown : OwnX w B 5 1 v l.length (bytesV l))
    (hr : Rd w B A (strsV m.fields)) (hc : m.fields.length ≤ c) (hl : l.length ≤ 1000) (h1 : 0 ≤ m.kind) (h2 : m.kind ≤ 255) (h3 : 0 ≤ m.seq) (h4 : m.seq ≤ 1099511627776) (h5 : m.fields.length ≤ 8)
    (h6 : m.src.size ≤ 1000) (h7 : m.dst.size ≤ 1000) (h8 : ∀ s ∈ m.fields, s.size ≤ 1000) :
    Calls Try.prog 18 #[v, .agg (msgCells m A c)] w (PutPost B v (l ++ bodyB m) w) := by
  obtain ⟨kind, src, dst, seq, fields, sig⟩ := m
  dsimp only [msgCells] at *
  obtain ⟨W0, hW0⟩ : ∃ W0, W0 = w.alloc (.cells #[.int .i64 kind, .string src, .string dst, .int .i64 seq, .slice A fields.length c, .string sig] 24) := ⟨_, rfl⟩
  have hbox : W0.heap[w.heap.size]? = some (.cells #[.int .i64 kind, .string src, .string dst, .int .i64 seq, .slice A fields.length c, .string sig] 24 (0, 0)) := by rw [hW0]; exact heap_alloc_new w _
  have hsz : W0.heap.size = w.heap.size + 1 := by rw [hW0]; simp
  have hcell : ∀ (u : World), W0.grownBy u v.ownBlock → ∀ i, u.cell? ⟨w.heap.size, i, none⟩ = #[.int .i64 kind, .string src, .string dst, .int .i64 seq, .slice A fields.length c, .string sig][i]? := fun u hu i => by
    refine cell_of_row _ _ _ _ _ (0,0) ((hu.block _ (by omega) fun e => ?_).trans hbox)
    have := hown.lt _ e.symm; omega
  have hB0 : B ≤ W0.heap.size := by rw [hW0]; simp; omega
  have HI0 : OwnX W0.drew B 5 1 v l.length (bytesV l) := by rw [hW0]; exact hown.alloc _
  have HC0 : W0.grownBy W0.drew v.ownBlock := grown_drew (World.grownBy.refl _ _)
  have HW0 := Lib.hid hW0
  have HB := Lib.hid hbox
  have HS := Lib.hid hsz
  have HC := Lib.hid hcell
  clear hbox hsz hcell
  obtain ⟨L1, hL1⟩ : ∃ L, L = l ++ beB kind 1 1 := ⟨_, rfl⟩
  obtain ⟨L2, hL2⟩ : ∃ L, L = L1 ++ beB seq 8 8 := ⟨_, rfl⟩
  have hl1 : L1.length ≤ 2000 := by rw [hL1, List.length_append, beB_length]; omega
  have hl2 : L2.length ≤ 3000 := by rw [hL2, List.length_append, beB_length]; omega
  have HL1 := Lib.hid hL1
  have HL2 := Lib.hid hL2
  clear hL1 hL2
  go_enter Try.func18, Try.ntmps18
  go_wp2_with fail
  rw [← hW0]
  clear hW0
  refine wp_region_list (fun u => W0.grownBy u v.ownBlock) (fun | false => (fun u => OwnX u B 5 1 v l.length (bytesV l)) | true => (fun _ => True)) (fun | false, i => i == 4 || i == 8 | true, _ => false)
    [fun z _ => z 0 = v,
     fun z _ => z 1 = .pointer (some ⟨w.heap.size, 0, none⟩),
     fun z _ => z 2 = .int .i64 kind,
     fun z u => (One 3 (.int .i64 kind)) (z 3) u,
     fun z u => (Row B W0 v L1) (z 4) u,
     fun z _ => z 5 = .pointer (some ⟨w.heap.size, 3, none⟩),
     fun z _ => z 6 = .int .i64 seq,
     fun z u => (One 3 (.int .i64 seq)) (z 7) u,
     fun z u => (Row B W0 v L2) (z 8) u,
     fun z u => (Row B W0 v L2) (z 9) u]
    [Eq, Eq, Eq, Alloc1, KeepBut 5, Eq, Eq, Alloc1, KeepBut 5, Eq]
    (fun i k => (i == 8 && k == 4)) [(0, some 7), (1, some 8), (2, some 9), (3, some 10), (4, some 11), (5, some 12), (6, some 13), (7, some 14), (8, some 15), (9, some 0)] (by kernel_rfl) (by kernel_rfl) rfl (fun _ => rfl) ?_ ?_ ?_ ?_ ?_ ?_
  · exact HC0
  · intro m; cases m; exact HI0; exact trivial
  · intro m; cases m
    · exact ⟨.inr (fun _ _ h h0 => h ▸ h0), .inr (fun _ _ h h0 => h ▸ h0), .inr (fun _ _ h h0 => h ▸ h0), .inr (fun _ _ h h0 => own_alloc1 h h0), .inl rfl, .inr (fun _ _ h h0 => h ▸ h0), .inr (fun _ _ h h0 => h ▸ h0), .inr (fun _ _ h h0 => own_alloc1 h h0), .inl rfl, .inr (fun _ _ h h0 => h ▸ h0), trivial⟩
    · exact ⟨.inr (fun _ _ h h0 => h ▸ h0), .inr (fun _ _ h h0 => h ▸ h0), .inr (fun _ _ h h0 => h ▸ h0), .inr (fun _ _ _ h => h), .inr (fun _ _ _ h => h), .inr (fun _ _ h h0 => h ▸ h0), .inr (fun _ _ h h0 => h ▸ h0), .inr (fun _ _ _ h => h), .inr (fun _ _ _ h => h), .inr (fun _ _ h h0 => h ▸ h0), trivial⟩
  · exact ⟨⟨.inl rfl, .inr (.inr (.inr (fun _ _ _ _ _ h => h))), .inr (.inr (.inr (fun _ _ _ _ _ h => h))), .inr (.inr (.inr (fun _ _ _ _ h h0 => by cases h; exact h0))), .inr (.inr (.inl rfl)), .inr (.inr (.inr (fun _ _ _ _ _ h => h))), .inr (.inr (.inr (fun _ _ _ _ _ h => h))), .inr (.inr (.inr (fun _ _ _ _ h h0 => by cases h; exact h0))), .inr (.inr (.inl rfl)), .inr (.inr (.inl rfl)), trivial⟩,
      ⟨.inr (.inr (.inr (fun _ _ _ _ _ h => h))), .inl rfl, .inr (.inr (.inl rfl)), .inr (.inr (.inl rfl)), .inr (.inr (.inl rfl)), .inr (.inr (.inr (fun _ _ _ _ _ h => h))), .inr (.inr (.inr (fun _ _ _ _ _ h => h))), .inr (.inr (.inr (fun _ _ _ _ h h0 => by cases h; exact h0))), .inr (.inr (.inr (fun _ _ _ _ h h0 => by cases h; exact h0))), .inr (.inr (.inl rfl)), trivial⟩,
      ⟨.inr (.inr (.inr (fun _ _ _ _ _ h => h))), .inr (.inr (.inr (fun _ _ _ _ _ h => h))), .inl rfl, .inr (.inr (.inl rfl)), .inr (.inr (.inl rfl)), .inr (.inr (.inr (fun _ _ _ _ _ h => h))), .inr (.inr (.inr (fun _ _ _ _ _ h => h))), .inr (.inr (.inr (fun _ _ _ _ h h0 => by cases h; exact h0))), .inr (.inr (.inl rfl)), .inr (.inr (.inl rfl)), trivial⟩,
      ⟨.inr (.inr (.inr (fun _ _ _ _ _ h => h))), .inr (.inr (.inr (fun _ _ _ _ _ h => h))), .inr (.inr (.inr (fun _ _ _ _ _ h => h))), .inl rfl, .inr (.inr (.inl rfl)), .inr (.inr (.inr (fun _ _ _ _ _ h => h))), .inr (.inr (.inr (fun _ _ _ _ _ h => h))), .inr (.inr (.inr (fun _ _ _ _ h h0 => h0.alloc1 h))), .inr (.inr (.inl rfl)), .inr (.inr (.inl rfl)), trivial⟩,
      ⟨.inr (.inr (.inr (fun _ _ _ _ _ h => h))), .inr (.inr (.inr (fun _ _ _ _ _ h => h))), .inr (.inr (.inr (fun _ _ _ _ _ h => h))), .inr (.inr (.inr (fun _ _ _ _ h h0 => h0.keep h (by decide)))), .inl rfl, .inr (.inr (.inr (fun _ _ _ _ _ h => h))), .inr (.inr (.inr (fun _ _ _ _ _ h => h))), .inr (.inr (.inr (fun _ _ _ _ h h0 => h0.keep h (by decide)))), .inr (.inr (.inl rfl)), .inr (.inr (.inl rfl)), trivial⟩,
      ⟨.inr (.inr (.inr (fun _ _ _ _ _ h => h))), .inr (.inr (.inr (fun _ _ _ _ _ h => h))), .inr (.inr (.inr (fun _ _ _ _ _ h => h))), .inr (.inr (.inr (fun _ _ _ _ h h0 => by cases h; exact h0))), .inr (.inr (.inr (fun _ _ _ _ h h0 => by cases h; exact h0))), .inl rfl, .inr (.inr (.inl rfl)), .inr (.inr (.inl rfl)), .inr (.inr (.inl rfl)), .inr (.inr (.inl rfl)), trivial⟩,
      ⟨.inr (.inr (.inr (fun _ _ _ _ _ h => h))), .inr (.inr (.inr (fun _ _ _ _ _ h => h))), .inr (.inr (.inr (fun _ _ _ _ _ h => h))), .inr (.inr (.inr (fun _ _ _ _ h h0 => by cases h; exact h0))), .inr (.inr (.inr (fun _ _ _ _ h h0 => by cases h; exact h0))), .inr (.inr (.inr (fun _ _ _ _ _ h => h))), .inl rfl, .inr (.inr (.inl rfl)), .inr (.inr (.inl rfl)), .inr (.inr (.inl rfl)), trivial⟩,
      ⟨.inr (.inr (.inr (fun _ _ _ _ _ h => h))), .inr (.inr (.inr (fun _ _ _ _ _ h => h))), .inr (.inr (.inr (fun _ _ _ _ _ h => h))), .inr (.inr (.inr (fun _ _ _ _ h h0 => h0.alloc1 h))), .inr (.inr (.inr (fun _ _ _ _ h h0 => h0.alloc1 h))), .inr (.inr (.inr (fun _ _ _ _ _ h => h))), .inr (.inr (.inr (fun _ _ _ _ _ h => h))), .inl rfl, .inr (.inr (.inl rfl)), .inr (.inr (.inl rfl)), trivial⟩,
      ⟨.inr (.inr (.inr (fun _ _ _ _ _ h => h))), .inr (.inr (.inr (fun _ _ _ _ _ h => h))), .inr (.inr (.inr (fun _ _ _ _ _ h => h))), .inr (.inr (.inr (fun _ _ _ _ h h0 => h0.keep h (by decide)))), .inr (.inl rfl), .inr (.inr (.inr (fun _ _ _ _ _ h => h))), .inr (.inr (.inr (fun _ _ _ _ _ h => h))), .inr (.inr (.inr (fun _ _ _ _ h h0 => h0.keep h (by decide)))), .inl rfl, .inr (.inr (.inl rfl)), trivial⟩,
      ⟨.inr (.inr (.inr (fun _ _ _ _ _ h => h))), .inr (.inr (.inr (fun _ _ _ _ _ h => h))), .inr (.inr (.inr (fun _ _ _ _ _ h => h))), .inr (.inr (.inr (fun _ _ _ _ h h0 => by cases h; exact h0))), .inr (.inr (.inr (fun _ _ _ _ h h0 => by cases h; exact h0))), .inr (.inr (.inr (fun _ _ _ _ _ h => h))), .inr (.inr (.inr (fun _ _ _ _ _ h => h))), .inr (.inr (.inr (fun _ _ _ _ h h0 => by cases h; exact h0))), .inr (.inr (.inr (fun _ _ _ _ h h0 => by cases h; exact h0))), .inl rfl, trivial⟩, trivial⟩
  · refine ⟨?_, ?_, ?_, ?_, ?_, ?_, ?_, ?_, ?_, ?_, trivial⟩
    · -- 0: Op.move (Operand.tmp 0)
      refine step_plain [] (fun _ => rfl) rfl ?_
      intro w1 vals hC1 hi0 hf E hE
      have hI1 : (fun u => OwnX u B 5 1 v l.length (bytesV l)) w1 := hi0 false rfl
      try dsimp only at hI1
      clear hi0
      clear hf
      simp only [puts, act_put, act_put_none, List.setIfInBounds_toArray, List.set_cons_zero, List.set_cons_succ] at hE ⊢
      go_wp2
      exact .mk (hE _ _ rfl hC1 rfl)
    · -- 1: Op.fieldAddr 24 (Operand.tmp 3) 0
      refine step_plain [] (fun _ => rfl) rfl ?_
      intro w1 vals hC1 hi0 hf E hE
      clear hi0
      clear hf
      simp only [puts, act_put, act_put_none, List.setIfInBounds_toArray, List.set_cons_zero, List.set_cons_succ] at hE ⊢
      go_wp2
      exact .mk (hE _ _ rfl hC1 rfl)
    · -- 2: Op.load 3 (Operand.tmp 8)
      refine step_plain [(1, some 8)] (fun _ => rfl) rfl ?_
      intro w1 vals hC1 hi0 hf E hE
      have hI1 : (fun u => OwnX u B 5 1 v l.length (bytesV l)) w1 := hi0 false rfl
      try dsimp only at hI1
      clear hi0
      have f1 : vals 1 = .pointer (some ⟨w.heap.size, 0, none⟩) := hf 1 rfl
      try dsimp only at f1
      clear hf
      have hc0 := HC.out w1 hC1 0
      simp at hc0
      simp only [puts, act_put, act_put_none, List.setIfInBounds_toArray, List.set_cons_zero, List.set_cons_succ, f1] at hE ⊢
      clear f1
      go_wp2
      exact .mk (hE _ _ rfl hC1 rfl)
    · -- 3: Op.buildSlice 52 1 #[(0, Operand.tmp 9)]
      refine step_plain [(2, some 9)] (fun _ => rfl) rfl ?_
      intro w1 vals hC1 hi0 hf E hE
      have hI1 : (fun u => OwnX u B 5 1 v l.length (bytesV l)) w1 := hi0 false rfl
      try dsimp only at hI1
      clear hi0
      have f2 : vals 2 = .int .i64 kind := hf 2 rfl
      try dsimp only at f2
      clear hf
      simp only [puts, act_put, act_put_none, List.setIfInBounds_toArray, List.set_cons_zero, List.set_cons_succ, f2] at hE ⊢
      clear f2
      go_wp2
      exact .mk (hE _ _ (One.new _ _ _) (grown_alloc hC1 _) ⟨_, rfl⟩)
    · -- 4: Op.call { callee := Callee.value (Operand.func 25), args := #[Operand.tmp 7, Operand.const (Value.int IntKind.
      refine step_plain [(0, some 7), (3, some 10)] (fun _ => rfl) rfl ?_
      intro w1 vals hC1 hi0 hf E hE
      have hI1 : (fun u => OwnX u B 5 1 v l.length (bytesV l)) w1 := hi0 false rfl
      try dsimp only at hI1
      clear hi0
      have f0 : vals 0 = v := hf 0 rfl
      have f3 : (One 3 (.int .i64 kind)) (vals 3) w1 := hf 3 rfl
      try dsimp only at f0 f3
      clear hf
      obtain ⟨g, hx, hg⟩ := f3
      simp only [puts, act_put, act_put_none, List.setIfInBounds_toArray, List.set_cons_zero, List.set_cons_succ, f0, hx] at hE ⊢
      clear f0
      clear hx
      go_wp2_with fail
      refine (put1 (B := B) (l := l) (n := kind) (by have := hC1.size; omega) hI1 hg h1 (by omega) (by omega) HL1.out).mono ?_
      rintro e w2 ⟨A1, c1, rfl, hown1, hgr1, hn1⟩
      go_wp2_with fail
      exact .mk (hE _ _ ⟨A1, c1, rfl, hown1, hn1.back hC1.size⟩ (hC1.trans hgr1) (keepBut_of_grown hI1 hgr1))
    · -- 5: Op.fieldAddr 24 (Operand.tmp 3) 3
      refine step_plain [] (fun _ => rfl) rfl ?_
      intro w1 vals hC1 hi0 hf E hE
      clear hi0
      clear hf
      simp only [puts, act_put, act_put_none, List.setIfInBounds_toArray, List.set_cons_zero, List.set_cons_succ] at hE ⊢
      go_wp2
      exact .mk (hE _ _ rfl hC1 rfl)
    · -- 6: Op.load 3 (Operand.tmp 12)
      refine step_plain [(5, some 12)] (fun _ => rfl) rfl ?_
      intro w1 vals hC1 hi0 hf E hE
      clear hi0
      have f5 : vals 5 = .pointer (some ⟨w.heap.size, 3, none⟩) := hf 5 rfl
      try dsimp only at f5
      clear hf
      have hc0 := HC.out w1 hC1 3
      simp at hc0
      simp only [puts, act_put, act_put_none, List.setIfInBounds_toArray, List.set_cons_zero, List.set_cons_succ, f5] at hE ⊢
      clear f5
      go_wp2
      exact .mk (hE _ _ rfl hC1 rfl)
    · -- 7: Op.buildSlice 52 1 #[(0, Operand.tmp 13)]
      refine step_plain [(6, some 13)] (fun _ => rfl) rfl ?_
      intro w1 vals hC1 hi0 hf E hE
      clear hi0
      have f6 : vals 6 = .int .i64 seq := hf 6 rfl
      try dsimp only at f6
      clear hf
      simp only [puts, act_put, act_put_none, List.setIfInBounds_toArray, List.set_cons_zero, List.set_cons_succ, f6] at hE ⊢
      clear f6
      go_wp2
      exact .mk (hE _ _ (One.new _ _ _) (grown_alloc hC1 _) ⟨_, rfl⟩)
    · -- 8: Op.call { callee := Callee.value (Operand.func 25), args := #[Operand.tmp 11, Operand.const (Value.int IntKind
      refine step_plain [(4, some 11), (7, some 14), (4, some 11)] (fun _ => rfl) rfl ?_
      intro w1 vals hC1 hi0 hf E hE
      clear hi0
      have f4 : (Row B W0 v L1) (vals 4) w1 := hf 4 rfl
      have f7 : (One 3 (.int .i64 seq)) (vals 7) w1 := hf 7 rfl
      try dsimp only at f4 f7
      clear hf
      obtain ⟨g, hx, hg⟩ := f7
      obtain ⟨A1, c1, hx1, hown1, hn1⟩ := f4
      simp only [puts, act_put, act_put_none, List.setIfInBounds_toArray, List.set_cons_zero, List.set_cons_succ, hx, hx1] at hE ⊢
      clear hx hx1
      go_wp2_with fail
      refine (put8 (B := B) (l := L1) (n := seq) (by have := hC1.size; omega) hown1 hg h3 (by omega) (by omega) HL2.out).mono ?_
      rintro e w2 ⟨A2, c2, rfl, hown2, hgr2, hn2⟩
      go_wp2_with fail
      exact .mk (hE _ _ ⟨A2, c2, rfl, hown2, hn1.trans (hn2.back hC1.size) (Nat.le_refl _)⟩ (grown_next hC1 hn1 hgr2) (keepBut_of_grown hown1 hgr2))
    · -- 9: Op.assign (Operand.tmp 15)
      refine step_plain [(8, some 15), (8, some 15), (0, some 7), (1, some 8), (2, some 9), (3, some 10), (4, some 11), (5, some 12), (6, some 13), (7, some 14), (8, some 15)] (fun _ => rfl) rfl ?_
      intro w1 vals hC1 hi0 hf E hE
      clear hi0
      have f0 : vals 0 = v := hf 0 rfl
      have f1 : vals 1 = .pointer (some ⟨w.heap.size, 0, none⟩) := hf 1 rfl
      have f2 : vals 2 = .int .i64 kind := hf 2 rfl
      have f3 : (One 3 (.int .i64 kind)) (vals 3) w1 := hf 3 rfl
      have f5 : vals 5 = .pointer (some ⟨w.heap.size, 3, none⟩) := hf 5 rfl
      have f6 : vals 6 = .int .i64 seq := hf 6 rfl
      have f7 : (One 3 (.int .i64 seq)) (vals 7) w1 := hf 7 rfl
      have f8 : (Row B W0 v L2) (vals 8) w1 := hf 8 rfl
      try dsimp only at f0 f1 f2 f3 f5 f6 f7 f8
      clear hf
      simp only [puts, act_put, act_put_none, List.setIfInBounds_toArray, List.set_cons_zero, List.set_cons_succ, f0, f1, f2, f5, f6] at hE ⊢
      clear f0 f1 f2 f5 f6
      go_wp2
      exact .mk (hE _ _ f8 hC1 rfl)
  intro w1 vals hC1 hf
  have f0 : vals 0 = v := hf 0 (by decide) rfl
  have f1 : vals 1 = .pointer (some ⟨w.heap.size, 0, none⟩) := hf 1 (by decide) rfl
  have f2 : vals 2 = .int .i64 kind := hf 2 (by decide) rfl
  have f3 : (One 3 (.int .i64 kind)) (vals 3) w1 := hf 3 (by decide) rfl
  have f5 : vals 5 = .pointer (some ⟨w.heap.size, 3, none⟩) := hf 5 (by decide) rfl
  have f6 : vals 6 = .int .i64 seq := hf 6 (by decide) rfl
  have f7 : (One 3 (.int .i64 seq)) (vals 7) w1 := hf 7 (by decide) rfl
  have f8 : (Row B W0 v L2) (vals 8) w1 := hf 8 (by decide) rfl
  have f9 : (Row B W0 v L2) (vals 9) w1 := hf 9 (by decide) rfl
  try dsimp only at f0 f1 f2 f3 f5 f6 f7 f8 f9
  clear hf
  simp only [puts, act_put, act_put_none, List.setIfInBounds_toArray, List.set_cons_zero, List.set_cons_succ, f0, f1, f2, f5, f6]
  clear f0 f1 f2 f5 f6
  generalize vals 3 = x3 at *
  generalize vals 4 = x4 at *
  generalize vals 7 = x7 at *
  generalize vals 8 = x8 at *
  generalize vals 9 = x9 at *
  obtain ⟨A2, c2, rfl, hown2, hn2⟩ := f9
  clear f3 f7 f8 HI0 HC0
  go_wp2_with fail
  obtain ⟨L3, hL3⟩ : ∃ L, L = L2 ++ frameB src := ⟨_, rfl⟩
  obtain ⟨L4, hL4⟩ : ∃ L, L = L3 ++ frameB dst := ⟨_, rfl⟩
  obtain ⟨L5, hL5⟩ : ∃ L, L = L4 ++ beB fields.length 1 1 := ⟨_, rfl⟩
  have hl3 : L3.length ≤ 5000 := by rw [hL3, List.length_append, frameB_length]; omega
  have hl4 : L4.length ≤ 7000 := by rw [hL4, List.length_append, frameB_length]; omega
  have hl5 : L5.length ≤ 8000 := by rw [hL5, List.length_append, beB_length]; omega
  have HL3 := Lib.hid hL3
  have HL4 := Lib.hid hL4
  have HL5 := Lib.hid hL5
  clear hL3 hL4 hL5
  have HC0 : W0.grownBy w1.drew v.ownBlock := grown_drew hC1
  have HI0 : OwnX w1.drew B 5 1 (.slice A2 L2.length c2) L2.length (bytesV L2) := hown2
  clear hC1 hown2
  refine wp_region_list (fun u => W0.grownBy u v.ownBlock) (fun | false => (fun u => OwnX u B 5 1 (.slice A2 L2.length c2) L2.length (bytesV L2)) | true => (fun _ => True)) (fun | false, i => i == 3 || i == 6 || i == 11 | true, _ => false)
    [fun z _ => z 0 = .slice A2 L2.length c2,
     fun z _ => z 1 = .pointer (some ⟨w.heap.size, 1, none⟩),
     fun z _ => z 2 = .string src,
     fun z u => (Row B W0 v L3) (z 3) u,
     fun z _ => z 4 = .pointer (some ⟨w.heap.size, 2, none⟩),
     fun z _ => z 5 = .string dst,
     fun z u => (Row B W0 v L4) (z 6) u,
     fun z _ => z 7 = .pointer (some ⟨w.heap.size, 4, none⟩),
     fun z _ => z 8 = .slice A fields.length c,
     fun z _ => z 9 = .int .i64 fields.length,
     fun z u => (One 3 (.int .i64 fields.length)) (z 10) u,
     fun z u => (Row B W0 v L5) (z 11) u,
     fun z u => (Row B W0 v L5) (z 12) u]
    [Eq, Eq, Eq, KeepBut 5, Eq, Eq, KeepBut 5, Eq, Eq, Eq, Alloc1, KeepBut 5, Eq]
    (fun i k => (i == 6 && k == 3) || (i == 11 && k == 3) || (i == 11 && k == 6)) [(0, some 16), (1, some 17), (2, some 18), (3, some 19), (4, some 20), (5, some 21), (6, some 22), (7, some 23), (8, some 24), (9, some 25), (10, some 26), (11, some 27), (12, some 0)] (by kernel_rfl) (by kernel_rfl) rfl (fun _ => rfl) ?_ ?_ ?_ ?_ ?_ ?_
  · exact HC0
  · intro m; cases m; exact HI0; exact trivial
  · intro m; cases m
    · exact ⟨.inr (fun _ _ h h0 => h ▸ h0), .inr (fun _ _ h h0 => h ▸ h0), .inr (fun _ _ h h0 => h ▸ h0), .inl rfl, .inr (fun _ _ h h0 => h ▸ h0), .inr (fun _ _ h h0 => h ▸ h0), .inl rfl, .inr (fun _ _ h h0 => h ▸ h0), .inr (fun _ _ h h0 => h ▸ h0), .inr (fun _ _ h h0 => h ▸ h0), .inr (fun _ _ h h0 => own_alloc1 h h0), .inl rfl, .inr (fun _ _ h h0 => h ▸ h0), trivial⟩
    · exact ⟨.inr (fun _ _ h h0 => h ▸ h0), .inr (fun _ _ h h0 => h ▸ h0), .inr (fun _ _ h h0 => h ▸ h0), .inr (fun _ _ _ h => h), .inr (fun _ _ h h0 => h ▸ h0), .inr (fun _ _ h h0 => h ▸ h0), .inr (fun _ _ _ h => h), .inr (fun _ _ h h0 => h ▸ h0), .inr (fun _ _ h h0 => h ▸ h0), .inr (fun _ _ h h0 => h ▸ h0), .inr (fun _ _ _ h => h), .inr (fun _ _ _ h => h), .inr (fun _ _ h h0 => h ▸ h0), trivial⟩
  · exact ⟨⟨.inl rfl, .inr (.inr (.inr (fun _ _ _ _ _ h => h))), .inr (.inr (.inr (fun _ _ _ _ _ h => h))), .inr (.inr (.inl rfl)), .inr (.inr (.inr (fun _ _ _ _ _ h => h))), .inr (.inr (.inr (fun _ _ _ _ _ h => h))), .inr (.inr (.inl rfl)), .inr (.inr (.inr (fun _ _ _ _ _ h => h))), .inr (.inr (.inr (fun _ _ _ _ _ h => h))), .inr (.inr (.inr (fun _ _ _ _ _ h => h))), .inr (.inr (.inr (fun _ _ _ _ h h0 => by cases h; exact h0))), .inr (.inr (.inl rfl)), .inr (.inr (.inl rfl)), trivial⟩,
      ⟨.inr (.inr (.inr (fun _ _ _ _ _ h => h))), .inl rfl, .inr (.inr (.inl rfl)), .inr (.inr (.inl rfl)), .inr (.inr (.inr (fun _ _ _ _ _ h => h))), .inr (.inr (.inr (fun _ _ _ _ _ h => h))), .inr (.inr (.inl rfl)), .inr (.inr (.inr (fun _ _ _ _ _ h => h))), .inr (.inr (.inr (fun _ _ _ _ _ h => h))), .inr (.inr (.inr (fun _ _ _ _ _ h => h))), .inr (.inr (.inr (fun _ _ _ _ h h0 => by cases h; exact h0))), .inr (.inr (.inr (fun _ _ _ _ h h0 => by cases h; exact h0))), .inr (.inr (.inl rfl)), trivial⟩,
      ⟨.inr (.inr (.inr (fun _ _ _ _ _ h => h))), .inr (.inr (.inr (fun _ _ _ _ _ h => h))), .inl rfl, .inr (.inr (.inl rfl)), .inr (.inr (.inr (fun _ _ _ _ _ h => h))), .inr (.inr (.inr (fun _ _ _ _ _ h => h))), .inr (.inr (.inl rfl)), .inr (.inr (.inr (fun _ _ _ _ _ h => h))), .inr (.inr (.inr (fun _ _ _ _ _ h => h))), .inr (.inr (.inr (fun _ _ _ _ _ h => h))), .inr (.inr (.inr (fun _ _ _ _ h h0 => by cases h; exact h0))), .inr (.inr (.inl rfl)), .inr (.inr (.inl rfl)), trivial⟩,
      ⟨.inr (.inr (.inr (fun _ _ _ _ _ h => h))), .inr (.inr (.inr (fun _ _ _ _ _ h => h))), .inr (.inr (.inr (fun _ _ _ _ _ h => h))), .inl rfl, .inr (.inr (.inr (fun _ _ _ _ _ h => h))), .inr (.inr (.inr (fun _ _ _ _ _ h => h))), .inr (.inr (.inl rfl)), .inr (.inr (.inr (fun _ _ _ _ _ h => h))), .inr (.inr (.inr (fun _ _ _ _ _ h => h))), .inr (.inr (.inr (fun _ _ _ _ _ h => h))), .inr (.inr (.inr (fun _ _ _ _ h h0 => h0.keep h (by decide)))), .inr (.inr (.inl rfl)), .inr (.inr (.inl rfl)), trivial⟩,
      ⟨.inr (.inr (.inr (fun _ _ _ _ _ h => h))), .inr (.inr (.inr (fun _ _ _ _ _ h => h))), .inr (.inr (.inr (fun _ _ _ _ _ h => h))), .inr (.inr (.inr (fun _ _ _ _ h h0 => by cases h; exact h0))), .inl rfl, .inr (.inr (.inl rfl)), .inr (.inr (.inl rfl)), .inr (.inr (.inr (fun _ _ _ _ _ h => h))), .inr (.inr (.inr (fun _ _ _ _ _ h => h))), .inr (.inr (.inr (fun _ _ _ _ _ h => h))), .inr (.inr (.inr (fun _ _ _ _ h h0 => by cases h; exact h0))), .inr (.inr (.inl rfl)), .inr (.inr (.inl rfl)), trivial⟩,
      ⟨.inr (.inr (.inr (fun _ _ _ _ _ h => h))), .inr (.inr (.inr (fun _ _ _ _ _ h => h))), .inr (.inr (.inr (fun _ _ _ _ _ h => h))), .inr (.inr (.inr (fun _ _ _ _ h h0 => by cases h; exact h0))), .inr (.inr (.inr (fun _ _ _ _ _ h => h))), .inl rfl, .inr (.inr (.inl rfl)), .inr (.inr (.inr (fun _ _ _ _ _ h => h))), .inr (.inr (.inr (fun _ _ _ _ _ h => h))), .inr (.inr (.inr (fun _ _ _ _ _ h => h))), .inr (.inr (.inr (fun _ _ _ _ h h0 => by cases h; exact h0))), .inr (.inr (.inl rfl)), .inr (.inr (.inl rfl)), trivial⟩,
      ⟨.inr (.inr (.inr (fun _ _ _ _ _ h => h))), .inr (.inr (.inr (fun _ _ _ _ _ h => h))), .inr (.inr (.inr (fun _ _ _ _ _ h => h))), .inr (.inl rfl), .inr (.inr (.inr (fun _ _ _ _ _ h => h))), .inr (.inr (.inr (fun _ _ _ _ _ h => h))), .inl rfl, .inr (.inr (.inr (fun _ _ _ _ _ h => h))), .inr (.inr (.inr (fun _ _ _ _ _ h => h))), .inr (.inr (.inr (fun _ _ _ _ _ h => h))), .inr (.inr (.inr (fun _ _ _ _ h h0 => h0.keep h (by decide)))), .inr (.inr (.inl rfl)), .inr (.inr (.inl rfl)), trivial⟩,
      ⟨.inr (.inr (.inr (fun _ _ _ _ _ h => h))), .inr (.inr (.inr (fun _ _ _ _ _ h => h))), .inr (.inr (.inr (fun _ _ _ _ _ h => h))), .inr (.inr (.inr (fun _ _ _ _ h h0 => by cases h; exact h0))), .inr (.inr (.inr (fun _ _ _ _ _ h => h))), .inr (.inr (.inr (fun _ _ _ _ _ h => h))), .inr (.inr (.inr (fun _ _ _ _ h h0 => by cases h; exact h0))), .inl rfl, .inr (.inr (.inl rfl)), .inr (.inr (.inl rfl)), .inr (.inr (.inl rfl)), .inr (.inr (.inr (fun _ _ _ _ h h0 => by cases h; exact h0))), .inr (.inr (.inl rfl)), trivial⟩,
      ⟨.inr (.inr (.inr (fun _ _ _ _ _ h => h))), .inr (.inr (.inr (fun _ _ _ _ _ h => h))), .inr (.inr (.inr (fun _ _ _ _ _ h => h))), .inr (.inr (.inr (fun _ _ _ _ h h0 => by cases h; exact h0))), .inr (.inr (.inr (fun _ _ _ _ _ h => h))), .inr (.inr (.inr (fun _ _ _ _ _ h => h))), .inr (.inr (.inr (fun _ _ _ _ h h0 => by cases h; exact h0))), .inr (.inr (.inr (fun _ _ _ _ _ h => h))), .inl rfl, .inr (.inr (.inl rfl)), .inr (.inr (.inl rfl)), .inr (.inr (.inl rfl)), .inr (.inr (.inl rfl)), trivial⟩,
      ⟨.inr (.inr (.inr (fun _ _ _ _ _ h => h))), .inr (.inr (.inr (fun _ _ _ _ _ h => h))), .inr (.inr (.inr (fun _ _ _ _ _ h => h))), .inr (.inr (.inr (fun _ _ _ _ h h0 => by cases h; exact h0))), .inr (.inr (.inr (fun _ _ _ _ _ h => h))), .inr (.inr (.inr (fun _ _ _ _ _ h => h))), .inr (.inr (.inr (fun _ _ _ _ h h0 => by cases h; exact h0))), .inr (.inr (.inr (fun _ _ _ _ _ h => h))), .inr (.inr (.inr (fun _ _ _ _ _ h => h))), .inl rfl, .inr (.inr (.inl rfl)), .inr (.inr (.inl rfl)), .inr (.inr (.inl rfl)), trivial⟩,
      ⟨.inr (.inr (.inr (fun _ _ _ _ _ h => h))), .inr (.inr (.inr (fun _ _ _ _ _ h => h))), .inr (.inr (.inr (fun _ _ _ _ _ h => h))), .inr (.inr (.inr (fun _ _ _ _ h h0 => h0.alloc1 h))), .inr (.inr (.inr (fun _ _ _ _ _ h => h))), .inr (.inr (.inr (fun _ _ _ _ _ h => h))), .inr (.inr (.inr (fun _ _ _ _ h h0 => h0.alloc1 h))), .inr (.inr (.inr (fun _ _ _ _ _ h => h))), .inr (.inr (.inr (fun _ _ _ _ _ h => h))), .inr (.inr (.inr (fun _ _ _ _ _ h => h))), .inl rfl, .inr (.inr (.inl rfl)), .inr (.inr (.inl rfl)), trivial⟩,
      ⟨.inr (.inr (.inr (fun _ _ _ _ _ h => h))), .inr (.inr (.inr (fun _ _ _ _ _ h => h))), .inr (.inr (.inr (fun _ _ _ _ _ h => h))), .inr (.inl rfl), .inr (.inr (.inr (fun _ _ _ _ _ h => h))), .inr (.inr (.inr (fun _ _ _ _ _ h => h))), .inr (.inl rfl), .inr (.inr (.inr (fun _ _ _ _ _ h => h))), .inr (.inr (.inr (fun _ _ _ _ _ h => h))), .inr (.inr (.inr (fun _ _ _ _ _ h => h))), .inr (.inr (.inr (fun _ _ _ _ h h0 => h0.keep h (by decide)))), .inl rfl, .inr (.inr (.inl rfl)), trivial⟩,
      ⟨.inr (.inr (.inr (fun _ _ _ _ _ h => h))), .inr (.inr (.inr (fun _ _ _ _ _ h => h))), .inr (.inr (.inr (fun _ _ _ _ _ h => h))), .inr (.inr (.inr (fun _ _ _ _ h h0 => by cases h; exact h0))), .inr (.inr (.inr (fun _ _ _ _ _ h => h))), .inr (.inr (.inr (fun _ _ _ _ _ h => h))), .inr (.inr (.inr (fun _ _ _ _ h h0 => by cases h; exact h0))), .inr (.inr (.inr (fun _ _ _ _ _ h => h))), .inr (.inr (.inr (fun _ _ _ _ _ h => h))), .inr (.inr (.inr (fun _ _ _ _ _ h => h))), .inr (.inr (.inr (fun _ _ _ _ h h0 => by cases h; exact h0))), .inr (.inr (.inr (fun _ _ _ _ h h0 => by cases h; exact h0))), .inl rfl, trivial⟩, trivial⟩
  · refine ⟨?_, ?_, ?_, ?_, ?_, ?_, ?_, ?_, ?_, ?_, ?_, ?_, ?_, trivial⟩
    · -- 0: Op.move (Operand.tmp 0)
      refine step_plain [] (fun _ => rfl) rfl ?_
      intro w1 vals hC1 hi0 hf E hE
      have hI1 : (fun u => OwnX u B 5 1 (.slice A2 L2.length c2) L2.length (bytesV L2)) w1 := hi0 false rfl
      try dsimp only at hI1
      clear hi0
      clear hf
      simp only [puts, act_put, act_put_none, List.setIfInBounds_toArray, List.set_cons_zero, List.set_cons_succ] at hE ⊢
      go_wp2
      exact .mk (hE _ _ rfl hC1 rfl)
    · -- 1: Op.fieldAddr 24 (Operand.tmp 3) 1
      refine step_plain [] (fun _ => rfl) rfl ?_
      intro w1 vals hC1 hi0 hf E hE
      clear hi0
      clear hf
      simp only [puts, act_put, act_put_none, List.setIfInBounds_toArray, List.set_cons_zero, List.set_cons_succ] at hE ⊢
      go_wp2
      exact .mk (hE _ _ rfl hC1 rfl)
    · -- 2: Op.load 9 (Operand.tmp 17)
      refine step_plain [(1, some 17)] (fun _ => rfl) rfl ?_
      intro w1 vals hC1 hi0 hf E hE
      have hI1 : (fun u => OwnX u B 5 1 (.slice A2 L2.length c2) L2.length (bytesV L2)) w1 := hi0 false rfl
      try dsimp only at hI1
      clear hi0
      have f1 : vals 1 = .pointer (some ⟨w.heap.size, 1, none⟩) := hf 1 rfl
      try dsimp only at f1
      clear hf
      have hc0 := HC.out w1 hC1 1
      simp at hc0
      simp only [puts, act_put, act_put_none, List.setIfInBounds_toArray, List.set_cons_zero, List.set_cons_succ, f1] at hE ⊢
      clear f1
      go_wp2
      exact .mk (hE _ _ rfl hC1 rfl)
    · -- 3: Op.call { callee := Callee.value (Operand.func 29), args := #[Operand.tmp 16, Operand.tmp 18], argTypes := #[2
      refine step_plain [(0, some 16), (2, some 18)] (fun _ => rfl) rfl ?_
      intro w1 vals hC1 hi0 hf E hE
      have hI1 : (fun u => OwnX u B 5 1 (.slice A2 L2.length c2) L2.length (bytesV L2)) w1 := hi0 false rfl
      try dsimp only at hI1
      clear hi0
      have f0 : vals 0 = .slice A2 L2.length c2 := hf 0 rfl
      have f2 : vals 2 = .string src := hf 2 rfl
      try dsimp only at f0 f2
      clear hf
      simp only [puts, act_put, act_put_none, List.setIfInBounds_toArray, List.set_cons_zero, List.set_cons_succ, f0, f2] at hE ⊢
      clear f0 f2
      go_wp2_with fail
      refine (frame_any B _ L2 src _ (by have := hC1.size; omega) hI1 (by omega) (by omega) HL3.out).mono ?_
      rintro e w2 ⟨A1, c1, rfl, hown1, hgr1, hn1⟩
      go_wp2_with fail
      exact .mk (hE _ _ ⟨A1, c1, rfl, hown1, hn2.trans (hn1.back hC1.size) (Nat.le_refl _)⟩ (grown_next hC1 hn2 hgr1) (keepBut_of_grown hI1 hgr1))
    · -- 4: Op.fieldAddr 24 (Operand.tmp 3) 2
      refine step_plain [] (fun _ => rfl) rfl ?_
      intro w1 vals hC1 hi0 hf E hE
      clear hi0
      clear hf
      simp only [puts, act_put, act_put_none, List.setIfInBounds_toArray, List.set_cons_zero, List.set_cons_succ] at hE ⊢
      go_wp2
      exact .mk (hE _ _ rfl hC1 rfl)
    · -- 5: Op.load 9 (Operand.tmp 20)
      refine step_plain [(4, some 20)] (fun _ => rfl) rfl ?_
      intro w1 vals hC1 hi0 hf E hE
      clear hi0
      have f4 : vals 4 = .pointer (some ⟨w.heap.size, 2, none⟩) := hf 4 rfl
      try dsimp only at f4
      clear hf
      have hc0 := HC.out w1 hC1 2
      simp at hc0
      simp only [puts, act_put, act_put_none, List.setIfInBounds_toArray, List.set_cons_zero, List.set_cons_succ, f4] at hE ⊢
      clear f4
      go_wp2
      exact .mk (hE _ _ rfl hC1 rfl)
    · -- 6: Op.call { callee := Callee.value (Operand.func 29), args := #[Operand.tmp 19, Operand.tmp 21], argTypes := #[2
      refine step_plain [(3, some 19), (5, some 21), (3, some 19)] (fun _ => rfl) rfl ?_
      intro w1 vals hC1 hi0 hf E hE
      clear hi0
      have f3 : (Row B W0 v L3) (vals 3) w1 := hf 3 rfl
      have f5 : vals 5 = .string dst := hf 5 rfl
      try dsimp only at f3 f5
      clear hf
      obtain ⟨A1, c1, hx1, hown1, hn1⟩ := f3
      simp only [puts, act_put, act_put_none, List.setIfInBounds_toArray, List.set_cons_zero, List.set_cons_succ, f5, hx1] at hE ⊢
      clear f5
      clear hx1
      go_wp2_with fail
      refine (frame_any B _ L3 dst _ (by have := hC1.size; omega) hown1 (by omega) (by omega) HL4.out).mono ?_
      rintro e w2 ⟨A3, c3, rfl, hown3, hgr3, hn3⟩
      go_wp2_with fail
      exact .mk (hE _ _ ⟨A3, c3, rfl, hown3, hn1.trans (hn3.back hC1.size) (Nat.le_refl _)⟩ (grown_next hC1 hn1 hgr3) (keepBut_of_grown hown1 hgr3))
    · -- 7: Op.fieldAddr 24 (Operand.tmp 3) 4
      refine step_plain [] (fun _ => rfl) rfl ?_
      intro w1 vals hC1 hi0 hf E hE
      clear hi0
      clear hf
      simp only [puts, act_put, act_put_none, List.setIfInBounds_toArray, List.set_cons_zero, List.set_cons_succ] at hE ⊢
      go_wp2
      exact .mk (hE _ _ rfl hC1 rfl)
    · -- 8: Op.load 22 (Operand.tmp 23)
      refine step_plain [(7, some 23)] (fun _ => rfl) rfl ?_
      intro w1 vals hC1 hi0 hf E hE
      clear hi0
      have f7 : vals 7 = .pointer (some ⟨w.heap.size, 4, none⟩) := hf 7 rfl
      try dsimp only at f7
      clear hf
      have hc0 := HC.out w1 hC1 4
      simp at hc0
      simp only [puts, act_put, act_put_none, List.setIfInBounds_toArray, List.set_cons_zero, List.set_cons_succ, f7] at hE ⊢
      clear f7
      go_wp2
      exact .mk (hE _ _ rfl hC1 rfl)
    · -- 9: Op.call { callee := Callee.builtin Builtin.len, args := #[Operand.tmp 24], argTypes := #[22] }
      refine step_plain [(8, some 24)] (fun _ => rfl) rfl ?_
      intro w1 vals hC1 hi0 hf E hE
      clear hi0
      have f8 : vals 8 = .slice A fields.length c := hf 8 rfl
      try dsimp only at f8
      clear hf
      simp only [puts, act_put, act_put_none, List.setIfInBounds_toArray, List.set_cons_zero, List.set_cons_succ, f8] at hE ⊢
      clear f8
      go_wp2
      exact .mk (hE _ _ rfl hC1 rfl)
    · -- 10: Op.buildSlice 52 1 #[(0, Operand.tmp 25)]
      refine step_plain [(9, some 25)] (fun _ => rfl) rfl ?_
      intro w1 vals hC1 hi0 hf E hE
      clear hi0
      have f9 : vals 9 = .int .i64 fields.length := hf 9 rfl
      try dsimp only at f9
      clear hf
      simp only [puts, act_put, act_put_none, List.setIfInBounds_toArray, List.set_cons_zero, List.set_cons_succ, f9] at hE ⊢
      clear f9
      go_wp2
      exact .mk (hE _ _ (One.new _ _ _) (grown_alloc hC1 _) ⟨_, rfl⟩)
    · -- 11: Op.call { callee := Callee.value (Operand.func 25), args := #[Operand.tmp 22, Operand.const (Value.int IntKind
      refine step_plain [(6, some 22), (10, some 26), (6, some 22)] (fun _ => rfl) rfl ?_
      intro w1 vals hC1 hi0 hf E hE
      clear hi0
      have f6 : (Row B W0 v L4) (vals 6) w1 := hf 6 rfl
      have f10 : (One 3 (.int .i64 fields.length)) (vals 10) w1 := hf 10 rfl
      try dsimp only at f6 f10
      clear hf
      obtain ⟨g, hx, hg⟩ := f10
      obtain ⟨A1, c1, hx1, hown1, hn1⟩ := f6
      simp only [puts, act_put, act_put_none, List.setIfInBounds_toArray, List.set_cons_zero, List.set_cons_succ, hx, hx1] at hE ⊢
      clear hx hx1
      go_wp2_with fail
      refine (put1 (B := B) (l := L4) (n := fields.length) (by have := hC1.size; omega) hown1 hg (by omega) (by omega) (by omega) HL5.out).mono ?_
      rintro e w2 ⟨A3, c3, rfl, hown3, hgr3, hn3⟩
      go_wp2_with fail
      exact .mk (hE _ _ ⟨A3, c3, rfl, hown3, hn1.trans (hn3.back hC1.size) (Nat.le_refl _)⟩ (grown_next hC1 hn1 hgr3) (keepBut_of_grown hown1 hgr3))
    · -- 12: Op.assign (Operand.tmp 27)
      refine step_plain [(11, some 27), (11, some 27), (0, some 16), (1, some 17), (2, some 18), (3, some 19), (4, some 20), (5, some 21), (6, some 22), (7, some 23), (8, some 24), (9, some 25), (10, some 26), (11, some 27)] (fun _ => rfl) rfl ?_
      intro w1 vals hC1 hi0 hf E hE
      clear hi0
      have f0 : vals 0 = .slice A2 L2.length c2 := hf 0 rfl
      have f1 : vals 1 = .pointer (some ⟨w.heap.size, 1, none⟩) := hf 1 rfl
      have f2 : vals 2 = .string src := hf 2 rfl
      have f4 : vals 4 = .pointer (some ⟨w.heap.size, 2, none⟩) := hf 4 rfl
      have f5 : vals 5 = .string dst := hf 5 rfl
      have f7 : vals 7 = .pointer (some ⟨w.heap.size, 4, none⟩) := hf 7 rfl
      have f8 : vals 8 = .slice A fields.length c := hf 8 rfl
      have f9 : vals 9 = .int .i64 fields.length := hf 9 rfl
      have f10 : (One 3 (.int .i64 fields.length)) (vals 10) w1 := hf 10 rfl
      have f11 : (Row B W0 v L5) (vals 11) w1 := hf 11 rfl
      try dsimp only at f0 f1 f2 f4 f5 f7 f8 f9 f10 f11
      clear hf
      simp only [puts, act_put, act_put_none, List.setIfInBounds_toArray, List.set_cons_zero, List.set_cons_succ, f0, f1, f2, f4, f5, f7, f8, f9] at hE ⊢
      clear f0 f1 f2 f4 f5 f7 f8 f9
      go_wp2
      exact .mk (hE _ _ f11 hC1 rfl)
  intro w1 vals hC1 hf
  have f0 : vals 0 = .slice A2 L2.length c2 := hf 0 (by decide) rfl
  have f1 : vals 1 = .pointer (some ⟨w.heap.size, 1, none⟩) := hf 1 (by decide) rfl
  have f2 : vals 2 = .string src := hf 2 (by decide) rfl
  have f4 : vals 4 = .pointer (some ⟨w.heap.size, 2, none⟩) := hf 4 (by decide) rfl
  have f5 : vals 5 = .string dst := hf 5 (by decide) rfl
  have f7 : vals 7 = .pointer (some ⟨w.heap.size, 4, none⟩) := hf 7 (by decide) rfl
  have f8 : vals 8 = .slice A fields.length c := hf 8 (by decide) rfl
  have f9 : vals 9 = .int .i64 fields.length := hf 9 (by decide) rfl
  have f10 : (One 3 (.int .i64 fields.length)) (vals 10) w1 := hf 10 (by decide) rfl
  have f11 : (Row B W0 v L5) (vals 11) w1 := hf 11 (by decide) rfl
  have f12 : (Row B W0 v L5) (vals 12) w1 := hf 12 (by decide) rfl
  try dsimp only at f0 f1 f2 f4 f5 f7 f8 f9 f10 f11 f12
  clear hf
  simp only [puts, act_put, act_put_none, List.setIfInBounds_toArray, List.set_cons_zero, List.set_cons_succ, f0, f1, f2, f4, f5, f7, f8, f9]
  clear f0 f1 f2 f4 f5 f7 f8 f9
  generalize vals 3 = x3 at *
  generalize vals 6 = x6 at *
  generalize vals 10 = x10 at *
  generalize vals 11 = x11 at *
  generalize vals 12 = x12 at *
  obtain ⟨A5, c5, rfl, hown5, hn5⟩ := f12
  clear f10 f11 HI0 HC0
  obtain ⟨Lo, hLo⟩ : ∃ Lo : Nat → List UInt8, Lo = fun k => L5 ++ (fields.take k).flatMap frameB := ⟨_, rfl⟩
  have hlo : ∀ k, k ≤ fields.length → (Lo k).length ≤ 8000 + k * 1002 := by
    intro k
    induction k with
    | zero => intro _; rw [hLo]; simp; omega
    | succ k ih =>
      intro hk
      have h1 := ih (by omega)
      have h2 : Lo (k + 1) = Lo k ++ frameB (fields[k]'(by omega)) := by
        rw [hLo]
        simp only [List.take_succ_eq_append_getElem (show k < fields.length by omega), List.flatMap_append, List.flatMap_cons, List.flatMap_nil, List.append_nil, List.append_assoc]
      have h3 := h8 _ (List.getElem_mem (show k < fields.length by omega))
      rw [h2, List.length_append, frameB_length]
      omega
  have hLs : ∀ k, (hk : k < fields.length) → Lo (k + 1) = Lo k ++ frameB fields[k] := by
    intro k hk
    rw [hLo]
    simp only [List.take_succ_eq_append_getElem hk, List.flatMap_append, List.flatMap_cons, List.flatMap_nil, List.append_nil, List.append_assoc]
  have hL0 : Lo 0 = L5 := by rw [hLo]; simp
  have hLe : Lo fields.length = l ++ bodyB ⟨kind, src, dst, seq, fields, sig⟩ := by
    rw [hLo, HL5.out, HL4.out, HL3.out, HL2.out, HL1.out]
    simp [bodyB]
  have HLO := Lib.hid hlo
  have HLS := Lib.hid hLs
  have HL0 := Lib.hid hL0
  have HLE := Lib.hid hLe
  clear hLo hlo hLs hL0 hLe
  have hc4 := HC.out _ hC1 4
  simp at hc4
  go_wp2_with fail
  go_loopw [0, 31] (fun x i wr => ∃ k : Nat, k ≤ fields.length ∧ i = .int .i64 k ∧ Row B W0 v (Lo k) x wr ∧ W0.grownBy wr v.ownBlock) (fun _ i _ => fields.length - (intOf i).toNat)
  case atStart =>
    refine ⟨0, Nat.zero_le _, rfl, ?_, hC1⟩
    rw [HL0.out]
    exact ⟨A5, c5, rfl, hown5, hn5⟩
  case round =>
    obtain ⟨k, hk, rfl, ⟨A6, c6, rfl, hown6, hn6⟩, hC2⟩ := hrel
    by_cases hlt : k < fields.length
    · obtain ⟨ad, rfl, hadB, hcl⟩ := hr.at_ (k := k) (by rw [strsV_length]; exact hlt)
      simp only [strsV, List.getElem_map] at hcl
      have hcr : wr.cell? (ad.add k) = some (.string fields[k]) := by
        rw [← hcl, World.cell?_of_block (hC2.block _ (by rw [block_of_add]; have := HS.out; omega) ?_), HW0.out, World.cell?_alloc_lt _ _ _ (by rw [block_of_add]; omega)]
        rw [block_of_add]
        intro e
        have := hown.lt _ e.symm
        omega
      have hsz := h8 _ (List.getElem_mem hlt)
      have hlk := HLO.out k hk
      go_wp2_with fail
      refine (frame_any B _ (Lo k) fields[k] _ (by have := hC2.size; omega) hown6 (by omega) (by omega) (HLS.out k hlt)).mono ?_
      rintro e w2 ⟨A7, c7, rfl, hown7, hgr7, hn7⟩
      go_wp2_with fail
      go_roundw
      case rel => exact ⟨k + 1, hlt, by go_num, ⟨A7, c7, rfl, hown7, hn6.trans (hn7.back hC2.size) (Nat.le_refl _)⟩, grown_next hC2 hn6 hgr7⟩
      case measure => simp [intOf]; omega
    · obtain rfl : k = fields.length := by omega
      go_wp2_with fail
      go_ret
      have hs := HS.out
      have hg0 : w.grownBy W0 v.ownBlock := by rw [HW0.out]; exact World.grownBy_alloc _ _ _
      rw [← HLE.out]
      exact PutPost.mk_ (n := (Lo fields.length).length) hown6 (hg0.trans hC2) (hn6.back (by omega))
end Go.Proofs.Ytlngjalclagojaa
