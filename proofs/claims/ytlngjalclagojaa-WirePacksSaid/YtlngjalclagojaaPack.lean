/-
  Walks: wire.Pack.
-/
import Derived.Test.YtlngjalclagojaaText
namespace Go.Proofs.Ytlngjalclagojaa
open Go.RowKit

def packB (m : MsgD) : List UInt8 := bodyB m ++ beB m.sig.size 1 1 ++ m.sig.data.toList
theorem frames_le (l : List ByteArray) (h : ∀ s ∈ l, s.size ≤ 1000) : (l.flatMap frameB).length ≤ l.length * 1002 := by
  induction l with
  | nil => simp
  | cons a l ih =>
    have h1 := ih fun s hs => h s (List.mem_cons_of_mem _ hs)
    have h2 := h a (List.mem_cons_self ..)
    rw [List.flatMap_cons, List.length_append, frameB_length, List.length_cons]
    omega
theorem bodyB_length_le {m : MsgD} (h : mayB m = true) : (bodyB m).length ≤ 12000 := by
  obtain ⟨f1, f2, f3, f4, f5, f6, f7, f8, f9⟩ := may_facts h
  have := frames_le m.fields f8
  simp only [bodyB, List.length_append, beB_length, frameB_length]
  omega

def PackPost (m : MsgD) (w : World) (e : Ending) (w' : World) : Prop :=
  Below w.heap.size w w' ∧ if mayB m then ∃ A c, e = .returned (.tuple #[.slice A (packB m).length c, .int .i64 0]) ∧ OwnX w' w.heap.size 5 1 (.slice A (packB m).length c) (packB m).length (bytesV (packB m))
    else e = .returned (.tuple #[.slice none 0 0, .int .i64 1])

set_option maxHeartbeats 1000000 in
theorem pack_any (m : MsgD) (A : Option Addr) (c B : Nat) (w : World) (hr : Rd w B A (strsV m.fields)) (hB : B ≤ w.heap.size) (hc : m.fields.length ≤ c) (ok : MsgOk m) :
    Calls Try.prog 12 #[.agg (msgCells m A c)] w (PackPost m w) := by
  have hb1 : Below w.heap.size w (w.alloc (.cells (msgCells m A c) 24)) := (Below.refl _ _).alloc (Nat.le_refl _) _
  have hr1 := hr.below (hb1.mono hB)
  have hb2 : Below w.heap.size w ((w.alloc (.cells (msgCells m A c) 24)).alloc (.cells (msgCells m A c) 24)) := hb1.alloc (by simp) _
  have hmay := may_any m A c B (w.alloc (.cells (msgCells m A c) 24)) hr1 (by simp; omega) hc ok
  by_cases hm : mayB m = true
  · obtain ⟨f1, f2, f3, f4, f5, f6, f7, f8, f9⟩ := may_facts hm
    rw [hm] at hmay
    obtain ⟨L1, hL1⟩ : ∃ L, L = bodyB m := ⟨_, rfl⟩
    obtain ⟨L2, hL2⟩ : ∃ L, L = L1 ++ beB m.sig.size 1 1 := ⟨_, rfl⟩
    obtain ⟨L3, hL3⟩ : ∃ L, L = packB m := ⟨_, rfl⟩
    have hl1 : L1.length ≤ 12000 := by rw [hL1]; exact bodyB_length_le hm
    have hl2 : L2.length ≤ 13000 := by rw [hL2, List.length_append, beB_length]; omega
    have hl3 : L3 = L2 ++ m.sig.data.toList := by rw [hL3, hL2, hL1]; rfl
    have hl4 : L3.length = L2.length + m.sig.size := by rw [hl3, List.length_append, Array.length_toList]; rfl
    have hbody : ∀ (W : World), Below w.heap.size w W → w.heap.size ≤ W.heap.size → Calls Try.prog 18 #[.slice none 0 0, .agg (msgCells m A c)] W (PutPost w.heap.size (.slice none 0 0) L1 W) := fun W hW hsz => by
      rw [hL1]
      have := body_any w.heap.size (.slice none 0 0) [] m A c W hsz (OwnX.nil _ _ _ _) ((hr.below (hW.mono hB)).mono hB) hc (by decide) f1 f2 f3 f4 f5 f6 f7 f8
      rwa [List.nil_append] at this
    have HM := Lib.hid hm
    have HL1 := Lib.hid hL1
    have HL2 := Lib.hid hL2
    have HL3 := Lib.hid hL3
    have Hl3 := Lib.hid hl3
    have Hl4 := Lib.hid hl4
    have HMAY := Lib.hid hmay
    have HBODY := Lib.hid hbody
    obtain ⟨W0, hW0⟩ : ∃ W0, W0 = ((w.alloc (.cells (msgCells m A c) 24)).alloc (.cells (msgCells m A c) 24)) := ⟨_, rfl⟩
    rw [← hW0] at hb2
    have hbox : W0.heap[w.heap.size]? = some (.cells (msgCells m A c) 24 (0, 0)) := by
      rw [hW0, Below.heap_alloc _ _ _ (by simp)]; exact heap_alloc_new w _
    have hsz : W0.heap.size = w.heap.size + 2 := by rw [hW0]; simp
    have hcell : ∀ (u : World), Below W0.heap.size W0 u → ∀ i, u.cell? ⟨w.heap.size, i, none⟩ = (msgCells m A c)[i]? := fun u hu i =>
      cell_of_row _ _ _ _ _ (0,0) ((hu.block _ (by omega)).trans hbox)
    have HC0 : Below W0.heap.size W0 W0.drew := (Below.refl _ _).drew
    have HB2 := Lib.hid hb2
    have HW0 := Lib.hid hW0
    have HS := Lib.hid hsz
    have HC := Lib.hid hcell
    clear hm hmay hbody hr hr1 hb1 hb2 hL1 hL2 hL3 hl3 hl4 hbox hsz hcell
    obtain ⟨kind, src, dst, seq, fields, sig⟩ := m
    dsimp only [msgCells] at *
    go_enter Try.func12, Try.ntmps12
    go_wp2_with fail
    refine HMAY.out.mono ?_
    rintro e w1 ⟨rfl, rfl⟩
    go_wp2_with fail
    rw [← hW0]
    clear hW0
    refine wp_region_list (fun u => Below W0.heap.size W0 u) (fun | false => (fun _ => True) | true => (fun _ => True)) (fun | false, _ => false | true, _ => false)
      [fun z _ => z 0 = .agg #[.int .i64 kind, .string src, .string dst, .int .i64 seq, .slice A fields.length c, .string sig],
       fun z u => (Row w.heap.size W0 (.slice none 0 0) L1) (z 1) u,
       fun z _ => z 2 = .pointer (some ⟨w.heap.size, 5, none⟩),
       fun z _ => z 3 = .string sig,
       fun z _ => z 4 = .int .i64 sig.size,
       fun z u => (One 3 (.int .i64 sig.size)) (z 5) u,
       fun z u => (Row w.heap.size W0 (.slice none 0 0) L2) (z 6) u,
       fun z _ => z 7 = .pointer (some ⟨w.heap.size, 5, none⟩),
       fun z _ => z 8 = .string sig,
       fun z u => (Row w.heap.size W0 (.slice none 0 0) L3) (z 9) u,
       fun z u => (Row w.heap.size W0 (.slice none 0 0) L3) (z 10) u,
       fun z _ => z 11 = .int .i64 0]
      [Eq, KeepBut 5, Eq, Eq, Eq, Alloc1, KeepBut 5, Eq, Eq, KeepBut 5, Eq, Eq]
      (fun i k => (i == 6 && k == 1) || (i == 9 && k == 1) || (i == 9 && k == 6)) [(0, some 7), (1, some 8), (2, some 9), (3, some 10), (4, some 11), (5, some 12), (6, some 13), (7, some 14), (8, some 15), (9, some 16), (10, some 2), (11, some 3)] (by kernel_rfl) (by kernel_rfl) rfl (fun _ => rfl) ?_ ?_ ?_ ?_ ?_ ?_
    · exact HC0
    · intro m; cases m; exact trivial; exact trivial
    · intro m; cases m
      · exact ⟨.inr (fun _ _ h h0 => h ▸ h0), .inr (fun _ _ _ h => h), .inr (fun _ _ h h0 => h ▸ h0), .inr (fun _ _ h h0 => h ▸ h0), .inr (fun _ _ h h0 => h ▸ h0), .inr (fun _ _ _ h => h), .inr (fun _ _ _ h => h), .inr (fun _ _ h h0 => h ▸ h0), .inr (fun _ _ h h0 => h ▸ h0), .inr (fun _ _ _ h => h), .inr (fun _ _ h h0 => h ▸ h0), .inr (fun _ _ h h0 => h ▸ h0), trivial⟩
      · exact ⟨.inr (fun _ _ h h0 => h ▸ h0), .inr (fun _ _ _ h => h), .inr (fun _ _ h h0 => h ▸ h0), .inr (fun _ _ h h0 => h ▸ h0), .inr (fun _ _ h h0 => h ▸ h0), .inr (fun _ _ _ h => h), .inr (fun _ _ _ h => h), .inr (fun _ _ h h0 => h ▸ h0), .inr (fun _ _ h h0 => h ▸ h0), .inr (fun _ _ _ h => h), .inr (fun _ _ h h0 => h ▸ h0), .inr (fun _ _ h h0 => h ▸ h0), trivial⟩
    · exact ⟨⟨.inl rfl, .inr (.inr (.inl rfl)), .inr (.inr (.inr (fun _ _ _ _ _ h => h))), .inr (.inr (.inr (fun _ _ _ _ _ h => h))), .inr (.inr (.inr (fun _ _ _ _ _ h => h))), .inr (.inr (.inr (fun _ _ _ _ h h0 => by cases h; exact h0))), .inr (.inr (.inl rfl)), .inr (.inr (.inr (fun _ _ _ _ _ h => h))), .inr (.inr (.inr (fun _ _ _ _ _ h => h))), .inr (.inr (.inl rfl)), .inr (.inr (.inl rfl)), .inr (.inr (.inl rfl)), trivial⟩,
        ⟨.inr (.inr (.inr (fun _ _ _ _ _ h => h))), .inl rfl, .inr (.inr (.inr (fun _ _ _ _ _ h => h))), .inr (.inr (.inr (fun _ _ _ _ _ h => h))), .inr (.inr (.inr (fun _ _ _ _ _ h => h))), .inr (.inr (.inr (fun _ _ _ _ h h0 => h0.keep h (by decide)))), .inr (.inr (.inl rfl)), .inr (.inr (.inr (fun _ _ _ _ _ h => h))), .inr (.inr (.inr (fun _ _ _ _ _ h => h))), .inr (.inr (.inl rfl)), .inr (.inr (.inl rfl)), .inr (.inr (.inl rfl)), trivial⟩,
        ⟨.inr (.inr (.inr (fun _ _ _ _ _ h => h))), .inr (.inr (.inr (fun _ _ _ _ h h0 => by cases h; exact h0))), .inl rfl, .inr (.inr (.inl rfl)), .inr (.inr (.inl rfl)), .inr (.inr (.inl rfl)), .inr (.inr (.inr (fun _ _ _ _ h h0 => by cases h; exact h0))), .inr (.inr (.inr (fun _ _ _ _ _ h => h))), .inr (.inr (.inr (fun _ _ _ _ _ h => h))), .inr (.inr (.inr (fun _ _ _ _ h h0 => by cases h; exact h0))), .inr (.inr (.inl rfl)), .inr (.inr (.inl rfl)), trivial⟩,
        ⟨.inr (.inr (.inr (fun _ _ _ _ _ h => h))), .inr (.inr (.inr (fun _ _ _ _ h h0 => by cases h; exact h0))), .inr (.inr (.inr (fun _ _ _ _ _ h => h))), .inl rfl, .inr (.inr (.inl rfl)), .inr (.inr (.inl rfl)), .inr (.inr (.inl rfl)), .inr (.inr (.inr (fun _ _ _ _ _ h => h))), .inr (.inr (.inr (fun _ _ _ _ _ h => h))), .inr (.inr (.inr (fun _ _ _ _ h h0 => by cases h; exact h0))), .inr (.inr (.inl rfl)), .inr (.inr (.inl rfl)), trivial⟩,
        ⟨.inr (.inr (.inr (fun _ _ _ _ _ h => h))), .inr (.inr (.inr (fun _ _ _ _ h h0 => by cases h; exact h0))), .inr (.inr (.inr (fun _ _ _ _ _ h => h))), .inr (.inr (.inr (fun _ _ _ _ _ h => h))), .inl rfl, .inr (.inr (.inl rfl)), .inr (.inr (.inl rfl)), .inr (.inr (.inr (fun _ _ _ _ _ h => h))), .inr (.inr (.inr (fun _ _ _ _ _ h => h))), .inr (.inr (.inl rfl)), .inr (.inr (.inl rfl)), .inr (.inr (.inl rfl)), trivial⟩,
        ⟨.inr (.inr (.inr (fun _ _ _ _ _ h => h))), .inr (.inr (.inr (fun _ _ _ _ h h0 => h0.alloc1 h))), .inr (.inr (.inr (fun _ _ _ _ _ h => h))), .inr (.inr (.inr (fun _ _ _ _ _ h => h))), .inr (.inr (.inr (fun _ _ _ _ _ h => h))), .inl rfl, .inr (.inr (.inl rfl)), .inr (.inr (.inr (fun _ _ _ _ _ h => h))), .inr (.inr (.inr (fun _ _ _ _ _ h => h))), .inr (.inr (.inl rfl)), .inr (.inr (.inl rfl)), .inr (.inr (.inl rfl)), trivial⟩,
        ⟨.inr (.inr (.inr (fun _ _ _ _ _ h => h))), .inr (.inl rfl), .inr (.inr (.inr (fun _ _ _ _ _ h => h))), .inr (.inr (.inr (fun _ _ _ _ _ h => h))), .inr (.inr (.inr (fun _ _ _ _ _ h => h))), .inr (.inr (.inr (fun _ _ _ _ h h0 => h0.keep h (by decide)))), .inl rfl, .inr (.inr (.inr (fun _ _ _ _ _ h => h))), .inr (.inr (.inr (fun _ _ _ _ _ h => h))), .inr (.inr (.inl rfl)), .inr (.inr (.inl rfl)), .inr (.inr (.inl rfl)), trivial⟩,
        ⟨.inr (.inr (.inr (fun _ _ _ _ _ h => h))), .inr (.inr (.inr (fun _ _ _ _ h h0 => by cases h; exact h0))), .inr (.inr (.inr (fun _ _ _ _ _ h => h))), .inr (.inr (.inr (fun _ _ _ _ _ h => h))), .inr (.inr (.inr (fun _ _ _ _ _ h => h))), .inr (.inr (.inr (fun _ _ _ _ h h0 => by cases h; exact h0))), .inr (.inr (.inr (fun _ _ _ _ h h0 => by cases h; exact h0))), .inl rfl, .inr (.inr (.inl rfl)), .inr (.inr (.inl rfl)), .inr (.inr (.inl rfl)), .inr (.inr (.inl rfl)), trivial⟩,
        ⟨.inr (.inr (.inr (fun _ _ _ _ _ h => h))), .inr (.inr (.inr (fun _ _ _ _ h h0 => by cases h; exact h0))), .inr (.inr (.inr (fun _ _ _ _ _ h => h))), .inr (.inr (.inr (fun _ _ _ _ _ h => h))), .inr (.inr (.inr (fun _ _ _ _ _ h => h))), .inr (.inr (.inr (fun _ _ _ _ h h0 => by cases h; exact h0))), .inr (.inr (.inr (fun _ _ _ _ h h0 => by cases h; exact h0))), .inr (.inr (.inr (fun _ _ _ _ _ h => h))), .inl rfl, .inr (.inr (.inl rfl)), .inr (.inr (.inl rfl)), .inr (.inr (.inl rfl)), trivial⟩,
        ⟨.inr (.inr (.inr (fun _ _ _ _ _ h => h))), .inr (.inl rfl), .inr (.inr (.inr (fun _ _ _ _ _ h => h))), .inr (.inr (.inr (fun _ _ _ _ _ h => h))), .inr (.inr (.inr (fun _ _ _ _ _ h => h))), .inr (.inr (.inr (fun _ _ _ _ h h0 => h0.keep h (by decide)))), .inr (.inl rfl), .inr (.inr (.inr (fun _ _ _ _ _ h => h))), .inr (.inr (.inr (fun _ _ _ _ _ h => h))), .inl rfl, .inr (.inr (.inl rfl)), .inr (.inr (.inl rfl)), trivial⟩,
        ⟨.inr (.inr (.inr (fun _ _ _ _ _ h => h))), .inr (.inr (.inr (fun _ _ _ _ h h0 => by cases h; exact h0))), .inr (.inr (.inr (fun _ _ _ _ _ h => h))), .inr (.inr (.inr (fun _ _ _ _ _ h => h))), .inr (.inr (.inr (fun _ _ _ _ _ h => h))), .inr (.inr (.inr (fun _ _ _ _ h h0 => by cases h; exact h0))), .inr (.inr (.inr (fun _ _ _ _ h h0 => by cases h; exact h0))), .inr (.inr (.inr (fun _ _ _ _ _ h => h))), .inr (.inr (.inr (fun _ _ _ _ _ h => h))), .inr (.inr (.inr (fun _ _ _ _ h h0 => by cases h; exact h0))), .inl rfl, .inr (.inr (.inl rfl)), trivial⟩,
        ⟨.inr (.inr (.inr (fun _ _ _ _ _ h => h))), .inr (.inr (.inr (fun _ _ _ _ h h0 => by cases h; exact h0))), .inr (.inr (.inr (fun _ _ _ _ _ h => h))), .inr (.inr (.inr (fun _ _ _ _ _ h => h))), .inr (.inr (.inr (fun _ _ _ _ _ h => h))), .inr (.inr (.inr (fun _ _ _ _ h h0 => by cases h; exact h0))), .inr (.inr (.inr (fun _ _ _ _ h h0 => by cases h; exact h0))), .inr (.inr (.inr (fun _ _ _ _ _ h => h))), .inr (.inr (.inr (fun _ _ _ _ _ h => h))), .inr (.inr (.inr (fun _ _ _ _ h h0 => by cases h; exact h0))), .inr (.inr (.inr (fun _ _ _ _ h h0 => by cases h; exact h0))), .inl rfl, trivial⟩, trivial⟩
    · refine ⟨?_, ?_, ?_, ?_, ?_, ?_, ?_, ?_, ?_, ?_, ?_, ?_, trivial⟩
      · -- 0: Op.load 24 (Operand.tmp 1)
        refine step_plain [] (fun _ => rfl) rfl ?_
        intro w1 vals hC1 hi0 hf E hE
        clear hi0
        clear hf
        have c0 := HC.out w1 hC1 0
        have c1 := HC.out w1 hC1 1
        have c2 := HC.out w1 hC1 2
        have c3 := HC.out w1 hC1 3
        have c4 := HC.out w1 hC1 4
        have c5 := HC.out w1 hC1 5
        simp at c0 c1 c2 c3 c4 c5
        simp only [puts, act_put, act_put_none, List.setIfInBounds_toArray, List.set_cons_zero, List.set_cons_succ] at hE ⊢
        go_wp2
        exact .mk (hE _ _ rfl hC1 rfl)
      · -- 1: Op.call { callee := Callee.value (Operand.func 18), args := #[Operand.const (Value.slice none 0 0), Operand.tm
        refine step_plain [(0, some 7)] (fun _ => rfl) rfl ?_
        intro w1 vals hC1 hi0 hf E hE
        clear hi0
        have f0 : vals 0 = .agg #[.int .i64 kind, .string src, .string dst, .int .i64 seq, .slice A fields.length c, .string sig] := hf 0 rfl
        try dsimp only at f0
        clear hf
        simp only [puts, act_put, act_put_none, List.setIfInBounds_toArray, List.set_cons_zero, List.set_cons_succ, f0] at hE ⊢
        clear f0
        go_wp2_with fail
        refine calls_then (HBODY.out _ (HB2.out.trans (hC1.mono HB2.out.size)) (by have := hC1.size; have := HS.out; omega)) ?_
        rintro e w2 ⟨A1, c1, rfl, hown1, hgr1, hn1⟩
        go_wp2_with fail
        exact .mk (hE _ _ ⟨A1, c1, rfl, hown1, hn1.back hC1.size⟩ (below_row hC1 (.inl rfl) hgr1) (keepBut_of_grown (OwnX.nil _ 0 _ 1) hgr1))
      · -- 2: Op.fieldAddr 24 (Operand.tmp 1) 5
        refine step_plain [] (fun _ => rfl) rfl ?_
        intro w1 vals hC1 hi0 hf E hE
        clear hi0
        clear hf
        simp only [puts, act_put, act_put_none, List.setIfInBounds_toArray, List.set_cons_zero, List.set_cons_succ] at hE ⊢
        go_wp2
        exact .mk (hE _ _ rfl hC1 rfl)
      · -- 3: Op.load 9 (Operand.tmp 9)
        refine step_plain [(2, some 9)] (fun _ => rfl) rfl ?_
        intro w1 vals hC1 hi0 hf E hE
        clear hi0
        have f2 : vals 2 = .pointer (some ⟨w.heap.size, 5, none⟩) := hf 2 rfl
        try dsimp only at f2
        clear hf
        have hc0 := HC.out w1 hC1 5
        simp at hc0
        simp only [puts, act_put, act_put_none, List.setIfInBounds_toArray, List.set_cons_zero, List.set_cons_succ, f2] at hE ⊢
        clear f2
        go_wp2
        exact .mk (hE _ _ rfl hC1 rfl)
      · -- 4: Op.call { callee := Callee.builtin Builtin.len, args := #[Operand.tmp 10], argTypes := #[9] }
        refine step_plain [(3, some 10)] (fun _ => rfl) rfl ?_
        intro w1 vals hC1 hi0 hf E hE
        clear hi0
        have f3 : vals 3 = .string sig := hf 3 rfl
        try dsimp only at f3
        clear hf
        simp only [puts, act_put, act_put_none, List.setIfInBounds_toArray, List.set_cons_zero, List.set_cons_succ, f3] at hE ⊢
        clear f3
        go_wp2
        exact .mk (hE _ _ rfl hC1 rfl)
      · -- 5: Op.buildSlice 52 1 #[(0, Operand.tmp 11)]
        refine step_plain [(4, some 11)] (fun _ => rfl) rfl ?_
        intro w1 vals hC1 hi0 hf E hE
        clear hi0
        have f4 : vals 4 = .int .i64 sig.size := hf 4 rfl
        try dsimp only at f4
        clear hf
        simp only [puts, act_put, act_put_none, List.setIfInBounds_toArray, List.set_cons_zero, List.set_cons_succ, f4] at hE ⊢
        clear f4
        go_wp2
        exact .mk (hE _ _ (One.new _ _ _) (hC1.alloc hC1.size _) ⟨_, rfl⟩)
      · -- 6: Op.call { callee := Callee.value (Operand.func 25), args := #[Operand.tmp 8, Operand.const (Value.int IntKind.
        refine step_plain [(1, some 8), (5, some 12), (1, some 8)] (fun _ => rfl) rfl ?_
        intro w1 vals hC1 hi0 hf E hE
        clear hi0
        have f1 : (Row w.heap.size W0 (.slice none 0 0) L1) (vals 1) w1 := hf 1 rfl
        have f5 : (One 3 (.int .i64 sig.size)) (vals 5) w1 := hf 5 rfl
        try dsimp only at f1 f5
        clear hf
        obtain ⟨g, hx, hg⟩ := f5
        obtain ⟨A1, c1, hx1, hown1, hn1⟩ := f1
        simp only [puts, act_put, act_put_none, List.setIfInBounds_toArray, List.set_cons_zero, List.set_cons_succ, hx, hx1] at hE ⊢
        clear hx hx1
        go_wp2_with fail
        refine calls_then (put1 (B := w.heap.size) (l := L1) (n := sig.size) (by have := hC1.size; have := HS.out; omega) hown1 hg (by omega) (by omega) (by omega) HL2.out) ?_
        rintro e w2 ⟨A2, c2, rfl, hown2, hgr2, hn2⟩
        go_wp2_with fail
        exact .mk (hE _ _ ⟨A2, c2, rfl, hown2, hn1.trans (hn2.back hC1.size) (Nat.le_refl _)⟩ (below_row hC1 hn1 hgr2) (keepBut_of_grown hown1 hgr2))
      · -- 7: Op.fieldAddr 24 (Operand.tmp 1) 5
        refine step_plain [] (fun _ => rfl) rfl ?_
        intro w1 vals hC1 hi0 hf E hE
        clear hi0
        clear hf
        simp only [puts, act_put, act_put_none, List.setIfInBounds_toArray, List.set_cons_zero, List.set_cons_succ] at hE ⊢
        go_wp2
        exact .mk (hE _ _ rfl hC1 rfl)
      · -- 8: Op.load 9 (Operand.tmp 14)
        refine step_plain [(7, some 14)] (fun _ => rfl) rfl ?_
        intro w1 vals hC1 hi0 hf E hE
        clear hi0
        have f7 : vals 7 = .pointer (some ⟨w.heap.size, 5, none⟩) := hf 7 rfl
        try dsimp only at f7
        clear hf
        have hc0 := HC.out w1 hC1 5
        simp at hc0
        simp only [puts, act_put, act_put_none, List.setIfInBounds_toArray, List.set_cons_zero, List.set_cons_succ, f7] at hE ⊢
        clear f7
        go_wp2
        exact .mk (hE _ _ rfl hC1 rfl)
      · -- 9: Op.call { callee := Callee.builtin Builtin.append, args := #[Operand.tmp 13, Operand.tmp 15], argTypes := #[26
        refine step_plain [(6, some 13), (8, some 15), (6, some 13)] (fun _ => rfl) rfl ?_
        intro w1 vals hC1 hi0 hf E hE
        clear hi0
        have f6 : (Row w.heap.size W0 (.slice none 0 0) L2) (vals 6) w1 := hf 6 rfl
        have f8 : vals 8 = .string sig := hf 8 rfl
        try dsimp only at f6 f8
        clear hf
        obtain ⟨A1, c1, hx1, hown1, hn1⟩ := f6
        simp only [puts, act_put, act_put_none, List.setIfInBounds_toArray, List.set_cons_zero, List.set_cons_succ, f8, hx1] at hE ⊢
        clear f8
        clear hx1
        go_wp2_with (refine wpList_append_str sl_bytes zero_u8 Try.underlying9 rfl rfl hown1 rfl rfl (by omega) (by have := hC1.size; have := HS.out; omega) ?_; intro A2 c2 w2 hown2 hgr2 hn2)
        have e1 : bytesV L2 ++ Lib.strCells sig = bytesV L3 := by rw [Hl3.out, bytesV_append]; rfl
        rw [e1, ← Hl4.out] at hown2
        rw [← Hl4.out] at hn2 ⊢
        exact .mk (hE _ _ ⟨A2, c2, rfl, hown2, hn1.trans (hn2.back hC1.size) (Nat.le_refl _)⟩ (below_row hC1 hn1 hgr2) (keepBut_of_grown hown1 hgr2))
      · -- 10: Op.assign (Operand.tmp 16)
        refine step_plain [(9, some 16), (9, some 16), (0, some 7), (1, some 8), (2, some 9), (3, some 10), (4, some 11), (5, some 12), (6, some 13), (7, some 14), (8, some 15), (9, some 16)] (fun _ => rfl) rfl ?_
        intro w1 vals hC1 hi0 hf E hE
        clear hi0
        have f0 : vals 0 = .agg #[.int .i64 kind, .string src, .string dst, .int .i64 seq, .slice A fields.length c, .string sig] := hf 0 rfl
        have f2 : vals 2 = .pointer (some ⟨w.heap.size, 5, none⟩) := hf 2 rfl
        have f3 : vals 3 = .string sig := hf 3 rfl
        have f4 : vals 4 = .int .i64 sig.size := hf 4 rfl
        have f5 : (One 3 (.int .i64 sig.size)) (vals 5) w1 := hf 5 rfl
        have f7 : vals 7 = .pointer (some ⟨w.heap.size, 5, none⟩) := hf 7 rfl
        have f8 : vals 8 = .string sig := hf 8 rfl
        have f9 : (Row w.heap.size W0 (.slice none 0 0) L3) (vals 9) w1 := hf 9 rfl
        try dsimp only at f0 f2 f3 f4 f5 f7 f8 f9
        clear hf
        simp only [puts, act_put, act_put_none, List.setIfInBounds_toArray, List.set_cons_zero, List.set_cons_succ, f0, f2, f3, f4, f7, f8] at hE ⊢
        clear f0 f2 f3 f4 f7 f8
        go_wp2
        exact .mk (hE _ _ f9 hC1 rfl)
      · -- 11: Op.assign (Operand.const (Value.int IntKind.i64 0))
        refine step_plain [(10, some 2), (0, some 7), (1, some 8), (2, some 9), (3, some 10), (4, some 11), (5, some 12), (6, some 13), (7, some 14), (8, some 15), (9, some 16), (10, some 2)] (fun _ => rfl) rfl ?_
        intro w1 vals hC1 hi0 hf E hE
        clear hi0
        have f0 : vals 0 = .agg #[.int .i64 kind, .string src, .string dst, .int .i64 seq, .slice A fields.length c, .string sig] := hf 0 rfl
        have f2 : vals 2 = .pointer (some ⟨w.heap.size, 5, none⟩) := hf 2 rfl
        have f3 : vals 3 = .string sig := hf 3 rfl
        have f4 : vals 4 = .int .i64 sig.size := hf 4 rfl
        have f5 : (One 3 (.int .i64 sig.size)) (vals 5) w1 := hf 5 rfl
        have f7 : vals 7 = .pointer (some ⟨w.heap.size, 5, none⟩) := hf 7 rfl
        have f8 : vals 8 = .string sig := hf 8 rfl
        have f9 : (Row w.heap.size W0 (.slice none 0 0) L3) (vals 9) w1 := hf 9 rfl
        have f10 : (Row w.heap.size W0 (.slice none 0 0) L3) (vals 10) w1 := hf 10 rfl
        try dsimp only at f0 f2 f3 f4 f5 f7 f8 f9 f10
        clear hf
        simp only [puts, act_put, act_put_none, List.setIfInBounds_toArray, List.set_cons_zero, List.set_cons_succ, f0, f2, f3, f4, f7, f8] at hE ⊢
        clear f0 f2 f3 f4 f7 f8
        go_wp2
        exact .mk (hE _ _ rfl hC1 rfl)
    intro w1 vals hC1 hf
    have f0 : vals 0 = .agg #[.int .i64 kind, .string src, .string dst, .int .i64 seq, .slice A fields.length c, .string sig] := hf 0 (by decide) rfl
    have f2 : vals 2 = .pointer (some ⟨w.heap.size, 5, none⟩) := hf 2 (by decide) rfl
    have f3 : vals 3 = .string sig := hf 3 (by decide) rfl
    have f4 : vals 4 = .int .i64 sig.size := hf 4 (by decide) rfl
    have f5 : (One 3 (.int .i64 sig.size)) (vals 5) w1 := hf 5 (by decide) rfl
    have f7 : vals 7 = .pointer (some ⟨w.heap.size, 5, none⟩) := hf 7 (by decide) rfl
    have f8 : vals 8 = .string sig := hf 8 (by decide) rfl
    have f9 : (Row w.heap.size W0 (.slice none 0 0) L3) (vals 9) w1 := hf 9 (by decide) rfl
    have f10 : (Row w.heap.size W0 (.slice none 0 0) L3) (vals 10) w1 := hf 10 (by decide) rfl
    have f11 : vals 11 = .int .i64 0 := hf 11 (by decide) rfl
    try dsimp only at f0 f2 f3 f4 f5 f7 f8 f9 f10 f11
    clear hf
    simp only [puts, act_put, act_put_none, List.setIfInBounds_toArray, List.set_cons_zero, List.set_cons_succ, f0, f2, f3, f4, f7, f8, f11]
    clear f0 f2 f3 f4 f7 f8 f11
    generalize vals 1 = x1 at *
    generalize vals 5 = x5 at *
    generalize vals 6 = x6 at *
    generalize vals 9 = x9 at *
    generalize vals 10 = x10 at *
    obtain ⟨A3, c3, rfl, hown3, hn3⟩ := f10
    clear f1 f5 f6 f9
    go_wp2_with fail
    go_ret2
    refine ⟨HB2.out.trans (hC1.mono HB2.out.size), ?_⟩
    rw [if_pos HM.out, ← HL3.out]
    exact ⟨_, _, rfl, hown3⟩
  · have hm' : mayB m = false := by simpa using hm
    rw [hm'] at hmay
    have HM := Lib.hid hm
    have HMAY := Lib.hid hmay
    have HB2 := Lib.hid hb2
    clear hm hm' hmay hr hr1 hb1 hb2
    obtain ⟨kind, src, dst, seq, fields, sig⟩ := m
    dsimp only [msgCells] at *
    go_enter Try.func12, Try.ntmps12
    go_wp2_with fail
    refine HMAY.out.mono ?_
    rintro e w1 ⟨rfl, rfl⟩
    go_wp2_with fail
    go_ret2
    refine ⟨HB2.out, ?_⟩
    rw [if_neg HM.out]
    rfl
end Go.Proofs.Ytlngjalclagojaa
