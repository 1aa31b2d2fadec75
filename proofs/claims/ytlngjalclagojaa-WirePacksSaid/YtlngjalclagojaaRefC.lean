/-
  Walks: brevetref12.Pack, brevetref12.May.
-/
import Derived.Test.YtlngjalclagojaaRefB
namespace Go.Proofs.Ytlngjalclagojaa
open Go.RowKit

set_option maxHeartbeats 1000000 in
theorem rpack_any (m : MsgD) (A : Option Addr) (c B : Nat) (w : World) (hr : Rd w B A (strsV m.fields)) (hB : B ≤ w.heap.size) (hc : m.fields.length ≤ c) (hm : mayB m = true) :
    Calls Try.prog 14 #[.agg (msgCells m A c)] w (PutPost w.heap.size (.slice none 0 0) (packB m) w) := by
  obtain ⟨f1, f2, f3, f4, f5, f6, f7, f8, f9⟩ := may_facts hm
  obtain ⟨L1, hL1⟩ : ∃ L, L = bodyB m := ⟨_, rfl⟩
  obtain ⟨L2, hL2⟩ : ∃ L, L = L1 ++ beB m.sig.size 1 1 := ⟨_, rfl⟩
  obtain ⟨L3, hL3⟩ : ∃ L, L = packB m := ⟨_, rfl⟩
  have hl1 : L1.length ≤ 12000 := by rw [hL1]; exact bodyB_length_le hm
  have hl2 : L2.length = L1.length + 1 := by rw [hL2, List.length_append, beB_length]
  have hl3 : L3 = L2 ++ m.sig.data.toList := by rw [hL3, hL2, hL1]; rfl
  have hl4 : L3.length = L2.length + m.sig.size := by rw [hl3, List.length_append, Array.length_toList]; rfl
  have he2 : bytesV L2 = bytesV L1 ++ [.int .u8 m.sig.size] := by rw [hL2, bytesV_append, be1_cells _ (by omega), Int.emod_eq_of_lt (by omega) (by omega)]
  have hbody : ∀ (W : World), Below w.heap.size w W → Calls Try.prog 15 #[.agg (msgCells m A c)] W (PutPost W.heap.size (.slice none 0 0) L1 W) := fun W hW => by
    rw [hL1]
    exact rbody_any m A c B W (hr.below (hW.mono hB)) (Nat.le_trans hB hW.size) hc hm
  have HL3 := Lib.hid hL3
  have Hl2 := Lib.hid hl2
  have Hl3 := Lib.hid hl3
  have Hl4 := Lib.hid hl4
  have HE2 := Lib.hid he2
  have HBODY := Lib.hid hbody
  obtain ⟨W0, hW0⟩ : ∃ W0, W0 = w.alloc (.cells (msgCells m A c) 24) := ⟨_, rfl⟩
  have hb0 : Below w.heap.size w W0 := by rw [hW0]; exact (Below.refl _ _).alloc (Nat.le_refl _) _
  have hbox : Blk W0 w.heap.size 24 (msgCells m A c) := by rw [hW0]; exact Blk.new _ _ _
  have hsz : W0.heap.size = w.heap.size + 1 := by rw [hW0]; simp
  have hblk : ∀ (u : World), Below W0.heap.size W0 u → Blk u w.heap.size 24 (msgCells m A c) := fun u hu => hbox.below hu (by omega)
  have HC0 : Below W0.heap.size W0 W0.drew := (Below.refl _ _).drew
  have HB0 := Lib.hid hb0
  have HW0 := Lib.hid hW0
  have HS := Lib.hid hsz
  have HK := Lib.hid hblk
  clear hm hbody hr hL1 hL2 hL3 hl2 hl3 hl4 he2 hb0 hbox hsz hblk hW0
  have hu := Try.underlying24
  obtain ⟨kind, src, dst, seq, fields, sig⟩ := m
  have HMS := Lib.hid (show msgCells ⟨kind, src, dst, seq, fields, sig⟩ A c = #[.int .i64 kind, .string src, .string dst, .int .i64 seq, .slice A fields.length c, .string sig] from rfl)
  dsimp only at *
  go_enter Try.func14, Try.ntmps14
  go_wp2_with fail
  rw [← HW0.out]
  refine wp_region_list (fun u => Below W0.heap.size W0 u) (fun | false => (fun _ => True) | true => (fun _ => True)) (fun | false, _ => false | true, _ => false)
    [fun z _ => z 0 = .agg (msgCells ⟨kind, src, dst, seq, fields, sig⟩ A c),
     fun z u => (Row W0.heap.size W0 (.slice none 0 0) L1) (z 1) u,
     fun z _ => z 2 = .pointer (some ⟨w.heap.size, 5, none⟩),
     fun z _ => z 3 = .string sig,
     fun z _ => z 4 = .int .i64 sig.size,
     fun z _ => z 5 = .int .u8 sig.size,
     fun z u => (One 5 (.int .u8 sig.size)) (z 6) u,
     fun z u => (Row W0.heap.size W0 (.slice none 0 0) L2) (z 7) u,
     fun z u => (Row W0.heap.size W0 (.slice none 0 0) L2) (z 8) u]
    [Eq, fun u u' => Below u.heap.size u u', Eq, Eq, Eq, Eq, Alloc1, fun _ _ => True, Eq]
    (fun i k => (i == 7 && k == 1) || (i == 7 && k == 6)) [(0, some 4), (1, some 5), (2, some 6), (3, some 7), (4, some 8), (5, some 9), (6, some 10), (7, some 11), (8, some 3)] (by kernel_rfl) (by kernel_rfl) rfl (fun _ => rfl) ?_ ?_ ?_ ?_ ?_ ?_
  · exact HC0
  · intro m; cases m; exact trivial; exact trivial
  · intro m; cases m
    · exact ⟨.inr (fun _ _ h h0 => h ▸ h0), .inr (fun _ _ _ h => h), .inr (fun _ _ h h0 => h ▸ h0), .inr (fun _ _ h h0 => h ▸ h0), .inr (fun _ _ h h0 => h ▸ h0), .inr (fun _ _ h h0 => h ▸ h0), .inr (fun _ _ _ h => h), .inr (fun _ _ _ h => h), .inr (fun _ _ h h0 => h ▸ h0), trivial⟩
    · exact ⟨.inr (fun _ _ h h0 => h ▸ h0), .inr (fun _ _ _ h => h), .inr (fun _ _ h h0 => h ▸ h0), .inr (fun _ _ h h0 => h ▸ h0), .inr (fun _ _ h h0 => h ▸ h0), .inr (fun _ _ h h0 => h ▸ h0), .inr (fun _ _ _ h => h), .inr (fun _ _ _ h => h), .inr (fun _ _ h h0 => h ▸ h0), trivial⟩
  · exact ⟨⟨.inl rfl, .inr (.inr (.inl rfl)), .inr (.inr (.inr (fun _ _ _ _ _ h => h))), .inr (.inr (.inr (fun _ _ _ _ _ h => h))), .inr (.inr (.inr (fun _ _ _ _ _ h => h))), .inr (.inr (.inr (fun _ _ _ _ _ h => h))), .inr (.inr (.inr (fun _ _ _ _ h h0 => by cases h; exact h0))), .inr (.inr (.inl rfl)), .inr (.inr (.inl rfl)), trivial⟩,
      ⟨.inr (.inr (.inr (fun _ _ _ _ _ h => h))), .inl rfl, .inr (.inr (.inr (fun _ _ _ _ _ h => h))), .inr (.inr (.inr (fun _ _ _ _ _ h => h))), .inr (.inr (.inr (fun _ _ _ _ _ h => h))), .inr (.inr (.inr (fun _ _ _ _ _ h => h))), .inr (.inr (.inr (fun _ _ _ _ h h0 => h0.full h))), .inr (.inr (.inl rfl)), .inr (.inr (.inl rfl)), trivial⟩,
      ⟨.inr (.inr (.inr (fun _ _ _ _ _ h => h))), .inr (.inr (.inr (fun _ _ _ _ h h0 => by cases h; exact h0))), .inl rfl, .inr (.inr (.inl rfl)), .inr (.inr (.inl rfl)), .inr (.inr (.inl rfl)), .inr (.inr (.inr (fun _ _ _ _ h h0 => by cases h; exact h0))), .inr (.inr (.inr (fun _ _ _ _ h h0 => by cases h; exact h0))), .inr (.inr (.inl rfl)), trivial⟩,
      ⟨.inr (.inr (.inr (fun _ _ _ _ _ h => h))), .inr (.inr (.inr (fun _ _ _ _ h h0 => by cases h; exact h0))), .inr (.inr (.inr (fun _ _ _ _ _ h => h))), .inl rfl, .inr (.inr (.inl rfl)), .inr (.inr (.inl rfl)), .inr (.inr (.inl rfl)), .inr (.inr (.inr (fun _ _ _ _ h h0 => by cases h; exact h0))), .inr (.inr (.inl rfl)), trivial⟩,
      ⟨.inr (.inr (.inr (fun _ _ _ _ _ h => h))), .inr (.inr (.inr (fun _ _ _ _ h h0 => by cases h; exact h0))), .inr (.inr (.inr (fun _ _ _ _ _ h => h))), .inr (.inr (.inr (fun _ _ _ _ _ h => h))), .inl rfl, .inr (.inr (.inl rfl)), .inr (.inr (.inl rfl)), .inr (.inr (.inl rfl)), .inr (.inr (.inl rfl)), trivial⟩,
      ⟨.inr (.inr (.inr (fun _ _ _ _ _ h => h))), .inr (.inr (.inr (fun _ _ _ _ h h0 => by cases h; exact h0))), .inr (.inr (.inr (fun _ _ _ _ _ h => h))), .inr (.inr (.inr (fun _ _ _ _ _ h => h))), .inr (.inr (.inr (fun _ _ _ _ _ h => h))), .inl rfl, .inr (.inr (.inl rfl)), .inr (.inr (.inl rfl)), .inr (.inr (.inl rfl)), trivial⟩,
      ⟨.inr (.inr (.inr (fun _ _ _ _ _ h => h))), .inr (.inr (.inr (fun _ _ _ _ h h0 => h0.alloc1 h))), .inr (.inr (.inr (fun _ _ _ _ _ h => h))), .inr (.inr (.inr (fun _ _ _ _ _ h => h))), .inr (.inr (.inr (fun _ _ _ _ _ h => h))), .inr (.inr (.inr (fun _ _ _ _ _ h => h))), .inl rfl, .inr (.inr (.inl rfl)), .inr (.inr (.inl rfl)), trivial⟩,
      ⟨.inr (.inr (.inr (fun _ _ _ _ _ h => h))), .inr (.inl rfl), .inr (.inr (.inr (fun _ _ _ _ _ h => h))), .inr (.inr (.inr (fun _ _ _ _ _ h => h))), .inr (.inr (.inr (fun _ _ _ _ _ h => h))), .inr (.inr (.inr (fun _ _ _ _ _ h => h))), .inr (.inl rfl), .inl rfl, .inr (.inr (.inl rfl)), trivial⟩,
      ⟨.inr (.inr (.inr (fun _ _ _ _ _ h => h))), .inr (.inr (.inr (fun _ _ _ _ h h0 => by cases h; exact h0))), .inr (.inr (.inr (fun _ _ _ _ _ h => h))), .inr (.inr (.inr (fun _ _ _ _ _ h => h))), .inr (.inr (.inr (fun _ _ _ _ _ h => h))), .inr (.inr (.inr (fun _ _ _ _ _ h => h))), .inr (.inr (.inr (fun _ _ _ _ h h0 => by cases h; exact h0))), .inr (.inr (.inr (fun _ _ _ _ h h0 => by cases h; exact h0))), .inl rfl, trivial⟩, trivial⟩
  · refine ⟨?_, ?_, ?_, ?_, ?_, ?_, ?_, ?_, ?_, trivial⟩
    · -- 0: Op.load 24 (Operand.tmp 1)
      refine step_plain [] (fun _ => rfl) rfl ?_
      intro w1 vals hC1 hi0 hf E hE
      clear hi0
      clear hf
      simp only [puts, act_put, act_put_none, List.setIfInBounds_toArray, List.set_cons_zero, List.set_cons_succ] at hE ⊢
      refine wpList_get_box (HK.out w1 hC1) rfl rfl rfl hu rfl msg_size ?_
      go_wp2_with fail
      exact .mk (hE _ _ rfl hC1 rfl)
    · -- 1: Op.call { callee := Callee.value (Operand.func 15), args := #[Operand.tmp 4], argTypes := #[24] }
      refine step_plain [(0, some 4)] (fun _ => rfl) rfl ?_
      intro w1 vals hC1 hi0 hf E hE
      clear hi0
      have f0 : vals 0 = .agg (msgCells ⟨kind, src, dst, seq, fields, sig⟩ A c) := hf 0 rfl
      try dsimp only at f0
      clear hf
      simp only [puts, act_put, act_put_none, List.setIfInBounds_toArray, List.set_cons_zero, List.set_cons_succ, f0] at hE ⊢
      clear f0
      go_wp2_with fail
      refine calls_then (HBODY.out _ (HB0.out.trans (hC1.mono HB0.out.size))) ?_
      rintro e w2 ⟨A1, c1, rfl, hown1, hgr1, hn1⟩
      go_wp2_with fail
      exact .mk (hE _ _ ⟨A1, c1, rfl, hown1.mono hC1.size, hn1.back hC1.size⟩ (below_row hC1 (.inl rfl) hgr1) (below_of_grown hgr1 (Nat.le_refl _) (by intro k hk; simp [Value.ownBlock] at hk)))
    · -- 2: Op.fieldAddr 24 (Operand.tmp 1) 5
      refine step_plain [] (fun _ => rfl) rfl ?_
      intro w1 vals hC1 hi0 hf E hE
      clear hi0
      clear hf
      simp only [puts, act_put, act_put_none, List.setIfInBounds_toArray, List.set_cons_zero, List.set_cons_succ] at hE ⊢
      go_wp2
      exact .mk (hE _ _ rfl hC1 rfl)
    · -- 3: Op.load 9 (Operand.tmp 6)
      refine step_plain [(2, some 6)] (fun _ => rfl) rfl ?_
      intro w1 vals hC1 hi0 hf E hE
      clear hi0
      have f2 : vals 2 = .pointer (some ⟨w.heap.size, 5, none⟩) := hf 2 rfl
      try dsimp only at f2
      clear hf
      have hc0 := (HK.out w1 hC1).cell 5
      rw [HMS.out] at hc0
      simp at hc0
      simp only [puts, act_put, act_put_none, List.setIfInBounds_toArray, List.set_cons_zero, List.set_cons_succ, f2] at hE ⊢
      clear f2
      go_wp2
      exact .mk (hE _ _ rfl hC1 rfl)
    · -- 4: Op.call { callee := Callee.builtin Builtin.len, args := #[Operand.tmp 7], argTypes := #[9] }
      refine step_plain [(3, some 7)] (fun _ => rfl) rfl ?_
      intro w1 vals hC1 hi0 hf E hE
      clear hi0
      have f3 : vals 3 = .string sig := hf 3 rfl
      try dsimp only at f3
      clear hf
      simp only [puts, act_put, act_put_none, List.setIfInBounds_toArray, List.set_cons_zero, List.set_cons_succ, f3] at hE ⊢
      clear f3
      go_wp2
      exact .mk (hE _ _ rfl hC1 rfl)
    · -- 5: Op.convert 3 5 (Operand.tmp 8)
      refine step_plain [(4, some 8)] (fun _ => rfl) rfl ?_
      intro w1 vals hC1 hi0 hf E hE
      clear hi0
      have f4 : vals 4 = .int .i64 sig.size := hf 4 rfl
      try dsimp only at f4
      clear hf
      simp only [puts, act_put, act_put_none, List.setIfInBounds_toArray, List.set_cons_zero, List.set_cons_succ, f4] at hE ⊢
      clear f4
      go_wp2
      exact .mk (hE _ _ rfl hC1 rfl)
    · -- 6: Op.buildSlice 26 1 #[(0, Operand.tmp 9)]
      refine step_plain [(5, some 9)] (fun _ => rfl) rfl ?_
      intro w1 vals hC1 hi0 hf E hE
      clear hi0
      have f5 : vals 5 = .int .u8 sig.size := hf 5 rfl
      try dsimp only at f5
      clear hf
      simp only [puts, act_put, act_put_none, List.setIfInBounds_toArray, List.set_cons_zero, List.set_cons_succ, f5] at hE ⊢
      clear f5
      go_wp2
      exact .mk (hE _ _ (One.new _ _ _) (hC1.alloc hC1.size _) ⟨_, rfl⟩)
    · -- 7: Op.call { callee := Callee.builtin Builtin.append, args := #[Operand.tmp 5, Operand.tmp 10], argTypes := #[26,
      refine step_plain [(1, some 5), (6, some 10), (1, some 5)] (fun _ => rfl) rfl ?_
      intro w1 vals hC1 hi0 hf E hE
      clear hi0
      have f1 : (Row W0.heap.size W0 (.slice none 0 0) L1) (vals 1) w1 := hf 1 rfl
      have f6 : (One 5 (.int .u8 sig.size)) (vals 6) w1 := hf 6 rfl
      try dsimp only at f1 f6
      clear hf
      obtain ⟨g8, hx8, hg8⟩ := f6
      obtain ⟨A1, c1, hx1, hown1, hn1⟩ := f1
      simp only [puts, act_put, act_put_none, List.setIfInBounds_toArray, List.set_cons_zero, List.set_cons_succ, hx8, hx1] at hE ⊢
      clear hx8 hx1
      obtain ⟨A2, c2, w2, hr2, hown2, hgr2, hn2⟩ := run_append_x (ty := 26) (c := 1) (Ad := some ⟨g8, 0, none⟩) sl_bytes hown1 (news := [.int .u8 sig.size]) (m := 1) rfl (fun j u hu => ⟨_, rfl, by match j, hu with | 0, hu => (simp at hu; subst hu; simpa [Addr.add] using cell_of_one hg8)⟩) (by intro u hu; simp at hu; subst hu; rfl) (by unfold maxLen; omega) (by omega) hC1.size
      rw [← HE2.out, ← Hl2.out] at hown2
      rw [← Hl2.out] at hr2 hn2
      refine wpList_of_append (R := fun v' u' => v' = .slice A2 L2.length c2 ∧ u' = w2) rfl rfl rfl rfl ⟨_, _, hr2, rfl, rfl⟩ ?_
      rintro v' u' ⟨rfl, rfl⟩
      go_wp2_with fail
      exact .mk (hE _ _ ⟨A2, c2, rfl, hown2, hn1.trans (hn2.back hC1.size) (Nat.le_refl _)⟩ (below_own hC1 hown1 (Nat.le_refl _) hgr2) trivial)
    · -- 8: Op.assign (Operand.tmp 11)
      refine step_plain [(7, some 11), (7, some 11), (0, some 4), (1, some 5), (2, some 6), (3, some 7), (4, some 8), (5, some 9), (6, some 10), (7, some 11)] (fun _ => rfl) rfl ?_
      intro w1 vals hC1 hi0 hf E hE
      clear hi0
      have f0 : vals 0 = .agg (msgCells ⟨kind, src, dst, seq, fields, sig⟩ A c) := hf 0 rfl
      have f2 : vals 2 = .pointer (some ⟨w.heap.size, 5, none⟩) := hf 2 rfl
      have f3 : vals 3 = .string sig := hf 3 rfl
      have f4 : vals 4 = .int .i64 sig.size := hf 4 rfl
      have f5 : vals 5 = .int .u8 sig.size := hf 5 rfl
      have f7 : (Row W0.heap.size W0 (.slice none 0 0) L2) (vals 7) w1 := hf 7 rfl
      try dsimp only at f0 f2 f3 f4 f5 f7
      clear hf
      simp only [puts, act_put, act_put_none, List.setIfInBounds_toArray, List.set_cons_zero, List.set_cons_succ, f0, f2, f3, f4, f5] at hE ⊢
      clear f0 f2 f3 f4 f5
      go_wp2
      exact .mk (hE _ _ f7 hC1 rfl)
  intro w1 vals hC1 hf
  have f0 : vals 0 = .agg (msgCells ⟨kind, src, dst, seq, fields, sig⟩ A c) := hf 0 (by decide) rfl
  have f2 : vals 2 = .pointer (some ⟨w.heap.size, 5, none⟩) := hf 2 (by decide) rfl
  have f3 : vals 3 = .string sig := hf 3 (by decide) rfl
  have f4 : vals 4 = .int .i64 sig.size := hf 4 (by decide) rfl
  have f5 : vals 5 = .int .u8 sig.size := hf 5 (by decide) rfl
  have f7 : (Row W0.heap.size W0 (.slice none 0 0) L2) (vals 7) w1 := hf 7 (by decide) rfl
  have f8 : (Row W0.heap.size W0 (.slice none 0 0) L2) (vals 8) w1 := hf 8 (by decide) rfl
  try dsimp only at f0 f2 f3 f4 f5 f7 f8
  clear hf
  simp only [puts, act_put, act_put_none, List.setIfInBounds_toArray, List.set_cons_zero, List.set_cons_succ, f0, f2, f3, f4, f5]
  clear f0 f2 f3 f4 f5
  generalize vals 1 = x1 at *
  generalize vals 6 = x6 at *
  generalize vals 7 = x7 at *
  generalize vals 8 = x8 at *
  obtain ⟨A3, c3, rfl, hown3, hn3⟩ := f8
  clear f7
  have hcs := (HK.out w1 hC1).cell 5
  rw [HMS.out] at hcs
  simp at hcs
  go_wp2_with (refine wpList_append_str sl_bytes zero_u8 Try.underlying9 rfl rfl hown3 rfl rfl (by have := Hl2.out; omega) hC1.size ?_; intro A4 c4 w4 hown4 hgr4 hn4)
  have hB4 : Below w.heap.size w w4 := HB0.out.trans ((below_own hC1 hown3 (Nat.le_refl _) hgr4).mono HB0.out.size)
  go_ret
  refine PutPost.mk_ (n := L2.length + sig.size) ?_ (grown_of_below hB4 _) (next_nil hown4 HB0.out.size)
  rw [← HL3.out, Hl3.out, bytesV_append]
  exact hown4.mono HB0.out.size
end Go.Proofs.Ytlngjalclagojaa
