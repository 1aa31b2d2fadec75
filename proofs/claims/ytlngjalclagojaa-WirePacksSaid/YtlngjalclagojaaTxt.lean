/-
  The walk of Unpack's closure text.
-/
import Derived.Test.YtlngjalclagojaaNum
import Derived.Test.YtlngjalclagojaaRegion
import Derived.Test.YtlngjalclagojaaConv
namespace Go.Proofs.Ytlngjalclagojaa
open Go.RowKit

def textS (s : Rs) : ByteArray × Rs := (⟨(takeS (numS 2 s).1.toNat (numS 2 s).2).1.toArray⟩, (takeS (numS 2 s).1.toNat (numS 2 s).2).2)

theorem natOf_two (l : List UInt8) (h : l.length ≤ 2) : natOf l < 65536 := by
  match l, h with
  | [], _ => simp [natOf]
  | [a], _ => have := a.toNat_lt; simp [natOf]; omega
  | [a, b], _ => have := a.toNat_lt; have := b.toNat_lt; simp [natOf]; omega
theorem takeS_le (n : Nat) (s : Rs) : (takeS n s).1.length ≤ n := by
  by_cases hlt : s.rest.length < n
  · rw [takeS_short hlt]; simp
  · rw [takeS_all (by omega)]; simp; omega
theorem numS_two (n : Nat) (hn : n ≤ 2) (s : Rs) : ∃ k : Nat, (numS n s).1 = (k : Int) ∧ k < 65536 := by
  have := natOf_two _ (Nat.le_trans (takeS_le n s) hn)
  exact ⟨_, by simp only [numS, wrap64]; omega, this⟩

set_option maxHeartbeats 4000000 in
theorem text_clo_any (B gr gs gt gn : Nat) (s : Rs) (w : World) (h : Inp w B gr gs s)
    (ht : Blk w gt 40 #[.func (.func 20) #[] #[.pointer (some ⟨gr, 0, none⟩), .pointer (some ⟨gs, 0, none⟩)]])
    (hn : Blk w gn 42 #[.func (.func 21) #[] #[.pointer (some ⟨gt, 0, none⟩)]])
    (t1 : gt ≠ gr) (t2 : gt ≠ gs) (n1 : gn ≠ gr) (n2 : gn ≠ gs) :
    Calls Try.prog 22 #[.pointer (some ⟨gt, 0, none⟩), .pointer (some ⟨gn, 0, none⟩)] w fun e w' => e = .returned (.string (textS s).1) ∧ Inp w' B gr gs (textS s).2 ∧ Wrote2 gr gs w w' := by
  obtain ⟨k, hk, hk2⟩ := numS_two 2 (Nat.le_refl _) s
  have HTX : Hid (textS s = (⟨(takeS k (numS 2 s).2).1.toArray⟩, (takeS k (numS 2 s).2).2)) := Lib.hid (by rw [textS, hk]; rfl)
  have HK := Lib.hid hk
  have H := Lib.hid h
  have HT := Lib.hid ht
  have HN := Lib.hid hn
  have HC0 : Wrote2 gr gs w w.drew := ⟨rfl, rfl, rfl, rfl, fun _ _ _ => rfl⟩
  have HI0 := h.drew
  clear h ht hn hk
  go_enter Try.func22, Try.ntmps22
  go_wp2_with fail
  refine wp_region_list (fun u => Wrote2 gr gs w u) (fun | false => (fun u => Inp u B gr gs s) | true => (fun _ => True)) (fun | false, i => i == 2 || i == 3 | true, _ => false)
    [fun z _ => z 0 = .func (.func 20) #[] #[.pointer (some ⟨gr, 0, none⟩), .pointer (some ⟨gs, 0, none⟩)],
     fun z _ => z 1 = .func (.func 21) #[] #[.pointer (some ⟨gt, 0, none⟩)],
     fun z u => z 2 = .int .i64 k ∧ Inp u B gr gs (numS 2 s).2,
     fun z u => Inp u B gr gs (takeS k (numS 2 s).2).2 ∧ ∃ A c, z 3 = .slice A (takeS k (numS 2 s).2).1.length c ∧ Rd u B A (bytesV (takeS k (numS 2 s).2).1),
     fun z _ => z 4 = .string ⟨(takeS k (numS 2 s).2).1.toArray⟩,
     fun z _ => z 5 = .string ⟨(takeS k (numS 2 s).2).1.toArray⟩]
    [Eq, Eq, Wrote2 gr gs, Wrote2 gr gs, Eq, Eq]
    (fun i k => (i == 3 && k == 2)) [(0, some 3), (1, some 4), (2, some 5), (3, some 6), (4, some 7), (5, some 2)] (by kernel_rfl) (by kernel_rfl) rfl (fun _ => rfl) ?_ ?_ ?_ ?_ ?_ ?_
  · exact HC0
  · intro m; cases m; exact HI0; exact trivial
  · intro m; cases m
    · exact ⟨.inr (fun _ _ h h0 => h ▸ h0), .inr (fun _ _ h h0 => h ▸ h0), .inl rfl, .inl rfl, .inr (fun _ _ h h0 => h ▸ h0), .inr (fun _ _ h h0 => h ▸ h0), trivial⟩
    · exact ⟨.inr (fun _ _ h h0 => h ▸ h0), .inr (fun _ _ h h0 => h ▸ h0), .inr (fun _ _ _ h => h), .inr (fun _ _ _ h => h), .inr (fun _ _ h h0 => h ▸ h0), .inr (fun _ _ h h0 => h ▸ h0), trivial⟩
  · exact ⟨⟨.inl rfl, .inr (.inr (.inr (fun _ _ _ _ _ h => h))), .inr (.inr (.inr (fun _ _ _ _ h h0 => by cases h; exact h0))), .inr (.inr (.inl rfl)), .inr (.inr (.inl rfl)), .inr (.inr (.inl rfl)), trivial⟩,
      ⟨.inr (.inr (.inr (fun _ _ _ _ _ h => h))), .inl rfl, .inr (.inr (.inl rfl)), .inr (.inr (.inl rfl)), .inr (.inr (.inl rfl)), .inr (.inr (.inl rfl)), trivial⟩,
      ⟨.inr (.inr (.inr (fun _ _ _ _ _ h => h))), .inr (.inr (.inr (fun _ _ _ _ _ h => h))), .inl rfl, .inr (.inr (.inl rfl)), .inr (.inr (.inl rfl)), .inr (.inr (.inl rfl)), trivial⟩,
      ⟨.inr (.inr (.inr (fun _ _ _ _ _ h => h))), .inr (.inr (.inr (fun _ _ _ _ _ h => h))), .inr (.inl rfl), .inl rfl, .inr (.inr (.inl rfl)), .inr (.inr (.inl rfl)), trivial⟩,
      ⟨.inr (.inr (.inr (fun _ _ _ _ _ h => h))), .inr (.inr (.inr (fun _ _ _ _ _ h => h))), .inr (.inr (.inr (fun _ _ _ _ h h0 => by cases h; exact h0))), .inr (.inr (.inr (fun _ _ _ _ h h0 => by cases h; exact h0))), .inl rfl, .inr (.inr (.inl rfl)), trivial⟩,
      ⟨.inr (.inr (.inr (fun _ _ _ _ _ h => h))), .inr (.inr (.inr (fun _ _ _ _ _ h => h))), .inr (.inr (.inr (fun _ _ _ _ h h0 => by cases h; exact h0))), .inr (.inr (.inr (fun _ _ _ _ h h0 => by cases h; exact h0))), .inr (.inr (.inr (fun _ _ _ _ _ h => h))), .inl rfl, trivial⟩, trivial⟩
  · refine ⟨?_, ?_, ?_, ?_, ?_, ?_, trivial⟩
    · -- 0: Op.load 40 (Operand.tmp 0)
      refine step_plain [] (fun _ => rfl) rfl ?_
      intro w1 vals hC1 hi0 hf E hE
      clear hi0
      clear hf
      have c0 := (hC1.blk HT.out t1 t2).cell 0
      have fz0 := (hC1.blk HT.out t1 t2).free 0
      simp only [puts, act_put, act_put_none, List.setIfInBounds_toArray, List.set_cons_zero, List.set_cons_succ] at hE ⊢
      go_wp2
      exact .mk (hE _ _ rfl hC1 rfl)
    · -- 1: Op.load 42 (Operand.tmp 1)
      refine step_plain [] (fun _ => rfl) rfl ?_
      intro w1 vals hC1 hi0 hf E hE
      have hI1 : (fun u => Inp u B gr gs s) w1 := hi0 false rfl
      try dsimp only at hI1
      clear hi0
      clear hf
      have c0 := (hC1.blk HN.out n1 n2).cell 0
      have fz0 := (hC1.blk HN.out n1 n2).free 0
      simp only [puts, act_put, act_put_none, List.setIfInBounds_toArray, List.set_cons_zero, List.set_cons_succ] at hE ⊢
      go_wp2
      exact .mk (hE _ _ rfl hC1 rfl)
    · -- 2: Op.call { callee := Callee.value (Operand.tmp 4), args := #[Operand.const (Value.int IntKind.i64 2)], argTypes
      refine step_plain [(1, some 4)] (fun _ => rfl) rfl ?_
      intro w1 vals hC1 hi0 hf E hE
      have hI1 : (fun u => Inp u B gr gs s) w1 := hi0 false rfl
      try dsimp only at hI1
      clear hi0
      have f1 : vals 1 = .func (.func 21) #[] #[.pointer (some ⟨gt, 0, none⟩)] := hf 1 rfl
      try dsimp only at f1
      clear hf
      simp only [puts, act_put, act_put_none, List.setIfInBounds_toArray, List.set_cons_zero, List.set_cons_succ, f1] at hE ⊢
      clear f1
      go_wp2_with fail
      refine calls_then (number_any B gr gs gt 2 s _ hI1 (by omega) (hC1.blk HT.out t1 t2)) ?_
      rintro e w2 ⟨rfl, hi2, hw2⟩
      rw [HK.out]
      go_wp2_with fail
      exact .mk (hE _ _ ⟨rfl, hi2⟩ (hC1.trans hw2) hw2)
    · -- 3: Op.call { callee := Callee.value (Operand.tmp 3), args := #[Operand.tmp 5], argTypes := #[3] }
      refine step_plain [(0, some 3), (2, some 5), (2, some 5)] (fun _ => rfl) rfl ?_
      intro w1 vals hC1 hi0 hf E hE
      clear hi0
      have f0 : vals 0 = .func (.func 20) #[] #[.pointer (some ⟨gr, 0, none⟩), .pointer (some ⟨gs, 0, none⟩)] := hf 0 rfl
      have f2 : (fun z u => z 2 = .int .i64 k ∧ Inp u B gr gs (numS 2 s).2) vals w1 := hf 2 rfl
      try dsimp only at f0 f2
      clear hf
      obtain ⟨hx2, hi2⟩ := f2
      simp only [puts, act_put, act_put_none, List.setIfInBounds_toArray, List.set_cons_zero, List.set_cons_succ, f0, hx2] at hE ⊢
      clear f0
      clear hx2
      go_wp2_with fail
      refine calls_then (take_any B gr gs k _ _ hi2 (by omega)) ?_
      rintro e w2 ⟨A, c, rfl, hc, hr, hi3, hw2⟩
      go_wp2_with fail
      exact .mk (hE _ _ ⟨hi3, A, c, rfl, hr⟩ (hC1.trans hw2) hw2)
    · -- 4: Op.convert 26 9 (Operand.tmp 6)
      refine step_plain [(3, some 6)] (fun _ => rfl) rfl ?_
      intro w1 vals hC1 hi0 hf E hE
      clear hi0
      have f3 : (fun z u => Inp u B gr gs (takeS k (numS 2 s).2).2 ∧ ∃ A c, z 3 = .slice A (takeS k (numS 2 s).2).1.length c ∧ Rd u B A (bytesV (takeS k (numS 2 s).2).1)) vals w1 := hf 3 rfl
      try dsimp only at f3
      clear hf
      obtain ⟨hi3, A, c, hx3, hr3⟩ := f3
      simp only [puts, act_put, act_put_none, List.setIfInBounds_toArray, List.set_cons_zero, List.set_cons_succ, hx3] at hE ⊢
      clear hx3
      refine wpList_str_of hr3 Try.underlying26 Try.underlying5 Try.underlying9 rfl rfl rfl ?_
      go_wp2_with fail
      exact .mk (hE _ _ rfl hC1 rfl)
    · -- 5: Op.assign (Operand.tmp 7)
      refine step_plain [(4, some 7), (3, some 6), (0, some 3), (1, some 4), (2, some 5), (3, some 6), (4, some 7)] (fun _ => rfl) rfl ?_
      intro w1 vals hC1 hi0 hf E hE
      clear hi0
      have f0 : vals 0 = .func (.func 20) #[] #[.pointer (some ⟨gr, 0, none⟩), .pointer (some ⟨gs, 0, none⟩)] := hf 0 rfl
      have f1 : vals 1 = .func (.func 21) #[] #[.pointer (some ⟨gt, 0, none⟩)] := hf 1 rfl
      have f3 : (fun z u => Inp u B gr gs (takeS k (numS 2 s).2).2 ∧ ∃ A c, z 3 = .slice A (takeS k (numS 2 s).2).1.length c ∧ Rd u B A (bytesV (takeS k (numS 2 s).2).1)) vals w1 := hf 3 rfl
      have f4 : vals 4 = .string ⟨(takeS k (numS 2 s).2).1.toArray⟩ := hf 4 rfl
      try dsimp only at f0 f1 f3 f4
      clear hf
      simp only [puts, act_put, act_put_none, List.setIfInBounds_toArray, List.set_cons_zero, List.set_cons_succ, f0, f1, f4] at hE ⊢
      clear f0 f1 f4
      go_wp2
      exact .mk (hE _ _ rfl hC1 rfl)
  intro w1 vals hC1 hf
  have f0 : vals 0 = .func (.func 20) #[] #[.pointer (some ⟨gr, 0, none⟩), .pointer (some ⟨gs, 0, none⟩)] := hf 0 (by decide) rfl
  have f1 : vals 1 = .func (.func 21) #[] #[.pointer (some ⟨gt, 0, none⟩)] := hf 1 (by decide) rfl
  have f3 : (fun z u => Inp u B gr gs (takeS k (numS 2 s).2).2 ∧ ∃ A c, z 3 = .slice A (takeS k (numS 2 s).2).1.length c ∧ Rd u B A (bytesV (takeS k (numS 2 s).2).1)) vals w1 := hf 3 (by decide) rfl
  have f4 : vals 4 = .string ⟨(takeS k (numS 2 s).2).1.toArray⟩ := hf 4 (by decide) rfl
  have f5 : vals 5 = .string ⟨(takeS k (numS 2 s).2).1.toArray⟩ := hf 5 (by decide) rfl
  try dsimp only at f0 f1 f3 f4 f5
  clear hf
  simp only [puts, act_put, act_put_none, List.setIfInBounds_toArray, List.set_cons_zero, List.set_cons_succ, f0, f1, f4, f5]
  clear f0 f1 f4 f5
  generalize vals 2 = x2 at *
  generalize vals 3 = x3 at *
  obtain ⟨hi3, A, c, hx3, hr3⟩ := f3
  go_wp2_with fail
  go_ret
  rw [HTX.out]
  exact ⟨rfl, hi3, hC1⟩
end Go.Proofs.Ytlngjalclagojaa
