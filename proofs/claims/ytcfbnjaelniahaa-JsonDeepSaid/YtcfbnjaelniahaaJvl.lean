/-
  Walk: json's writer: a value.
-/
import Derived.Test.YtcfbnjaelniahaaJva
namespace Go.Proofs.Ytcfbnjaelniahaa.Js
set_option linter.unusedSimpArgs false
set_option linter.unusedVariables false
open Go.RowKit

/-- the word of a truth -/
def boolB (n : Int) : Bs := if n = 1 then [116, 114, 117, 101] else [102, 97, 108, 115, 101]
set_option maxRecDepth 100000 in
set_option maxHeartbeats 4000000 in
theorem wval_step (d : Nat) (IH : ∀ d', d' < d → WVal d') : WVal d := by
  intro j v B p c w0 w hr hj hb hl
  have hu := Try.underlying25
  obtain ⟨ns, ks, kv, rfl, hn, _, hnr, hkn, _, hkv, hkr, hkids⟩ := hj.inv
  obtain ⟨W0, hW0⟩ : ∃ W0, W0 = w.alloc (.cells (jvCells v) 25) := ⟨_, rfl⟩
  have hb0 : Below w.heap.size w W0 := by rw [hW0]; exact (Below.refl _ w).alloc (Nat.le_refl _) _
  obtain ⟨hBp, hpw⟩ := hb.1.lt
  obtain ⟨G, hG⟩ : ∃ G, G = w.heap.size := ⟨_, rfl⟩
  have HG := Lib.hid (show p < G by omega)
  have HKB := Lib.hid (show Blk W0 G 25 (jvCells v) by rw [hW0, hG]; exact Blk.new _ _ _)
  have HS := Lib.hid (show BK B p w0 W0 from hb.2.trans (.all hb0 (by omega)))
  have HB := Lib.hid (show WB W0 B p c W0 from ⟨hb.1.below hb0, BK.refl _ _ _⟩)
  have HW0 := Lib.hid hW0
  have CL := Lib.hid (fun (u : World) (h : IsB u B 46 p c) => bld_len B p c u h)
  have CS := Lib.hid (fun (x : ByteArray) (u : World) (h : IsB u B 46 p c) (h2 : c.length + x.size ≤ 140737488355328) => bld_str jwT B p c x u h h2)
  have HL := Lib.hid hl
  have hfin : ∀ x (w' : World), WB W0 B p x w' → WB w0 B p x w' := fun x w' h => ⟨h.1, HS.out.trans h.2⟩
  have HF := Lib.hid hfin
  rw [rightV] at hr
  simp only [plainJ, Bool.and_eq_true, Bool.or_eq_true, Bool.not_eq_true', beq_iff_eq, decide_eq_true_eq, List.isEmpty_iff, bne_iff_ne] at hr
  obtain ⟨⟨⟨⟨⟨⟨⟨⟨⟨⟨⟨hvn, hvk⟩, hvns⟩, hvt⟩, hd⟩, hk0⟩, hlen⟩, hot⟩, _⟩, hint⟩, _⟩, hks⟩ := hr
  have HI := Lib.hid hint
  clear hint
  have HKI := Lib.hid (show ∀ i (h : i < ks.length) (h' : i < kv.length), JRep W0 (fun b => b < B) ks[i] kv[i] from fun i h h' => (hkids i h h').under (hb0.mono (by omega)))
  have HNR := Lib.hid (show RdS W0 (fun b => b < B) v.nA (rowsV sCell ns) from hnr.heap fun b _ hb' => hb0.block b (by omega))
  have HKR := Lib.hid (show RdS W0 (fun b => b < B) v.kA (rowsV jvCells kv) from hkr.heap fun b _ hb' => hb0.block b (by omega))
  clear hW0 hb0 hb hl hfin hnr hkr hkids
  obtain ⟨vk, vn, vt, nA, nn, nc, kA, kn, kc⟩ := v
  dsimp only at *
  subst hn hkn
  have a0 : W0.cell? ⟨G, 0, none⟩ = some (.int .i64 vk) := HKB.out.cell 0
  have a1 : W0.cell? ⟨G, 1, none⟩ = some (.int .i64 vn) := HKB.out.cell 1
  have a2 : W0.cell? ⟨G, 2, none⟩ = some (.string (bs vt)) := HKB.out.cell 2
  rw [hG] at *
  clear hG hBp hpw
  go_enter Try.func15, Try.ntmps15
  go_upto_region 1 with (fail)
  rw [← HW0.out]
  go_wp2_with fail
  refine calls_then (CL.out _ HB.out.1) ?_
  rintro e W1 ⟨rfl, rfl⟩
  by_cases hlong : 2000 < c.length
  · have hc : (2000 : Int) < (c.length : Int) := by omega
    go_wp2_with fail
    refine bodyPost_ret (results_none rfl _ _ _) rfl ?_
    exact ⟨rfl, c, Out.stop _ hlong, HF.out _ _ HB.out⟩
  · have hc : ¬ (2000 : Int) < (c.length : Int) := by omega
    have HLG := Lib.hid hlong
    clear hlong
    have hvk4 : vk = 0 ∨ vk = 1 ∨ vk = 2 ∨ vk = 3 ∨ vk = 4 ∨ vk = 5 := by omega
    rcases hvk4 with rfl | rfl | rfl | rfl | rfl | rfl
    · go_wp2_with fail
      refine calls_then (CS.out _ _ HB.out.1 (by have := HLG.out; simp [ByteArray.size]; omega)) ?_
      rintro e w2 ⟨rfl, hb2, hw2⟩
      have HB2 := Lib.hid (HB.out.next hb2 hw2)
      clear hb2 hw2
      go_wp2_with fail
      go_end0
      exact ⟨rfl, _, Out.all _ _, HF.out _ _ HB2.out⟩
    · have hvn' : vn = 0 ∨ vn = 1 := by
        simp at hvn
        exact hvn
      clear hvn
      rcases hvn' with rfl | rfl
      · clear hvk hvns hvt hd hk0 hlen hot hks hkv
        have HGP := Lib.hid (show w.heap.size ≠ p by have := HG.out; omega)
        go_wp2_with fail
        have HC0 : BK B p W1 W1.drew := HB.out.2.drew
        have HI0 : IsB W1.drew B 46 p c := HB.out.1
        refine wp_region_list (fun u => BK B p W1 u) (fun | false => (fun u => IsB u B 46 p c) | true => (fun _ => True)) (fun | false, i => i == 8 | true, _ => false)
          [fun z _ => z 0 = .pointer (some ⟨p, 0, none⟩),
           fun z _ => z 1 = .pointer (some ⟨p, 0, none⟩),
           fun z _ => z 2 = .pointer (some ⟨p, 0, none⟩),
           fun z u => (fun v u => ∃ g, v = .slice (some ⟨g, 0, none⟩) 2 2 ∧ Blk u g 9 #[.string ⟨#[102, 97, 108, 115, 101]⟩, .string ⟨#[116, 114, 117, 101]⟩]) (z 3) u,
           fun z _ => z 4 = .pointer (some ⟨w.heap.size, 1, none⟩),
           fun z _ => z 5 = .int .i64 0,
           fun z u => (fun v u => ∃ g, v = .pointer (some ⟨g, 0, none⟩) ∧ Blk u g 9 #[.string ⟨#[102, 97, 108, 115, 101]⟩, .string ⟨#[116, 114, 117, 101]⟩]) (z 6) u,
           fun z _ => z 7 = .string ⟨#[102, 97, 108, 115, 101]⟩,
           fun z u => IsB u B 46 p (c ++ [102, 97, 108, 115, 101])]
          [Eq, Eq, Eq, fun u u' => Below u.heap.size u u', Eq, Eq, Eq, Eq, fun _ _ => True]
          (fun i k => (i == 8 && k == 3) || (i == 8 && k == 6)) [(0, some 22), (1, some 23), (2, some 24), (3, some 25), (4, some 26), (5, some 27), (6, some 28), (7, some 29), (8, some 30)] (by kernel_rfl) (by kernel_rfl) rfl (fun _ => rfl) ?_ ?_ ?_ ?_ ?_ ?_
        · exact HC0
        · intro m; cases m; exact HI0; exact trivial
        · intro m; cases m
          · exact ⟨.inr (fun _ _ h h0 => h ▸ h0), .inr (fun _ _ h h0 => h ▸ h0), .inr (fun _ _ h h0 => h ▸ h0), .inr (fun _ _ h h0 => h0.below h), .inr (fun _ _ h h0 => h ▸ h0), .inr (fun _ _ h h0 => h ▸ h0), .inr (fun _ _ h h0 => h ▸ h0), .inr (fun _ _ h h0 => h ▸ h0), .inl rfl, trivial⟩
          · exact ⟨.inr (fun _ _ h h0 => h ▸ h0), .inr (fun _ _ h h0 => h ▸ h0), .inr (fun _ _ h h0 => h ▸ h0), .inr (fun _ _ _ h => h), .inr (fun _ _ h h0 => h ▸ h0), .inr (fun _ _ h h0 => h ▸ h0), .inr (fun _ _ h h0 => h ▸ h0), .inr (fun _ _ h h0 => h ▸ h0), .inr (fun _ _ _ h => h), trivial⟩
        · exact ⟨⟨.inl rfl, .inr (.inr (.inl rfl)), .inr (.inr (.inl rfl)), .inr (.inr (.inr (fun _ _ _ _ h h0 => by cases h; exact h0))), .inr (.inr (.inr (fun _ _ _ _ _ h => h))), .inr (.inr (.inr (fun _ _ _ _ _ h => h))), .inr (.inr (.inr (fun _ _ _ _ h h0 => by cases h; exact h0))), .inr (.inr (.inr (fun _ _ _ _ _ h => h))), .inr (.inr (.inl rfl)), trivial⟩,
            ⟨.inr (.inr (.inr (fun _ _ _ _ _ h => h))), .inl rfl, .inr (.inr (.inl rfl)), .inr (.inr (.inr (fun _ _ _ _ h h0 => by cases h; exact h0))), .inr (.inr (.inr (fun _ _ _ _ _ h => h))), .inr (.inr (.inr (fun _ _ _ _ _ h => h))), .inr (.inr (.inr (fun _ _ _ _ h h0 => by cases h; exact h0))), .inr (.inr (.inr (fun _ _ _ _ _ h => h))), .inr (.inr (.inl rfl)), trivial⟩,
            ⟨.inr (.inr (.inr (fun _ _ _ _ _ h => h))), .inr (.inr (.inr (fun _ _ _ _ _ h => h))), .inl rfl, .inr (.inr (.inr (fun _ _ _ _ h h0 => by cases h; exact h0))), .inr (.inr (.inr (fun _ _ _ _ _ h => h))), .inr (.inr (.inr (fun _ _ _ _ _ h => h))), .inr (.inr (.inr (fun _ _ _ _ h h0 => by cases h; exact h0))), .inr (.inr (.inr (fun _ _ _ _ _ h => h))), .inr (.inr (.inl rfl)), trivial⟩,
            ⟨.inr (.inr (.inr (fun _ _ _ _ _ h => h))), .inr (.inr (.inr (fun _ _ _ _ _ h => h))), .inr (.inr (.inr (fun _ _ _ _ _ h => h))), .inl rfl, .inr (.inr (.inr (fun _ _ _ _ _ h => h))), .inr (.inr (.inr (fun _ _ _ _ _ h => h))), .inr (.inr (.inl rfl)), .inr (.inr (.inl rfl)), .inr (.inr (.inl rfl)), trivial⟩,
            ⟨.inr (.inr (.inr (fun _ _ _ _ _ h => h))), .inr (.inr (.inr (fun _ _ _ _ _ h => h))), .inr (.inr (.inr (fun _ _ _ _ _ h => h))), .inr (.inr (.inr (fun _ _ _ _ h h0 => by cases h; exact h0))), .inl rfl, .inr (.inr (.inl rfl)), .inr (.inr (.inl rfl)), .inr (.inr (.inl rfl)), .inr (.inr (.inr (fun _ _ _ _ h h0 => by cases h; exact h0))), trivial⟩,
            ⟨.inr (.inr (.inr (fun _ _ _ _ _ h => h))), .inr (.inr (.inr (fun _ _ _ _ _ h => h))), .inr (.inr (.inr (fun _ _ _ _ _ h => h))), .inr (.inr (.inr (fun _ _ _ _ h h0 => by cases h; exact h0))), .inr (.inr (.inr (fun _ _ _ _ _ h => h))), .inl rfl, .inr (.inr (.inl rfl)), .inr (.inr (.inl rfl)), .inr (.inr (.inl rfl)), trivial⟩,
            ⟨.inr (.inr (.inr (fun _ _ _ _ _ h => h))), .inr (.inr (.inr (fun _ _ _ _ _ h => h))), .inr (.inr (.inr (fun _ _ _ _ _ h => h))), .inr (.inr (.inr (fun _ _ _ _ h h0 => by cases h; exact h0))), .inr (.inr (.inr (fun _ _ _ _ _ h => h))), .inr (.inr (.inr (fun _ _ _ _ _ h => h))), .inl rfl, .inr (.inr (.inl rfl)), .inr (.inr (.inl rfl)), trivial⟩,
            ⟨.inr (.inr (.inr (fun _ _ _ _ _ h => h))), .inr (.inr (.inr (fun _ _ _ _ _ h => h))), .inr (.inr (.inr (fun _ _ _ _ _ h => h))), .inr (.inr (.inr (fun _ _ _ _ h h0 => by cases h; exact h0))), .inr (.inr (.inr (fun _ _ _ _ _ h => h))), .inr (.inr (.inr (fun _ _ _ _ _ h => h))), .inr (.inr (.inr (fun _ _ _ _ h h0 => by cases h; exact h0))), .inl rfl, .inr (.inr (.inl rfl)), trivial⟩,
            ⟨.inr (.inr (.inr (fun _ _ _ _ _ h => h))), .inr (.inr (.inr (fun _ _ _ _ _ h => h))), .inr (.inr (.inr (fun _ _ _ _ _ h => h))), .inr (.inl rfl), .inr (.inr (.inr (fun _ _ _ _ _ h => h))), .inr (.inr (.inr (fun _ _ _ _ _ h => h))), .inr (.inl rfl), .inr (.inr (.inr (fun _ _ _ _ _ h => h))), .inl rfl, trivial⟩, trivial⟩
        · refine ⟨?_, ?_, ?_, ?_, ?_, ?_, ?_, ?_, ?_, trivial⟩
          · -- 0: Op.move (Operand.tmp 0)
            refine step_plain [] (fun _ => rfl) rfl ?_
            intro w1 vals hC1 hi0 hf E hE
            have hI1 : (fun u => IsB u B 46 p c) w1 := hi0 false rfl
            try dsimp only at hI1
            clear hi0
            clear hf
            simp only [puts, act_put, act_put_none, List.setIfInBounds_toArray, List.set_cons_zero, List.set_cons_succ] at hE ⊢
            go_wp2
            exact .mk (hE _ _ rfl hC1 rfl)
          · -- 1: Op.nilCheck (Operand.tmp 22)
            refine step_plain [(0, some 22)] (fun _ => rfl) rfl ?_
            intro w1 vals hC1 hi0 hf E hE
            have hI1 : (fun u => IsB u B 46 p c) w1 := hi0 false rfl
            try dsimp only at hI1
            clear hi0
            have f0 : vals 0 = .pointer (some ⟨p, 0, none⟩) := hf 0 rfl
            try dsimp only at f0
            clear hf
            simp only [puts, act_put, act_put_none, List.setIfInBounds_toArray, List.set_cons_zero, List.set_cons_succ, f0] at hE ⊢
            clear f0
            go_wp2
            exact .mk (hE _ _ rfl hC1 rfl)
          · -- 2: Op.fieldAddr 46 (Operand.tmp 23) 0
            refine step_plain [(1, some 23)] (fun _ => rfl) rfl ?_
            intro w1 vals hC1 hi0 hf E hE
            have hI1 : (fun u => IsB u B 46 p c) w1 := hi0 false rfl
            try dsimp only at hI1
            clear hi0
            have f1 : vals 1 = .pointer (some ⟨p, 0, none⟩) := hf 1 rfl
            try dsimp only at f1
            clear hf
            simp only [puts, act_put, act_put_none, List.setIfInBounds_toArray, List.set_cons_zero, List.set_cons_succ, f1] at hE ⊢
            clear f1
            go_wp2
            exact .mk (hE _ _ rfl hC1 rfl)
          · -- 3: Op.buildSlice 22 2 #[(0, Operand.const (Value.string { data := #[102, 97, 108, 115, 101] })), (1, Operand.cons
            refine step_plain [] (fun _ => rfl) rfl ?_
            intro w1 vals hC1 hi0 hf E hE
            have hI1 : (fun u => IsB u B 46 p c) w1 := hi0 false rfl
            try dsimp only at hI1
            clear hi0
            clear hf
            simp only [puts, act_put, act_put_none, List.setIfInBounds_toArray, List.set_cons_zero, List.set_cons_succ] at hE ⊢
            go_wp2
            exact .mk (hE _ _ ⟨_, rfl, Blk.new _ _ _⟩ (hC1.trans (.all ((Below.refl _ _).alloc (Nat.le_refl _) _) (by have := hI1.lt; omega))) ((Below.refl _ _).alloc (Nat.le_refl _) _))
          · -- 4: Op.fieldAddr 25 (Operand.tmp 3) 1
            refine step_plain [] (fun _ => rfl) rfl ?_
            intro w1 vals hC1 hi0 hf E hE
            clear hi0
            clear hf
            simp only [puts, act_put, act_put_none, List.setIfInBounds_toArray, List.set_cons_zero, List.set_cons_succ] at hE ⊢
            go_wp2
            exact .mk (hE _ _ rfl hC1 rfl)
          · -- 5: Op.load 3 (Operand.tmp 26)
            refine step_plain [(4, some 26)] (fun _ => rfl) rfl ?_
            intro w1 vals hC1 hi0 hf E hE
            have hI1 : (fun u => IsB u B 46 p c) w1 := hi0 false rfl
            try dsimp only at hI1
            clear hi0
            have f4 : vals 4 = .pointer (some ⟨w.heap.size, 1, none⟩) := hf 4 rfl
            try dsimp only at f4
            clear hf
            have a9 : w1.cell? ⟨w.heap.size, 1, none⟩ = some (.int .i64 0) := (hC1.blk HKB.out HGP.out (by decide)).cell 1
            simp only [puts, act_put, act_put_none, List.setIfInBounds_toArray, List.set_cons_zero, List.set_cons_succ, f4] at hE ⊢
            clear f4
            go_wp2
            exact .mk (hE _ _ rfl hC1 rfl)
          · -- 6: Op.indexAddr 22 (Operand.tmp 25) (Operand.tmp 27)
            refine step_plain [(3, some 25), (5, some 27)] (fun _ => rfl) rfl ?_
            intro w1 vals hC1 hi0 hf E hE
            have hI1 : (fun u => IsB u B 46 p c) w1 := hi0 false rfl
            try dsimp only at hI1
            clear hi0
            have f3 : (fun v u => ∃ g, v = .slice (some ⟨g, 0, none⟩) 2 2 ∧ Blk u g 9 #[.string ⟨#[102, 97, 108, 115, 101]⟩, .string ⟨#[116, 114, 117, 101]⟩]) (vals 3) w1 := hf 3 rfl
            have f5 : vals 5 = .int .i64 0 := hf 5 rfl
            try dsimp only at f3 f5
            clear hf
            obtain ⟨g3, hx3, hg3⟩ := f3
            simp only [puts, act_put, act_put_none, List.setIfInBounds_toArray, List.set_cons_zero, List.set_cons_succ, f5, hx3] at hE ⊢
            clear f5
            clear hx3
            go_wp2
            exact .mk (hE _ _ ⟨g3, rfl, hg3⟩ hC1 rfl)
          · -- 7: Op.load 9 (Operand.tmp 28)
            refine step_plain [(6, some 28)] (fun _ => rfl) rfl ?_
            intro w1 vals hC1 hi0 hf E hE
            have hI1 : (fun u => IsB u B 46 p c) w1 := hi0 false rfl
            try dsimp only at hI1
            clear hi0
            have f6 : (fun v u => ∃ g, v = .pointer (some ⟨g, 0, none⟩) ∧ Blk u g 9 #[.string ⟨#[102, 97, 108, 115, 101]⟩, .string ⟨#[116, 114, 117, 101]⟩]) (vals 6) w1 := hf 6 rfl
            try dsimp only at f6
            clear hf
            obtain ⟨g6, hx6, hg6⟩ := f6
            have a9 := hg6.cell 0
            simp only [puts, act_put, act_put_none, List.setIfInBounds_toArray, List.set_cons_zero, List.set_cons_succ, hx6] at hE ⊢
            clear hx6
            go_wp2
            exact .mk (hE _ _ rfl hC1 rfl)
          · -- 8: Op.call { callee := Callee.value (Operand.func 31), args := #[Operand.tmp 24, Operand.tmp 29], argTypes := #[4
            refine step_plain [(2, some 24), (7, some 29)] (fun _ => rfl) rfl ?_
            intro w1 vals hC1 hi0 hf E hE
            have hI1 : (fun u => IsB u B 46 p c) w1 := hi0 false rfl
            try dsimp only at hI1
            clear hi0
            have f2 : vals 2 = .pointer (some ⟨p, 0, none⟩) := hf 2 rfl
            have f7 : vals 7 = .string ⟨#[102, 97, 108, 115, 101]⟩ := hf 7 rfl
            try dsimp only at f2 f7
            clear hf
            simp only [puts, act_put, act_put_none, List.setIfInBounds_toArray, List.set_cons_zero, List.set_cons_succ, f2, f7] at hE ⊢
            clear f2 f7
            go_wp2_with fail
            refine calls_then (CS.out _ _ hI1 (by have := HLG.out; simp [ByteArray.size]; omega)) ?_
            rintro e w2 ⟨rfl, hb2, hw2⟩
            go_wp2_with fail
            exact .mk (hE _ _ hb2 (hC1.trans hw2) trivial)
        intro w1 vals hC1 hf
        have f0 : vals 0 = .pointer (some ⟨p, 0, none⟩) := hf 0 (by decide) rfl
        have f1 : vals 1 = .pointer (some ⟨p, 0, none⟩) := hf 1 (by decide) rfl
        have f2 : vals 2 = .pointer (some ⟨p, 0, none⟩) := hf 2 (by decide) rfl
        have f4 : vals 4 = .pointer (some ⟨w.heap.size, 1, none⟩) := hf 4 (by decide) rfl
        have f5 : vals 5 = .int .i64 0 := hf 5 (by decide) rfl
        have f7 : vals 7 = .string ⟨#[102, 97, 108, 115, 101]⟩ := hf 7 (by decide) rfl
        have f8 : (fun z u => IsB u B 46 p (c ++ [102, 97, 108, 115, 101])) vals w1 := hf 8 (by decide) rfl
        try dsimp only at f0 f1 f2 f4 f5 f7 f8
        clear hf
        simp only [puts, act_put, act_put_none, List.setIfInBounds_toArray, List.set_cons_zero, List.set_cons_succ, f0, f1, f2, f4, f5, f7]
        clear f0 f1 f2 f4 f5 f7
        generalize vals 3 = x3 at *
        generalize vals 6 = x6 at *
        generalize vals 8 = x8 at *
        have HR := Lib.hid (show WB W1 B p (c ++ [102, 97, 108, 115, 101]) _ from ⟨f8, hC1⟩)
        clear HC0 HI0 hC1 f8
        go_wp2_with fail
        go_end0
        exact ⟨rfl, _, by rw [writeV, if_neg (by decide), if_pos rfl]; exact Out.all _ _, HF.out _ _ HR.out⟩
      · clear hvk hvns hvt hd hk0 hlen hot hks hkv
        have HGP := Lib.hid (show w.heap.size ≠ p by have := HG.out; omega)
        go_wp2_with fail
        have HC0 : BK B p W1 W1.drew := HB.out.2.drew
        have HI0 : IsB W1.drew B 46 p c := HB.out.1
        refine wp_region_list (fun u => BK B p W1 u) (fun | false => (fun u => IsB u B 46 p c) | true => (fun _ => True)) (fun | false, i => i == 8 | true, _ => false)
          [fun z _ => z 0 = .pointer (some ⟨p, 0, none⟩),
           fun z _ => z 1 = .pointer (some ⟨p, 0, none⟩),
           fun z _ => z 2 = .pointer (some ⟨p, 0, none⟩),
           fun z u => (fun v u => ∃ g, v = .slice (some ⟨g, 0, none⟩) 2 2 ∧ Blk u g 9 #[.string ⟨#[102, 97, 108, 115, 101]⟩, .string ⟨#[116, 114, 117, 101]⟩]) (z 3) u,
           fun z _ => z 4 = .pointer (some ⟨w.heap.size, 1, none⟩),
           fun z _ => z 5 = .int .i64 1,
           fun z u => (fun v u => ∃ g, v = .pointer (some ⟨g, 1, none⟩) ∧ Blk u g 9 #[.string ⟨#[102, 97, 108, 115, 101]⟩, .string ⟨#[116, 114, 117, 101]⟩]) (z 6) u,
           fun z _ => z 7 = .string ⟨#[116, 114, 117, 101]⟩,
           fun z u => IsB u B 46 p (c ++ [116, 114, 117, 101])]
          [Eq, Eq, Eq, fun u u' => Below u.heap.size u u', Eq, Eq, Eq, Eq, fun _ _ => True]
          (fun i k => (i == 8 && k == 3) || (i == 8 && k == 6)) [(0, some 22), (1, some 23), (2, some 24), (3, some 25), (4, some 26), (5, some 27), (6, some 28), (7, some 29), (8, some 30)] (by kernel_rfl) (by kernel_rfl) rfl (fun _ => rfl) ?_ ?_ ?_ ?_ ?_ ?_
        · exact HC0
        · intro m; cases m; exact HI0; exact trivial
        · intro m; cases m
          · exact ⟨.inr (fun _ _ h h0 => h ▸ h0), .inr (fun _ _ h h0 => h ▸ h0), .inr (fun _ _ h h0 => h ▸ h0), .inr (fun _ _ h h0 => h0.below h), .inr (fun _ _ h h0 => h ▸ h0), .inr (fun _ _ h h0 => h ▸ h0), .inr (fun _ _ h h0 => h ▸ h0), .inr (fun _ _ h h0 => h ▸ h0), .inl rfl, trivial⟩
          · exact ⟨.inr (fun _ _ h h0 => h ▸ h0), .inr (fun _ _ h h0 => h ▸ h0), .inr (fun _ _ h h0 => h ▸ h0), .inr (fun _ _ _ h => h), .inr (fun _ _ h h0 => h ▸ h0), .inr (fun _ _ h h0 => h ▸ h0), .inr (fun _ _ h h0 => h ▸ h0), .inr (fun _ _ h h0 => h ▸ h0), .inr (fun _ _ _ h => h), trivial⟩
        · exact ⟨⟨.inl rfl, .inr (.inr (.inl rfl)), .inr (.inr (.inl rfl)), .inr (.inr (.inr (fun _ _ _ _ h h0 => by cases h; exact h0))), .inr (.inr (.inr (fun _ _ _ _ _ h => h))), .inr (.inr (.inr (fun _ _ _ _ _ h => h))), .inr (.inr (.inr (fun _ _ _ _ h h0 => by cases h; exact h0))), .inr (.inr (.inr (fun _ _ _ _ _ h => h))), .inr (.inr (.inl rfl)), trivial⟩,
            ⟨.inr (.inr (.inr (fun _ _ _ _ _ h => h))), .inl rfl, .inr (.inr (.inl rfl)), .inr (.inr (.inr (fun _ _ _ _ h h0 => by cases h; exact h0))), .inr (.inr (.inr (fun _ _ _ _ _ h => h))), .inr (.inr (.inr (fun _ _ _ _ _ h => h))), .inr (.inr (.inr (fun _ _ _ _ h h0 => by cases h; exact h0))), .inr (.inr (.inr (fun _ _ _ _ _ h => h))), .inr (.inr (.inl rfl)), trivial⟩,
            ⟨.inr (.inr (.inr (fun _ _ _ _ _ h => h))), .inr (.inr (.inr (fun _ _ _ _ _ h => h))), .inl rfl, .inr (.inr (.inr (fun _ _ _ _ h h0 => by cases h; exact h0))), .inr (.inr (.inr (fun _ _ _ _ _ h => h))), .inr (.inr (.inr (fun _ _ _ _ _ h => h))), .inr (.inr (.inr (fun _ _ _ _ h h0 => by cases h; exact h0))), .inr (.inr (.inr (fun _ _ _ _ _ h => h))), .inr (.inr (.inl rfl)), trivial⟩,
            ⟨.inr (.inr (.inr (fun _ _ _ _ _ h => h))), .inr (.inr (.inr (fun _ _ _ _ _ h => h))), .inr (.inr (.inr (fun _ _ _ _ _ h => h))), .inl rfl, .inr (.inr (.inr (fun _ _ _ _ _ h => h))), .inr (.inr (.inr (fun _ _ _ _ _ h => h))), .inr (.inr (.inl rfl)), .inr (.inr (.inl rfl)), .inr (.inr (.inl rfl)), trivial⟩,
            ⟨.inr (.inr (.inr (fun _ _ _ _ _ h => h))), .inr (.inr (.inr (fun _ _ _ _ _ h => h))), .inr (.inr (.inr (fun _ _ _ _ _ h => h))), .inr (.inr (.inr (fun _ _ _ _ h h0 => by cases h; exact h0))), .inl rfl, .inr (.inr (.inl rfl)), .inr (.inr (.inl rfl)), .inr (.inr (.inl rfl)), .inr (.inr (.inr (fun _ _ _ _ h h0 => by cases h; exact h0))), trivial⟩,
            ⟨.inr (.inr (.inr (fun _ _ _ _ _ h => h))), .inr (.inr (.inr (fun _ _ _ _ _ h => h))), .inr (.inr (.inr (fun _ _ _ _ _ h => h))), .inr (.inr (.inr (fun _ _ _ _ h h0 => by cases h; exact h0))), .inr (.inr (.inr (fun _ _ _ _ _ h => h))), .inl rfl, .inr (.inr (.inl rfl)), .inr (.inr (.inl rfl)), .inr (.inr (.inl rfl)), trivial⟩,
            ⟨.inr (.inr (.inr (fun _ _ _ _ _ h => h))), .inr (.inr (.inr (fun _ _ _ _ _ h => h))), .inr (.inr (.inr (fun _ _ _ _ _ h => h))), .inr (.inr (.inr (fun _ _ _ _ h h0 => by cases h; exact h0))), .inr (.inr (.inr (fun _ _ _ _ _ h => h))), .inr (.inr (.inr (fun _ _ _ _ _ h => h))), .inl rfl, .inr (.inr (.inl rfl)), .inr (.inr (.inl rfl)), trivial⟩,
            ⟨.inr (.inr (.inr (fun _ _ _ _ _ h => h))), .inr (.inr (.inr (fun _ _ _ _ _ h => h))), .inr (.inr (.inr (fun _ _ _ _ _ h => h))), .inr (.inr (.inr (fun _ _ _ _ h h0 => by cases h; exact h0))), .inr (.inr (.inr (fun _ _ _ _ _ h => h))), .inr (.inr (.inr (fun _ _ _ _ _ h => h))), .inr (.inr (.inr (fun _ _ _ _ h h0 => by cases h; exact h0))), .inl rfl, .inr (.inr (.inl rfl)), trivial⟩,
            ⟨.inr (.inr (.inr (fun _ _ _ _ _ h => h))), .inr (.inr (.inr (fun _ _ _ _ _ h => h))), .inr (.inr (.inr (fun _ _ _ _ _ h => h))), .inr (.inl rfl), .inr (.inr (.inr (fun _ _ _ _ _ h => h))), .inr (.inr (.inr (fun _ _ _ _ _ h => h))), .inr (.inl rfl), .inr (.inr (.inr (fun _ _ _ _ _ h => h))), .inl rfl, trivial⟩, trivial⟩
        · refine ⟨?_, ?_, ?_, ?_, ?_, ?_, ?_, ?_, ?_, trivial⟩
          · -- 0: Op.move (Operand.tmp 0)
            refine step_plain [] (fun _ => rfl) rfl ?_
            intro w1 vals hC1 hi0 hf E hE
            have hI1 : (fun u => IsB u B 46 p c) w1 := hi0 false rfl
            try dsimp only at hI1
            clear hi0
            clear hf
            simp only [puts, act_put, act_put_none, List.setIfInBounds_toArray, List.set_cons_zero, List.set_cons_succ] at hE ⊢
            go_wp2
            exact .mk (hE _ _ rfl hC1 rfl)
          · -- 1: Op.nilCheck (Operand.tmp 22)
            refine step_plain [(0, some 22)] (fun _ => rfl) rfl ?_
            intro w1 vals hC1 hi0 hf E hE
            have hI1 : (fun u => IsB u B 46 p c) w1 := hi0 false rfl
            try dsimp only at hI1
            clear hi0
            have f0 : vals 0 = .pointer (some ⟨p, 0, none⟩) := hf 0 rfl
            try dsimp only at f0
            clear hf
            simp only [puts, act_put, act_put_none, List.setIfInBounds_toArray, List.set_cons_zero, List.set_cons_succ, f0] at hE ⊢
            clear f0
            go_wp2
            exact .mk (hE _ _ rfl hC1 rfl)
          · -- 2: Op.fieldAddr 46 (Operand.tmp 23) 0
            refine step_plain [(1, some 23)] (fun _ => rfl) rfl ?_
            intro w1 vals hC1 hi0 hf E hE
            have hI1 : (fun u => IsB u B 46 p c) w1 := hi0 false rfl
            try dsimp only at hI1
            clear hi0
            have f1 : vals 1 = .pointer (some ⟨p, 0, none⟩) := hf 1 rfl
            try dsimp only at f1
            clear hf
            simp only [puts, act_put, act_put_none, List.setIfInBounds_toArray, List.set_cons_zero, List.set_cons_succ, f1] at hE ⊢
            clear f1
            go_wp2
            exact .mk (hE _ _ rfl hC1 rfl)
          · -- 3: Op.buildSlice 22 2 #[(0, Operand.const (Value.string { data := #[102, 97, 108, 115, 101] })), (1, Operand.cons
            refine step_plain [] (fun _ => rfl) rfl ?_
            intro w1 vals hC1 hi0 hf E hE
            have hI1 : (fun u => IsB u B 46 p c) w1 := hi0 false rfl
            try dsimp only at hI1
            clear hi0
            clear hf
            simp only [puts, act_put, act_put_none, List.setIfInBounds_toArray, List.set_cons_zero, List.set_cons_succ] at hE ⊢
            go_wp2
            exact .mk (hE _ _ ⟨_, rfl, Blk.new _ _ _⟩ (hC1.trans (.all ((Below.refl _ _).alloc (Nat.le_refl _) _) (by have := hI1.lt; omega))) ((Below.refl _ _).alloc (Nat.le_refl _) _))
          · -- 4: Op.fieldAddr 25 (Operand.tmp 3) 1
            refine step_plain [] (fun _ => rfl) rfl ?_
            intro w1 vals hC1 hi0 hf E hE
            clear hi0
            clear hf
            simp only [puts, act_put, act_put_none, List.setIfInBounds_toArray, List.set_cons_zero, List.set_cons_succ] at hE ⊢
            go_wp2
            exact .mk (hE _ _ rfl hC1 rfl)
          · -- 5: Op.load 3 (Operand.tmp 26)
            refine step_plain [(4, some 26)] (fun _ => rfl) rfl ?_
            intro w1 vals hC1 hi0 hf E hE
            have hI1 : (fun u => IsB u B 46 p c) w1 := hi0 false rfl
            try dsimp only at hI1
            clear hi0
            have f4 : vals 4 = .pointer (some ⟨w.heap.size, 1, none⟩) := hf 4 rfl
            try dsimp only at f4
            clear hf
            have a9 : w1.cell? ⟨w.heap.size, 1, none⟩ = some (.int .i64 1) := (hC1.blk HKB.out HGP.out (by decide)).cell 1
            simp only [puts, act_put, act_put_none, List.setIfInBounds_toArray, List.set_cons_zero, List.set_cons_succ, f4] at hE ⊢
            clear f4
            go_wp2
            exact .mk (hE _ _ rfl hC1 rfl)
          · -- 6: Op.indexAddr 22 (Operand.tmp 25) (Operand.tmp 27)
            refine step_plain [(3, some 25), (5, some 27)] (fun _ => rfl) rfl ?_
            intro w1 vals hC1 hi0 hf E hE
            have hI1 : (fun u => IsB u B 46 p c) w1 := hi0 false rfl
            try dsimp only at hI1
            clear hi0
            have f3 : (fun v u => ∃ g, v = .slice (some ⟨g, 0, none⟩) 2 2 ∧ Blk u g 9 #[.string ⟨#[102, 97, 108, 115, 101]⟩, .string ⟨#[116, 114, 117, 101]⟩]) (vals 3) w1 := hf 3 rfl
            have f5 : vals 5 = .int .i64 1 := hf 5 rfl
            try dsimp only at f3 f5
            clear hf
            obtain ⟨g3, hx3, hg3⟩ := f3
            simp only [puts, act_put, act_put_none, List.setIfInBounds_toArray, List.set_cons_zero, List.set_cons_succ, f5, hx3] at hE ⊢
            clear f5
            clear hx3
            go_wp2
            exact .mk (hE _ _ ⟨g3, rfl, hg3⟩ hC1 rfl)
          · -- 7: Op.load 9 (Operand.tmp 28)
            refine step_plain [(6, some 28)] (fun _ => rfl) rfl ?_
            intro w1 vals hC1 hi0 hf E hE
            have hI1 : (fun u => IsB u B 46 p c) w1 := hi0 false rfl
            try dsimp only at hI1
            clear hi0
            have f6 : (fun v u => ∃ g, v = .pointer (some ⟨g, 1, none⟩) ∧ Blk u g 9 #[.string ⟨#[102, 97, 108, 115, 101]⟩, .string ⟨#[116, 114, 117, 101]⟩]) (vals 6) w1 := hf 6 rfl
            try dsimp only at f6
            clear hf
            obtain ⟨g6, hx6, hg6⟩ := f6
            have a9 := hg6.cell 1
            simp only [puts, act_put, act_put_none, List.setIfInBounds_toArray, List.set_cons_zero, List.set_cons_succ, hx6] at hE ⊢
            clear hx6
            go_wp2
            exact .mk (hE _ _ rfl hC1 rfl)
          · -- 8: Op.call { callee := Callee.value (Operand.func 31), args := #[Operand.tmp 24, Operand.tmp 29], argTypes := #[4
            refine step_plain [(2, some 24), (7, some 29)] (fun _ => rfl) rfl ?_
            intro w1 vals hC1 hi0 hf E hE
            have hI1 : (fun u => IsB u B 46 p c) w1 := hi0 false rfl
            try dsimp only at hI1
            clear hi0
            have f2 : vals 2 = .pointer (some ⟨p, 0, none⟩) := hf 2 rfl
            have f7 : vals 7 = .string ⟨#[116, 114, 117, 101]⟩ := hf 7 rfl
            try dsimp only at f2 f7
            clear hf
            simp only [puts, act_put, act_put_none, List.setIfInBounds_toArray, List.set_cons_zero, List.set_cons_succ, f2, f7] at hE ⊢
            clear f2 f7
            go_wp2_with fail
            refine calls_then (CS.out _ _ hI1 (by have := HLG.out; simp [ByteArray.size]; omega)) ?_
            rintro e w2 ⟨rfl, hb2, hw2⟩
            go_wp2_with fail
            exact .mk (hE _ _ hb2 (hC1.trans hw2) trivial)
        intro w1 vals hC1 hf
        have f0 : vals 0 = .pointer (some ⟨p, 0, none⟩) := hf 0 (by decide) rfl
        have f1 : vals 1 = .pointer (some ⟨p, 0, none⟩) := hf 1 (by decide) rfl
        have f2 : vals 2 = .pointer (some ⟨p, 0, none⟩) := hf 2 (by decide) rfl
        have f4 : vals 4 = .pointer (some ⟨w.heap.size, 1, none⟩) := hf 4 (by decide) rfl
        have f5 : vals 5 = .int .i64 1 := hf 5 (by decide) rfl
        have f7 : vals 7 = .string ⟨#[116, 114, 117, 101]⟩ := hf 7 (by decide) rfl
        have f8 : (fun z u => IsB u B 46 p (c ++ [116, 114, 117, 101])) vals w1 := hf 8 (by decide) rfl
        try dsimp only at f0 f1 f2 f4 f5 f7 f8
        clear hf
        simp only [puts, act_put, act_put_none, List.setIfInBounds_toArray, List.set_cons_zero, List.set_cons_succ, f0, f1, f2, f4, f5, f7]
        clear f0 f1 f2 f4 f5 f7
        generalize vals 3 = x3 at *
        generalize vals 6 = x6 at *
        generalize vals 8 = x8 at *
        have HR := Lib.hid (show WB W1 B p (c ++ [116, 114, 117, 101]) _ from ⟨f8, hC1⟩)
        clear HC0 HI0 hC1 f8
        go_wp2_with fail
        go_end0
        exact ⟨rfl, _, by rw [writeV, if_neg (by decide), if_pos rfl]; exact Out.all _ _, HF.out _ _ HR.out⟩
    · go_wp2_with fail
      refine calls_then (wnum_any vn (by have := HI.out; omega) (by have := HI.out; omega) B p c W1 _ HB.out (by have h := HL.out; rw [writeV, if_neg (by decide), if_neg (by decide), if_pos rfl] at h; exact h)) ?_
      rintro e w2 ⟨rfl, hw2⟩
      have HB2 := Lib.hid hw2
      clear hw2
      go_wp2_with fail
      go_end0
      exact ⟨rfl, _, by rw [writeV, if_neg (by decide), if_neg (by decide), if_pos rfl]; exact Out.all _ _, HF.out _ _ HB2.out⟩
    · go_wp2_with fail
      refine calls_then (wtext_any (bs vt) B p c W1 _ HB.out (by have h := HL.out; rw [writeV, if_neg (by decide), if_neg (by decide), if_neg (by decide), if_pos rfl] at h; exact h)) ?_
      rintro e w2 ⟨rfl, hw2⟩
      have HB2 := Lib.hid hw2
      clear hw2
      go_wp2_with fail
      go_end0
      exact ⟨rfl, _, by rw [writeV, if_neg (by decide), if_neg (by decide), if_neg (by decide), if_pos rfl]; exact Out.all _ _, HF.out _ _ HB2.out⟩
    · have HD := Lib.hid (show 0 < d by simp at hd; omega)
      have HW := Lib.hid (show writeV (.mk 4 vn vt ns ks) = 91 :: (itemsV false ns ks true ++ [93]) by
        rw [writeV, if_neg (by decide), if_neg (by decide), if_neg (by decide), if_neg (by decide)]
        rfl)
      have hns : ns = [] := by simpa using hvns
      have C := Lib.hid (wlist_any (d - 1) (IH _ (by have := HD.out; omega)) ⟨4, vn, vt, nA, ns.length, nc, kA, ks.length, kc⟩ rfl ns ks kv B p c W1 W1 HNR.out rfl rfl hkv HKR.out HKI.out ((rightsV_iff _ _).1 hks) hns HB.out (by rw [← HW.out]; exact HL.out))
      clear hvn hvk hvns hvt hd hk0 hlen hot hks hkv hns
      go_wp2_with (refine wpList_get_box (x := .tmp 3) HKB.out rfl rfl rfl hu rfl jT_size ?_)
      refine calls_then C.out ?_
      rintro e w2 ⟨rfl, c', ho, hw2⟩
      have HO := Lib.hid ho
      have HB2 := Lib.hid hw2
      clear hw2 ho
      go_wp2_with fail
      go_end0
      exact ⟨rfl, _, by rw [HW.out]; exact HO.out, HF.out _ _ HB2.out⟩
    · have HD := Lib.hid (show 0 < d by simp at hd; omega)
      have HW := Lib.hid (show writeV (.mk 5 vn vt ns ks) = 123 :: (itemsV true ns ks true ++ [125]) by
        rw [writeV, if_neg (by decide), if_neg (by decide), if_neg (by decide), if_neg (by decide)]
        rfl)
      have hlen' : ns.length = ks.length := by simpa using hlen
      have C := Lib.hid (wmap_any (d - 1) (IH _ (by have := HD.out; omega)) ⟨5, vn, vt, nA, ns.length, nc, kA, ks.length, kc⟩ rfl ns ks kv B p c W1 W1 HNR.out rfl rfl hkv HKR.out HKI.out ((rightsV_iff _ _).1 hks) hlen' HB.out (by rw [← HW.out]; exact HL.out))
      clear hvn hvk hvns hvt hd hk0 hlen hot hks hkv hlen'
      go_wp2_with (refine wpList_get_box (x := .tmp 3) HKB.out rfl rfl rfl hu rfl jT_size ?_)
      refine calls_then C.out ?_
      rintro e w2 ⟨rfl, c', ho, hw2⟩
      have HO := Lib.hid ho
      have HB2 := Lib.hid hw2
      clear hw2 ho
      go_wp2_with fail
      go_end0
      exact ⟨rfl, _, by rw [HW.out]; exact HO.out, HF.out _ _ HB2.out⟩
theorem wval_any : ∀ d, WVal d := fun d => Nat.strongRecOn d fun d ih => wval_step d ih
end Go.Proofs.Ytcfbnjaelniahaa.Js
