/-
  Joined texts: Jct Mps Jmy Jky Jpl.
-/
import Derived.Deep.CutBlock
import Derived.Test.YtlkikjeccamheaaDoorProg
import Derived.MapKept
import Derived.Test.YtlkikjeccamheaaDoorA2
import Derived.Test.YtlkikjeccamheaaDoorA5
import Derived.Test.YtlkikjeccamheaaDoorA1
/-
  Walks: the law's few and cut.
-/
namespace Go.Proofs.YtlkikjeccamheaaDoor.Js
set_option linter.unusedSimpArgs false
set_option linter.unusedVariables false
open Go.RowKit
theorem bs_takem (t : Bs) (m : Nat) : (bs t).extract 0 m = bs (t.take m) := by
  apply ByteArray.ext
  simp [bs, ByteArray.data_extract]
set_option maxHeartbeats 2000000 in
theorem few_any (s : Bs) (m : Nat) (hs : (s.length : Int) ≤ 9223372036854775807) (w : World) :
    Calls Tryd.prog 12 #[.string (bs s), .int .i64 (m : Int)] w fun e w' => e = .returned (.string (bs (s.take m))) ∧ w' = w := by
  have hsz : ((bs s).size : Int) = (s.length : Int) := by rw [bs_size]
  have HS := Lib.hid hsz
  go_enter Tryd.func12, Tryd.ntmps12
  by_cases hl : m < s.length
  · have hl' : (m : Int) < ((bs s).size : Int) := by omega
    have hl2 : m ≤ (bs s).size := by omega
    clear hsz
    go_wp2_with fail
    go_ret
    exact ⟨by rw [← bs_takem]; rfl, rfl⟩
  · have hl' : ¬ (m : Int) < ((bs s).size : Int) := by omega
    have HT := Lib.hid (show s.take m = s from List.take_of_length_le (by omega))
    clear hsz
    go_wp2_with fail
    go_ret
    exact ⟨by rw [HT.out]; rfl, rfl⟩
def nameL (x : Bs) : Bs := nameK (Sh.digS Sh.F32 x) 4
theorem nameS_bs (x : Bs) : nameS x = bs (nameL x) := rfl
def cutK (k : Bs × Bs) : Bs × Bs := (if k.1.take 20 = [] then nameL (k.2.take 40) else k.1.take 20, k.2.take 40)
def zB : Array Value := #[.string ⟨#[]⟩, .int .i64 0, .slice none 0 0]
def bC (d : Bs) (n : Int) (A : Option Addr) (l c : Nat) : Array Value := #[.string (bs d), .int .i64 n, .slice A l c]
structure Cb (w0 : World) (V R : Array Value) (A1 : Option Addr) (c1 : Nat) (ks : List (Bs × Bs)) (u : World) : Prop where
  low : Below w0.heap.size w0 u
  vbox : Blk u w0.heap.size 28 V
  res : Blk u (w0.heap.size + 1) 28 zB
  out : Blk u (w0.heap.size + 2) 28 R
  keys : OwnR u (w0.heap.size + 3) 37 2 A1 c1 ks.length (rowsV kCell ks)
section
variable {w0 : World} {V R : Array Value} {A1 : Option Addr} {c1 : Nat} {ks : List (Bs × Bs)} {u u' : World}
theorem Cb.size (h : Cb w0 V R A1 c1 ks u) : w0.heap.size + 3 ≤ u.heap.size := h.out.lt
theorem Cb.new (h : Cb w0 V R A1 c1 ks u) (hb : Below u.heap.size u u') : Cb w0 V R A1 c1 ks u' :=
  ⟨h.low.trans (hb.mono (by have := h.size; omega)), h.vbox.below hb h.vbox.lt, h.res.below hb h.res.lt, h.out.below hb h.out.lt, h.keys.below hb⟩
theorem Cb.put {R' : Array Value} (h : Cb w0 V R A1 c1 ks u) (hw : Wrote (w0.heap.size + 2) u u') (ht : Blk u' (w0.heap.size + 2) 28 R') : Cb w0 V R' A1 c1 ks u' := by
  have hs := h.size
  have hk : ∀ b, b < u.heap.size → w0.heap.size + 3 ≤ b → u'.heap[b]? = u.heap[b]? := fun b hb hl => hw.grown.block b hb (by intro h; injection h with h; omega)
  have hlt : ∀ {k cs t}, u.heap[k]? = some (.cells cs t (0, 0)) → k < u.heap.size := fun hq => (Array.getElem?_eq_some_iff.1 hq).1
  exact ⟨hw.below h.low (by omega) (by omega), hw.blk h.vbox (by omega), hw.blk h.res (by omega), ht, h.keys.heap fun k cs hq hl => (hk k (hlt hq) hl).trans hq⟩
theorem ownR_put {w w' : World} {base : Nat} {e : TypeId} {size : Nat} {A : Option Addr} {c n g : Nat} {xs : List Value} (h : OwnR w base e size A c n xs) (hw : Wrote g w w') (hne : ∀ k, (Value.slice A n c).ownBlock = some k → k ≠ g) : OwnR w' base e size A c n xs := by
  refine ⟨h.1, ?_⟩
  rcases h.2 with h0 | ⟨g', cap, cur, h1, h2, h3, h4⟩
  · exact .inl h0
  · have hn : g' ≠ g := hne g' (by rw [h1]; rfl)
    exact .inr ⟨g', cap, cur, h1, h2, (hw.grown.block g' (Array.getElem?_eq_some_iff.1 h3).1 (by intro he; injection he with he; exact hn he)).trans h3, h4⟩
theorem Cb.wrote {g : Nat} (h : Cb w0 V R A1 c1 ks u) (hw : Wrote g u u') (hg : w0.heap.size + 3 ≤ g) (hne : ∀ k, (Value.slice A1 ks.length c1).ownBlock = some k → k ≠ g) : Cb w0 V R A1 c1 ks u' :=
  ⟨hw.below h.low (by omega) (by have := h.size; omega), hw.blk h.vbox (by omega), hw.blk h.res (by omega), hw.blk h.out (by omega), ownR_put h.keys hw hne⟩
theorem Cb.add {k : Bs × Bs} {A' : Option Addr} {c' : Nat} (h : Cb w0 V R A1 c1 ks u) (ho : OwnR u' (w0.heap.size + 3) 37 2 A' c' (ks.length + 1) (rowsV kCell ks ++ (kCell k).toList)) (hg : u.grownBy u' (Value.slice A1 ks.length c1).ownBlock) :
    Cb w0 V R A' c' (ks ++ [k]) u' := by
  have hs := h.size
  have hne : ∀ k, k < w0.heap.size + 3 → some k ≠ (Value.slice A1 ks.length c1).ownBlock := fun k hk he => by have := (h.keys.lt k he.symm).1; omega
  exact ⟨h.low.grown hg (by omega) (fun k hk => by have := (h.keys.lt k hk).1; omega), h.vbox.grown hg (hne _ (by omega)), h.res.grown hg (hne _ (by omega)), h.out.grown hg (hne _ (by omega)), by rw [rowsV_append, rowsV_one, List.length_append]; exact ho⟩
end
theorem jb_size : (Tryd.prog.info? 28).map (·.size) = some 3 := by kernel_rfl
theorem sl_jwks : SlT Tryd.prog 26 37 2 32 := SlT.mk1 (z := .agg #[.string ⟨#[]⟩, .string ⟨#[]⟩]) Tryd.underlying26 (by kernel_rfl) rfl (by decide)
theorem ownR_rds2 {w : World} {base : Nat} {e : TypeId} {size : Nat} {A : Option Addr} {c n : Nat} {xs : List Value} (h : OwnR w base e size A c n xs) : RdS w (fun b => base ≤ b) A xs := fun i u hu => by
  obtain ⟨ad, h1, h2, h3⟩ := Rd.of_own h.x (Nat.le_refl _) i u hu
  refine ⟨ad, h1, ?_, h3⟩
  exact (h.lt ad.block (by rw [h1]; rfl)).1
def CutPost (D : Bs) (num : Int) (ks : List (Bs × Bs)) (w : World) (e : Ending) (w' : World) : Prop :=
  ∃ (A' : Option Addr) (c' : Nat), e = .returned (.agg (bC (D.take 30) num A' ((ks.take 10).map cutK).length c')) ∧ Below w.heap.size w w' ∧ RdS w' (fun b => w.heap.size ≤ b) A' (rowsV kCell ((ks.take 10).map cutK))
set_option maxRecDepth 100000 in
set_option maxHeartbeats 4000000 in
theorem jcut_any (D : Bs) (num : Int) (ks : List (Bs × Bs)) (A : Option Addr) (c B : Nat) (w : World) (hr : Rd w B A (rowsV kCell ks)) (hB : B ≤ w.heap.size) (hD : (D.length : Int) ≤ 9223372036854775807) (hl : (ks.length : Int) ≤ 9223372036854775807)
    (hk : ∀ k ∈ ks, (k.1.length : Int) ≤ 9223372036854775807 ∧ (k.2.length : Int) ≤ 9223372036854775807) :
    Calls Tryd.prog 9 #[.agg (bC D num A ks.length c)] w (CutPost D num ks w) := by
  have hub := Tryd.underlying28
  obtain ⟨G, hG⟩ : ∃ G, G = w.heap.size := ⟨_, rfl⟩
  obtain ⟨W1, hW1⟩ : ∃ W1, W1 = (w.alloc (.cells (bC D num A ks.length c) 28)).alloc (.cells zB 28) := ⟨_, rfl⟩
  have hb1 : Below w.heap.size w W1 := by rw [hW1]; exact ((Below.refl _ w).alloc (Nat.le_refl _) _).alloc (by simp) _
  have HB1 := Lib.hid hb1
  have HK1 := Lib.hid (show Blk W1 w.heap.size 28 (bC D num A ks.length c) by rw [hW1]; exact (Blk.new _ _ _).alloc _)
  have HZ1 := Lib.hid (show Blk W1 (w.heap.size + 1) 28 zB by rw [hW1]; have := Blk.new (w.alloc (.cells (bC D num A ks.length c) 28)) 28 zB; simpa using this)
  have HS1 := Lib.hid (show W1.heap.size = w.heap.size + 2 by rw [hW1]; simp)
  have HR := Lib.hid hr
  have HBB := Lib.hid hB
  have HKK := Lib.hid hk
  have HF := Lib.hid few_any
  have HW1 := Lib.hid hW1
  obtain ⟨n, hn⟩ : ∃ n, n = ks.length := ⟨_, rfl⟩
  rw [← hn] at HK1 HW1 hl ⊢
  have HN := Lib.hid hn
  clear hW1 hb1 hr hB hk hG hn
  go_enter Tryd.func9, Tryd.ntmps9
  go_upto_region 1 with (fail)
  rw [show ((w.alloc (.cells (bC D num A n c) 28)).alloc (.cells #[.string ⟨#[]⟩, .int .i64 0, .slice none 0 0] 28)) = W1 from HW1.out.symm]
  generalize Value.agg (bC D num A n c) = AV
  have HC0 : Below W1.heap.size W1 W1.drew := (Below.refl _ _).drew
  have HI0 : W1.drew.heap.size = w.heap.size + 2 := HS1.out
  refine wp_region_list (fun u => Below W1.heap.size W1 u) (fun | false => (fun u => u.heap.size = w.heap.size + 2) | true => (fun _ => True)) (fun | false, i => i == 6 || i == 7 | true, _ => false)
    [fun z _ => z 0 = .pointer (some ⟨w.heap.size, 0, none⟩),
     fun z _ => z 1 = .string (bs D),
     fun z _ => z 2 = .string (bs (D.take 30)),
     fun z _ => z 3 = .pointer (some ⟨w.heap.size, 1, none⟩),
     fun z _ => z 4 = .int .i64 num,
     fun z _ => z 5 = .agg (bC (D.take 30) num none 0 0),
     fun z u => z 6 = .pointer (some ⟨w.heap.size + 2, 0, none⟩) ∧ Blk u (w.heap.size + 2) 28 zB,
     fun z u => z 6 = .pointer (some ⟨w.heap.size + 2, 0, none⟩) ∧ Blk u (w.heap.size + 2) 28 (bC (D.take 30) num none 0 0)]
    [Eq, Eq, Eq, Eq, Eq, Eq, fun u u' => Below u.heap.size u u', fun _ _ => True]
    (fun i k => (i == 7 && k == 6)) [(0, some 6), (1, some 7), (2, some 8), (3, some 9), (4, some 10), (5, some 11), (6, some 3), (7, none)] (by kernel_rfl) (by kernel_rfl) rfl (fun _ => rfl) ?_ ?_ ?_ ?_ ?_ ?_
  · exact HC0
  · intro m; cases m; exact HI0; exact trivial
  · intro m; cases m
    · exact ⟨.inr (fun _ _ h h0 => h ▸ h0), .inr (fun _ _ h h0 => h ▸ h0), .inr (fun _ _ h h0 => h ▸ h0), .inr (fun _ _ h h0 => h ▸ h0), .inr (fun _ _ h h0 => h ▸ h0), .inr (fun _ _ h h0 => h ▸ h0), .inl rfl, .inl rfl, trivial⟩
    · exact ⟨.inr (fun _ _ h h0 => h ▸ h0), .inr (fun _ _ h h0 => h ▸ h0), .inr (fun _ _ h h0 => h ▸ h0), .inr (fun _ _ h h0 => h ▸ h0), .inr (fun _ _ h h0 => h ▸ h0), .inr (fun _ _ h h0 => h ▸ h0), .inr (fun _ _ _ h => h), .inr (fun _ _ _ h => h), trivial⟩
  · exact ⟨⟨.inl rfl, .inr (.inr (.inl rfl)), .inr (.inr (.inl rfl)), .inr (.inr (.inr (fun _ _ _ _ _ h => h))), .inr (.inr (.inr (fun _ _ _ _ _ h => h))), .inr (.inr (.inl rfl)), .inr (.inr (.inr (fun _ _ _ _ h h0 => by cases h; exact h0))), .inr (.inr (.inl rfl)), trivial⟩,
      ⟨.inr (.inr (.inr (fun _ _ _ _ _ h => h))), .inl rfl, .inr (.inr (.inl rfl)), .inr (.inr (.inr (fun _ _ _ _ _ h => h))), .inr (.inr (.inr (fun _ _ _ _ _ h => h))), .inr (.inr (.inl rfl)), .inr (.inr (.inr (fun _ _ _ _ h h0 => by cases h; exact h0))), .inr (.inr (.inl rfl)), trivial⟩,
      ⟨.inr (.inr (.inr (fun _ _ _ _ _ h => h))), .inr (.inr (.inr (fun _ _ _ _ _ h => h))), .inl rfl, .inr (.inr (.inr (fun _ _ _ _ _ h => h))), .inr (.inr (.inr (fun _ _ _ _ _ h => h))), .inr (.inr (.inl rfl)), .inr (.inr (.inr (fun _ _ _ _ h h0 => by cases h; exact h0))), .inr (.inr (.inl rfl)), trivial⟩,
      ⟨.inr (.inr (.inr (fun _ _ _ _ _ h => h))), .inr (.inr (.inr (fun _ _ _ _ _ h => h))), .inr (.inr (.inr (fun _ _ _ _ _ h => h))), .inl rfl, .inr (.inr (.inl rfl)), .inr (.inr (.inl rfl)), .inr (.inr (.inr (fun _ _ _ _ h h0 => by cases h; exact h0))), .inr (.inr (.inl rfl)), trivial⟩,
      ⟨.inr (.inr (.inr (fun _ _ _ _ _ h => h))), .inr (.inr (.inr (fun _ _ _ _ _ h => h))), .inr (.inr (.inr (fun _ _ _ _ _ h => h))), .inr (.inr (.inr (fun _ _ _ _ _ h => h))), .inl rfl, .inr (.inr (.inl rfl)), .inr (.inr (.inr (fun _ _ _ _ h h0 => by cases h; exact h0))), .inr (.inr (.inl rfl)), trivial⟩,
      ⟨.inr (.inr (.inr (fun _ _ _ _ _ h => h))), .inr (.inr (.inr (fun _ _ _ _ _ h => h))), .inr (.inr (.inr (fun _ _ _ _ _ h => h))), .inr (.inr (.inr (fun _ _ _ _ _ h => h))), .inr (.inr (.inr (fun _ _ _ _ _ h => h))), .inl rfl, .inr (.inr (.inr (fun _ _ _ _ h h0 => by cases h; exact h0))), .inr (.inr (.inl rfl)), trivial⟩,
      ⟨.inr (.inr (.inr (fun _ _ _ _ _ h => h))), .inr (.inr (.inr (fun _ _ _ _ _ h => h))), .inr (.inr (.inr (fun _ _ _ _ _ h => h))), .inr (.inr (.inr (fun _ _ _ _ _ h => h))), .inr (.inr (.inr (fun _ _ _ _ _ h => h))), .inr (.inr (.inr (fun _ _ _ _ _ h => h))), .inl rfl, .inr (.inr (.inl rfl)), trivial⟩,
      ⟨.inr (.inr (.inr (fun _ _ _ _ _ h => h))), .inr (.inr (.inr (fun _ _ _ _ _ h => h))), .inr (.inr (.inr (fun _ _ _ _ _ h => h))), .inr (.inr (.inr (fun _ _ _ _ _ h => h))), .inr (.inr (.inr (fun _ _ _ _ _ h => h))), .inr (.inr (.inr (fun _ _ _ _ _ h => h))), .inr (.inl rfl), .inl rfl, trivial⟩, trivial⟩
  · refine ⟨?_, ?_, ?_, ?_, ?_, ?_, ?_, ?_, trivial⟩
    · -- 0: Op.fieldAddr 28 (Operand.tmp 1) 0
      refine step_plain [] (fun _ => rfl) rfl ?_
      intro w1 vals hC1 hi0 hf E hE
      clear hi0
      clear hf
      simp only [puts, act_put, act_put_none, List.setIfInBounds_toArray, List.set_cons_zero, List.set_cons_succ] at hE ⊢
      go_wp2
      exact .mk (hE _ _ rfl hC1 rfl)
    · -- 1: Op.load 9 (Operand.tmp 6)
      refine step_plain [(0, some 6)] (fun _ => rfl) rfl ?_
      intro w1 vals hC1 hi0 hf E hE
      clear hi0
      have f0 : vals 0 = .pointer (some ⟨w.heap.size, 0, none⟩) := hf 0 rfl
      try dsimp only at f0
      clear hf
      simp only [puts, act_put, act_put_none, List.setIfInBounds_toArray, List.set_cons_zero, List.set_cons_succ, f0] at hE ⊢
      clear f0
      have d0 := (HK1.out.below hC1 HK1.out.lt).cell 0
      simp only [bC, List.getElem?_toArray, List.getElem?_cons_zero] at d0
      go_wp2
      exact .mk (hE _ _ rfl hC1 rfl)
    · -- 2: Op.call { callee := Callee.value (Operand.func 12), args := #[Operand.tmp 7, Operand.const (Value.int IntKind.
      refine step_plain [(1, some 7)] (fun _ => rfl) rfl ?_
      intro w1 vals hC1 hi0 hf E hE
      clear hi0
      have f1 : vals 1 = .string (bs D) := hf 1 rfl
      try dsimp only at f1
      clear hf
      simp only [puts, act_put, act_put_none, List.setIfInBounds_toArray, List.set_cons_zero, List.set_cons_succ, f1] at hE ⊢
      clear f1
      go_wp2_with fail
      refine calls_then (HF.out D 30 hD _) ?_
      rintro e w2 ⟨rfl, rfl⟩
      go_wp2_with fail
      exact .mk (hE _ _ rfl hC1 rfl)
    · -- 3: Op.fieldAddr 28 (Operand.tmp 1) 1
      refine step_plain [] (fun _ => rfl) rfl ?_
      intro w1 vals hC1 hi0 hf E hE
      clear hi0
      clear hf
      simp only [puts, act_put, act_put_none, List.setIfInBounds_toArray, List.set_cons_zero, List.set_cons_succ] at hE ⊢
      go_wp2
      exact .mk (hE _ _ rfl hC1 rfl)
    · -- 4: Op.load 3 (Operand.tmp 9)
      refine step_plain [(3, some 9)] (fun _ => rfl) rfl ?_
      intro w1 vals hC1 hi0 hf E hE
      clear hi0
      have f3 : vals 3 = .pointer (some ⟨w.heap.size, 1, none⟩) := hf 3 rfl
      try dsimp only at f3
      clear hf
      simp only [puts, act_put, act_put_none, List.setIfInBounds_toArray, List.set_cons_zero, List.set_cons_succ, f3] at hE ⊢
      clear f3
      have d0 := (HK1.out.below hC1 HK1.out.lt).cell 1
      simp only [bC, List.getElem?_toArray, List.getElem?_cons_zero, List.getElem?_cons_succ] at d0
      go_wp2
      exact .mk (hE _ _ rfl hC1 rfl)
    · -- 5: Op.build 28 #[(0, Operand.tmp 8), (1, Operand.tmp 10)]
      refine step_plain [(2, some 8), (4, some 10)] (fun _ => rfl) rfl ?_
      intro w1 vals hC1 hi0 hf E hE
      clear hi0
      have f2 : vals 2 = .string (bs (D.take 30)) := hf 2 rfl
      have f4 : vals 4 = .int .i64 num := hf 4 rfl
      try dsimp only at f2 f4
      clear hf
      simp only [puts, act_put, act_put_none, List.setIfInBounds_toArray, List.set_cons_zero, List.set_cons_succ, f2, f4] at hE ⊢
      clear f2 f4
      go_wp2
      exact .mk (hE _ _ rfl hC1 rfl)
    · -- 6: Op.alloc 28
      refine step_plain [] (fun _ => rfl) rfl ?_
      intro w1 vals hC1 hi0 hf E hE
      have hI1 : (fun u => u.heap.size = w.heap.size + 2) w1 := hi0 false rfl
      try dsimp only at hI1
      clear hi0
      clear hf
      simp only [puts, act_put, act_put_none, List.setIfInBounds_toArray, List.set_cons_zero, List.set_cons_succ] at hE ⊢
      go_wp2
      exact .mk (hE _ _ ⟨rfl, by rw [← hI1]; exact Blk.new _ _ _⟩ (hC1.alloc hC1.size _) ((Below.refl _ _).alloc (Nat.le_refl _) _))
    · -- 7: Op.store 28 (Operand.tmp 3) (Operand.tmp 11)
      refine step_plain [(6, some 3), (5, some 11), (2, some 8), (0, some 6), (1, some 7), (2, some 8), (3, some 9), (4, some 10), (5, some 11), (6, some 3)] (fun _ => rfl) rfl ?_
      intro w1 vals hC1 hi0 hf E hE
      clear hi0
      have f0 : vals 0 = .pointer (some ⟨w.heap.size, 0, none⟩) := hf 0 rfl
      have f1 : vals 1 = .string (bs D) := hf 1 rfl
      have f2 : vals 2 = .string (bs (D.take 30)) := hf 2 rfl
      have f3 : vals 3 = .pointer (some ⟨w.heap.size, 1, none⟩) := hf 3 rfl
      have f4 : vals 4 = .int .i64 num := hf 4 rfl
      have f5 : vals 5 = .agg (bC (D.take 30) num none 0 0) := hf 5 rfl
      have f6 : (fun z u => z 6 = .pointer (some ⟨w.heap.size + 2, 0, none⟩) ∧ Blk u (w.heap.size + 2) 28 zB) vals w1 := hf 6 rfl
      try dsimp only at f0 f1 f2 f3 f4 f5 f6
      clear hf
      obtain ⟨hx6, hg6⟩ := f6
      have HG6 := Lib.hid hg6
      have HX6 := Lib.hid hx6
      clear hg6
      simp only [puts, act_put, act_put_none, List.setIfInBounds_toArray, List.set_cons_zero, List.set_cons_succ, f0, f1, f2, f3, f4, f5, hx6] at hE ⊢
      clear f0 f1 f2 f3 f4 f5
      clear hx6
      go_wp2_with (refine wpList_put_box (cells := bC (D.take 30) num none 0 0) HG6.out rfl rfl rfl rfl jb_size rfl (by simp [bC, Value.oneCell']) ?_; intro w5 hb5 hw5)
      exact .mk (hE undef _ ⟨HX6.out, hb5⟩ (hw5.below hC1 (by have := HS1.out; omega) hC1.size) trivial)
  intro w1 vals hC1 hf
  have f0 : vals 0 = .pointer (some ⟨w.heap.size, 0, none⟩) := hf 0 (by decide) rfl
  have f1 : vals 1 = .string (bs D) := hf 1 (by decide) rfl
  have f2 : vals 2 = .string (bs (D.take 30)) := hf 2 (by decide) rfl
  have f3 : vals 3 = .pointer (some ⟨w.heap.size, 1, none⟩) := hf 3 (by decide) rfl
  have f4 : vals 4 = .int .i64 num := hf 4 (by decide) rfl
  have f5 : vals 5 = .agg (bC (D.take 30) num none 0 0) := hf 5 (by decide) rfl
  have f7 : (fun z u => z 6 = .pointer (some ⟨w.heap.size + 2, 0, none⟩) ∧ Blk u (w.heap.size + 2) 28 (bC (D.take 30) num none 0 0)) vals w1 := hf 7 (by decide) rfl
  try dsimp only at f0 f1 f2 f3 f4 f5 f7
  clear hf
  simp only [puts, act_put, act_put_none, List.setIfInBounds_toArray, List.set_cons_zero, List.set_cons_succ, f0, f1, f2, f3, f4, f5]
  clear f0 f1 f2 f3 f4 f5
  generalize vals 6 = x6 at *
  obtain ⟨hx6, hb7⟩ := f7
  rw [hx6]
  have HC1 := Lib.hid (show Cb w (bC D num A n c) (bC (D.take 30) num none 0 0) none 0 [] w1 from
    ⟨HB1.out.trans (hC1.mono HB1.out.size), HK1.out.below hC1 HK1.out.lt, HZ1.out.below hC1 HZ1.out.lt, hb7, OwnR.nil _ _ _ _⟩)
  obtain ⟨mn, hmn⟩ : ∃ mn, mn = min n 10 := ⟨_, rfl⟩
  have HMN := Lib.hid hmn
  have HRW := Lib.hid (show Rd W1 B A (rowsV kCell ks) from HR.out.below (HB1.out.mono HBB.out))
  have HBW := Lib.hid (show B ≤ W1.heap.size from Nat.le_trans HBB.out HB1.out.size)
  clear hmn hx6 hb7 hC1 HC0 HI0
  go_wp2_with fail
  go_loopw [4] (fun x wr => ∃ (i : Nat) (A1 : Option Addr) (c1 : Nat), i ≤ mn ∧ x = .int .i64 (i : Int) ∧
    Cb w (bC D num A n c) (bC (D.take 30) num A1 ((ks.take i).map cutK).length c1) A1 c1 ((ks.take i).map cutK) wr) (fun x _ => mn - (intOf x).toNat)
  case atStart => exact ⟨0, none, 0, Nat.zero_le _, rfl, HC1.out⟩
  case round =>
    obtain ⟨i, A1, c1, hi, rfl, hcs⟩ := hrel
    have HCS := Lib.hid hcs
    clear hcs
    have a2 : wr.cell? ⟨w.heap.size, 2, none⟩ = some (.slice A n c) := HCS.out.vbox.cell 2
    by_cases hlt : i < mn
    · have HLT := Lib.hid hlt
      have h1 : (i : Int) < (n : Int) := by have := HMN.out; omega
      have h2 : (i : Int) < 10 := by have := HMN.out; omega
      have hil : i < ks.length := by have := HMN.out; rw [← HN.out]; omega
      obtain ⟨ad, hA, hadb, hcell⟩ := rd_rows (f := kCell) (m := 2) (fun _ => rfl) (by decide) (HR.out.below (HCS.out.low.mono HBB.out)) hil
      subst hA
      obtain ⟨X, hX⟩ : ∃ X, X = ks[i] := ⟨_, rfl⟩
      rw [← hX] at hcell
      have c0 : wr.cell? (ad.add (i * 2)) = some (.string (bs X.1)) := hcell 0 _ rfl
      have c1' : wr.cell? ⟨(ad.add (i * 2)).block, (ad.add (i * 2)).off + 1, none⟩ = some (.string (bs X.2)) := hcell 1 _ rfl
      have HXS := Lib.hid (show (ks.take (i + 1)).map cutK = (ks.take i).map cutK ++ [cutK X] by rw [List.take_succ_eq_append_getElem hil, List.map_append, hX]; rfl)
      have HXM := Lib.hid (HKK.out X (by rw [hX]; exact List.getElem_mem hil))
      have HPB := Lib.hid (show (ad.add (i * 2)).block < wr.heap.size from World.block_lt_of_cell? _ _ c0)
      obtain ⟨N, hN⟩ : ∃ N, N = (ks.take i).map cutK := ⟨_, rfl⟩
      have HNL := Lib.hid (show N.length ≤ 10 by rw [hN]; simp; have := HMN.out; omega)
      rw [← hN] at HCS HXS
      have C0 := Lib.hid c0
      have C1' := Lib.hid c1'
      clear hX hcell hil hlt hadb hN c0 c1'
      go_upto_region 5 with (fail)
      obtain ⟨H, hH⟩ : ∃ H, H = wr.heap.size := ⟨_, rfl⟩
      have HHE := Lib.hid hH
      have HC0 : Below wr.heap.size wr wr.drew := (Below.refl _ _).drew
      have HI0 : wr.drew.heap.size = H := hH.symm
      have hnm : (n : Int) ≤ 9223372036854775807 := hl
      clear hH a2
      refine wp_region_list (fun u => Below wr.heap.size wr u) (fun | false => (fun u => u.heap.size = H) | true => (fun _ => True)) (fun | false, i => i == 15 || i == 16 | true, _ => false)
        [fun z _ => z 0 = .pointer (some ⟨w.heap.size, 2, none⟩),
         fun z _ => z 1 = .slice (some ad) n c,
         fun z _ => z 2 = .int .i64 (i : Int),
         fun z _ => z 3 = .pointer (some (ad.add (i * 2))),
         fun z _ => z 4 = .pointer (some (ad.add (i * 2))),
         fun z _ => z 5 = .string (bs X.1),
         fun z _ => z 6 = .string (bs (X.1.take 20)),
         fun z _ => z 7 = .pointer (some ⟨w.heap.size, 2, none⟩),
         fun z _ => z 8 = .slice (some ad) n c,
         fun z _ => z 9 = .int .i64 (i : Int),
         fun z _ => z 10 = .pointer (some (ad.add (i * 2))),
         fun z _ => z 11 = .pointer (some ⟨(ad.add (i * 2)).block, (ad.add (i * 2)).off + 1, none⟩),
         fun z _ => z 12 = .string (bs X.2),
         fun z _ => z 13 = .string (bs (X.2.take 40)),
         fun z _ => z 14 = .agg (kCell (X.1.take 20, X.2.take 40)),
         fun z u => z 15 = .pointer (some ⟨H, 0, none⟩) ∧ Blk u H 37 #[.string ⟨#[]⟩, .string ⟨#[]⟩],
         fun z u => z 15 = .pointer (some ⟨H, 0, none⟩) ∧ Blk u H 37 (kCell (X.1.take 20, X.2.take 40))]
        [Eq, Eq, Eq, Eq, Eq, Eq, Eq, Eq, Eq, Eq, Eq, Eq, Eq, Eq, Eq, fun u u' => Below u.heap.size u u', fun _ _ => True]
        (fun i k => (i == 16 && k == 15)) [(0, some 23), (1, some 24), (2, some 25), (3, some 26), (4, some 27), (5, some 28), (6, some 29), (7, some 30), (8, some 31), (9, some 32), (10, some 33), (11, some 34), (12, some 35), (13, some 36), (14, some 37), (15, some 5), (16, none)] (by kernel_rfl) (by kernel_rfl) rfl (fun _ => rfl) ?_ ?_ ?_ ?_ ?_ ?_
      · exact HC0
      · intro m; cases m; exact HI0; exact trivial
      · intro m; cases m
        · exact ⟨.inr (fun _ _ h h0 => h ▸ h0), .inr (fun _ _ h h0 => h ▸ h0), .inr (fun _ _ h h0 => h ▸ h0), .inr (fun _ _ h h0 => h ▸ h0), .inr (fun _ _ h h0 => h ▸ h0), .inr (fun _ _ h h0 => h ▸ h0), .inr (fun _ _ h h0 => h ▸ h0), .inr (fun _ _ h h0 => h ▸ h0), .inr (fun _ _ h h0 => h ▸ h0), .inr (fun _ _ h h0 => h ▸ h0), .inr (fun _ _ h h0 => h ▸ h0), .inr (fun _ _ h h0 => h ▸ h0), .inr (fun _ _ h h0 => h ▸ h0), .inr (fun _ _ h h0 => h ▸ h0), .inr (fun _ _ h h0 => h ▸ h0), .inl rfl, .inl rfl, trivial⟩
        · exact ⟨.inr (fun _ _ h h0 => h ▸ h0), .inr (fun _ _ h h0 => h ▸ h0), .inr (fun _ _ h h0 => h ▸ h0), .inr (fun _ _ h h0 => h ▸ h0), .inr (fun _ _ h h0 => h ▸ h0), .inr (fun _ _ h h0 => h ▸ h0), .inr (fun _ _ h h0 => h ▸ h0), .inr (fun _ _ h h0 => h ▸ h0), .inr (fun _ _ h h0 => h ▸ h0), .inr (fun _ _ h h0 => h ▸ h0), .inr (fun _ _ h h0 => h ▸ h0), .inr (fun _ _ h h0 => h ▸ h0), .inr (fun _ _ h h0 => h ▸ h0), .inr (fun _ _ h h0 => h ▸ h0), .inr (fun _ _ h h0 => h ▸ h0), .inr (fun _ _ _ h => h), .inr (fun _ _ _ h => h), trivial⟩
      · exact ⟨⟨.inl rfl, .inr (.inr (.inl rfl)), .inr (.inr (.inr (fun _ _ _ _ _ h => h))), .inr (.inr (.inl rfl)), .inr (.inr (.inl rfl)), .inr (.inr (.inr (fun _ _ _ _ _ h => h))), .inr (.inr (.inr (fun _ _ _ _ _ h => h))), .inr (.inr (.inr (fun _ _ _ _ _ h => h))), .inr (.inr (.inr (fun _ _ _ _ _ h => h))), .inr (.inr (.inr (fun _ _ _ _ _ h => h))), .inr (.inr (.inr (fun _ _ _ _ _ h => h))), .inr (.inr (.inr (fun _ _ _ _ _ h => h))), .inr (.inr (.inr (fun _ _ _ _ _ h => h))), .inr (.inr (.inr (fun _ _ _ _ _ h => h))), .inr (.inr (.inr (fun _ _ _ _ _ h => h))), .inr (.inr (.inr (fun _ _ _ _ h h0 => by cases h; exact h0))), .inr (.inr (.inl rfl)), trivial⟩,
          ⟨.inr (.inr (.inr (fun _ _ _ _ _ h => h))), .inl rfl, .inr (.inr (.inr (fun _ _ _ _ _ h => h))), .inr (.inr (.inl rfl)), .inr (.inr (.inl rfl)), .inr (.inr (.inl rfl)), .inr (.inr (.inr (fun _ _ _ _ _ h => h))), .inr (.inr (.inr (fun _ _ _ _ _ h => h))), .inr (.inr (.inr (fun _ _ _ _ _ h => h))), .inr (.inr (.inr (fun _ _ _ _ _ h => h))), .inr (.inr (.inr (fun _ _ _ _ _ h => h))), .inr (.inr (.inr (fun _ _ _ _ _ h => h))), .inr (.inr (.inr (fun _ _ _ _ _ h => h))), .inr (.inr (.inr (fun _ _ _ _ _ h => h))), .inr (.inr (.inr (fun _ _ _ _ _ h => h))), .inr (.inr (.inr (fun _ _ _ _ h h0 => by cases h; exact h0))), .inr (.inr (.inl rfl)), trivial⟩,
          ⟨.inr (.inr (.inr (fun _ _ _ _ _ h => h))), .inr (.inr (.inr (fun _ _ _ _ _ h => h))), .inl rfl, .inr (.inr (.inl rfl)), .inr (.inr (.inl rfl)), .inr (.inr (.inl rfl)), .inr (.inr (.inr (fun _ _ _ _ _ h => h))), .inr (.inr (.inr (fun _ _ _ _ _ h => h))), .inr (.inr (.inr (fun _ _ _ _ _ h => h))), .inr (.inr (.inr (fun _ _ _ _ _ h => h))), .inr (.inr (.inr (fun _ _ _ _ _ h => h))), .inr (.inr (.inr (fun _ _ _ _ _ h => h))), .inr (.inr (.inr (fun _ _ _ _ _ h => h))), .inr (.inr (.inr (fun _ _ _ _ _ h => h))), .inr (.inr (.inr (fun _ _ _ _ _ h => h))), .inr (.inr (.inr (fun _ _ _ _ h h0 => by cases h; exact h0))), .inr (.inr (.inl rfl)), trivial⟩,
          ⟨.inr (.inr (.inr (fun _ _ _ _ _ h => h))), .inr (.inr (.inr (fun _ _ _ _ _ h => h))), .inr (.inr (.inr (fun _ _ _ _ _ h => h))), .inl rfl, .inr (.inr (.inl rfl)), .inr (.inr (.inl rfl)), .inr (.inr (.inl rfl)), .inr (.inr (.inr (fun _ _ _ _ _ h => h))), .inr (.inr (.inr (fun _ _ _ _ _ h => h))), .inr (.inr (.inr (fun _ _ _ _ _ h => h))), .inr (.inr (.inr (fun _ _ _ _ _ h => h))), .inr (.inr (.inr (fun _ _ _ _ _ h => h))), .inr (.inr (.inr (fun _ _ _ _ _ h => h))), .inr (.inr (.inr (fun _ _ _ _ _ h => h))), .inr (.inr (.inr (fun _ _ _ _ _ h => h))), .inr (.inr (.inr (fun _ _ _ _ h h0 => by cases h; exact h0))), .inr (.inr (.inl rfl)), trivial⟩,
          ⟨.inr (.inr (.inr (fun _ _ _ _ _ h => h))), .inr (.inr (.inr (fun _ _ _ _ _ h => h))), .inr (.inr (.inr (fun _ _ _ _ _ h => h))), .inr (.inr (.inr (fun _ _ _ _ _ h => h))), .inl rfl, .inr (.inr (.inl rfl)), .inr (.inr (.inl rfl)), .inr (.inr (.inr (fun _ _ _ _ _ h => h))), .inr (.inr (.inr (fun _ _ _ _ _ h => h))), .inr (.inr (.inr (fun _ _ _ _ _ h => h))), .inr (.inr (.inr (fun _ _ _ _ _ h => h))), .inr (.inr (.inr (fun _ _ _ _ _ h => h))), .inr (.inr (.inr (fun _ _ _ _ _ h => h))), .inr (.inr (.inl rfl)), .inr (.inr (.inl rfl)), .inr (.inr (.inr (fun _ _ _ _ h h0 => by cases h; exact h0))), .inr (.inr (.inl rfl)), trivial⟩,
          ⟨.inr (.inr (.inr (fun _ _ _ _ _ h => h))), .inr (.inr (.inr (fun _ _ _ _ _ h => h))), .inr (.inr (.inr (fun _ _ _ _ _ h => h))), .inr (.inr (.inr (fun _ _ _ _ _ h => h))), .inr (.inr (.inr (fun _ _ _ _ _ h => h))), .inl rfl, .inr (.inr (.inl rfl)), .inr (.inr (.inr (fun _ _ _ _ _ h => h))), .inr (.inr (.inr (fun _ _ _ _ _ h => h))), .inr (.inr (.inr (fun _ _ _ _ _ h => h))), .inr (.inr (.inr (fun _ _ _ _ _ h => h))), .inr (.inr (.inr (fun _ _ _ _ _ h => h))), .inr (.inr (.inr (fun _ _ _ _ _ h => h))), .inr (.inr (.inl rfl)), .inr (.inr (.inl rfl)), .inr (.inr (.inr (fun _ _ _ _ h h0 => by cases h; exact h0))), .inr (.inr (.inl rfl)), trivial⟩,
          ⟨.inr (.inr (.inr (fun _ _ _ _ _ h => h))), .inr (.inr (.inr (fun _ _ _ _ _ h => h))), .inr (.inr (.inr (fun _ _ _ _ _ h => h))), .inr (.inr (.inr (fun _ _ _ _ _ h => h))), .inr (.inr (.inr (fun _ _ _ _ _ h => h))), .inr (.inr (.inr (fun _ _ _ _ _ h => h))), .inl rfl, .inr (.inr (.inr (fun _ _ _ _ _ h => h))), .inr (.inr (.inr (fun _ _ _ _ _ h => h))), .inr (.inr (.inr (fun _ _ _ _ _ h => h))), .inr (.inr (.inr (fun _ _ _ _ _ h => h))), .inr (.inr (.inr (fun _ _ _ _ _ h => h))), .inr (.inr (.inr (fun _ _ _ _ _ h => h))), .inr (.inr (.inl rfl)), .inr (.inr (.inl rfl)), .inr (.inr (.inr (fun _ _ _ _ h h0 => by cases h; exact h0))), .inr (.inr (.inl rfl)), trivial⟩,
          ⟨.inr (.inr (.inr (fun _ _ _ _ _ h => h))), .inr (.inr (.inr (fun _ _ _ _ _ h => h))), .inr (.inr (.inr (fun _ _ _ _ _ h => h))), .inr (.inr (.inr (fun _ _ _ _ _ h => h))), .inr (.inr (.inr (fun _ _ _ _ _ h => h))), .inr (.inr (.inr (fun _ _ _ _ _ h => h))), .inr (.inr (.inr (fun _ _ _ _ _ h => h))), .inl rfl, .inr (.inr (.inl rfl)), .inr (.inr (.inr (fun _ _ _ _ _ h => h))), .inr (.inr (.inl rfl)), .inr (.inr (.inl rfl)), .inr (.inr (.inr (fun _ _ _ _ _ h => h))), .inr (.inr (.inr (fun _ _ _ _ _ h => h))), .inr (.inr (.inr (fun _ _ _ _ _ h => h))), .inr (.inr (.inr (fun _ _ _ _ h h0 => by cases h; exact h0))), .inr (.inr (.inl rfl)), trivial⟩,
          ⟨.inr (.inr (.inr (fun _ _ _ _ _ h => h))), .inr (.inr (.inr (fun _ _ _ _ _ h => h))), .inr (.inr (.inr (fun _ _ _ _ _ h => h))), .inr (.inr (.inr (fun _ _ _ _ _ h => h))), .inr (.inr (.inr (fun _ _ _ _ _ h => h))), .inr (.inr (.inr (fun _ _ _ _ _ h => h))), .inr (.inr (.inr (fun _ _ _ _ _ h => h))), .inr (.inr (.inr (fun _ _ _ _ _ h => h))), .inl rfl, .inr (.inr (.inr (fun _ _ _ _ _ h => h))), .inr (.inr (.inl rfl)), .inr (.inr (.inl rfl)), .inr (.inr (.inl rfl)), .inr (.inr (.inr (fun _ _ _ _ _ h => h))), .inr (.inr (.inr (fun _ _ _ _ _ h => h))), .inr (.inr (.inr (fun _ _ _ _ h h0 => by cases h; exact h0))), .inr (.inr (.inl rfl)), trivial⟩,
          ⟨.inr (.inr (.inr (fun _ _ _ _ _ h => h))), .inr (.inr (.inr (fun _ _ _ _ _ h => h))), .inr (.inr (.inr (fun _ _ _ _ _ h => h))), .inr (.inr (.inr (fun _ _ _ _ _ h => h))), .inr (.inr (.inr (fun _ _ _ _ _ h => h))), .inr (.inr (.inr (fun _ _ _ _ _ h => h))), .inr (.inr (.inr (fun _ _ _ _ _ h => h))), .inr (.inr (.inr (fun _ _ _ _ _ h => h))), .inr (.inr (.inr (fun _ _ _ _ _ h => h))), .inl rfl, .inr (.inr (.inl rfl)), .inr (.inr (.inl rfl)), .inr (.inr (.inl rfl)), .inr (.inr (.inr (fun _ _ _ _ _ h => h))), .inr (.inr (.inr (fun _ _ _ _ _ h => h))), .inr (.inr (.inr (fun _ _ _ _ h h0 => by cases h; exact h0))), .inr (.inr (.inl rfl)), trivial⟩,
          ⟨.inr (.inr (.inr (fun _ _ _ _ _ h => h))), .inr (.inr (.inr (fun _ _ _ _ _ h => h))), .inr (.inr (.inr (fun _ _ _ _ _ h => h))), .inr (.inr (.inr (fun _ _ _ _ _ h => h))), .inr (.inr (.inr (fun _ _ _ _ _ h => h))), .inr (.inr (.inr (fun _ _ _ _ _ h => h))), .inr (.inr (.inr (fun _ _ _ _ _ h => h))), .inr (.inr (.inr (fun _ _ _ _ _ h => h))), .inr (.inr (.inr (fun _ _ _ _ _ h => h))), .inr (.inr (.inr (fun _ _ _ _ _ h => h))), .inl rfl, .inr (.inr (.inl rfl)), .inr (.inr (.inl rfl)), .inr (.inr (.inl rfl)), .inr (.inr (.inr (fun _ _ _ _ _ h => h))), .inr (.inr (.inr (fun _ _ _ _ h h0 => by cases h; exact h0))), .inr (.inr (.inl rfl)), trivial⟩,
          ⟨.inr (.inr (.inr (fun _ _ _ _ _ h => h))), .inr (.inr (.inr (fun _ _ _ _ _ h => h))), .inr (.inr (.inr (fun _ _ _ _ _ h => h))), .inr (.inr (.inr (fun _ _ _ _ _ h => h))), .inr (.inr (.inr (fun _ _ _ _ _ h => h))), .inr (.inr (.inr (fun _ _ _ _ _ h => h))), .inr (.inr (.inr (fun _ _ _ _ _ h => h))), .inr (.inr (.inr (fun _ _ _ _ _ h => h))), .inr (.inr (.inr (fun _ _ _ _ _ h => h))), .inr (.inr (.inr (fun _ _ _ _ _ h => h))), .inr (.inr (.inr (fun _ _ _ _ _ h => h))), .inl rfl, .inr (.inr (.inl rfl)), .inr (.inr (.inl rfl)), .inr (.inr (.inl rfl)), .inr (.inr (.inr (fun _ _ _ _ h h0 => by cases h; exact h0))), .inr (.inr (.inl rfl)), trivial⟩,
          ⟨.inr (.inr (.inr (fun _ _ _ _ _ h => h))), .inr (.inr (.inr (fun _ _ _ _ _ h => h))), .inr (.inr (.inr (fun _ _ _ _ _ h => h))), .inr (.inr (.inr (fun _ _ _ _ _ h => h))), .inr (.inr (.inr (fun _ _ _ _ _ h => h))), .inr (.inr (.inr (fun _ _ _ _ _ h => h))), .inr (.inr (.inr (fun _ _ _ _ _ h => h))), .inr (.inr (.inr (fun _ _ _ _ _ h => h))), .inr (.inr (.inr (fun _ _ _ _ _ h => h))), .inr (.inr (.inr (fun _ _ _ _ _ h => h))), .inr (.inr (.inr (fun _ _ _ _ _ h => h))), .inr (.inr (.inr (fun _ _ _ _ _ h => h))), .inl rfl, .inr (.inr (.inl rfl)), .inr (.inr (.inl rfl)), .inr (.inr (.inr (fun _ _ _ _ h h0 => by cases h; exact h0))), .inr (.inr (.inl rfl)), trivial⟩,
          ⟨.inr (.inr (.inr (fun _ _ _ _ _ h => h))), .inr (.inr (.inr (fun _ _ _ _ _ h => h))), .inr (.inr (.inr (fun _ _ _ _ _ h => h))), .inr (.inr (.inr (fun _ _ _ _ _ h => h))), .inr (.inr (.inr (fun _ _ _ _ _ h => h))), .inr (.inr (.inr (fun _ _ _ _ _ h => h))), .inr (.inr (.inr (fun _ _ _ _ _ h => h))), .inr (.inr (.inr (fun _ _ _ _ _ h => h))), .inr (.inr (.inr (fun _ _ _ _ _ h => h))), .inr (.inr (.inr (fun _ _ _ _ _ h => h))), .inr (.inr (.inr (fun _ _ _ _ _ h => h))), .inr (.inr (.inr (fun _ _ _ _ _ h => h))), .inr (.inr (.inr (fun _ _ _ _ _ h => h))), .inl rfl, .inr (.inr (.inl rfl)), .inr (.inr (.inr (fun _ _ _ _ h h0 => by cases h; exact h0))), .inr (.inr (.inl rfl)), trivial⟩,
          ⟨.inr (.inr (.inr (fun _ _ _ _ _ h => h))), .inr (.inr (.inr (fun _ _ _ _ _ h => h))), .inr (.inr (.inr (fun _ _ _ _ _ h => h))), .inr (.inr (.inr (fun _ _ _ _ _ h => h))), .inr (.inr (.inr (fun _ _ _ _ _ h => h))), .inr (.inr (.inr (fun _ _ _ _ _ h => h))), .inr (.inr (.inr (fun _ _ _ _ _ h => h))), .inr (.inr (.inr (fun _ _ _ _ _ h => h))), .inr (.inr (.inr (fun _ _ _ _ _ h => h))), .inr (.inr (.inr (fun _ _ _ _ _ h => h))), .inr (.inr (.inr (fun _ _ _ _ _ h => h))), .inr (.inr (.inr (fun _ _ _ _ _ h => h))), .inr (.inr (.inr (fun _ _ _ _ _ h => h))), .inr (.inr (.inr (fun _ _ _ _ _ h => h))), .inl rfl, .inr (.inr (.inr (fun _ _ _ _ h h0 => by cases h; exact h0))), .inr (.inr (.inl rfl)), trivial⟩,
          ⟨.inr (.inr (.inr (fun _ _ _ _ _ h => h))), .inr (.inr (.inr (fun _ _ _ _ _ h => h))), .inr (.inr (.inr (fun _ _ _ _ _ h => h))), .inr (.inr (.inr (fun _ _ _ _ _ h => h))), .inr (.inr (.inr (fun _ _ _ _ _ h => h))), .inr (.inr (.inr (fun _ _ _ _ _ h => h))), .inr (.inr (.inr (fun _ _ _ _ _ h => h))), .inr (.inr (.inr (fun _ _ _ _ _ h => h))), .inr (.inr (.inr (fun _ _ _ _ _ h => h))), .inr (.inr (.inr (fun _ _ _ _ _ h => h))), .inr (.inr (.inr (fun _ _ _ _ _ h => h))), .inr (.inr (.inr (fun _ _ _ _ _ h => h))), .inr (.inr (.inr (fun _ _ _ _ _ h => h))), .inr (.inr (.inr (fun _ _ _ _ _ h => h))), .inr (.inr (.inr (fun _ _ _ _ _ h => h))), .inl rfl, .inr (.inr (.inl rfl)), trivial⟩,
          ⟨.inr (.inr (.inr (fun _ _ _ _ _ h => h))), .inr (.inr (.inr (fun _ _ _ _ _ h => h))), .inr (.inr (.inr (fun _ _ _ _ _ h => h))), .inr (.inr (.inr (fun _ _ _ _ _ h => h))), .inr (.inr (.inr (fun _ _ _ _ _ h => h))), .inr (.inr (.inr (fun _ _ _ _ _ h => h))), .inr (.inr (.inr (fun _ _ _ _ _ h => h))), .inr (.inr (.inr (fun _ _ _ _ _ h => h))), .inr (.inr (.inr (fun _ _ _ _ _ h => h))), .inr (.inr (.inr (fun _ _ _ _ _ h => h))), .inr (.inr (.inr (fun _ _ _ _ _ h => h))), .inr (.inr (.inr (fun _ _ _ _ _ h => h))), .inr (.inr (.inr (fun _ _ _ _ _ h => h))), .inr (.inr (.inr (fun _ _ _ _ _ h => h))), .inr (.inr (.inr (fun _ _ _ _ _ h => h))), .inr (.inl rfl), .inl rfl, trivial⟩, trivial⟩
      · refine ⟨?_, ?_, ?_, ?_, ?_, ?_, ?_, ?_, ?_, ?_, ?_, ?_, ?_, ?_, ?_, ?_, ?_, trivial⟩
        · -- 0: Op.fieldAddr 28 (Operand.tmp 1) 2
          refine step_plain [] (fun _ => rfl) rfl ?_
          intro w1 vals hC1 hi0 hf E hE
          clear hi0
          clear hf
          simp only [puts, act_put, act_put_none, List.setIfInBounds_toArray, List.set_cons_zero, List.set_cons_succ] at hE ⊢
          go_wp2
          exact .mk (hE _ _ rfl hC1 rfl)
        · -- 1: Op.load 26 (Operand.tmp 23)
          refine step_plain [(0, some 23)] (fun _ => rfl) rfl ?_
          intro w1 vals hC1 hi0 hf E hE
          clear hi0
          have f0 : vals 0 = .pointer (some ⟨w.heap.size, 2, none⟩) := hf 0 rfl
          try dsimp only at f0
          clear hf
          simp only [puts, act_put, act_put_none, List.setIfInBounds_toArray, List.set_cons_zero, List.set_cons_succ, f0] at hE ⊢
          clear f0
          have d0 := (HCS.out.vbox.below hC1 HCS.out.vbox.lt).cell 2
          simp only [bC, List.getElem?_toArray, List.getElem?_cons_zero, List.getElem?_cons_succ] at d0
          go_wp2
          exact .mk (hE _ _ rfl hC1 rfl)
        · -- 2: Op.move (Operand.tmp 4)
          refine step_plain [] (fun _ => rfl) rfl ?_
          intro w1 vals hC1 hi0 hf E hE
          clear hi0
          clear hf
          simp only [puts, act_put, act_put_none, List.setIfInBounds_toArray, List.set_cons_zero, List.set_cons_succ] at hE ⊢
          go_wp2
          exact .mk (hE _ _ rfl hC1 rfl)
        · -- 3: Op.indexAddr 26 (Operand.tmp 24) (Operand.tmp 25)
          refine step_plain [(1, some 24), (2, some 25)] (fun _ => rfl) rfl ?_
          intro w1 vals hC1 hi0 hf E hE
          clear hi0
          have f1 : vals 1 = .slice (some ad) n c := hf 1 rfl
          have f2 : vals 2 = .int .i64 (i : Int) := hf 2 rfl
          try dsimp only at f1 f2
          clear hf
          simp only [puts, act_put, act_put_none, List.setIfInBounds_toArray, List.set_cons_zero, List.set_cons_succ, f1, f2] at hE ⊢
          clear f1 f2
          go_wp2
          exact .mk (hE _ _ rfl hC1 rfl)
        · -- 4: Op.fieldAddr 37 (Operand.tmp 26) 0
          refine step_plain [(3, some 26)] (fun _ => rfl) rfl ?_
          intro w1 vals hC1 hi0 hf E hE
          clear hi0
          have f3 : vals 3 = .pointer (some (ad.add (i * 2))) := hf 3 rfl
          try dsimp only at f3
          clear hf
          simp only [puts, act_put, act_put_none, List.setIfInBounds_toArray, List.set_cons_zero, List.set_cons_succ, f3] at hE ⊢
          clear f3
          go_wp2
          exact .mk (hE _ _ rfl hC1 rfl)
        · -- 5: Op.load 9 (Operand.tmp 27)
          refine step_plain [(4, some 27)] (fun _ => rfl) rfl ?_
          intro w1 vals hC1 hi0 hf E hE
          clear hi0
          have f4 : vals 4 = .pointer (some (ad.add (i * 2))) := hf 4 rfl
          try dsimp only at f4
          clear hf
          simp only [puts, act_put, act_put_none, List.setIfInBounds_toArray, List.set_cons_zero, List.set_cons_succ, f4] at hE ⊢
          clear f4
          have d0 := (hC1.cell (p := ad.add (i * 2)) HPB.out).trans C0.out
          go_wp2
          exact .mk (hE _ _ rfl hC1 rfl)
        · -- 6: Op.call { callee := Callee.value (Operand.func 12), args := #[Operand.tmp 28, Operand.const (Value.int IntKind
          refine step_plain [(5, some 28)] (fun _ => rfl) rfl ?_
          intro w1 vals hC1 hi0 hf E hE
          clear hi0
          have f5 : vals 5 = .string (bs X.1) := hf 5 rfl
          try dsimp only at f5
          clear hf
          simp only [puts, act_put, act_put_none, List.setIfInBounds_toArray, List.set_cons_zero, List.set_cons_succ, f5] at hE ⊢
          clear f5
          go_wp2_with fail
          refine calls_then (HF.out X.1 20 HXM.out.1 _) ?_
          rintro e w2 ⟨rfl, rfl⟩
          go_wp2_with fail
          exact .mk (hE _ _ rfl hC1 rfl)
        · -- 7: Op.fieldAddr 28 (Operand.tmp 1) 2
          refine step_plain [] (fun _ => rfl) rfl ?_
          intro w1 vals hC1 hi0 hf E hE
          clear hi0
          clear hf
          simp only [puts, act_put, act_put_none, List.setIfInBounds_toArray, List.set_cons_zero, List.set_cons_succ] at hE ⊢
          go_wp2
          exact .mk (hE _ _ rfl hC1 rfl)
        · -- 8: Op.load 26 (Operand.tmp 30)
          refine step_plain [(7, some 30)] (fun _ => rfl) rfl ?_
          intro w1 vals hC1 hi0 hf E hE
          clear hi0
          have f7 : vals 7 = .pointer (some ⟨w.heap.size, 2, none⟩) := hf 7 rfl
          try dsimp only at f7
          clear hf
          simp only [puts, act_put, act_put_none, List.setIfInBounds_toArray, List.set_cons_zero, List.set_cons_succ, f7] at hE ⊢
          clear f7
          have d0 := (HCS.out.vbox.below hC1 HCS.out.vbox.lt).cell 2
          simp only [bC, List.getElem?_toArray, List.getElem?_cons_zero, List.getElem?_cons_succ] at d0
          go_wp2
          exact .mk (hE _ _ rfl hC1 rfl)
        · -- 9: Op.move (Operand.tmp 4)
          refine step_plain [] (fun _ => rfl) rfl ?_
          intro w1 vals hC1 hi0 hf E hE
          clear hi0
          clear hf
          simp only [puts, act_put, act_put_none, List.setIfInBounds_toArray, List.set_cons_zero, List.set_cons_succ] at hE ⊢
          go_wp2
          exact .mk (hE _ _ rfl hC1 rfl)
        · -- 10: Op.indexAddr 26 (Operand.tmp 31) (Operand.tmp 32)
          refine step_plain [(8, some 31), (9, some 32)] (fun _ => rfl) rfl ?_
          intro w1 vals hC1 hi0 hf E hE
          clear hi0
          have f8 : vals 8 = .slice (some ad) n c := hf 8 rfl
          have f9 : vals 9 = .int .i64 (i : Int) := hf 9 rfl
          try dsimp only at f8 f9
          clear hf
          simp only [puts, act_put, act_put_none, List.setIfInBounds_toArray, List.set_cons_zero, List.set_cons_succ, f8, f9] at hE ⊢
          clear f8 f9
          go_wp2
          exact .mk (hE _ _ rfl hC1 rfl)
        · -- 11: Op.fieldAddr 37 (Operand.tmp 33) 1
          refine step_plain [(10, some 33)] (fun _ => rfl) rfl ?_
          intro w1 vals hC1 hi0 hf E hE
          clear hi0
          have f10 : vals 10 = .pointer (some (ad.add (i * 2))) := hf 10 rfl
          try dsimp only at f10
          clear hf
          simp only [puts, act_put, act_put_none, List.setIfInBounds_toArray, List.set_cons_zero, List.set_cons_succ, f10] at hE ⊢
          clear f10
          go_wp2
          exact .mk (hE _ _ rfl hC1 rfl)
        · -- 12: Op.load 9 (Operand.tmp 34)
          refine step_plain [(11, some 34)] (fun _ => rfl) rfl ?_
          intro w1 vals hC1 hi0 hf E hE
          clear hi0
          have f11 : vals 11 = .pointer (some ⟨(ad.add (i * 2)).block, (ad.add (i * 2)).off + 1, none⟩) := hf 11 rfl
          try dsimp only at f11
          clear hf
          simp only [puts, act_put, act_put_none, List.setIfInBounds_toArray, List.set_cons_zero, List.set_cons_succ, f11] at hE ⊢
          clear f11
          have d0 := (hC1.cell (p := ⟨(ad.add (i * 2)).block, (ad.add (i * 2)).off + 1, none⟩) HPB.out).trans C1'.out
          go_wp2
          exact .mk (hE _ _ rfl hC1 rfl)
        · -- 13: Op.call { callee := Callee.value (Operand.func 12), args := #[Operand.tmp 35, Operand.const (Value.int IntKind
          refine step_plain [(12, some 35), (6, some 29)] (fun _ => rfl) rfl ?_
          intro w1 vals hC1 hi0 hf E hE
          clear hi0
          have f6 : vals 6 = .string (bs (X.1.take 20)) := hf 6 rfl
          have f12 : vals 12 = .string (bs X.2) := hf 12 rfl
          try dsimp only at f6 f12
          clear hf
          simp only [puts, act_put, act_put_none, List.setIfInBounds_toArray, List.set_cons_zero, List.set_cons_succ, f6, f12] at hE ⊢
          clear f6 f12
          go_wp2_with fail
          refine calls_then (HF.out X.2 40 HXM.out.2 _) ?_
          rintro e w2 ⟨rfl, rfl⟩
          go_wp2_with fail
          exact .mk (hE _ _ rfl hC1 rfl)
        · -- 14: Op.build 37 #[(0, Operand.tmp 29), (1, Operand.tmp 36)]
          refine step_plain [(6, some 29), (13, some 36)] (fun _ => rfl) rfl ?_
          intro w1 vals hC1 hi0 hf E hE
          clear hi0
          have f6 : vals 6 = .string (bs (X.1.take 20)) := hf 6 rfl
          have f13 : vals 13 = .string (bs (X.2.take 40)) := hf 13 rfl
          try dsimp only at f6 f13
          clear hf
          simp only [puts, act_put, act_put_none, List.setIfInBounds_toArray, List.set_cons_zero, List.set_cons_succ, f6, f13] at hE ⊢
          clear f6 f13
          go_wp2
          exact .mk (hE _ _ rfl hC1 rfl)
        · -- 15: Op.alloc 37
          refine step_plain [] (fun _ => rfl) rfl ?_
          intro w1 vals hC1 hi0 hf E hE
          have hI1 : (fun u => u.heap.size = H) w1 := hi0 false rfl
          try dsimp only at hI1
          clear hi0
          clear hf
          simp only [puts, act_put, act_put_none, List.setIfInBounds_toArray, List.set_cons_zero, List.set_cons_succ] at hE ⊢
          go_wp2
          exact .mk (hE _ _ ⟨rfl, by rw [← hI1]; exact Blk.new _ _ _⟩ (hC1.alloc hC1.size _) ((Below.refl _ _).alloc (Nat.le_refl _) _))
        · -- 16: Op.store 37 (Operand.tmp 5) (Operand.tmp 37)
          refine step_plain [(15, some 5), (14, some 37), (13, some 36), (0, some 23), (1, some 24), (2, some 25), (3, some 26), (4, some 27), (5, some 28), (6, some 29), (7, some 30), (8, some 31), (9, some 32), (10, some 33), (11, some 34), (12, some 35), (13, some 36), (14, some 37), (15, some 5)] (fun _ => rfl) rfl ?_
          intro w1 vals hC1 hi0 hf E hE
          clear hi0
          have f0 : vals 0 = .pointer (some ⟨w.heap.size, 2, none⟩) := hf 0 rfl
          have f1 : vals 1 = .slice (some ad) n c := hf 1 rfl
          have f2 : vals 2 = .int .i64 (i : Int) := hf 2 rfl
          have f3 : vals 3 = .pointer (some (ad.add (i * 2))) := hf 3 rfl
          have f4 : vals 4 = .pointer (some (ad.add (i * 2))) := hf 4 rfl
          have f5 : vals 5 = .string (bs X.1) := hf 5 rfl
          have f6 : vals 6 = .string (bs (X.1.take 20)) := hf 6 rfl
          have f7 : vals 7 = .pointer (some ⟨w.heap.size, 2, none⟩) := hf 7 rfl
          have f8 : vals 8 = .slice (some ad) n c := hf 8 rfl
          have f9 : vals 9 = .int .i64 (i : Int) := hf 9 rfl
          have f10 : vals 10 = .pointer (some (ad.add (i * 2))) := hf 10 rfl
          have f11 : vals 11 = .pointer (some ⟨(ad.add (i * 2)).block, (ad.add (i * 2)).off + 1, none⟩) := hf 11 rfl
          have f12 : vals 12 = .string (bs X.2) := hf 12 rfl
          have f13 : vals 13 = .string (bs (X.2.take 40)) := hf 13 rfl
          have f14 : vals 14 = .agg (kCell (X.1.take 20, X.2.take 40)) := hf 14 rfl
          have f15 : (fun z u => z 15 = .pointer (some ⟨H, 0, none⟩) ∧ Blk u H 37 #[.string ⟨#[]⟩, .string ⟨#[]⟩]) vals w1 := hf 15 rfl
          try dsimp only at f0 f1 f2 f3 f4 f5 f6 f7 f8 f9 f10 f11 f12 f13 f14 f15
          clear hf
          obtain ⟨hx6, hg6⟩ := f15
          have HG6 := Lib.hid hg6
          have HX6 := Lib.hid hx6
          clear hg6
          simp only [puts, act_put, act_put_none, List.setIfInBounds_toArray, List.set_cons_zero, List.set_cons_succ, f0, f1, f2, f3, f4, f5, f6, f7, f8, f9, f10, f11, f12, f13, f14, hx6] at hE ⊢
          clear f0 f1 f2 f3 f4 f5 f6 f7 f8 f9 f10 f11 f12 f13 f14
          clear hx6
          go_wp2_with (refine wpList_put_box (cells := kCell (X.1.take 20, X.2.take 40)) HG6.out rfl rfl rfl rfl jk_size rfl (by simp [kCell, Value.oneCell']) ?_; intro w5 hb5 hw5)
          exact .mk (hE undef _ ⟨HX6.out, hb5⟩ (hw5.below hC1 (by have := HHE.out; omega) hC1.size) trivial)
      intro w1 vals hC1 hf
      have f0 : vals 0 = .pointer (some ⟨w.heap.size, 2, none⟩) := hf 0 (by decide) rfl
      have f1 : vals 1 = .slice (some ad) n c := hf 1 (by decide) rfl
      have f2 : vals 2 = .int .i64 (i : Int) := hf 2 (by decide) rfl
      have f3 : vals 3 = .pointer (some (ad.add (i * 2))) := hf 3 (by decide) rfl
      have f4 : vals 4 = .pointer (some (ad.add (i * 2))) := hf 4 (by decide) rfl
      have f5 : vals 5 = .string (bs X.1) := hf 5 (by decide) rfl
      have f6 : vals 6 = .string (bs (X.1.take 20)) := hf 6 (by decide) rfl
      have f7 : vals 7 = .pointer (some ⟨w.heap.size, 2, none⟩) := hf 7 (by decide) rfl
      have f8 : vals 8 = .slice (some ad) n c := hf 8 (by decide) rfl
      have f9 : vals 9 = .int .i64 (i : Int) := hf 9 (by decide) rfl
      have f10 : vals 10 = .pointer (some (ad.add (i * 2))) := hf 10 (by decide) rfl
      have f11 : vals 11 = .pointer (some ⟨(ad.add (i * 2)).block, (ad.add (i * 2)).off + 1, none⟩) := hf 11 (by decide) rfl
      have f12 : vals 12 = .string (bs X.2) := hf 12 (by decide) rfl
      have f13 : vals 13 = .string (bs (X.2.take 40)) := hf 13 (by decide) rfl
      have f14 : vals 14 = .agg (kCell (X.1.take 20, X.2.take 40)) := hf 14 (by decide) rfl
      have f16 : (fun z u => z 15 = .pointer (some ⟨H, 0, none⟩) ∧ Blk u H 37 (kCell (X.1.take 20, X.2.take 40))) vals w1 := hf 16 (by decide) rfl
      try dsimp only at f0 f1 f2 f3 f4 f5 f6 f7 f8 f9 f10 f11 f12 f13 f14 f16
      clear hf
      simp only [puts, act_put, act_put_none, List.setIfInBounds_toArray, List.set_cons_zero, List.set_cons_succ, f0, f1, f2, f3, f4, f5, f6, f7, f8, f9, f10, f11, f12, f13, f14]
      clear f0 f1 f2 f3 f4 f5 f6 f7 f8 f9 f10 f11 f12 f13 f14
      generalize vals 15 = x15 at *
      obtain ⟨hx15, hb16⟩ := f16
      rw [hx15]
      have HC5 := Lib.hid (HCS.out.new hC1)
      have HNE := Lib.hid (show ∀ k, (Value.slice A1 N.length c1).ownBlock = some k → k ≠ H from fun k hk he => by have h1 := (HCS.out.keys.lt k hk).2; have h2 := HHE.out; omega)
      have HK5 := Lib.hid hb16
      have HHL := Lib.hid (show w.heap.size + 3 ≤ H by rw [HHE.out]; exact HCS.out.size)
      have a0 : w1.cell? ⟨H, 0, none⟩ = some (.string (bs (X.1.take 20))) := hb16.cell 0
      have a1 : w1.cell? ⟨H, 1, none⟩ = some (.string (bs (X.2.take 40))) := hb16.cell 1
      clear hx15 hb16 hC1 HC0 HI0 C0 C1' HCS HPB hnm h1 h2
      obtain ⟨kd, hkd⟩ : ∃ kd, kd = X.1.take 20 := ⟨_, rfl⟩
      obtain ⟨kx, hkx⟩ : ∃ kx, kx = X.2.take 40 := ⟨_, rfl⟩
      rw [← hkd] at HK5 a0 ⊢
      rw [← hkx] at HK5 a1 ⊢
      have HKD := Lib.hid hkd
      have HKX := Lib.hid hkx
      have HKL := Lib.hid (show kx.length ≤ 40 by rw [hkx]; simp; omega)
      clear hkd hkx
      generalize Value.agg (kCell (kd, kx)) = AK
      go_upto_if 40 with (fail)
      go_cut [] (fun wx => Cb w (bC D num (some ad) n c) (bC (D.take 30) num A1 N.length c1) A1 c1 N wx ∧ Blk wx H 37 (kCell (cutK X)))
      case first =>
        by_cases h0 : kd = []
        · have he : (bs kd).toList.isEmpty = true := by rw [bs_toList, h0]; rfl
          have HCK := Lib.hid (show cutK X = (nameL kx, kx) by rw [cutK, ← HKD.out, ← HKX.out, if_pos h0])
          have hus := Tryd.underlying9
          have hub8 := Tryd.underlying22
          have hu8 := Tryd.underlying5
          have hkl := bs_size kx
          have HKS := Lib.hid hkl
          clear h0 hkl
          go_wp2_with (refine wpList_bytes_of (s := bs kx) hus hub8 hu8 rfl rfl rfl ?_; intro A7 c7 w7 hr7 hc7 hb7; have HR7 := Lib.hid hr7; have HC7 := Lib.hid hc7; have HB7 := Lib.hid hb7; clear hr7 hc7 hb7)
          rw [HKS.out]
          have HCN := Lib.hid (rname_any kx (by have := HKL.out; omega) A7 c7 w7 HR7.out (by have := HC7.out; have := HKS.out; omega) (digS32_len2 kx))
          refine calls_then HCN.out ?_
          rintro e w8 ⟨rfl, hb8⟩
          rw [nameS_bs]
          have HC8 := Lib.hid (HC5.out.new (HB7.out.trans (hb8.mono HB7.out.size)))
          have HK8 := Lib.hid ((HK5.out.below HB7.out HK5.out.lt).below hb8 (Nat.lt_of_lt_of_le HK5.out.lt HB7.out.size))
          clear hb8 a0 a1 HCN
          go_wp2_with (refine wpList_put_cell (i := 0) HK8.out rfl rfl rfl rfl (by kernel_rfl) (by simp [kCell]) rfl ?_; intro w9 hb9 hw9)
          go_meet
          rw [HCK.out]
          exact ⟨HC8.out.wrote hw9 HHL.out HNE.out, hb9⟩
          rename_i hx
          exact absurd (he.symm.trans hx) (by decide)
        · have he : (bs kd).toList.isEmpty = false := by rw [bs_toList]; simpa using h0
          have HCK := Lib.hid (show cutK X = (kd, kx) by rw [cutK, ← HKD.out, ← HKX.out, if_neg h0])
          go_wp2_with fail
          · have hx : (bs kd).toList.isEmpty = true := by assumption
            exact absurd (hx.symm.trans he) (by decide)
          go_meet
          rw [HCK.out]
          exact ⟨HC5.out, HK5.out⟩
      case rest =>
      obtain ⟨hcb, hbk⟩ := hcut
      have HC6 := Lib.hid hcb
      have HK6 := Lib.hid hbk
      have huj := Tryd.underlying37
      have b2 : wc.cell? ⟨w.heap.size + 2, 2, none⟩ = some (.slice A1 N.length c1) := hcb.out.cell 2
      have hNL : (N.length : Int) ≤ 10 := by have := HNL.out; omega
      have hi10 : (i : Int) < 10 := by have := HLT.out; have := HMN.out; omega
      obtain ⟨Y, hY⟩ : ∃ Y, Y = cutK X := ⟨_, rfl⟩
      rw [← hY] at HK6 HXS
      clear hcb hbk hY a0 a1
      go_wp2_with (first
        | refine wpList_get_box (cs := #[.string (bs Y.1), .string (bs Y.2)]) HK6.out rfl rfl rfl huj rfl jk_size ?_
        | (refine wpList_append_r1 (ys := [.string (bs Y.1), .string (bs Y.2)]) sl_jwks rfl rfl HC6.out.keys rfl rfl rfl rfl (by simp [Value.oneCell']) (by unfold maxLen; omega) (by omega) HC6.out.size ?_; intro A5 c5 w5 hown5 hgr5 hn5; have HC7 := Lib.hid (HC6.out.add hown5 hgr5); clear hown5 hgr5 hn5)
        | (refine wpList_put_cell (x := .tmp 51) (i := 2) HC7.out.out rfl rfl rfl rfl (by kernel_rfl) (by simp [bC]) rfl ?_; intro w6 hb6 hw6))
      have HC8 := Lib.hid (HC7.out.put (R' := bC (D.take 30) num A5 (N ++ [Y]).length c5) hw6 (by rw [List.length_append]; exact hb6))
      clear hb6 hw6
      go_roundw
      case rel => exact ⟨i + 1, A5, c5, HLT.out, by go_num, by rw [HXS.out]; exact HC8.out⟩
      case measure => have := HLT.out; simp [intOf]; omega
    · obtain rfl : i = mn := by omega
      have hor : ¬ ((i : Int) < (n : Int)) ∨ ((i : Int) < (n : Int) ∧ ¬ (i : Int) < 10) := by have := HMN.out; omega
      have HNS := Lib.hid (show (ks.take i).map cutK = (ks.take 10).map cutK by
        have h1 := HMN.out
        have h2 := HN.out
        by_cases h5 : n ≤ 10
        · have e1 : i = ks.length := by omega
          rw [e1, List.take_of_length_le (Nat.le_refl _), List.take_of_length_le (by omega)]
        · have e1 : i = 10 := by omega
          rw [e1])
      rw [HNS.out] at HCS
      obtain ⟨N, hN⟩ : ∃ N, N = (ks.take 10).map cutK := ⟨_, rfl⟩
      rw [← hN] at HCS
      have HNX := Lib.hid hN
      have HF9 := Lib.hid (fun (u : World) (hw : Wrote (w.heap.size + 1) wr u) => show Below w.heap.size w u ∧ RdS u (fun b => w.heap.size ≤ b) A1 (rowsV kCell N) from
        ⟨hw.below HCS.out.low (by omega) (by have := HCS.out.size; omega), (ownR_rds2 (HCS.out.keys.heap fun k cs hq hl => (hw.grown.block k (Array.getElem?_eq_some_iff.1 hq).1 (by intro h; injection h with h; omega)).trans hq)).imp fun b _ hb => by omega⟩)
      clear hN
      have HFE := Lib.hid (fun (u : World) (hw : Wrote (w.heap.size + 1) wr u) => show CutPost D num ks w (.returned (.agg (bC (D.take 30) num A1 N.length c1))) u by
        unfold CutPost
        rw [← HNX.out]
        exact ⟨A1, c1, rfl, (HF9.out u hw).1, (HF9.out u hw).2⟩)
      rcases hor with hor | ⟨hor, hor2⟩
      · go_wp2_with (first
          | refine wpList_get_box (x := .tmp 3) (cs := bC (D.take 30) num A1 N.length c1) HCS.out.out rfl rfl rfl hub rfl jb_size ?_
          | (refine wpList_put_box (x := .tmp 2) (cells := bC (D.take 30) num A1 N.length c1) HCS.out.res rfl rfl rfl rfl jb_size rfl (by simp [bC, Value.oneCell']) ?_; intro w9 hb9 hw9))
        have HB9 := Lib.hid hb9
        refine bodyPost_ret (results_box (P := Tryd.prog) rfl rfl HB9.out hub rfl jb_size) rfl ?_
        exact HFE.out w9 hw9
      · go_wp2_with (first
          | refine wpList_get_box (x := .tmp 3) (cs := bC (D.take 30) num A1 N.length c1) HCS.out.out rfl rfl rfl hub rfl jb_size ?_
          | (refine wpList_put_box (x := .tmp 2) (cells := bC (D.take 30) num A1 N.length c1) HCS.out.res rfl rfl rfl rfl jb_size rfl (by simp [bC, Value.oneCell']) ?_; intro w9 hb9 hw9))
        have HB9 := Lib.hid hb9
        refine bodyPost_ret (results_box (P := Tryd.prog) rfl rfl HB9.out hub rfl jb_size) rfl ?_
        exact HFE.out w9 hw9
end Go.Proofs.YtlkikjeccamheaaDoor.Js
/-
  Laws of my own: a map keyed by texts that is laid entry by entry, and looked up.
-/
namespace Go.Proofs.YtlkikjeccamheaaDoor
set_option linter.unusedSimpArgs false
set_option linter.unusedVariables false
open Go.RowKit
def MapS (w : World) (g : Nat) (es : Array MapEntry) : Prop := w.heap[g]? = some (.map es es.size)
theorem MapS.lt {w : World} {g : Nat} {es : Array MapEntry} (h : MapS w g es) : g < w.heap.size := (Array.getElem?_eq_some_iff.1 h).1
theorem MapS.new (w : World) : MapS (w.alloc (.map #[] 0)) w.heap.size #[] := heap_alloc_new w _
section
variable {P : Program} {w : World} {ops : Array Oper} {rest : List Oper} {o : Oper} {a : Act} {Q : Exit → Act → World → Prop}
theorem run_insertS {t k e : TypeId} {g : Nat} {es : Array MapEntry} {x : ByteArray} {v : Value} (ht : P.underlying t = some (.map k e)) (hk : P.underlying k = some .string) (hm : MapS w g es) (hf : Instr.findNow .string (.string x) es.toList 0 = some none) :
    ∃ w', (Instr.mapUpdate t (.map (some g)) (.string x) v).run P w = .ok () w' ∧ MapS w' g (es.push ⟨.string x, v, es.size⟩) ∧ w.grownBy w' (some g) := by
  unfold MapS at hm
  have hlt : g < w.heap.size := (Array.getElem?_eq_some_iff.1 hm).1
  have hc : (Instr.checkKey false 10000 k (.string x)).run P w = .ok () w := MapKept.run_checkKey (k := (.string x)) hk (by simp [MapKept.IsKey]) false 9999
  refine ⟨{ w with heap := w.heap.setIfInBounds g (.map (es.push ⟨.string x, v, es.size⟩) (es.size + 1)) }, ?_, ?_, ?_⟩
  · simp [Instr.mapUpdate, run_underlying ht, MapKept.run_getObj_map hm, hc, MapKept.run_findKey hk hf, MapKept.run_setObj_map _ hm, Result.andThen]
  · unfold MapS
    simp [hlt]
  · refine ⟨rfl, rfl, rfl, by simp, fun i hi hne => ?_⟩
    have : g ≠ i := fun h => hne (by rw [h])
    simp [this]
def foundS (z : Value) : Option (Nat × Value) → Value × Bool
  | some (_, v) => (v, true)
  | none => (z, false)
theorem run_lookupS {t k e : TypeId} {g : Nat} {es : Array MapEntry} {x : ByteArray} {z : Value} {r : Option (Nat × Value)} (c : Bool) (ht : P.underlying t = some (.map k e)) (hk : P.underlying k = some .string) (hm : MapS w g es) (hf : Instr.findNow .string (.string x) es.toList 0 = some r)
    (hz : (zeroValue e).run P w = .ok z w) : (Instr.lookup t (.map (some g)) (.string x) c).run P w = .ok (if c then .tuple #[(foundS z r).1, .bool (foundS z r).2] else (foundS z r).1) w := by
  unfold MapS at hm
  have hc : (Instr.checkKey es.isEmpty 10000 k (.string x)).run P w = .ok () w := MapKept.run_checkKey (k := (.string x)) hk (by simp [MapKept.IsKey]) _ 9999
  cases r with
  | none => cases c <;> simp [Instr.lookup, run_underlying ht, MapKept.run_getObj_map hm, hc, MapKept.run_findKey hk hf, hz, Result.andThen, foundS]
  | some p => cases c <;> simp [Instr.lookup, run_underlying ht, MapKept.run_getObj_map hm, hc, MapKept.run_findKey hk hf, Result.andThen, foundS]
end
end Go.Proofs.YtlkikjeccamheaaDoor
/-
  Walk: jwk.may, at any bundle.
-/
namespace Go.Proofs.YtlkikjeccamheaaDoor.Js
set_option linter.unusedSimpArgs false
set_option linter.unusedVariables false
open Go.RowKit
def keysOk : List Bs → List (Bs × Bs) → Bool
  | _, [] => true
  | seen, k :: r => decide (k.2.length = 32) && decide (k.1 = nameL k.2) && !(seen.contains k.1) && keysOk (seen ++ [k.1]) r
def headOk (D : Bs) (num : Int) (ks : List (Bs × Bs)) : Bool := domB D && decide (0 ≤ num) && decide (num ≤ 1099511627776) && decide (ks.length ≤ 8)
def mayB (D : Bs) (num : Int) (ks : List (Bs × Bs)) : Bool := headOk D num ks && keysOk [] ks
def keysTo (ks : List (Bs × Bs)) (i : Nat) : Prop := keysOk [] ks = keysOk ((ks.take i).map (·.1)) (ks.drop i)
theorem keysTo_zero (ks : List (Bs × Bs)) : keysTo ks 0 := rfl
theorem keysTo_step {ks : List (Bs × Bs)} {i : Nat} (h : keysTo ks i) (hi : i < ks.length) (h1 : ks[i].2.length = 32) (h2 : ks[i].1 = nameL ks[i].2) (h3 : ks[i].1 ∉ (ks.take i).map (·.1)) : keysTo ks (i + 1) := by
  unfold keysTo at h ⊢
  rw [h, List.drop_eq_getElem_cons hi, List.take_succ_eq_append_getElem hi, List.map_append]
  conv => lhs; unfold keysOk
  rw [decide_eq_true h1, decide_eq_true h2, show ((ks.take i).map (·.1)).contains ks[i].1 = false by simpa using h3]
  rfl
theorem keysTo_no {ks : List (Bs × Bs)} {i : Nat} (h : keysTo ks i) (hi : i < ks.length) (hn : ks[i].2.length = 32 → ks[i].1 = nameL ks[i].2 → ks[i].1 ∈ (ks.take i).map (·.1)) : keysOk [] ks = false := by
  unfold keysTo at h
  rw [h, List.drop_eq_getElem_cons hi]
  unfold keysOk
  by_cases h1 : ks[i].2.length = 32
  · by_cases h2 : ks[i].1 = nameL ks[i].2
    · have h3 := hn h1 h2
      rw [show ((ks.take i).map (·.1)).contains ks[i].1 = true by simpa using h3]
      simp
    · simp [h2]
  · simp [h1]
theorem keysTo_all {ks : List (Bs × Bs)} {i : Nat} (h : keysTo ks i) (hi : i = ks.length) : keysOk [] ks = true := by
  unfold keysTo at h
  rw [h, hi, List.drop_length]
  rfl
def mapE (l : List Bs) : Array MapEntry := (l.mapIdx fun i s => (⟨.string (bs s), .int .i64 1, i⟩ : MapEntry)).toArray
theorem mapE_push (l : List Bs) (s : Bs) : mapE (l ++ [s]) = (mapE l).push ⟨.string (bs s), .int .i64 1, (mapE l).size⟩ := by
  unfold mapE
  rw [List.mapIdx_concat]
  simp
theorem mapE_key (l : List Bs) : ∀ x ∈ (mapE l).toList, MapKept.IsKey .string x.key := by
  intro x hx
  simp only [mapE, List.mem_mapIdx] at hx
  obtain ⟨i, hi, rfl⟩ := hx
  trivial
theorem mapE_at {l : List Bs} {j : Nat} {e : MapEntry} (h : (mapE l).toList[j]? = some e) : ∃ s ∈ l, e.key = .string (bs s) ∧ e.val = .int .i64 1 := by
  simp only [mapE, List.getElem?_mapIdx, Option.map_eq_some_iff] at h
  obtain ⟨s, hs, rfl⟩ := h
  exact ⟨s, List.mem_of_getElem? hs, rfl, rfl⟩
theorem mapE_no {l : List Bs} {s : Bs} (h : s ∉ l) : Instr.findNow .string (.string (bs s)) (mapE l).toList 0 = some none := by
  rcases MapKept.findNow_spec (d := .string) (k := .string (bs s)) trivial (mapE l).toList 0 (mapE_key l) with ⟨h1, _⟩ | ⟨j, e, _, h2, h3⟩
  · exact h1
  · obtain ⟨t, ht, hk, _⟩ := mapE_at h2
    rw [hk] at h3
    injection h3 with h3
    exact absurd (bs_inj h3 ▸ ht) h
theorem mapE_yes {l : List Bs} {s : Bs} (h : s ∈ l) : ∃ i, Instr.findNow .string (.string (bs s)) (mapE l).toList 0 = some (some (i, .int .i64 1)) := by
  rcases MapKept.findNow_spec (d := .string) (k := .string (bs s)) trivial (mapE l).toList 0 (mapE_key l) with ⟨_, h2⟩ | ⟨j, e, h1, h2, h3⟩
  · obtain ⟨i, hi, hs⟩ := List.getElem_of_mem h
    have := h2 ⟨.string (bs s), .int .i64 1, i⟩ (by
      simp only [mapE, List.mem_mapIdx]
      exact ⟨i, hi, by rw [hs]⟩)
    exact absurd rfl this
  · obtain ⟨t, ht, hk, hv⟩ := mapE_at h2
    rw [hv] at h1
    exact ⟨_, h1⟩
theorem mapS_below {w w' : World} {g : Nat} {es : Array MapEntry} (h : MapS w g es) (hb : Below w.heap.size w w') : MapS w' g es := (hb.block g h.lt).trans h
theorem mayB_no {D : Bs} {num : Int} {ks : List (Bs × Bs)} (h : headOk D num ks = false) : mayB D num ks = false := by unfold mayB; rw [h]; rfl
set_option maxRecDepth 100000 in
set_option maxHeartbeats 8000000 in
theorem may_any (D : Bs) (num : Int) (ks : List (Bs × Bs)) (A : Option Addr) (c B : Nat) (w : World) (hr : Rd w B A (rowsV kCell ks)) (hB : B ≤ w.heap.size) (hD : ((bs D).size : Int) ≤ 100000000) (hl : (ks.length : Int) ≤ 9223372036854775807)
    (hk : ∀ k ∈ ks, (k.2.length : Int) ≤ 9223372036854775807) (hG : Sh.TabG w) :
    Calls Tryd.prog 16 #[.agg (bC D num A ks.length c)] w fun e w' => e = .returned (.bool (mayB D num ks)) ∧ Below w.heap.size w w' := by
  obtain ⟨r, hrr⟩ : ∃ r, r = mayB D num ks := ⟨_, rfl⟩
  rw [← hrr]
  have HRR := Lib.hid hrr
  clear hrr
  obtain ⟨n, hn⟩ : ∃ n, n = ks.length := ⟨_, rfl⟩
  rw [← hn] at hl ⊢
  have HN := Lib.hid hn
  obtain ⟨W0, hW0⟩ : ∃ W0, W0 = w.alloc (.cells (bC D num A n c) 28) := ⟨_, rfl⟩
  have HB0 := Lib.hid (show Below w.heap.size w W0 by rw [hW0]; exact (Below.refl _ w).alloc (Nat.le_refl _) _)
  have HK := Lib.hid (show Blk W0 w.heap.size 28 (bC D num A n c) by rw [hW0]; exact Blk.new _ _ _)
  have HW0 := Lib.hid hW0
  have HR := Lib.hid hr
  have HBB := Lib.hid hB
  have HKX := Lib.hid hk
  have HG := Lib.hid hG
  have HHD := Lib.hid (show headOk D num ks = (domB D && decide (0 ≤ num) && decide (num ≤ 1099511627776) && decide (n ≤ 8)) by rw [hn]; rfl)
  have C := Lib.hid (domain_any (bs D) hD W0)
  rw [show (bs D).data.toList = D from by simp [bs]] at C
  obtain ⟨d, hd⟩ : ∃ d, d = domB D := ⟨_, rfl⟩
  rw [← hd] at C HHD
  have a0 : W0.cell? ⟨w.heap.size, 0, none⟩ = some (.string (bs D)) := HK.out.cell 0
  clear hW0 hn hr hB hk hG hD hd
  go_enter Tryd.func16, Tryd.ntmps16
  go_upto_region 1 with (fail)
  rw [show w.alloc (.cells (bC D num A n c) 28) = W0 from HW0.out.symm]
  generalize Value.agg (bC D num A n c) = AV
  cases d with
  | false =>
    have HNO := Lib.hid (mayB_no (HHD.out.trans (by rfl)))
    go_wp2_with (go_at_call 25; refine calls_then C.out ?_; rintro e u1 ⟨rfl, hb1⟩; have HB1 := Lib.hid (HB0.out.trans (hb1.mono HB0.out.size)); clear hb1)
    go_ret
    exact ⟨by rw [HRR.out, HNO.out]; rfl, HB1.out⟩
  | true =>
    go_wp2_with fail
    refine calls_then C.out ?_
    rintro e u1 ⟨rfl, hb1⟩
    have HK1 := Lib.hid (HK.out.below hb1 HK.out.lt)
    have HB1 := Lib.hid (HB0.out.trans (hb1.mono HB0.out.size))
    have a1 : u1.cell? ⟨w.heap.size, 1, none⟩ = some (.int .i64 num) := HK1.out.cell 1
    have a2 : u1.cell? ⟨w.heap.size, 2, none⟩ = some (.slice A n c) := HK1.out.cell 2
    clear a0 hb1
    by_cases hn0 : num < 0
    · have HNO := Lib.hid (mayB_no (HHD.out.trans (by rw [decide_eq_false (show ¬ (0 ≤ num) by omega)]; rfl)))
      go_wp2_with fail
      go_ret
      exact ⟨by rw [HRR.out, HNO.out]; rfl, HB1.out⟩
    by_cases hn1 : 1099511627776 < num
    · have HNO := Lib.hid (mayB_no (HHD.out.trans (by rw [decide_eq_false (show ¬ (num ≤ 1099511627776) by omega)]; simp)))
      go_wp2_with fail
      go_ret
      exact ⟨by rw [HRR.out, HNO.out]; rfl, HB1.out⟩
    by_cases hn8 : 8 < (n : Int)
    · have HNO := Lib.hid (mayB_no (HHD.out.trans (by rw [decide_eq_false (show ¬ (n ≤ 8) by omega)]; simp)))
      go_wp2_with fail
      go_ret
      exact ⟨by rw [HRR.out, HNO.out]; rfl, HB1.out⟩
    have HHO := Lib.hid (show mayB D num ks = keysOk [] ks by
      unfold mayB
      rw [HHD.out, decide_eq_true (show 0 ≤ num by omega), decide_eq_true (show num ≤ 1099511627776 by omega), decide_eq_true (show n ≤ 8 by omega)]
      rfl)
    have hmm := @run_makeMap Tryd.prog
    go_upto_region 4 with (fail)
    obtain ⟨g, hg⟩ : ∃ g, g = u1.heap.size := ⟨_, rfl⟩
    have HGE := Lib.hid (show w.heap.size < g by rw [hg]; exact HK1.out.lt)
    have HGU := Lib.hid (show u1.heap.size = g from hg.symm)
    have hb2 : Below w.heap.size w (u1.alloc (.map #[] 0)) := HB1.out.alloc HB1.out.size _
    have hm2 : MapS (u1.alloc (.map #[] 0)) g (mapE []) := by rw [hg]; exact MapS.new u1
    have hd2 : (u1.alloc (.map #[] 0)).cell? ⟨w.heap.size, 2, none⟩ = some (.slice A n c) := (HK1.out.alloc _).cell 2
    obtain ⟨W2, hW2⟩ : ∃ W2, W2 = u1.alloc (.map #[] 0) := ⟨_, rfl⟩
    rw [← hW2] at hb2 hm2 hd2
    rw [← hg, ← hW2]
    have HB2 := Lib.hid hb2
    have HM2 := Lib.hid hm2
    clear hW2 hb2 hm2 hg a1 a2 hmm
    have hn8' : (n : Int) ≤ 8 := by omega
    clear hn8 hn0 hn1 hl
    go_wp2_with fail
    go_loopw [30] (fun x wr => ∃ i : Nat, i ≤ n ∧ x = .int .i64 (i : Int) ∧ keysTo ks i ∧ Below w.heap.size w wr ∧ MapS wr g (mapE ((ks.take i).map (·.1)))) (fun x _ => n - (intOf x).toNat)
    case atStart => exact ⟨0, Nat.zero_le _, rfl, keysTo_zero ks, HB2.out, HM2.out⟩
    case round =>
      obtain ⟨i, hi, rfl, hto, hbw, hmp⟩ := hrel
      have HTO := Lib.hid hto
      have HBW := Lib.hid hbw
      have HMP := Lib.hid hmp
      clear hto hbw hmp
      by_cases hlt : i < n
      · have huj := Tryd.underlying37
        have hil : i < ks.length := by rw [← HN.out]; exact hlt
        have hlt' : (i : Int) < (n : Int) := by omega
        obtain ⟨ad, hA, hadb, hcell⟩ := rd_rows (f := kCell) (m := 2) (fun _ => rfl) (by decide) (HR.out.below (HBW.out.mono HBB.out)) hil
        subst hA
        obtain ⟨X, hX⟩ : ∃ X, X = ks[i] := ⟨_, rfl⟩
        rw [← hX] at hcell
        have HX := Lib.hid (show ∃ h : i < ks.length, X = ks[i] from ⟨hil, hX⟩)
        have HCL := Lib.hid (show ∀ j u, (kCell X).toList[j]? = some u → wr.cell? ((ad.add (i * 2)).add j) = some u from fun j u hu => hcell j u (by simpa using hu))
        have HKL := Lib.hid (HKX.out X (by rw [hX]; exact List.getElem_mem hil))
        have HLT := Lib.hid hlt
        have HNK := Lib.hid (fun (hno : X.2.length = 32 → X.1 = nameL X.2 → X.1 ∈ (ks.take i).map (·.1)) => show mayB D num ks = false by
          rw [HHO.out]
          exact keysTo_no HTO.out hil (by rw [← hX]; exact hno))
        have HYK := Lib.hid (fun (h1 : X.2.length = 32) (h2 : X.1 = nameL X.2) (h3 : X.1 ∉ (ks.take i).map (·.1)) => show keysTo ks (i + 1) ∧ (ks.take (i + 1)).map (·.1) = (ks.take i).map (·.1) ++ [X.1] from
          ⟨keysTo_step HTO.out hil (by rw [← hX]; exact h1) (by rw [← hX]; exact h2) (by rw [← hX]; exact h3), by rw [List.take_succ_eq_append_getElem hil, List.map_append, hX]; rfl⟩)
        obtain ⟨N, hN⟩ : ∃ N, N = (ks.take i).map (·.1) := ⟨_, rfl⟩
        rw [← hN] at HNK HYK HMP
        clear hX hcell hadb hil hlt hN
        go_upto_region 7 with (first
          | refine wpList_get_rd (r := (kCell X).toList) HCL.out rfl rfl rfl huj rfl jk_size ?_
          | (refine wpList_put_box (cells := kCell X) (Blk.new _ _ _) rfl rfl rfl rfl jk_size rfl (kCell_one X) ?_; intro w5 hb5 hw5))
        have HK5 := Lib.hid hb5
        have hbw5 : Below wr.heap.size wr w5 := box_low9 hw5
        have HM5 := Lib.hid (mapS_below HMP.out hbw5)
        have HB5 := Lib.hid (HBW.out.trans (hbw5.mono HBW.out.size))
        have HGT := Lib.hid (fun (u : World) (hu : Below w5.heap.size w5 u) => show Sh.TabG u from HG.out.below (HB5.out.trans (hu.mono HB5.out.size)) HG.out.size)
        have hc1 : w5.cell? ⟨wr.heap.size, 1, none⟩ = some (.string (bs X.2)) := hb5.cell 1
        have hs0 : ((bs X.2).size : Int) = (X.2.length : Int) := by rw [bs_size]
        clear hb5 hw5 hbw5
        by_cases h32 : X.2.length = 32
        · have HS32 := Lib.hid (show (bs X.2).size = 32 by rw [bs_size, h32])
          have HSZ := Lib.hid (show ((bs X.2).size : Int) = 32 by rw [hs0, h32]; rfl)
          have HNA := Lib.hid (show ∀ A c u, Rd u u.heap.size A (bytesV X.2) → 32 ≤ c → c ≤ 9223372036854775807 → Sh.TabG u → Calls Tryd.prog 6 #[.slice A 32 c] u (fun e w' => e = .returned (.string (bs (nameL X.2))) ∧ Below u.heap.size u w') from
            fun A c u h1 h2 h3 h4 => by have h := jname_any X.2 (by omega) A c u h1 (by omega) h3 h4; rw [h32] at h; exact h)
          have hus := Tryd.underlying9
          have hub8 := Tryd.underlying22
          have hu8 := Tryd.underlying5
          have HC0 : Below w5.heap.size w5 w5.drew := (Below.refl _ _).drew
          have H32 := Lib.hid h32
          clear hs0 h32 hc1
          by_cases hkn : X.1 = nameL X.2
          · have HQ := Lib.hid (show ((bs X.1).toList == (bs (nameL X.2)).toList) = true by rw [bs_toList, bs_toList]; simpa using hkn)
            obtain ⟨m, hlk0, hmm⟩ : ∃ m : Int, (∀ u, Below w5.heap.size w5 u → (Instr.lookup 64 (.map (some g)) (.string (bs X.1)) false).run Tryd.prog u = .ok (.int .i64 m) u) ∧ ((m = 0 ∧ X.1 ∉ N) ∨ (m = 1 ∧ X.1 ∈ N)) := by
              have ht := Tryd.underlying64
              have hz : ∀ u : World, (zeroValue 3).run Tryd.prog u = .ok (.int .i64 0) u := fun u => by first | rfl | (simp; done) | kernel_rfl
              by_cases hx : X.1 ∈ N
              · obtain ⟨q, hq⟩ := mapE_yes hx
                exact ⟨1, fun u hu => run_lookupS false ht hus (mapS_below HM5.out hu) hq (hz u), .inr ⟨rfl, hx⟩⟩
              · exact ⟨0, fun u hu => run_lookupS false ht hus (mapS_below HM5.out hu) (mapE_no hx) (hz u), .inl ⟨rfl, hx⟩⟩
            have HLK := Lib.hid hlk0
            have HMM := Lib.hid hmm
            clear hlk0 hmm
            have HKN := Lib.hid hkn
            clear hkn
            refine wp_region_list (fun u => Below w5.heap.size w5 u) (fun | false => (fun _ => True) | true => (fun _ => True)) (fun | false, _ => false | true, _ => false)
              [fun z _ => z 0 = .pointer (some ⟨wr.heap.size, 1, none⟩),
               fun z _ => z 1 = .string (bs X.2),
               fun z _ => z 2 = .int .i64 32,
               fun z _ => z 3 = .bool false,
               fun z _ => z 4 = .bool false,
               fun z _ => z 5 = .pointer (some ⟨wr.heap.size, 0, none⟩),
               fun z _ => z 6 = .string (bs X.1),
               fun z _ => z 7 = .pointer (some ⟨wr.heap.size, 1, none⟩),
               fun z _ => z 8 = .string (bs X.2),
               fun z u => (fun v u => ∃ A c, v = .slice A 32 c ∧ Rd u u.heap.size A (bytesV X.2) ∧ 32 ≤ c ∧ c ≤ 9223372036854775807) (z 9) u,
               fun z _ => z 10 = .string (bs (nameL X.2)),
               fun z _ => z 11 = .bool false,
               fun z _ => z 12 = .bool false,
               fun z _ => z 13 = .bool false,
               fun z _ => z 14 = .map (some g),
               fun z _ => z 15 = .pointer (some ⟨wr.heap.size, 0, none⟩),
               fun z _ => z 16 = .string (bs X.1),
               fun z _ => z 17 = .int .i64 m,
               fun z _ => z 18 = .bool (decide (0 < m)),
               fun z _ => z 19 = .bool (decide (0 < m))]
              [Eq, Eq, Eq, Eq, Eq, Eq, Eq, Eq, Eq, fun u u' => Below u.heap.size u u', fun u u' => Below u.heap.size u u', Eq, Eq, Eq, Eq, Eq, Eq, Eq, Eq, Eq]
              (fun _ _ => false) [(0, some 34), (1, some 35), (2, some 36), (3, some 37), (4, some 38), (5, some 39), (6, some 40), (7, some 41), (8, some 42), (9, some 43), (10, some 44), (11, some 45), (12, some 46), (13, some 47), (14, some 48), (15, some 49), (16, some 50), (17, some 51), (18, some 52), (19, some 53)] (by kernel_rfl) (by kernel_rfl) rfl (fun _ => rfl) ?_ ?_ ?_ ?_ ?_ ?_
            · exact HC0
            · intro m; cases m; exact trivial; exact trivial
            · intro m; cases m
              · exact ⟨.inr (fun _ _ h h0 => h ▸ h0), .inr (fun _ _ h h0 => h ▸ h0), .inr (fun _ _ h h0 => h ▸ h0), .inr (fun _ _ h h0 => h ▸ h0), .inr (fun _ _ h h0 => h ▸ h0), .inr (fun _ _ h h0 => h ▸ h0), .inr (fun _ _ h h0 => h ▸ h0), .inr (fun _ _ h h0 => h ▸ h0), .inr (fun _ _ h h0 => h ▸ h0), .inr (fun _ _ _ h => h), .inr (fun _ _ _ h => h), .inr (fun _ _ h h0 => h ▸ h0), .inr (fun _ _ h h0 => h ▸ h0), .inr (fun _ _ h h0 => h ▸ h0), .inr (fun _ _ h h0 => h ▸ h0), .inr (fun _ _ h h0 => h ▸ h0), .inr (fun _ _ h h0 => h ▸ h0), .inr (fun _ _ h h0 => h ▸ h0), .inr (fun _ _ h h0 => h ▸ h0), .inr (fun _ _ h h0 => h ▸ h0), trivial⟩
              · exact ⟨.inr (fun _ _ h h0 => h ▸ h0), .inr (fun _ _ h h0 => h ▸ h0), .inr (fun _ _ h h0 => h ▸ h0), .inr (fun _ _ h h0 => h ▸ h0), .inr (fun _ _ h h0 => h ▸ h0), .inr (fun _ _ h h0 => h ▸ h0), .inr (fun _ _ h h0 => h ▸ h0), .inr (fun _ _ h h0 => h ▸ h0), .inr (fun _ _ h h0 => h ▸ h0), .inr (fun _ _ _ h => h), .inr (fun _ _ _ h => h), .inr (fun _ _ h h0 => h ▸ h0), .inr (fun _ _ h h0 => h ▸ h0), .inr (fun _ _ h h0 => h ▸ h0), .inr (fun _ _ h h0 => h ▸ h0), .inr (fun _ _ h h0 => h ▸ h0), .inr (fun _ _ h h0 => h ▸ h0), .inr (fun _ _ h h0 => h ▸ h0), .inr (fun _ _ h h0 => h ▸ h0), .inr (fun _ _ h h0 => h ▸ h0), trivial⟩
            · exact ⟨⟨.inl rfl, .inr (.inr (.inl rfl)), .inr (.inr (.inl rfl)), .inr (.inr (.inl rfl)), .inr (.inr (.inr (fun _ _ _ _ _ h => h))), .inr (.inr (.inr (fun _ _ _ _ _ h => h))), .inr (.inr (.inr (fun _ _ _ _ _ h => h))), .inr (.inr (.inr (fun _ _ _ _ _ h => h))), .inr (.inr (.inr (fun _ _ _ _ _ h => h))), .inr (.inr (.inr (fun _ _ _ _ h h0 => by cases h; exact h0))), .inr (.inr (.inr (fun _ _ _ _ _ h => h))), .inr (.inr (.inr (fun _ _ _ _ _ h => h))), .inr (.inr (.inr (fun _ _ _ _ _ h => h))), .inr (.inr (.inr (fun _ _ _ _ _ h => h))), .inr (.inr (.inr (fun _ _ _ _ _ h => h))), .inr (.inr (.inr (fun _ _ _ _ _ h => h))), .inr (.inr (.inr (fun _ _ _ _ _ h => h))), .inr (.inr (.inr (fun _ _ _ _ _ h => h))), .inr (.inr (.inr (fun _ _ _ _ _ h => h))), .inr (.inr (.inr (fun _ _ _ _ _ h => h))), trivial⟩,
                ⟨.inr (.inr (.inr (fun _ _ _ _ _ h => h))), .inl rfl, .inr (.inr (.inl rfl)), .inr (.inr (.inl rfl)), .inr (.inr (.inl rfl)), .inr (.inr (.inr (fun _ _ _ _ _ h => h))), .inr (.inr (.inr (fun _ _ _ _ _ h => h))), .inr (.inr (.inr (fun _ _ _ _ _ h => h))), .inr (.inr (.inr (fun _ _ _ _ _ h => h))), .inr (.inr (.inr (fun _ _ _ _ h h0 => by cases h; exact h0))), .inr (.inr (.inr (fun _ _ _ _ _ h => h))), .inr (.inr (.inr (fun _ _ _ _ _ h => h))), .inr (.inr (.inr (fun _ _ _ _ _ h => h))), .inr (.inr (.inr (fun _ _ _ _ _ h => h))), .inr (.inr (.inr (fun _ _ _ _ _ h => h))), .inr (.inr (.inr (fun _ _ _ _ _ h => h))), .inr (.inr (.inr (fun _ _ _ _ _ h => h))), .inr (.inr (.inr (fun _ _ _ _ _ h => h))), .inr (.inr (.inr (fun _ _ _ _ _ h => h))), .inr (.inr (.inr (fun _ _ _ _ _ h => h))), trivial⟩,
                ⟨.inr (.inr (.inr (fun _ _ _ _ _ h => h))), .inr (.inr (.inr (fun _ _ _ _ _ h => h))), .inl rfl, .inr (.inr (.inl rfl)), .inr (.inr (.inl rfl)), .inr (.inr (.inl rfl)), .inr (.inr (.inl rfl)), .inr (.inr (.inl rfl)), .inr (.inr (.inl rfl)), .inr (.inr (.inl rfl)), .inr (.inr (.inl rfl)), .inr (.inr (.inl rfl)), .inr (.inr (.inl rfl)), .inr (.inr (.inr (fun _ _ _ _ _ h => h))), .inr (.inr (.inr (fun _ _ _ _ _ h => h))), .inr (.inr (.inr (fun _ _ _ _ _ h => h))), .inr (.inr (.inr (fun _ _ _ _ _ h => h))), .inr (.inr (.inr (fun _ _ _ _ _ h => h))), .inr (.inr (.inr (fun _ _ _ _ _ h => h))), .inr (.inr (.inr (fun _ _ _ _ _ h => h))), trivial⟩,
                ⟨.inr (.inr (.inr (fun _ _ _ _ _ h => h))), .inr (.inr (.inr (fun _ _ _ _ _ h => h))), .inr (.inr (.inr (fun _ _ _ _ _ h => h))), .inl rfl, .inr (.inr (.inl rfl)), .inr (.inr (.inl rfl)), .inr (.inr (.inl rfl)), .inr (.inr (.inl rfl)), .inr (.inr (.inl rfl)), .inr (.inr (.inl rfl)), .inr (.inr (.inl rfl)), .inr (.inr (.inl rfl)), .inr (.inr (.inl rfl)), .inr (.inr (.inl rfl)), .inr (.inr (.inr (fun _ _ _ _ _ h => h))), .inr (.inr (.inr (fun _ _ _ _ _ h => h))), .inr (.inr (.inr (fun _ _ _ _ _ h => h))), .inr (.inr (.inr (fun _ _ _ _ _ h => h))), .inr (.inr (.inr (fun _ _ _ _ _ h => h))), .inr (.inr (.inr (fun _ _ _ _ _ h => h))), trivial⟩,
                ⟨.inr (.inr (.inr (fun _ _ _ _ _ h => h))), .inr (.inr (.inr (fun _ _ _ _ _ h => h))), .inr (.inr (.inr (fun _ _ _ _ _ h => h))), .inr (.inr (.inr (fun _ _ _ _ _ h => h))), .inl rfl, .inr (.inr (.inl rfl)), .inr (.inr (.inl rfl)), .inr (.inr (.inl rfl)), .inr (.inr (.inl rfl)), .inr (.inr (.inl rfl)), .inr (.inr (.inl rfl)), .inr (.inr (.inl rfl)), .inr (.inr (.inl rfl)), .inr (.inr (.inl rfl)), .inr (.inr (.inl rfl)), .inr (.inr (.inl rfl)), .inr (.inr (.inl rfl)), .inr (.inr (.inl rfl)), .inr (.inr (.inl rfl)), .inr (.inr (.inl rfl)), trivial⟩,
                ⟨.inr (.inr (.inr (fun _ _ _ _ _ h => h))), .inr (.inr (.inr (fun _ _ _ _ _ h => h))), .inr (.inr (.inr (fun _ _ _ _ _ h => h))), .inr (.inr (.inr (fun _ _ _ _ _ h => h))), .inr (.inr (.inr (fun _ _ _ _ _ h => h))), .inl rfl, .inr (.inr (.inl rfl)), .inr (.inr (.inr (fun _ _ _ _ _ h => h))), .inr (.inr (.inr (fun _ _ _ _ _ h => h))), .inr (.inr (.inr (fun _ _ _ _ h h0 => by cases h; exact h0))), .inr (.inr (.inr (fun _ _ _ _ _ h => h))), .inr (.inr (.inl rfl)), .inr (.inr (.inl rfl)), .inr (.inr (.inr (fun _ _ _ _ _ h => h))), .inr (.inr (.inr (fun _ _ _ _ _ h => h))), .inr (.inr (.inr (fun _ _ _ _ _ h => h))), .inr (.inr (.inr (fun _ _ _ _ _ h => h))), .inr (.inr (.inr (fun _ _ _ _ _ h => h))), .inr (.inr (.inr (fun _ _ _ _ _ h => h))), .inr (.inr (.inr (fun _ _ _ _ _ h => h))), trivial⟩,
                ⟨.inr (.inr (.inr (fun _ _ _ _ _ h => h))), .inr (.inr (.inr (fun _ _ _ _ _ h => h))), .inr (.inr (.inr (fun _ _ _ _ _ h => h))), .inr (.inr (.inr (fun _ _ _ _ _ h => h))), .inr (.inr (.inr (fun _ _ _ _ _ h => h))), .inr (.inr (.inr (fun _ _ _ _ _ h => h))), .inl rfl, .inr (.inr (.inr (fun _ _ _ _ _ h => h))), .inr (.inr (.inr (fun _ _ _ _ _ h => h))), .inr (.inr (.inr (fun _ _ _ _ h h0 => by cases h; exact h0))), .inr (.inr (.inr (fun _ _ _ _ _ h => h))), .inr (.inr (.inl rfl)), .inr (.inr (.inl rfl)), .inr (.inr (.inl rfl)), .inr (.inr (.inr (fun _ _ _ _ _ h => h))), .inr (.inr (.inr (fun _ _ _ _ _ h => h))), .inr (.inr (.inr (fun _ _ _ _ _ h => h))), .inr (.inr (.inr (fun _ _ _ _ _ h => h))), .inr (.inr (.inr (fun _ _ _ _ _ h => h))), .inr (.inr (.inr (fun _ _ _ _ _ h => h))), trivial⟩,
                ⟨.inr (.inr (.inr (fun _ _ _ _ _ h => h))), .inr (.inr (.inr (fun _ _ _ _ _ h => h))), .inr (.inr (.inr (fun _ _ _ _ _ h => h))), .inr (.inr (.inr (fun _ _ _ _ _ h => h))), .inr (.inr (.inr (fun _ _ _ _ _ h => h))), .inr (.inr (.inr (fun _ _ _ _ _ h => h))), .inr (.inr (.inr (fun _ _ _ _ _ h => h))), .inl rfl, .inr (.inr (.inl rfl)), .inr (.inr (.inl rfl)), .inr (.inr (.inl rfl)), .inr (.inr (.inr (fun _ _ _ _ _ h => h))), .inr (.inr (.inr (fun _ _ _ _ _ h => h))), .inr (.inr (.inr (fun _ _ _ _ _ h => h))), .inr (.inr (.inr (fun _ _ _ _ _ h => h))), .inr (.inr (.inr (fun _ _ _ _ _ h => h))), .inr (.inr (.inr (fun _ _ _ _ _ h => h))), .inr (.inr (.inr (fun _ _ _ _ _ h => h))), .inr (.inr (.inr (fun _ _ _ _ _ h => h))), .inr (.inr (.inr (fun _ _ _ _ _ h => h))), trivial⟩,
                ⟨.inr (.inr (.inr (fun _ _ _ _ _ h => h))), .inr (.inr (.inr (fun _ _ _ _ _ h => h))), .inr (.inr (.inr (fun _ _ _ _ _ h => h))), .inr (.inr (.inr (fun _ _ _ _ _ h => h))), .inr (.inr (.inr (fun _ _ _ _ _ h => h))), .inr (.inr (.inr (fun _ _ _ _ _ h => h))), .inr (.inr (.inr (fun _ _ _ _ _ h => h))), .inr (.inr (.inr (fun _ _ _ _ _ h => h))), .inl rfl, .inr (.inr (.inl rfl)), .inr (.inr (.inl rfl)), .inr (.inr (.inl rfl)), .inr (.inr (.inr (fun _ _ _ _ _ h => h))), .inr (.inr (.inl rfl)), .inr (.inr (.inr (fun _ _ _ _ _ h => h))), .inr (.inr (.inr (fun _ _ _ _ _ h => h))), .inr (.inr (.inr (fun _ _ _ _ _ h => h))), .inr (.inr (.inr (fun _ _ _ _ _ h => h))), .inr (.inr (.inr (fun _ _ _ _ _ h => h))), .inr (.inr (.inr (fun _ _ _ _ _ h => h))), trivial⟩,
                ⟨.inr (.inr (.inr (fun _ _ _ _ _ h => h))), .inr (.inr (.inr (fun _ _ _ _ _ h => h))), .inr (.inr (.inr (fun _ _ _ _ _ h => h))), .inr (.inr (.inr (fun _ _ _ _ _ h => h))), .inr (.inr (.inr (fun _ _ _ _ _ h => h))), .inr (.inr (.inr (fun _ _ _ _ _ h => h))), .inr (.inr (.inr (fun _ _ _ _ _ h => h))), .inr (.inr (.inr (fun _ _ _ _ _ h => h))), .inr (.inr (.inr (fun _ _ _ _ _ h => h))), .inl rfl, .inr (.inr (.inl rfl)), .inr (.inr (.inl rfl)), .inr (.inr (.inl rfl)), .inr (.inr (.inl rfl)), .inr (.inr (.inl rfl)), .inr (.inr (.inl rfl)), .inr (.inr (.inl rfl)), .inr (.inr (.inl rfl)), .inr (.inr (.inl rfl)), .inr (.inr (.inl rfl)), trivial⟩,
                ⟨.inr (.inr (.inr (fun _ _ _ _ _ h => h))), .inr (.inr (.inr (fun _ _ _ _ _ h => h))), .inr (.inr (.inr (fun _ _ _ _ _ h => h))), .inr (.inr (.inr (fun _ _ _ _ _ h => h))), .inr (.inr (.inr (fun _ _ _ _ _ h => h))), .inr (.inr (.inr (fun _ _ _ _ _ h => h))), .inr (.inr (.inr (fun _ _ _ _ _ h => h))), .inr (.inr (.inr (fun _ _ _ _ _ h => h))), .inr (.inr (.inr (fun _ _ _ _ _ h => h))), .inr (.inr (.inr (fun _ _ _ _ h h0 => by obtain ⟨A0, c0, h1, h2, h3⟩ := h0; exact ⟨A0, c0, h1, (h2.below h).mono h.size, h3⟩))), .inl rfl, .inr (.inr (.inl rfl)), .inr (.inr (.inl rfl)), .inr (.inr (.inl rfl)), .inr (.inr (.inl rfl)), .inr (.inr (.inl rfl)), .inr (.inr (.inl rfl)), .inr (.inr (.inl rfl)), .inr (.inr (.inl rfl)), .inr (.inr (.inl rfl)), trivial⟩,
                ⟨.inr (.inr (.inr (fun _ _ _ _ _ h => h))), .inr (.inr (.inr (fun _ _ _ _ _ h => h))), .inr (.inr (.inr (fun _ _ _ _ _ h => h))), .inr (.inr (.inr (fun _ _ _ _ _ h => h))), .inr (.inr (.inr (fun _ _ _ _ _ h => h))), .inr (.inr (.inr (fun _ _ _ _ _ h => h))), .inr (.inr (.inr (fun _ _ _ _ _ h => h))), .inr (.inr (.inr (fun _ _ _ _ _ h => h))), .inr (.inr (.inr (fun _ _ _ _ _ h => h))), .inr (.inr (.inr (fun _ _ _ _ h h0 => by cases h; exact h0))), .inr (.inr (.inr (fun _ _ _ _ _ h => h))), .inl rfl, .inr (.inr (.inl rfl)), .inr (.inr (.inl rfl)), .inr (.inr (.inl rfl)), .inr (.inr (.inl rfl)), .inr (.inr (.inl rfl)), .inr (.inr (.inl rfl)), .inr (.inr (.inl rfl)), .inr (.inr (.inl rfl)), trivial⟩,
                ⟨.inr (.inr (.inr (fun _ _ _ _ _ h => h))), .inr (.inr (.inr (fun _ _ _ _ _ h => h))), .inr (.inr (.inr (fun _ _ _ _ _ h => h))), .inr (.inr (.inr (fun _ _ _ _ _ h => h))), .inr (.inr (.inr (fun _ _ _ _ _ h => h))), .inr (.inr (.inr (fun _ _ _ _ _ h => h))), .inr (.inr (.inr (fun _ _ _ _ _ h => h))), .inr (.inr (.inr (fun _ _ _ _ _ h => h))), .inr (.inr (.inr (fun _ _ _ _ _ h => h))), .inr (.inr (.inr (fun _ _ _ _ h h0 => by cases h; exact h0))), .inr (.inr (.inr (fun _ _ _ _ _ h => h))), .inr (.inr (.inr (fun _ _ _ _ _ h => h))), .inl rfl, .inr (.inr (.inl rfl)), .inr (.inr (.inl rfl)), .inr (.inr (.inl rfl)), .inr (.inr (.inl rfl)), .inr (.inr (.inl rfl)), .inr (.inr (.inl rfl)), .inr (.inr (.inl rfl)), trivial⟩,
                ⟨.inr (.inr (.inr (fun _ _ _ _ _ h => h))), .inr (.inr (.inr (fun _ _ _ _ _ h => h))), .inr (.inr (.inr (fun _ _ _ _ _ h => h))), .inr (.inr (.inr (fun _ _ _ _ _ h => h))), .inr (.inr (.inr (fun _ _ _ _ _ h => h))), .inr (.inr (.inr (fun _ _ _ _ _ h => h))), .inr (.inr (.inr (fun _ _ _ _ _ h => h))), .inr (.inr (.inr (fun _ _ _ _ _ h => h))), .inr (.inr (.inr (fun _ _ _ _ _ h => h))), .inr (.inr (.inr (fun _ _ _ _ h h0 => by cases h; exact h0))), .inr (.inr (.inr (fun _ _ _ _ _ h => h))), .inr (.inr (.inr (fun _ _ _ _ _ h => h))), .inr (.inr (.inr (fun _ _ _ _ _ h => h))), .inl rfl, .inr (.inr (.inl rfl)), .inr (.inr (.inl rfl)), .inr (.inr (.inl rfl)), .inr (.inr (.inl rfl)), .inr (.inr (.inl rfl)), .inr (.inr (.inl rfl)), trivial⟩,
                ⟨.inr (.inr (.inr (fun _ _ _ _ _ h => h))), .inr (.inr (.inr (fun _ _ _ _ _ h => h))), .inr (.inr (.inr (fun _ _ _ _ _ h => h))), .inr (.inr (.inr (fun _ _ _ _ _ h => h))), .inr (.inr (.inr (fun _ _ _ _ _ h => h))), .inr (.inr (.inr (fun _ _ _ _ _ h => h))), .inr (.inr (.inr (fun _ _ _ _ _ h => h))), .inr (.inr (.inr (fun _ _ _ _ _ h => h))), .inr (.inr (.inr (fun _ _ _ _ _ h => h))), .inr (.inr (.inr (fun _ _ _ _ h h0 => by cases h; exact h0))), .inr (.inr (.inr (fun _ _ _ _ _ h => h))), .inr (.inr (.inr (fun _ _ _ _ _ h => h))), .inr (.inr (.inr (fun _ _ _ _ _ h => h))), .inr (.inr (.inr (fun _ _ _ _ _ h => h))), .inl rfl, .inr (.inr (.inr (fun _ _ _ _ _ h => h))), .inr (.inr (.inr (fun _ _ _ _ _ h => h))), .inr (.inr (.inl rfl)), .inr (.inr (.inl rfl)), .inr (.inr (.inl rfl)), trivial⟩,
                ⟨.inr (.inr (.inr (fun _ _ _ _ _ h => h))), .inr (.inr (.inr (fun _ _ _ _ _ h => h))), .inr (.inr (.inr (fun _ _ _ _ _ h => h))), .inr (.inr (.inr (fun _ _ _ _ _ h => h))), .inr (.inr (.inr (fun _ _ _ _ _ h => h))), .inr (.inr (.inr (fun _ _ _ _ _ h => h))), .inr (.inr (.inr (fun _ _ _ _ _ h => h))), .inr (.inr (.inr (fun _ _ _ _ _ h => h))), .inr (.inr (.inr (fun _ _ _ _ _ h => h))), .inr (.inr (.inr (fun _ _ _ _ h h0 => by cases h; exact h0))), .inr (.inr (.inr (fun _ _ _ _ _ h => h))), .inr (.inr (.inr (fun _ _ _ _ _ h => h))), .inr (.inr (.inr (fun _ _ _ _ _ h => h))), .inr (.inr (.inr (fun _ _ _ _ _ h => h))), .inr (.inr (.inr (fun _ _ _ _ _ h => h))), .inl rfl, .inr (.inr (.inl rfl)), .inr (.inr (.inl rfl)), .inr (.inr (.inl rfl)), .inr (.inr (.inr (fun _ _ _ _ _ h => h))), trivial⟩,
                ⟨.inr (.inr (.inr (fun _ _ _ _ _ h => h))), .inr (.inr (.inr (fun _ _ _ _ _ h => h))), .inr (.inr (.inr (fun _ _ _ _ _ h => h))), .inr (.inr (.inr (fun _ _ _ _ _ h => h))), .inr (.inr (.inr (fun _ _ _ _ _ h => h))), .inr (.inr (.inr (fun _ _ _ _ _ h => h))), .inr (.inr (.inr (fun _ _ _ _ _ h => h))), .inr (.inr (.inr (fun _ _ _ _ _ h => h))), .inr (.inr (.inr (fun _ _ _ _ _ h => h))), .inr (.inr (.inr (fun _ _ _ _ h h0 => by cases h; exact h0))), .inr (.inr (.inr (fun _ _ _ _ _ h => h))), .inr (.inr (.inr (fun _ _ _ _ _ h => h))), .inr (.inr (.inr (fun _ _ _ _ _ h => h))), .inr (.inr (.inr (fun _ _ _ _ _ h => h))), .inr (.inr (.inr (fun _ _ _ _ _ h => h))), .inr (.inr (.inr (fun _ _ _ _ _ h => h))), .inl rfl, .inr (.inr (.inl rfl)), .inr (.inr (.inl rfl)), .inr (.inr (.inl rfl)), trivial⟩,
                ⟨.inr (.inr (.inr (fun _ _ _ _ _ h => h))), .inr (.inr (.inr (fun _ _ _ _ _ h => h))), .inr (.inr (.inr (fun _ _ _ _ _ h => h))), .inr (.inr (.inr (fun _ _ _ _ _ h => h))), .inr (.inr (.inr (fun _ _ _ _ _ h => h))), .inr (.inr (.inr (fun _ _ _ _ _ h => h))), .inr (.inr (.inr (fun _ _ _ _ _ h => h))), .inr (.inr (.inr (fun _ _ _ _ _ h => h))), .inr (.inr (.inr (fun _ _ _ _ _ h => h))), .inr (.inr (.inr (fun _ _ _ _ h h0 => by cases h; exact h0))), .inr (.inr (.inr (fun _ _ _ _ _ h => h))), .inr (.inr (.inr (fun _ _ _ _ _ h => h))), .inr (.inr (.inr (fun _ _ _ _ _ h => h))), .inr (.inr (.inr (fun _ _ _ _ _ h => h))), .inr (.inr (.inr (fun _ _ _ _ _ h => h))), .inr (.inr (.inr (fun _ _ _ _ _ h => h))), .inr (.inr (.inr (fun _ _ _ _ _ h => h))), .inl rfl, .inr (.inr (.inl rfl)), .inr (.inr (.inl rfl)), trivial⟩,
                ⟨.inr (.inr (.inr (fun _ _ _ _ _ h => h))), .inr (.inr (.inr (fun _ _ _ _ _ h => h))), .inr (.inr (.inr (fun _ _ _ _ _ h => h))), .inr (.inr (.inr (fun _ _ _ _ _ h => h))), .inr (.inr (.inr (fun _ _ _ _ _ h => h))), .inr (.inr (.inr (fun _ _ _ _ _ h => h))), .inr (.inr (.inr (fun _ _ _ _ _ h => h))), .inr (.inr (.inr (fun _ _ _ _ _ h => h))), .inr (.inr (.inr (fun _ _ _ _ _ h => h))), .inr (.inr (.inr (fun _ _ _ _ h h0 => by cases h; exact h0))), .inr (.inr (.inr (fun _ _ _ _ _ h => h))), .inr (.inr (.inr (fun _ _ _ _ _ h => h))), .inr (.inr (.inr (fun _ _ _ _ _ h => h))), .inr (.inr (.inr (fun _ _ _ _ _ h => h))), .inr (.inr (.inr (fun _ _ _ _ _ h => h))), .inr (.inr (.inr (fun _ _ _ _ _ h => h))), .inr (.inr (.inr (fun _ _ _ _ _ h => h))), .inr (.inr (.inr (fun _ _ _ _ _ h => h))), .inl rfl, .inr (.inr (.inl rfl)), trivial⟩,
                ⟨.inr (.inr (.inr (fun _ _ _ _ _ h => h))), .inr (.inr (.inr (fun _ _ _ _ _ h => h))), .inr (.inr (.inr (fun _ _ _ _ _ h => h))), .inr (.inr (.inr (fun _ _ _ _ _ h => h))), .inr (.inr (.inr (fun _ _ _ _ _ h => h))), .inr (.inr (.inr (fun _ _ _ _ _ h => h))), .inr (.inr (.inr (fun _ _ _ _ _ h => h))), .inr (.inr (.inr (fun _ _ _ _ _ h => h))), .inr (.inr (.inr (fun _ _ _ _ _ h => h))), .inr (.inr (.inr (fun _ _ _ _ h h0 => by cases h; exact h0))), .inr (.inr (.inr (fun _ _ _ _ _ h => h))), .inr (.inr (.inr (fun _ _ _ _ _ h => h))), .inr (.inr (.inr (fun _ _ _ _ _ h => h))), .inr (.inr (.inr (fun _ _ _ _ _ h => h))), .inr (.inr (.inr (fun _ _ _ _ _ h => h))), .inr (.inr (.inr (fun _ _ _ _ _ h => h))), .inr (.inr (.inr (fun _ _ _ _ _ h => h))), .inr (.inr (.inr (fun _ _ _ _ _ h => h))), .inr (.inr (.inr (fun _ _ _ _ _ h => h))), .inl rfl, trivial⟩, trivial⟩
            · refine ⟨?_, ?_, ?_, ?_, ?_, ?_, ?_, ?_, ?_, ?_, ?_, ?_, ?_, ?_, ?_, ?_, ?_, ?_, ?_, ?_, trivial⟩
              · -- 0: Op.fieldAddr 37 (Operand.tmp 5) 1
                refine step_plain [] (fun _ => rfl) rfl ?_
                intro w1 vals hC1 hi0 hf E hE
                clear hi0
                clear hf
                simp only [puts, act_put, act_put_none, List.setIfInBounds_toArray, List.set_cons_zero, List.set_cons_succ] at hE ⊢
                go_wp2
                exact .mk (hE _ _ rfl hC1 rfl)
              · -- 1: Op.load 9 (Operand.tmp 34)
                refine step_plain [(0, some 34)] (fun _ => rfl) rfl ?_
                intro w1 vals hC1 hi0 hf E hE
                clear hi0
                have f0 : vals 0 = .pointer (some ⟨wr.heap.size, 1, none⟩) := hf 0 rfl
                try dsimp only at f0
                clear hf
                simp only [puts, act_put, act_put_none, List.setIfInBounds_toArray, List.set_cons_zero, List.set_cons_succ, f0] at hE ⊢
                clear f0
                have d0 := (HK5.out.below hC1 HK5.out.lt).cell 1
                simp only [kCell, List.getElem?_toArray, List.getElem?_cons_zero, List.getElem?_cons_succ] at d0
                go_wp2
                exact .mk (hE _ _ rfl hC1 rfl)
              · -- 2: Op.call { callee := Callee.builtin Builtin.len, args := #[Operand.tmp 35], argTypes := #[9] }
                refine step_plain [(1, some 35)] (fun _ => rfl) rfl ?_
                intro w1 vals hC1 hi0 hf E hE
                clear hi0
                have f1 : vals 1 = .string (bs X.2) := hf 1 rfl
                try dsimp only at f1
                clear hf
                simp only [puts, act_put, act_put_none, List.setIfInBounds_toArray, List.set_cons_zero, List.set_cons_succ, f1] at hE ⊢
                clear f1
                have hsz := HSZ.out
                go_wp2
                exact .mk (hE _ _ rfl hC1 rfl)
              · -- 3: Op.binOp BinOp.neq 3 (Operand.tmp 36) (Operand.const (Value.int IntKind.i64 32)) 3
                refine step_plain [(2, some 36)] (fun _ => rfl) rfl ?_
                intro w1 vals hC1 hi0 hf E hE
                clear hi0
                have f2 : vals 2 = .int .i64 32 := hf 2 rfl
                try dsimp only at f2
                clear hf
                simp only [puts, act_put, act_put_none, List.setIfInBounds_toArray, List.set_cons_zero, List.set_cons_succ, f2] at hE ⊢
                clear f2
                go_wp2
                exact .mk (hE _ _ rfl hC1 rfl)
              · -- 4: Op.move (Operand.tmp 37)
                refine step_plain [(3, some 37)] (fun _ => rfl) rfl ?_
                intro w1 vals hC1 hi0 hf E hE
                clear hi0
                have f3 : vals 3 = .bool false := hf 3 rfl
                try dsimp only at f3
                clear hf
                simp only [puts, act_put, act_put_none, List.setIfInBounds_toArray, List.set_cons_zero, List.set_cons_succ, f3] at hE ⊢
                clear f3
                go_wp2
                exact .mk (hE _ _ rfl hC1 rfl)
              · -- 5: Op.fieldAddr 37 (Operand.tmp 5) 0
                refine step_guard [(4, some 38)] (fun _ => rfl) 4 38 false rfl rfl ?_ ?_
                · intro w1 vals hC1 hi0 hf hy E hE
                  dsimp only at hE ⊢
                  clear hi0
                  have f4 : vals 4 = .bool false := hf 4 rfl
                  try dsimp only at f4
                  clear hf
                  clear hy
                  simp only [puts, act_put, act_put_none, List.setIfInBounds_toArray, List.set_cons_zero, List.set_cons_succ, f4] at hE ⊢
                  clear f4
                  go_wp2
                  exact .mk (hE _ _ rfl hC1 rfl)
                · intro w1 vals hC1 hi0 hf hy
                  clear hi0
                  have f4 : vals 4 = .bool false := hf 4 rfl
                  try dsimp only at f4
                  clear hf
                  exact absurd (by simp only [puts, act_put, act_put_none, List.setIfInBounds_toArray, List.set_cons_zero, List.set_cons_succ, f4]; rfl) hy
              · -- 6: Op.load 9 (Operand.tmp 39)
                refine step_guard [(5, some 39), (4, some 38)] (fun _ => rfl) 4 38 false rfl rfl ?_ ?_
                · intro w1 vals hC1 hi0 hf hy E hE
                  dsimp only at hE ⊢
                  clear hi0
                  have f4 : vals 4 = .bool false := hf 4 rfl
                  have f5 : vals 5 = .pointer (some ⟨wr.heap.size, 0, none⟩) := hf 5 rfl
                  try dsimp only at f4 f5
                  clear hf
                  clear hy
                  simp only [puts, act_put, act_put_none, List.setIfInBounds_toArray, List.set_cons_zero, List.set_cons_succ, f4, f5] at hE ⊢
                  clear f4 f5
                  have d0 := (HK5.out.below hC1 HK5.out.lt).cell 0
                  simp only [kCell, List.getElem?_toArray, List.getElem?_cons_zero, List.getElem?_cons_succ] at d0
                  go_wp2
                  exact .mk (hE _ _ rfl hC1 rfl)
                · intro w1 vals hC1 hi0 hf hy
                  clear hi0
                  have f4 : vals 4 = .bool false := hf 4 rfl
                  have f5 : vals 5 = .pointer (some ⟨wr.heap.size, 0, none⟩) := hf 5 rfl
                  try dsimp only at f4 f5
                  clear hf
                  exact absurd (by simp only [puts, act_put, act_put_none, List.setIfInBounds_toArray, List.set_cons_zero, List.set_cons_succ, f4]; rfl) hy
              · -- 7: Op.fieldAddr 37 (Operand.tmp 5) 1
                refine step_guard [(4, some 38)] (fun _ => rfl) 4 38 false rfl rfl ?_ ?_
                · intro w1 vals hC1 hi0 hf hy E hE
                  dsimp only at hE ⊢
                  clear hi0
                  have f4 : vals 4 = .bool false := hf 4 rfl
                  try dsimp only at f4
                  clear hf
                  clear hy
                  simp only [puts, act_put, act_put_none, List.setIfInBounds_toArray, List.set_cons_zero, List.set_cons_succ, f4] at hE ⊢
                  clear f4
                  go_wp2
                  exact .mk (hE _ _ rfl hC1 rfl)
                · intro w1 vals hC1 hi0 hf hy
                  clear hi0
                  have f4 : vals 4 = .bool false := hf 4 rfl
                  try dsimp only at f4
                  clear hf
                  exact absurd (by simp only [puts, act_put, act_put_none, List.setIfInBounds_toArray, List.set_cons_zero, List.set_cons_succ, f4]; rfl) hy
              · -- 8: Op.load 9 (Operand.tmp 41)
                refine step_guard [(7, some 41), (4, some 38)] (fun _ => rfl) 4 38 false rfl rfl ?_ ?_
                · intro w1 vals hC1 hi0 hf hy E hE
                  dsimp only at hE ⊢
                  clear hi0
                  have f4 : vals 4 = .bool false := hf 4 rfl
                  have f7 : vals 7 = .pointer (some ⟨wr.heap.size, 1, none⟩) := hf 7 rfl
                  try dsimp only at f4 f7
                  clear hf
                  clear hy
                  simp only [puts, act_put, act_put_none, List.setIfInBounds_toArray, List.set_cons_zero, List.set_cons_succ, f4, f7] at hE ⊢
                  clear f4 f7
                  have d0 := (HK5.out.below hC1 HK5.out.lt).cell 1
                  simp only [kCell, List.getElem?_toArray, List.getElem?_cons_zero, List.getElem?_cons_succ] at d0
                  go_wp2
                  exact .mk (hE _ _ rfl hC1 rfl)
                · intro w1 vals hC1 hi0 hf hy
                  clear hi0
                  have f4 : vals 4 = .bool false := hf 4 rfl
                  have f7 : vals 7 = .pointer (some ⟨wr.heap.size, 1, none⟩) := hf 7 rfl
                  try dsimp only at f4 f7
                  clear hf
                  exact absurd (by simp only [puts, act_put, act_put_none, List.setIfInBounds_toArray, List.set_cons_zero, List.set_cons_succ, f4]; rfl) hy
              · -- 9: Op.convert 9 22 (Operand.tmp 42)
                refine step_guard [(8, some 42), (4, some 38)] (fun _ => rfl) 4 38 false rfl rfl ?_ ?_
                · intro w1 vals hC1 hi0 hf hy E hE
                  dsimp only at hE ⊢
                  clear hi0
                  have f4 : vals 4 = .bool false := hf 4 rfl
                  have f8 : vals 8 = .string (bs X.2) := hf 8 rfl
                  try dsimp only at f4 f8
                  clear hf
                  clear hy
                  simp only [puts, act_put, act_put_none, List.setIfInBounds_toArray, List.set_cons_zero, List.set_cons_succ, f4, f8] at hE ⊢
                  clear f4 f8
                  refine wpList_bytes_cap (s := bs X.2) hus hub8 hu8 rfl rfl rfl (by rw [HS32.out]; decide) ?_
                  intro c7 w7 hr7 hc7 hm7 hb7
                  rw [HS32.out] at hc7 ⊢
                  go_wp2_with fail
                  exact .mk (hE _ _ ⟨_, c7, rfl, hr7, hc7, hm7⟩ (hC1.trans (hb7.mono hC1.size)) hb7)
                · intro w1 vals hC1 hi0 hf hy
                  clear hi0
                  have f4 : vals 4 = .bool false := hf 4 rfl
                  have f8 : vals 8 = .string (bs X.2) := hf 8 rfl
                  try dsimp only at f4 f8
                  clear hf
                  exact absurd (by simp only [puts, act_put, act_put_none, List.setIfInBounds_toArray, List.set_cons_zero, List.set_cons_succ, f4]; rfl) hy
              · -- 10: Op.call { callee := Callee.value (Operand.func 6), args := #[Operand.tmp 43], argTypes := #[22] }
                refine step_guard [(9, some 43), (4, some 38), (4, some 38)] (fun _ => rfl) 4 38 false rfl rfl ?_ ?_
                · intro w1 vals hC1 hi0 hf hy E hE
                  dsimp only at hE ⊢
                  clear hi0
                  have f4 : vals 4 = .bool false := hf 4 rfl
                  have f9 : (fun v u => ∃ A c, v = .slice A 32 c ∧ Rd u u.heap.size A (bytesV X.2) ∧ 32 ≤ c ∧ c ≤ 9223372036854775807) (vals 9) w1 := hf 9 rfl
                  try dsimp only at f4 f9
                  clear hf
                  clear hy
                  obtain ⟨A9, c9, hx9, hr9, hc9, hm9⟩ := f9
                  simp only [puts, act_put, act_put_none, List.setIfInBounds_toArray, List.set_cons_zero, List.set_cons_succ, f4, hx9] at hE ⊢
                  clear f4
                  clear hx9
                  go_wp2_with fail
                  refine calls_then (HNA.out A9 c9 _ hr9 hc9 hm9 (HGT.out _ hC1)) ?_
                  rintro e w2 ⟨rfl, hb2⟩
                  go_wp2_with fail
                  exact .mk (hE _ _ rfl (hC1.trans (hb2.mono hC1.size)) hb2)
                · intro w1 vals hC1 hi0 hf hy
                  clear hi0
                  have f4 : vals 4 = .bool false := hf 4 rfl
                  have f9 : (fun v u => ∃ A c, v = .slice A 32 c ∧ Rd u u.heap.size A (bytesV X.2) ∧ 32 ≤ c ∧ c ≤ 9223372036854775807) (vals 9) w1 := hf 9 rfl
                  try dsimp only at f4 f9
                  clear hf
                  exact absurd (by simp only [puts, act_put, act_put_none, List.setIfInBounds_toArray, List.set_cons_zero, List.set_cons_succ, f4]; rfl) hy
              · -- 11: Op.binOp BinOp.neq 9 (Operand.tmp 40) (Operand.tmp 44) 9
                refine step_guard [(6, some 40), (10, some 44), (4, some 38)] (fun _ => rfl) 4 38 false rfl rfl ?_ ?_
                · intro w1 vals hC1 hi0 hf hy E hE
                  dsimp only at hE ⊢
                  clear hi0
                  have f4 : vals 4 = .bool false := hf 4 rfl
                  have f6 : vals 6 = .string (bs X.1) := hf 6 rfl
                  have f10 : vals 10 = .string (bs (nameL X.2)) := hf 10 rfl
                  try dsimp only at f4 f6 f10
                  clear hf
                  clear hy
                  simp only [puts, act_put, act_put_none, List.setIfInBounds_toArray, List.set_cons_zero, List.set_cons_succ, f4, f6, f10] at hE ⊢
                  clear f4 f6 f10
                  have hq := HQ.out
                  go_wp2
                  exact .mk (hE _ _ rfl hC1 rfl)
                · intro w1 vals hC1 hi0 hf hy
                  clear hi0
                  have f4 : vals 4 = .bool false := hf 4 rfl
                  have f6 : vals 6 = .string (bs X.1) := hf 6 rfl
                  have f10 : vals 10 = .string (bs (nameL X.2)) := hf 10 rfl
                  try dsimp only at f4 f6 f10
                  clear hf
                  exact absurd (by simp only [puts, act_put, act_put_none, List.setIfInBounds_toArray, List.set_cons_zero, List.set_cons_succ, f4]; rfl) hy
              · -- 12: Op.pick (Operand.tmp 38) (Operand.const (Value.bool true)) (Operand.tmp 45)
                refine step_plain [(4, some 38), (11, some 45)] (fun _ => rfl) rfl ?_
                intro w1 vals hC1 hi0 hf E hE
                clear hi0
                have f4 : vals 4 = .bool false := hf 4 rfl
                have f11 : vals 11 = .bool false := hf 11 rfl
                try dsimp only at f4 f11
                clear hf
                simp only [puts, act_put, act_put_none, List.setIfInBounds_toArray, List.set_cons_zero, List.set_cons_succ, f4, f11] at hE ⊢
                clear f4 f11
                go_wp2
                exact .mk (hE _ _ rfl hC1 rfl)
              · -- 13: Op.move (Operand.tmp 46)
                refine step_plain [(12, some 46), (10, some 44)] (fun _ => rfl) rfl ?_
                intro w1 vals hC1 hi0 hf E hE
                clear hi0
                have f10 : vals 10 = .string (bs (nameL X.2)) := hf 10 rfl
                have f12 : vals 12 = .bool false := hf 12 rfl
                try dsimp only at f10 f12
                clear hf
                simp only [puts, act_put, act_put_none, List.setIfInBounds_toArray, List.set_cons_zero, List.set_cons_succ, f10, f12] at hE ⊢
                clear f10 f12
                go_wp2
                exact .mk (hE _ _ rfl hC1 rfl)
              · -- 14: Op.move (Operand.tmp 3)
                refine step_guard [(13, some 47)] (fun _ => rfl) 13 47 false rfl rfl ?_ ?_
                · intro w1 vals hC1 hi0 hf hy E hE
                  dsimp only at hE ⊢
                  clear hi0
                  have f13 : vals 13 = .bool false := hf 13 rfl
                  try dsimp only at f13
                  clear hf
                  clear hy
                  simp only [puts, act_put, act_put_none, List.setIfInBounds_toArray, List.set_cons_zero, List.set_cons_succ, f13] at hE ⊢
                  clear f13
                  go_wp2
                  exact .mk (hE _ _ rfl hC1 rfl)
                · intro w1 vals hC1 hi0 hf hy
                  clear hi0
                  have f13 : vals 13 = .bool false := hf 13 rfl
                  try dsimp only at f13
                  clear hf
                  exact absurd (by simp only [puts, act_put, act_put_none, List.setIfInBounds_toArray, List.set_cons_zero, List.set_cons_succ, f13]; rfl) hy
              · -- 15: Op.fieldAddr 37 (Operand.tmp 5) 0
                refine step_guard [(13, some 47)] (fun _ => rfl) 13 47 false rfl rfl ?_ ?_
                · intro w1 vals hC1 hi0 hf hy E hE
                  dsimp only at hE ⊢
                  clear hi0
                  have f13 : vals 13 = .bool false := hf 13 rfl
                  try dsimp only at f13
                  clear hf
                  clear hy
                  simp only [puts, act_put, act_put_none, List.setIfInBounds_toArray, List.set_cons_zero, List.set_cons_succ, f13] at hE ⊢
                  clear f13
                  go_wp2
                  exact .mk (hE _ _ rfl hC1 rfl)
                · intro w1 vals hC1 hi0 hf hy
                  clear hi0
                  have f13 : vals 13 = .bool false := hf 13 rfl
                  try dsimp only at f13
                  clear hf
                  exact absurd (by simp only [puts, act_put, act_put_none, List.setIfInBounds_toArray, List.set_cons_zero, List.set_cons_succ, f13]; rfl) hy
              · -- 16: Op.load 9 (Operand.tmp 49)
                refine step_guard [(15, some 49), (13, some 47)] (fun _ => rfl) 13 47 false rfl rfl ?_ ?_
                · intro w1 vals hC1 hi0 hf hy E hE
                  dsimp only at hE ⊢
                  clear hi0
                  have f13 : vals 13 = .bool false := hf 13 rfl
                  have f15 : vals 15 = .pointer (some ⟨wr.heap.size, 0, none⟩) := hf 15 rfl
                  try dsimp only at f13 f15
                  clear hf
                  clear hy
                  simp only [puts, act_put, act_put_none, List.setIfInBounds_toArray, List.set_cons_zero, List.set_cons_succ, f13, f15] at hE ⊢
                  clear f13 f15
                  have d0 := (HK5.out.below hC1 HK5.out.lt).cell 0
                  simp only [kCell, List.getElem?_toArray, List.getElem?_cons_zero, List.getElem?_cons_succ] at d0
                  go_wp2
                  exact .mk (hE _ _ rfl hC1 rfl)
                · intro w1 vals hC1 hi0 hf hy
                  clear hi0
                  have f13 : vals 13 = .bool false := hf 13 rfl
                  have f15 : vals 15 = .pointer (some ⟨wr.heap.size, 0, none⟩) := hf 15 rfl
                  try dsimp only at f13 f15
                  clear hf
                  exact absurd (by simp only [puts, act_put, act_put_none, List.setIfInBounds_toArray, List.set_cons_zero, List.set_cons_succ, f13]; rfl) hy
              · -- 17: Op.lookup 64 (Operand.tmp 48) (Operand.tmp 50) false
                refine step_guard [(14, some 48), (16, some 50), (13, some 47)] (fun _ => rfl) 13 47 false rfl rfl ?_ ?_
                · intro w1 vals hC1 hi0 hf hy E hE
                  dsimp only at hE ⊢
                  clear hi0
                  have f13 : vals 13 = .bool false := hf 13 rfl
                  have f14 : vals 14 = .map (some g) := hf 14 rfl
                  have f16 : vals 16 = .string (bs X.1) := hf 16 rfl
                  try dsimp only at f13 f14 f16
                  clear hf
                  clear hy
                  simp only [puts, act_put, act_put_none, List.setIfInBounds_toArray, List.set_cons_zero, List.set_cons_succ, f13, f14, f16] at hE ⊢
                  clear f13 f14 f16
                  have hlk := HLK.out _ hC1
                  go_wp2
                  exact .mk (hE _ _ rfl hC1 rfl)
                · intro w1 vals hC1 hi0 hf hy
                  clear hi0
                  have f13 : vals 13 = .bool false := hf 13 rfl
                  have f14 : vals 14 = .map (some g) := hf 14 rfl
                  have f16 : vals 16 = .string (bs X.1) := hf 16 rfl
                  try dsimp only at f13 f14 f16
                  clear hf
                  exact absurd (by simp only [puts, act_put, act_put_none, List.setIfInBounds_toArray, List.set_cons_zero, List.set_cons_succ, f13]; rfl) hy
              · -- 18: Op.binOp BinOp.gtr 3 (Operand.tmp 51) (Operand.const (Value.int IntKind.i64 0)) 3
                refine step_guard [(17, some 51), (13, some 47)] (fun _ => rfl) 13 47 false rfl rfl ?_ ?_
                · intro w1 vals hC1 hi0 hf hy E hE
                  dsimp only at hE ⊢
                  clear hi0
                  have f13 : vals 13 = .bool false := hf 13 rfl
                  have f17 : vals 17 = .int .i64 m := hf 17 rfl
                  try dsimp only at f13 f17
                  clear hf
                  clear hy
                  simp only [puts, act_put, act_put_none, List.setIfInBounds_toArray, List.set_cons_zero, List.set_cons_succ, f13, f17] at hE ⊢
                  clear f13 f17
                  go_wp2
                  exact .mk (hE _ _ rfl hC1 rfl)
                · intro w1 vals hC1 hi0 hf hy
                  clear hi0
                  have f13 : vals 13 = .bool false := hf 13 rfl
                  have f17 : vals 17 = .int .i64 m := hf 17 rfl
                  try dsimp only at f13 f17
                  clear hf
                  exact absurd (by simp only [puts, act_put, act_put_none, List.setIfInBounds_toArray, List.set_cons_zero, List.set_cons_succ, f13]; rfl) hy
              · -- 19: Op.pick (Operand.tmp 47) (Operand.const (Value.bool true)) (Operand.tmp 52)
                refine step_plain [(13, some 47), (18, some 52)] (fun _ => rfl) rfl ?_
                intro w1 vals hC1 hi0 hf E hE
                clear hi0
                have f13 : vals 13 = .bool false := hf 13 rfl
                have f18 : vals 18 = .bool (decide (0 < m)) := hf 18 rfl
                try dsimp only at f13 f18
                clear hf
                simp only [puts, act_put, act_put_none, List.setIfInBounds_toArray, List.set_cons_zero, List.set_cons_succ, f13, f18] at hE ⊢
                clear f13 f18
                go_wp2
                exact .mk (hE _ _ rfl hC1 rfl)
            intro w1 vals hC1 hf
            have f0 : vals 0 = .pointer (some ⟨wr.heap.size, 1, none⟩) := hf 0 (by decide) rfl
            have f1 : vals 1 = .string (bs X.2) := hf 1 (by decide) rfl
            have f2 : vals 2 = .int .i64 32 := hf 2 (by decide) rfl
            have f3 : vals 3 = .bool false := hf 3 (by decide) rfl
            have f4 : vals 4 = .bool false := hf 4 (by decide) rfl
            have f5 : vals 5 = .pointer (some ⟨wr.heap.size, 0, none⟩) := hf 5 (by decide) rfl
            have f6 : vals 6 = .string (bs X.1) := hf 6 (by decide) rfl
            have f7 : vals 7 = .pointer (some ⟨wr.heap.size, 1, none⟩) := hf 7 (by decide) rfl
            have f8 : vals 8 = .string (bs X.2) := hf 8 (by decide) rfl
            have f9 : (fun v u => ∃ A c, v = .slice A 32 c ∧ Rd u u.heap.size A (bytesV X.2) ∧ 32 ≤ c ∧ c ≤ 9223372036854775807) (vals 9) w1 := hf 9 (by decide) rfl
            have f10 : vals 10 = .string (bs (nameL X.2)) := hf 10 (by decide) rfl
            have f11 : vals 11 = .bool false := hf 11 (by decide) rfl
            have f12 : vals 12 = .bool false := hf 12 (by decide) rfl
            have f13 : vals 13 = .bool false := hf 13 (by decide) rfl
            have f14 : vals 14 = .map (some g) := hf 14 (by decide) rfl
            have f15 : vals 15 = .pointer (some ⟨wr.heap.size, 0, none⟩) := hf 15 (by decide) rfl
            have f16 : vals 16 = .string (bs X.1) := hf 16 (by decide) rfl
            have f17 : vals 17 = .int .i64 m := hf 17 (by decide) rfl
            have f18 : vals 18 = .bool (decide (0 < m)) := hf 18 (by decide) rfl
            have f19 : vals 19 = .bool (decide (0 < m)) := hf 19 (by decide) rfl
            try dsimp only at f0 f1 f2 f3 f4 f5 f6 f7 f8 f9 f10 f11 f12 f13 f14 f15 f16 f17 f18 f19
            clear hf
            simp only [puts, act_put, act_put_none, List.setIfInBounds_toArray, List.set_cons_zero, List.set_cons_succ, f0, f1, f2, f3, f4, f5, f6, f7, f8, f10, f11, f12, f13, f14, f15, f16, f17, f18, f19]
            clear f0 f1 f2 f3 f4 f5 f6 f7 f8 f10 f11 f12 f13 f14 f15 f16 f17 f18 f19
            generalize vals 9 = x9 at *
            have HB6 := Lib.hid (HB5.out.trans (hC1.mono HB5.out.size))
            have HC6 := Lib.hid hC1
            have hM6 := mapS_below HM5.out hC1
            have a0 : w1.cell? ⟨wr.heap.size, 0, none⟩ = some (.string (bs X.1)) := (HK5.out.below hC1 HK5.out.lt).cell 0
            have hlk := HLK.out _ hC1
            clear hC1 HC0
            rcases HMM.out with ⟨rfl, hx⟩ | ⟨rfl, hx⟩
            · obtain ⟨hto2, htk⟩ := HYK.out H32.out HKN.out hx
              have HTO2 := Lib.hid hto2
              have HTK := Lib.hid htk
              obtain ⟨w6, hr6, hm6, hg6⟩ := run_insertS (P := Tryd.prog) (v := .int .i64 1) Tryd.underlying64 hus hM6 (mapE_no hx)
              have HM6 := Lib.hid hm6
              have HG6 := Lib.hid hg6
              clear hto2 htk hx hM6 hm6 hg6
              go_wp2_with fail
              go_roundw
              case rel => exact ⟨i + 1, HLT.out, by go_num, HTO2.out, HB6.out.grown HG6.out (by have := HB6.out.size; omega) (fun k hk => by injection hk with hk; have := HGE.out; omega), by rw [HTK.out, mapE_push]; exact HM6.out⟩
              case measure => have := HLT.out; simp [intOf]; omega
            · have HNO := Lib.hid (HNK.out fun _ _ => hx)
              clear hx hM6
              go_wp2_with fail
              go_ret
              exact ⟨by rw [HRR.out, HNO.out]; rfl, HB6.out⟩
          · have HQ := Lib.hid (show ((bs X.1).toList == (bs (nameL X.2)).toList) = false by rw [bs_toList, bs_toList]; simpa using hkn)
            have HNO := Lib.hid (HNK.out fun _ h => absurd h hkn)
            clear hkn
            refine wp_region_list (fun u => Below w5.heap.size w5 u) (fun | false => (fun _ => True) | true => (fun _ => True)) (fun | false, _ => false | true, _ => false)
              [fun z _ => z 0 = .pointer (some ⟨wr.heap.size, 1, none⟩),
               fun z _ => z 1 = .string (bs X.2),
               fun z _ => z 2 = .int .i64 32,
               fun z _ => z 3 = .bool false,
               fun z _ => z 4 = .bool false,
               fun z _ => z 5 = .pointer (some ⟨wr.heap.size, 0, none⟩),
               fun z _ => z 6 = .string (bs X.1),
               fun z _ => z 7 = .pointer (some ⟨wr.heap.size, 1, none⟩),
               fun z _ => z 8 = .string (bs X.2),
               fun z u => (fun v u => ∃ A c, v = .slice A 32 c ∧ Rd u u.heap.size A (bytesV X.2) ∧ 32 ≤ c ∧ c ≤ 9223372036854775807) (z 9) u,
               fun z _ => z 10 = .string (bs (nameL X.2)),
               fun z _ => z 11 = .bool true,
               fun z _ => z 12 = .bool true,
               fun z _ => z 13 = .bool true,
               fun _ _ => True,
               fun _ _ => True,
               fun _ _ => True,
               fun _ _ => True,
               fun _ _ => True,
               fun z _ => z 19 = .bool true]
              [Eq, Eq, Eq, Eq, Eq, Eq, Eq, Eq, Eq, fun u u' => Below u.heap.size u u', fun u u' => Below u.heap.size u u', Eq, Eq, Eq, Eq, Eq, Eq, Eq, Eq, Eq]
              (fun _ _ => false) [(0, some 34), (1, some 35), (2, some 36), (3, some 37), (4, some 38), (5, some 39), (6, some 40), (7, some 41), (8, some 42), (9, some 43), (10, some 44), (11, some 45), (12, some 46), (13, some 47), (14, some 48), (15, some 49), (16, some 50), (17, some 51), (18, some 52), (19, some 53)] (by kernel_rfl) (by kernel_rfl) rfl (fun _ => rfl) ?_ ?_ ?_ ?_ ?_ ?_
            · exact HC0
            · intro m; cases m; exact trivial; exact trivial
            · intro m; cases m
              · exact ⟨.inr (fun _ _ h h0 => h ▸ h0), .inr (fun _ _ h h0 => h ▸ h0), .inr (fun _ _ h h0 => h ▸ h0), .inr (fun _ _ h h0 => h ▸ h0), .inr (fun _ _ h h0 => h ▸ h0), .inr (fun _ _ h h0 => h ▸ h0), .inr (fun _ _ h h0 => h ▸ h0), .inr (fun _ _ h h0 => h ▸ h0), .inr (fun _ _ h h0 => h ▸ h0), .inr (fun _ _ _ h => h), .inr (fun _ _ _ h => h), .inr (fun _ _ h h0 => h ▸ h0), .inr (fun _ _ h h0 => h ▸ h0), .inr (fun _ _ h h0 => h ▸ h0), .inr (fun _ _ h h0 => h ▸ h0), .inr (fun _ _ h h0 => h ▸ h0), .inr (fun _ _ h h0 => h ▸ h0), .inr (fun _ _ h h0 => h ▸ h0), .inr (fun _ _ h h0 => h ▸ h0), .inr (fun _ _ h h0 => h ▸ h0), trivial⟩
              · exact ⟨.inr (fun _ _ h h0 => h ▸ h0), .inr (fun _ _ h h0 => h ▸ h0), .inr (fun _ _ h h0 => h ▸ h0), .inr (fun _ _ h h0 => h ▸ h0), .inr (fun _ _ h h0 => h ▸ h0), .inr (fun _ _ h h0 => h ▸ h0), .inr (fun _ _ h h0 => h ▸ h0), .inr (fun _ _ h h0 => h ▸ h0), .inr (fun _ _ h h0 => h ▸ h0), .inr (fun _ _ _ h => h), .inr (fun _ _ _ h => h), .inr (fun _ _ h h0 => h ▸ h0), .inr (fun _ _ h h0 => h ▸ h0), .inr (fun _ _ h h0 => h ▸ h0), .inr (fun _ _ h h0 => h ▸ h0), .inr (fun _ _ h h0 => h ▸ h0), .inr (fun _ _ h h0 => h ▸ h0), .inr (fun _ _ h h0 => h ▸ h0), .inr (fun _ _ h h0 => h ▸ h0), .inr (fun _ _ h h0 => h ▸ h0), trivial⟩
            · exact ⟨⟨.inl rfl, .inr (.inr (.inl rfl)), .inr (.inr (.inl rfl)), .inr (.inr (.inl rfl)), .inr (.inr (.inr (fun _ _ _ _ _ h => h))), .inr (.inr (.inr (fun _ _ _ _ _ h => h))), .inr (.inr (.inr (fun _ _ _ _ _ h => h))), .inr (.inr (.inr (fun _ _ _ _ _ h => h))), .inr (.inr (.inr (fun _ _ _ _ _ h => h))), .inr (.inr (.inr (fun _ _ _ _ h h0 => by cases h; exact h0))), .inr (.inr (.inr (fun _ _ _ _ _ h => h))), .inr (.inr (.inr (fun _ _ _ _ _ h => h))), .inr (.inr (.inr (fun _ _ _ _ _ h => h))), .inr (.inr (.inr (fun _ _ _ _ _ h => h))), .inr (.inr (.inr (fun _ _ _ _ _ _ => trivial))), .inr (.inr (.inr (fun _ _ _ _ _ _ => trivial))), .inr (.inr (.inr (fun _ _ _ _ _ _ => trivial))), .inr (.inr (.inr (fun _ _ _ _ _ _ => trivial))), .inr (.inr (.inr (fun _ _ _ _ _ _ => trivial))), .inr (.inr (.inr (fun _ _ _ _ _ h => h))), trivial⟩,
                ⟨.inr (.inr (.inr (fun _ _ _ _ _ h => h))), .inl rfl, .inr (.inr (.inl rfl)), .inr (.inr (.inl rfl)), .inr (.inr (.inl rfl)), .inr (.inr (.inr (fun _ _ _ _ _ h => h))), .inr (.inr (.inr (fun _ _ _ _ _ h => h))), .inr (.inr (.inr (fun _ _ _ _ _ h => h))), .inr (.inr (.inr (fun _ _ _ _ _ h => h))), .inr (.inr (.inr (fun _ _ _ _ h h0 => by cases h; exact h0))), .inr (.inr (.inr (fun _ _ _ _ _ h => h))), .inr (.inr (.inr (fun _ _ _ _ _ h => h))), .inr (.inr (.inr (fun _ _ _ _ _ h => h))), .inr (.inr (.inr (fun _ _ _ _ _ h => h))), .inr (.inr (.inr (fun _ _ _ _ _ _ => trivial))), .inr (.inr (.inr (fun _ _ _ _ _ _ => trivial))), .inr (.inr (.inr (fun _ _ _ _ _ _ => trivial))), .inr (.inr (.inr (fun _ _ _ _ _ _ => trivial))), .inr (.inr (.inr (fun _ _ _ _ _ _ => trivial))), .inr (.inr (.inr (fun _ _ _ _ _ h => h))), trivial⟩,
                ⟨.inr (.inr (.inr (fun _ _ _ _ _ h => h))), .inr (.inr (.inr (fun _ _ _ _ _ h => h))), .inl rfl, .inr (.inr (.inl rfl)), .inr (.inr (.inl rfl)), .inr (.inr (.inl rfl)), .inr (.inr (.inl rfl)), .inr (.inr (.inl rfl)), .inr (.inr (.inl rfl)), .inr (.inr (.inl rfl)), .inr (.inr (.inl rfl)), .inr (.inr (.inl rfl)), .inr (.inr (.inl rfl)), .inr (.inr (.inr (fun _ _ _ _ _ h => h))), .inr (.inr (.inr (fun _ _ _ _ _ _ => trivial))), .inr (.inr (.inr (fun _ _ _ _ _ _ => trivial))), .inr (.inr (.inr (fun _ _ _ _ _ _ => trivial))), .inr (.inr (.inr (fun _ _ _ _ _ _ => trivial))), .inr (.inr (.inr (fun _ _ _ _ _ _ => trivial))), .inr (.inr (.inr (fun _ _ _ _ _ h => h))), trivial⟩,
                ⟨.inr (.inr (.inr (fun _ _ _ _ _ h => h))), .inr (.inr (.inr (fun _ _ _ _ _ h => h))), .inr (.inr (.inr (fun _ _ _ _ _ h => h))), .inl rfl, .inr (.inr (.inl rfl)), .inr (.inr (.inl rfl)), .inr (.inr (.inl rfl)), .inr (.inr (.inl rfl)), .inr (.inr (.inl rfl)), .inr (.inr (.inl rfl)), .inr (.inr (.inl rfl)), .inr (.inr (.inl rfl)), .inr (.inr (.inl rfl)), .inr (.inr (.inl rfl)), .inr (.inr (.inr (fun _ _ _ _ _ _ => trivial))), .inr (.inr (.inr (fun _ _ _ _ _ _ => trivial))), .inr (.inr (.inr (fun _ _ _ _ _ _ => trivial))), .inr (.inr (.inr (fun _ _ _ _ _ _ => trivial))), .inr (.inr (.inr (fun _ _ _ _ _ _ => trivial))), .inr (.inr (.inr (fun _ _ _ _ _ h => h))), trivial⟩,
                ⟨.inr (.inr (.inr (fun _ _ _ _ _ h => h))), .inr (.inr (.inr (fun _ _ _ _ _ h => h))), .inr (.inr (.inr (fun _ _ _ _ _ h => h))), .inr (.inr (.inr (fun _ _ _ _ _ h => h))), .inl rfl, .inr (.inr (.inl rfl)), .inr (.inr (.inl rfl)), .inr (.inr (.inl rfl)), .inr (.inr (.inl rfl)), .inr (.inr (.inl rfl)), .inr (.inr (.inl rfl)), .inr (.inr (.inl rfl)), .inr (.inr (.inl rfl)), .inr (.inr (.inl rfl)), .inr (.inr (.inl rfl)), .inr (.inr (.inl rfl)), .inr (.inr (.inl rfl)), .inr (.inr (.inl rfl)), .inr (.inr (.inl rfl)), .inr (.inr (.inl rfl)), trivial⟩,
                ⟨.inr (.inr (.inr (fun _ _ _ _ _ h => h))), .inr (.inr (.inr (fun _ _ _ _ _ h => h))), .inr (.inr (.inr (fun _ _ _ _ _ h => h))), .inr (.inr (.inr (fun _ _ _ _ _ h => h))), .inr (.inr (.inr (fun _ _ _ _ _ h => h))), .inl rfl, .inr (.inr (.inl rfl)), .inr (.inr (.inr (fun _ _ _ _ _ h => h))), .inr (.inr (.inr (fun _ _ _ _ _ h => h))), .inr (.inr (.inr (fun _ _ _ _ h h0 => by cases h; exact h0))), .inr (.inr (.inr (fun _ _ _ _ _ h => h))), .inr (.inr (.inl rfl)), .inr (.inr (.inl rfl)), .inr (.inr (.inr (fun _ _ _ _ _ h => h))), .inr (.inr (.inr (fun _ _ _ _ _ _ => trivial))), .inr (.inr (.inr (fun _ _ _ _ _ _ => trivial))), .inr (.inr (.inr (fun _ _ _ _ _ _ => trivial))), .inr (.inr (.inr (fun _ _ _ _ _ _ => trivial))), .inr (.inr (.inr (fun _ _ _ _ _ _ => trivial))), .inr (.inr (.inr (fun _ _ _ _ _ h => h))), trivial⟩,
                ⟨.inr (.inr (.inr (fun _ _ _ _ _ h => h))), .inr (.inr (.inr (fun _ _ _ _ _ h => h))), .inr (.inr (.inr (fun _ _ _ _ _ h => h))), .inr (.inr (.inr (fun _ _ _ _ _ h => h))), .inr (.inr (.inr (fun _ _ _ _ _ h => h))), .inr (.inr (.inr (fun _ _ _ _ _ h => h))), .inl rfl, .inr (.inr (.inr (fun _ _ _ _ _ h => h))), .inr (.inr (.inr (fun _ _ _ _ _ h => h))), .inr (.inr (.inr (fun _ _ _ _ h h0 => by cases h; exact h0))), .inr (.inr (.inr (fun _ _ _ _ _ h => h))), .inr (.inr (.inl rfl)), .inr (.inr (.inl rfl)), .inr (.inr (.inl rfl)), .inr (.inr (.inr (fun _ _ _ _ _ _ => trivial))), .inr (.inr (.inr (fun _ _ _ _ _ _ => trivial))), .inr (.inr (.inr (fun _ _ _ _ _ _ => trivial))), .inr (.inr (.inr (fun _ _ _ _ _ _ => trivial))), .inr (.inr (.inr (fun _ _ _ _ _ _ => trivial))), .inr (.inr (.inr (fun _ _ _ _ _ h => h))), trivial⟩,
                ⟨.inr (.inr (.inr (fun _ _ _ _ _ h => h))), .inr (.inr (.inr (fun _ _ _ _ _ h => h))), .inr (.inr (.inr (fun _ _ _ _ _ h => h))), .inr (.inr (.inr (fun _ _ _ _ _ h => h))), .inr (.inr (.inr (fun _ _ _ _ _ h => h))), .inr (.inr (.inr (fun _ _ _ _ _ h => h))), .inr (.inr (.inr (fun _ _ _ _ _ h => h))), .inl rfl, .inr (.inr (.inl rfl)), .inr (.inr (.inl rfl)), .inr (.inr (.inl rfl)), .inr (.inr (.inr (fun _ _ _ _ _ h => h))), .inr (.inr (.inr (fun _ _ _ _ _ h => h))), .inr (.inr (.inr (fun _ _ _ _ _ h => h))), .inr (.inr (.inr (fun _ _ _ _ _ _ => trivial))), .inr (.inr (.inr (fun _ _ _ _ _ _ => trivial))), .inr (.inr (.inr (fun _ _ _ _ _ _ => trivial))), .inr (.inr (.inr (fun _ _ _ _ _ _ => trivial))), .inr (.inr (.inr (fun _ _ _ _ _ _ => trivial))), .inr (.inr (.inr (fun _ _ _ _ _ h => h))), trivial⟩,
                ⟨.inr (.inr (.inr (fun _ _ _ _ _ h => h))), .inr (.inr (.inr (fun _ _ _ _ _ h => h))), .inr (.inr (.inr (fun _ _ _ _ _ h => h))), .inr (.inr (.inr (fun _ _ _ _ _ h => h))), .inr (.inr (.inr (fun _ _ _ _ _ h => h))), .inr (.inr (.inr (fun _ _ _ _ _ h => h))), .inr (.inr (.inr (fun _ _ _ _ _ h => h))), .inr (.inr (.inr (fun _ _ _ _ _ h => h))), .inl rfl, .inr (.inr (.inl rfl)), .inr (.inr (.inl rfl)), .inr (.inr (.inl rfl)), .inr (.inr (.inr (fun _ _ _ _ _ h => h))), .inr (.inr (.inl rfl)), .inr (.inr (.inr (fun _ _ _ _ _ _ => trivial))), .inr (.inr (.inr (fun _ _ _ _ _ _ => trivial))), .inr (.inr (.inr (fun _ _ _ _ _ _ => trivial))), .inr (.inr (.inr (fun _ _ _ _ _ _ => trivial))), .inr (.inr (.inr (fun _ _ _ _ _ _ => trivial))), .inr (.inr (.inr (fun _ _ _ _ _ h => h))), trivial⟩,
                ⟨.inr (.inr (.inr (fun _ _ _ _ _ h => h))), .inr (.inr (.inr (fun _ _ _ _ _ h => h))), .inr (.inr (.inr (fun _ _ _ _ _ h => h))), .inr (.inr (.inr (fun _ _ _ _ _ h => h))), .inr (.inr (.inr (fun _ _ _ _ _ h => h))), .inr (.inr (.inr (fun _ _ _ _ _ h => h))), .inr (.inr (.inr (fun _ _ _ _ _ h => h))), .inr (.inr (.inr (fun _ _ _ _ _ h => h))), .inr (.inr (.inr (fun _ _ _ _ _ h => h))), .inl rfl, .inr (.inr (.inl rfl)), .inr (.inr (.inl rfl)), .inr (.inr (.inl rfl)), .inr (.inr (.inl rfl)), .inr (.inr (.inl rfl)), .inr (.inr (.inl rfl)), .inr (.inr (.inl rfl)), .inr (.inr (.inl rfl)), .inr (.inr (.inl rfl)), .inr (.inr (.inl rfl)), trivial⟩,
                ⟨.inr (.inr (.inr (fun _ _ _ _ _ h => h))), .inr (.inr (.inr (fun _ _ _ _ _ h => h))), .inr (.inr (.inr (fun _ _ _ _ _ h => h))), .inr (.inr (.inr (fun _ _ _ _ _ h => h))), .inr (.inr (.inr (fun _ _ _ _ _ h => h))), .inr (.inr (.inr (fun _ _ _ _ _ h => h))), .inr (.inr (.inr (fun _ _ _ _ _ h => h))), .inr (.inr (.inr (fun _ _ _ _ _ h => h))), .inr (.inr (.inr (fun _ _ _ _ _ h => h))), .inr (.inr (.inr (fun _ _ _ _ h h0 => by obtain ⟨A0, c0, h1, h2, h3⟩ := h0; exact ⟨A0, c0, h1, (h2.below h).mono h.size, h3⟩))), .inl rfl, .inr (.inr (.inl rfl)), .inr (.inr (.inl rfl)), .inr (.inr (.inl rfl)), .inr (.inr (.inl rfl)), .inr (.inr (.inl rfl)), .inr (.inr (.inl rfl)), .inr (.inr (.inl rfl)), .inr (.inr (.inl rfl)), .inr (.inr (.inl rfl)), trivial⟩,
                ⟨.inr (.inr (.inr (fun _ _ _ _ _ h => h))), .inr (.inr (.inr (fun _ _ _ _ _ h => h))), .inr (.inr (.inr (fun _ _ _ _ _ h => h))), .inr (.inr (.inr (fun _ _ _ _ _ h => h))), .inr (.inr (.inr (fun _ _ _ _ _ h => h))), .inr (.inr (.inr (fun _ _ _ _ _ h => h))), .inr (.inr (.inr (fun _ _ _ _ _ h => h))), .inr (.inr (.inr (fun _ _ _ _ _ h => h))), .inr (.inr (.inr (fun _ _ _ _ _ h => h))), .inr (.inr (.inr (fun _ _ _ _ h h0 => by cases h; exact h0))), .inr (.inr (.inr (fun _ _ _ _ _ h => h))), .inl rfl, .inr (.inr (.inl rfl)), .inr (.inr (.inl rfl)), .inr (.inr (.inl rfl)), .inr (.inr (.inl rfl)), .inr (.inr (.inl rfl)), .inr (.inr (.inl rfl)), .inr (.inr (.inl rfl)), .inr (.inr (.inl rfl)), trivial⟩,
                ⟨.inr (.inr (.inr (fun _ _ _ _ _ h => h))), .inr (.inr (.inr (fun _ _ _ _ _ h => h))), .inr (.inr (.inr (fun _ _ _ _ _ h => h))), .inr (.inr (.inr (fun _ _ _ _ _ h => h))), .inr (.inr (.inr (fun _ _ _ _ _ h => h))), .inr (.inr (.inr (fun _ _ _ _ _ h => h))), .inr (.inr (.inr (fun _ _ _ _ _ h => h))), .inr (.inr (.inr (fun _ _ _ _ _ h => h))), .inr (.inr (.inr (fun _ _ _ _ _ h => h))), .inr (.inr (.inr (fun _ _ _ _ h h0 => by cases h; exact h0))), .inr (.inr (.inr (fun _ _ _ _ _ h => h))), .inr (.inr (.inr (fun _ _ _ _ _ h => h))), .inl rfl, .inr (.inr (.inl rfl)), .inr (.inr (.inl rfl)), .inr (.inr (.inl rfl)), .inr (.inr (.inl rfl)), .inr (.inr (.inl rfl)), .inr (.inr (.inl rfl)), .inr (.inr (.inl rfl)), trivial⟩,
                ⟨.inr (.inr (.inr (fun _ _ _ _ _ h => h))), .inr (.inr (.inr (fun _ _ _ _ _ h => h))), .inr (.inr (.inr (fun _ _ _ _ _ h => h))), .inr (.inr (.inr (fun _ _ _ _ _ h => h))), .inr (.inr (.inr (fun _ _ _ _ _ h => h))), .inr (.inr (.inr (fun _ _ _ _ _ h => h))), .inr (.inr (.inr (fun _ _ _ _ _ h => h))), .inr (.inr (.inr (fun _ _ _ _ _ h => h))), .inr (.inr (.inr (fun _ _ _ _ _ h => h))), .inr (.inr (.inr (fun _ _ _ _ h h0 => by cases h; exact h0))), .inr (.inr (.inr (fun _ _ _ _ _ h => h))), .inr (.inr (.inr (fun _ _ _ _ _ h => h))), .inr (.inr (.inr (fun _ _ _ _ _ h => h))), .inl rfl, .inr (.inr (.inl rfl)), .inr (.inr (.inl rfl)), .inr (.inr (.inl rfl)), .inr (.inr (.inl rfl)), .inr (.inr (.inl rfl)), .inr (.inr (.inl rfl)), trivial⟩,
                ⟨.inr (.inr (.inr (fun _ _ _ _ _ h => h))), .inr (.inr (.inr (fun _ _ _ _ _ h => h))), .inr (.inr (.inr (fun _ _ _ _ _ h => h))), .inr (.inr (.inr (fun _ _ _ _ _ h => h))), .inr (.inr (.inr (fun _ _ _ _ _ h => h))), .inr (.inr (.inr (fun _ _ _ _ _ h => h))), .inr (.inr (.inr (fun _ _ _ _ _ h => h))), .inr (.inr (.inr (fun _ _ _ _ _ h => h))), .inr (.inr (.inr (fun _ _ _ _ _ h => h))), .inr (.inr (.inr (fun _ _ _ _ h h0 => by cases h; exact h0))), .inr (.inr (.inr (fun _ _ _ _ _ h => h))), .inr (.inr (.inr (fun _ _ _ _ _ h => h))), .inr (.inr (.inr (fun _ _ _ _ _ h => h))), .inr (.inr (.inr (fun _ _ _ _ _ h => h))), .inl rfl, .inr (.inr (.inr (fun _ _ _ _ _ _ => trivial))), .inr (.inr (.inr (fun _ _ _ _ _ _ => trivial))), .inr (.inr (.inl rfl)), .inr (.inr (.inl rfl)), .inr (.inr (.inl rfl)), trivial⟩,
                ⟨.inr (.inr (.inr (fun _ _ _ _ _ h => h))), .inr (.inr (.inr (fun _ _ _ _ _ h => h))), .inr (.inr (.inr (fun _ _ _ _ _ h => h))), .inr (.inr (.inr (fun _ _ _ _ _ h => h))), .inr (.inr (.inr (fun _ _ _ _ _ h => h))), .inr (.inr (.inr (fun _ _ _ _ _ h => h))), .inr (.inr (.inr (fun _ _ _ _ _ h => h))), .inr (.inr (.inr (fun _ _ _ _ _ h => h))), .inr (.inr (.inr (fun _ _ _ _ _ h => h))), .inr (.inr (.inr (fun _ _ _ _ h h0 => by cases h; exact h0))), .inr (.inr (.inr (fun _ _ _ _ _ h => h))), .inr (.inr (.inr (fun _ _ _ _ _ h => h))), .inr (.inr (.inr (fun _ _ _ _ _ h => h))), .inr (.inr (.inr (fun _ _ _ _ _ h => h))), .inr (.inr (.inr (fun _ _ _ _ _ _ => trivial))), .inl rfl, .inr (.inr (.inl rfl)), .inr (.inr (.inl rfl)), .inr (.inr (.inl rfl)), .inr (.inr (.inr (fun _ _ _ _ _ h => h))), trivial⟩,
                ⟨.inr (.inr (.inr (fun _ _ _ _ _ h => h))), .inr (.inr (.inr (fun _ _ _ _ _ h => h))), .inr (.inr (.inr (fun _ _ _ _ _ h => h))), .inr (.inr (.inr (fun _ _ _ _ _ h => h))), .inr (.inr (.inr (fun _ _ _ _ _ h => h))), .inr (.inr (.inr (fun _ _ _ _ _ h => h))), .inr (.inr (.inr (fun _ _ _ _ _ h => h))), .inr (.inr (.inr (fun _ _ _ _ _ h => h))), .inr (.inr (.inr (fun _ _ _ _ _ h => h))), .inr (.inr (.inr (fun _ _ _ _ h h0 => by cases h; exact h0))), .inr (.inr (.inr (fun _ _ _ _ _ h => h))), .inr (.inr (.inr (fun _ _ _ _ _ h => h))), .inr (.inr (.inr (fun _ _ _ _ _ h => h))), .inr (.inr (.inr (fun _ _ _ _ _ h => h))), .inr (.inr (.inr (fun _ _ _ _ _ _ => trivial))), .inr (.inr (.inr (fun _ _ _ _ _ _ => trivial))), .inl rfl, .inr (.inr (.inl rfl)), .inr (.inr (.inl rfl)), .inr (.inr (.inl rfl)), trivial⟩,
                ⟨.inr (.inr (.inr (fun _ _ _ _ _ h => h))), .inr (.inr (.inr (fun _ _ _ _ _ h => h))), .inr (.inr (.inr (fun _ _ _ _ _ h => h))), .inr (.inr (.inr (fun _ _ _ _ _ h => h))), .inr (.inr (.inr (fun _ _ _ _ _ h => h))), .inr (.inr (.inr (fun _ _ _ _ _ h => h))), .inr (.inr (.inr (fun _ _ _ _ _ h => h))), .inr (.inr (.inr (fun _ _ _ _ _ h => h))), .inr (.inr (.inr (fun _ _ _ _ _ h => h))), .inr (.inr (.inr (fun _ _ _ _ h h0 => by cases h; exact h0))), .inr (.inr (.inr (fun _ _ _ _ _ h => h))), .inr (.inr (.inr (fun _ _ _ _ _ h => h))), .inr (.inr (.inr (fun _ _ _ _ _ h => h))), .inr (.inr (.inr (fun _ _ _ _ _ h => h))), .inr (.inr (.inr (fun _ _ _ _ _ _ => trivial))), .inr (.inr (.inr (fun _ _ _ _ _ _ => trivial))), .inr (.inr (.inr (fun _ _ _ _ _ _ => trivial))), .inl rfl, .inr (.inr (.inl rfl)), .inr (.inr (.inl rfl)), trivial⟩,
                ⟨.inr (.inr (.inr (fun _ _ _ _ _ h => h))), .inr (.inr (.inr (fun _ _ _ _ _ h => h))), .inr (.inr (.inr (fun _ _ _ _ _ h => h))), .inr (.inr (.inr (fun _ _ _ _ _ h => h))), .inr (.inr (.inr (fun _ _ _ _ _ h => h))), .inr (.inr (.inr (fun _ _ _ _ _ h => h))), .inr (.inr (.inr (fun _ _ _ _ _ h => h))), .inr (.inr (.inr (fun _ _ _ _ _ h => h))), .inr (.inr (.inr (fun _ _ _ _ _ h => h))), .inr (.inr (.inr (fun _ _ _ _ h h0 => by cases h; exact h0))), .inr (.inr (.inr (fun _ _ _ _ _ h => h))), .inr (.inr (.inr (fun _ _ _ _ _ h => h))), .inr (.inr (.inr (fun _ _ _ _ _ h => h))), .inr (.inr (.inr (fun _ _ _ _ _ h => h))), .inr (.inr (.inr (fun _ _ _ _ _ _ => trivial))), .inr (.inr (.inr (fun _ _ _ _ _ _ => trivial))), .inr (.inr (.inr (fun _ _ _ _ _ _ => trivial))), .inr (.inr (.inr (fun _ _ _ _ _ _ => trivial))), .inl rfl, .inr (.inr (.inl rfl)), trivial⟩,
                ⟨.inr (.inr (.inr (fun _ _ _ _ _ h => h))), .inr (.inr (.inr (fun _ _ _ _ _ h => h))), .inr (.inr (.inr (fun _ _ _ _ _ h => h))), .inr (.inr (.inr (fun _ _ _ _ _ h => h))), .inr (.inr (.inr (fun _ _ _ _ _ h => h))), .inr (.inr (.inr (fun _ _ _ _ _ h => h))), .inr (.inr (.inr (fun _ _ _ _ _ h => h))), .inr (.inr (.inr (fun _ _ _ _ _ h => h))), .inr (.inr (.inr (fun _ _ _ _ _ h => h))), .inr (.inr (.inr (fun _ _ _ _ h h0 => by cases h; exact h0))), .inr (.inr (.inr (fun _ _ _ _ _ h => h))), .inr (.inr (.inr (fun _ _ _ _ _ h => h))), .inr (.inr (.inr (fun _ _ _ _ _ h => h))), .inr (.inr (.inr (fun _ _ _ _ _ h => h))), .inr (.inr (.inr (fun _ _ _ _ _ _ => trivial))), .inr (.inr (.inr (fun _ _ _ _ _ _ => trivial))), .inr (.inr (.inr (fun _ _ _ _ _ _ => trivial))), .inr (.inr (.inr (fun _ _ _ _ _ _ => trivial))), .inr (.inr (.inr (fun _ _ _ _ _ _ => trivial))), .inl rfl, trivial⟩, trivial⟩
            · refine ⟨?_, ?_, ?_, ?_, ?_, ?_, ?_, ?_, ?_, ?_, ?_, ?_, ?_, ?_, ?_, ?_, ?_, ?_, ?_, ?_, trivial⟩
              · -- 0: Op.fieldAddr 37 (Operand.tmp 5) 1
                refine step_plain [] (fun _ => rfl) rfl ?_
                intro w1 vals hC1 hi0 hf E hE
                clear hi0
                clear hf
                simp only [puts, act_put, act_put_none, List.setIfInBounds_toArray, List.set_cons_zero, List.set_cons_succ] at hE ⊢
                go_wp2
                exact .mk (hE _ _ rfl hC1 rfl)
              · -- 1: Op.load 9 (Operand.tmp 34)
                refine step_plain [(0, some 34)] (fun _ => rfl) rfl ?_
                intro w1 vals hC1 hi0 hf E hE
                clear hi0
                have f0 : vals 0 = .pointer (some ⟨wr.heap.size, 1, none⟩) := hf 0 rfl
                try dsimp only at f0
                clear hf
                simp only [puts, act_put, act_put_none, List.setIfInBounds_toArray, List.set_cons_zero, List.set_cons_succ, f0] at hE ⊢
                clear f0
                have d0 := (HK5.out.below hC1 HK5.out.lt).cell 1
                simp only [kCell, List.getElem?_toArray, List.getElem?_cons_zero, List.getElem?_cons_succ] at d0
                go_wp2
                exact .mk (hE _ _ rfl hC1 rfl)
              · -- 2: Op.call { callee := Callee.builtin Builtin.len, args := #[Operand.tmp 35], argTypes := #[9] }
                refine step_plain [(1, some 35)] (fun _ => rfl) rfl ?_
                intro w1 vals hC1 hi0 hf E hE
                clear hi0
                have f1 : vals 1 = .string (bs X.2) := hf 1 rfl
                try dsimp only at f1
                clear hf
                simp only [puts, act_put, act_put_none, List.setIfInBounds_toArray, List.set_cons_zero, List.set_cons_succ, f1] at hE ⊢
                clear f1
                have hsz := HSZ.out
                go_wp2
                exact .mk (hE _ _ rfl hC1 rfl)
              · -- 3: Op.binOp BinOp.neq 3 (Operand.tmp 36) (Operand.const (Value.int IntKind.i64 32)) 3
                refine step_plain [(2, some 36)] (fun _ => rfl) rfl ?_
                intro w1 vals hC1 hi0 hf E hE
                clear hi0
                have f2 : vals 2 = .int .i64 32 := hf 2 rfl
                try dsimp only at f2
                clear hf
                simp only [puts, act_put, act_put_none, List.setIfInBounds_toArray, List.set_cons_zero, List.set_cons_succ, f2] at hE ⊢
                clear f2
                go_wp2
                exact .mk (hE _ _ rfl hC1 rfl)
              · -- 4: Op.move (Operand.tmp 37)
                refine step_plain [(3, some 37)] (fun _ => rfl) rfl ?_
                intro w1 vals hC1 hi0 hf E hE
                clear hi0
                have f3 : vals 3 = .bool false := hf 3 rfl
                try dsimp only at f3
                clear hf
                simp only [puts, act_put, act_put_none, List.setIfInBounds_toArray, List.set_cons_zero, List.set_cons_succ, f3] at hE ⊢
                clear f3
                go_wp2
                exact .mk (hE _ _ rfl hC1 rfl)
              · -- 5: Op.fieldAddr 37 (Operand.tmp 5) 0
                refine step_guard [(4, some 38)] (fun _ => rfl) 4 38 false rfl rfl ?_ ?_
                · intro w1 vals hC1 hi0 hf hy E hE
                  dsimp only at hE ⊢
                  clear hi0
                  have f4 : vals 4 = .bool false := hf 4 rfl
                  try dsimp only at f4
                  clear hf
                  clear hy
                  simp only [puts, act_put, act_put_none, List.setIfInBounds_toArray, List.set_cons_zero, List.set_cons_succ, f4] at hE ⊢
                  clear f4
                  go_wp2
                  exact .mk (hE _ _ rfl hC1 rfl)
                · intro w1 vals hC1 hi0 hf hy
                  clear hi0
                  have f4 : vals 4 = .bool false := hf 4 rfl
                  try dsimp only at f4
                  clear hf
                  exact absurd (by simp only [puts, act_put, act_put_none, List.setIfInBounds_toArray, List.set_cons_zero, List.set_cons_succ, f4]; rfl) hy
              · -- 6: Op.load 9 (Operand.tmp 39)
                refine step_guard [(5, some 39), (4, some 38)] (fun _ => rfl) 4 38 false rfl rfl ?_ ?_
                · intro w1 vals hC1 hi0 hf hy E hE
                  dsimp only at hE ⊢
                  clear hi0
                  have f4 : vals 4 = .bool false := hf 4 rfl
                  have f5 : vals 5 = .pointer (some ⟨wr.heap.size, 0, none⟩) := hf 5 rfl
                  try dsimp only at f4 f5
                  clear hf
                  clear hy
                  simp only [puts, act_put, act_put_none, List.setIfInBounds_toArray, List.set_cons_zero, List.set_cons_succ, f4, f5] at hE ⊢
                  clear f4 f5
                  have d0 := (HK5.out.below hC1 HK5.out.lt).cell 0
                  simp only [kCell, List.getElem?_toArray, List.getElem?_cons_zero, List.getElem?_cons_succ] at d0
                  go_wp2
                  exact .mk (hE _ _ rfl hC1 rfl)
                · intro w1 vals hC1 hi0 hf hy
                  clear hi0
                  have f4 : vals 4 = .bool false := hf 4 rfl
                  have f5 : vals 5 = .pointer (some ⟨wr.heap.size, 0, none⟩) := hf 5 rfl
                  try dsimp only at f4 f5
                  clear hf
                  exact absurd (by simp only [puts, act_put, act_put_none, List.setIfInBounds_toArray, List.set_cons_zero, List.set_cons_succ, f4]; rfl) hy
              · -- 7: Op.fieldAddr 37 (Operand.tmp 5) 1
                refine step_guard [(4, some 38)] (fun _ => rfl) 4 38 false rfl rfl ?_ ?_
                · intro w1 vals hC1 hi0 hf hy E hE
                  dsimp only at hE ⊢
                  clear hi0
                  have f4 : vals 4 = .bool false := hf 4 rfl
                  try dsimp only at f4
                  clear hf
                  clear hy
                  simp only [puts, act_put, act_put_none, List.setIfInBounds_toArray, List.set_cons_zero, List.set_cons_succ, f4] at hE ⊢
                  clear f4
                  go_wp2
                  exact .mk (hE _ _ rfl hC1 rfl)
                · intro w1 vals hC1 hi0 hf hy
                  clear hi0
                  have f4 : vals 4 = .bool false := hf 4 rfl
                  try dsimp only at f4
                  clear hf
                  exact absurd (by simp only [puts, act_put, act_put_none, List.setIfInBounds_toArray, List.set_cons_zero, List.set_cons_succ, f4]; rfl) hy
              · -- 8: Op.load 9 (Operand.tmp 41)
                refine step_guard [(7, some 41), (4, some 38)] (fun _ => rfl) 4 38 false rfl rfl ?_ ?_
                · intro w1 vals hC1 hi0 hf hy E hE
                  dsimp only at hE ⊢
                  clear hi0
                  have f4 : vals 4 = .bool false := hf 4 rfl
                  have f7 : vals 7 = .pointer (some ⟨wr.heap.size, 1, none⟩) := hf 7 rfl
                  try dsimp only at f4 f7
                  clear hf
                  clear hy
                  simp only [puts, act_put, act_put_none, List.setIfInBounds_toArray, List.set_cons_zero, List.set_cons_succ, f4, f7] at hE ⊢
                  clear f4 f7
                  have d0 := (HK5.out.below hC1 HK5.out.lt).cell 1
                  simp only [kCell, List.getElem?_toArray, List.getElem?_cons_zero, List.getElem?_cons_succ] at d0
                  go_wp2
                  exact .mk (hE _ _ rfl hC1 rfl)
                · intro w1 vals hC1 hi0 hf hy
                  clear hi0
                  have f4 : vals 4 = .bool false := hf 4 rfl
                  have f7 : vals 7 = .pointer (some ⟨wr.heap.size, 1, none⟩) := hf 7 rfl
                  try dsimp only at f4 f7
                  clear hf
                  exact absurd (by simp only [puts, act_put, act_put_none, List.setIfInBounds_toArray, List.set_cons_zero, List.set_cons_succ, f4]; rfl) hy
              · -- 9: Op.convert 9 22 (Operand.tmp 42)
                refine step_guard [(8, some 42), (4, some 38)] (fun _ => rfl) 4 38 false rfl rfl ?_ ?_
                · intro w1 vals hC1 hi0 hf hy E hE
                  dsimp only at hE ⊢
                  clear hi0
                  have f4 : vals 4 = .bool false := hf 4 rfl
                  have f8 : vals 8 = .string (bs X.2) := hf 8 rfl
                  try dsimp only at f4 f8
                  clear hf
                  clear hy
                  simp only [puts, act_put, act_put_none, List.setIfInBounds_toArray, List.set_cons_zero, List.set_cons_succ, f4, f8] at hE ⊢
                  clear f4 f8
                  refine wpList_bytes_cap (s := bs X.2) hus hub8 hu8 rfl rfl rfl (by rw [HS32.out]; decide) ?_
                  intro c7 w7 hr7 hc7 hm7 hb7
                  rw [HS32.out] at hc7 ⊢
                  go_wp2_with fail
                  exact .mk (hE _ _ ⟨_, c7, rfl, hr7, hc7, hm7⟩ (hC1.trans (hb7.mono hC1.size)) hb7)
                · intro w1 vals hC1 hi0 hf hy
                  clear hi0
                  have f4 : vals 4 = .bool false := hf 4 rfl
                  have f8 : vals 8 = .string (bs X.2) := hf 8 rfl
                  try dsimp only at f4 f8
                  clear hf
                  exact absurd (by simp only [puts, act_put, act_put_none, List.setIfInBounds_toArray, List.set_cons_zero, List.set_cons_succ, f4]; rfl) hy
              · -- 10: Op.call { callee := Callee.value (Operand.func 6), args := #[Operand.tmp 43], argTypes := #[22] }
                refine step_guard [(9, some 43), (4, some 38), (4, some 38)] (fun _ => rfl) 4 38 false rfl rfl ?_ ?_
                · intro w1 vals hC1 hi0 hf hy E hE
                  dsimp only at hE ⊢
                  clear hi0
                  have f4 : vals 4 = .bool false := hf 4 rfl
                  have f9 : (fun v u => ∃ A c, v = .slice A 32 c ∧ Rd u u.heap.size A (bytesV X.2) ∧ 32 ≤ c ∧ c ≤ 9223372036854775807) (vals 9) w1 := hf 9 rfl
                  try dsimp only at f4 f9
                  clear hf
                  clear hy
                  obtain ⟨A9, c9, hx9, hr9, hc9, hm9⟩ := f9
                  simp only [puts, act_put, act_put_none, List.setIfInBounds_toArray, List.set_cons_zero, List.set_cons_succ, f4, hx9] at hE ⊢
                  clear f4
                  clear hx9
                  go_wp2_with fail
                  refine calls_then (HNA.out A9 c9 _ hr9 hc9 hm9 (HGT.out _ hC1)) ?_
                  rintro e w2 ⟨rfl, hb2⟩
                  go_wp2_with fail
                  exact .mk (hE _ _ rfl (hC1.trans (hb2.mono hC1.size)) hb2)
                · intro w1 vals hC1 hi0 hf hy
                  clear hi0
                  have f4 : vals 4 = .bool false := hf 4 rfl
                  have f9 : (fun v u => ∃ A c, v = .slice A 32 c ∧ Rd u u.heap.size A (bytesV X.2) ∧ 32 ≤ c ∧ c ≤ 9223372036854775807) (vals 9) w1 := hf 9 rfl
                  try dsimp only at f4 f9
                  clear hf
                  exact absurd (by simp only [puts, act_put, act_put_none, List.setIfInBounds_toArray, List.set_cons_zero, List.set_cons_succ, f4]; rfl) hy
              · -- 11: Op.binOp BinOp.neq 9 (Operand.tmp 40) (Operand.tmp 44) 9
                refine step_guard [(6, some 40), (10, some 44), (4, some 38)] (fun _ => rfl) 4 38 false rfl rfl ?_ ?_
                · intro w1 vals hC1 hi0 hf hy E hE
                  dsimp only at hE ⊢
                  clear hi0
                  have f4 : vals 4 = .bool false := hf 4 rfl
                  have f6 : vals 6 = .string (bs X.1) := hf 6 rfl
                  have f10 : vals 10 = .string (bs (nameL X.2)) := hf 10 rfl
                  try dsimp only at f4 f6 f10
                  clear hf
                  clear hy
                  simp only [puts, act_put, act_put_none, List.setIfInBounds_toArray, List.set_cons_zero, List.set_cons_succ, f4, f6, f10] at hE ⊢
                  clear f4 f6 f10
                  have hq := HQ.out
                  go_wp2
                  exact .mk (hE _ _ rfl hC1 rfl)
                · intro w1 vals hC1 hi0 hf hy
                  clear hi0
                  have f4 : vals 4 = .bool false := hf 4 rfl
                  have f6 : vals 6 = .string (bs X.1) := hf 6 rfl
                  have f10 : vals 10 = .string (bs (nameL X.2)) := hf 10 rfl
                  try dsimp only at f4 f6 f10
                  clear hf
                  exact absurd (by simp only [puts, act_put, act_put_none, List.setIfInBounds_toArray, List.set_cons_zero, List.set_cons_succ, f4]; rfl) hy
              · -- 12: Op.pick (Operand.tmp 38) (Operand.const (Value.bool true)) (Operand.tmp 45)
                refine step_plain [(4, some 38), (11, some 45)] (fun _ => rfl) rfl ?_
                intro w1 vals hC1 hi0 hf E hE
                clear hi0
                have f4 : vals 4 = .bool false := hf 4 rfl
                have f11 : vals 11 = .bool true := hf 11 rfl
                try dsimp only at f4 f11
                clear hf
                simp only [puts, act_put, act_put_none, List.setIfInBounds_toArray, List.set_cons_zero, List.set_cons_succ, f4, f11] at hE ⊢
                clear f4 f11
                go_wp2
                exact .mk (hE _ _ rfl hC1 rfl)
              · -- 13: Op.move (Operand.tmp 46)
                refine step_plain [(12, some 46), (10, some 44)] (fun _ => rfl) rfl ?_
                intro w1 vals hC1 hi0 hf E hE
                clear hi0
                have f10 : vals 10 = .string (bs (nameL X.2)) := hf 10 rfl
                have f12 : vals 12 = .bool true := hf 12 rfl
                try dsimp only at f10 f12
                clear hf
                simp only [puts, act_put, act_put_none, List.setIfInBounds_toArray, List.set_cons_zero, List.set_cons_succ, f10, f12] at hE ⊢
                clear f10 f12
                go_wp2
                exact .mk (hE _ _ rfl hC1 rfl)
              · -- 14: Op.move (Operand.tmp 3)
                refine step_guard [(13, some 47)] (fun _ => rfl) 13 47 false rfl rfl ?_ ?_
                · intro w1 vals hC1 hi0 hf hy E hE
                  dsimp only at hE ⊢
                  clear hi0
                  have f13 : vals 13 = .bool true := hf 13 rfl
                  try dsimp only at f13
                  clear hf
                  exact absurd (hy.symm.trans (by simp only [puts, act_put, act_put_none, List.setIfInBounds_toArray, List.set_cons_zero, List.set_cons_succ, f13]; rfl : _ = some (Value.bool true))) (by simp)
                · exact fun _ _ _ _ _ _ => ⟨trivial, rfl⟩
              · -- 15: Op.fieldAddr 37 (Operand.tmp 5) 0
                refine step_guard [(13, some 47)] (fun _ => rfl) 13 47 false rfl rfl ?_ ?_
                · intro w1 vals hC1 hi0 hf hy E hE
                  dsimp only at hE ⊢
                  clear hi0
                  have f13 : vals 13 = .bool true := hf 13 rfl
                  try dsimp only at f13
                  clear hf
                  exact absurd (hy.symm.trans (by simp only [puts, act_put, act_put_none, List.setIfInBounds_toArray, List.set_cons_zero, List.set_cons_succ, f13]; rfl : _ = some (Value.bool true))) (by simp)
                · exact fun _ _ _ _ _ _ => ⟨trivial, rfl⟩
              · -- 16: Op.load 9 (Operand.tmp 49)
                refine step_guard [(15, some 49), (13, some 47)] (fun _ => rfl) 13 47 false rfl rfl ?_ ?_
                · intro w1 vals hC1 hi0 hf hy E hE
                  dsimp only at hE ⊢
                  clear hi0
                  have f13 : vals 13 = .bool true := hf 13 rfl
                  try dsimp only at f13
                  clear hf
                  exact absurd (hy.symm.trans (by simp only [puts, act_put, act_put_none, List.setIfInBounds_toArray, List.set_cons_zero, List.set_cons_succ, f13]; rfl : _ = some (Value.bool true))) (by simp)
                · exact fun _ _ _ _ _ _ => ⟨trivial, rfl⟩
              · -- 17: Op.lookup 64 (Operand.tmp 48) (Operand.tmp 50) false
                refine step_guard [(14, some 48), (16, some 50), (13, some 47)] (fun _ => rfl) 13 47 false rfl rfl ?_ ?_
                · intro w1 vals hC1 hi0 hf hy E hE
                  dsimp only at hE ⊢
                  clear hi0
                  have f13 : vals 13 = .bool true := hf 13 rfl
                  try dsimp only at f13
                  clear hf
                  exact absurd (hy.symm.trans (by simp only [puts, act_put, act_put_none, List.setIfInBounds_toArray, List.set_cons_zero, List.set_cons_succ, f13]; rfl : _ = some (Value.bool true))) (by simp)
                · exact fun _ _ _ _ _ _ => ⟨trivial, rfl⟩
              · -- 18: Op.binOp BinOp.gtr 3 (Operand.tmp 51) (Operand.const (Value.int IntKind.i64 0)) 3
                refine step_guard [(17, some 51), (13, some 47)] (fun _ => rfl) 13 47 false rfl rfl ?_ ?_
                · intro w1 vals hC1 hi0 hf hy E hE
                  dsimp only at hE ⊢
                  clear hi0
                  have f13 : vals 13 = .bool true := hf 13 rfl
                  try dsimp only at f13
                  clear hf
                  exact absurd (hy.symm.trans (by simp only [puts, act_put, act_put_none, List.setIfInBounds_toArray, List.set_cons_zero, List.set_cons_succ, f13]; rfl : _ = some (Value.bool true))) (by simp)
                · exact fun _ _ _ _ _ _ => ⟨trivial, rfl⟩
              · -- 19: Op.pick (Operand.tmp 47) (Operand.const (Value.bool true)) (Operand.tmp 52)
                refine step_plain [(13, some 47), (18, some 52)] (fun _ => rfl) rfl ?_
                intro w1 vals hC1 hi0 hf E hE
                clear hi0
                have f13 : vals 13 = .bool true := hf 13 rfl
                try dsimp only at f13
                clear hf
                simp only [puts, act_put, act_put_none, List.setIfInBounds_toArray, List.set_cons_zero, List.set_cons_succ, f13] at hE ⊢
                clear f13
                go_wp2
                exact .mk (hE _ _ rfl hC1 rfl)
            intro w1 vals hC1 hf
            have f0 : vals 0 = .pointer (some ⟨wr.heap.size, 1, none⟩) := hf 0 (by decide) rfl
            have f1 : vals 1 = .string (bs X.2) := hf 1 (by decide) rfl
            have f2 : vals 2 = .int .i64 32 := hf 2 (by decide) rfl
            have f3 : vals 3 = .bool false := hf 3 (by decide) rfl
            have f4 : vals 4 = .bool false := hf 4 (by decide) rfl
            have f5 : vals 5 = .pointer (some ⟨wr.heap.size, 0, none⟩) := hf 5 (by decide) rfl
            have f6 : vals 6 = .string (bs X.1) := hf 6 (by decide) rfl
            have f7 : vals 7 = .pointer (some ⟨wr.heap.size, 1, none⟩) := hf 7 (by decide) rfl
            have f8 : vals 8 = .string (bs X.2) := hf 8 (by decide) rfl
            have f9 : (fun v u => ∃ A c, v = .slice A 32 c ∧ Rd u u.heap.size A (bytesV X.2) ∧ 32 ≤ c ∧ c ≤ 9223372036854775807) (vals 9) w1 := hf 9 (by decide) rfl
            have f10 : vals 10 = .string (bs (nameL X.2)) := hf 10 (by decide) rfl
            have f11 : vals 11 = .bool true := hf 11 (by decide) rfl
            have f12 : vals 12 = .bool true := hf 12 (by decide) rfl
            have f13 : vals 13 = .bool true := hf 13 (by decide) rfl
            have f19 : vals 19 = .bool true := hf 19 (by decide) rfl
            try dsimp only at f0 f1 f2 f3 f4 f5 f6 f7 f8 f9 f10 f11 f12 f13 f19
            clear hf
            simp only [puts, act_put, act_put_none, List.setIfInBounds_toArray, List.set_cons_zero, List.set_cons_succ, f0, f1, f2, f3, f4, f5, f6, f7, f8, f10, f11, f12, f13, f19]
            clear f0 f1 f2 f3 f4 f5 f6 f7 f8 f10 f11 f12 f13 f19
            generalize vals 9 = x9 at *
            generalize vals 14 = x14 at *
            generalize vals 15 = x15 at *
            generalize vals 16 = x16 at *
            generalize vals 17 = x17 at *
            generalize vals 18 = x18 at *
            have HB6 := Lib.hid (HB5.out.trans (hC1.mono HB5.out.size))
            clear hC1 HC0
            go_wp2_with fail
            go_ret
            exact ⟨by rw [HRR.out, HNO.out]; rfl, HB6.out⟩
        · have h32' : ¬ ((bs X.2).size : Int) = 32 := by omega
          have HNO := Lib.hid (HNK.out fun h => absurd h h32)
          clear hs0 h32
          go_quiet (fail)
          go_wp2_with fail
          go_ret
          exact ⟨by rw [HRR.out, HNO.out]; rfl, ⟨HB5.out.os, HB5.out.tape, HB5.out.output, HB5.out.size, HB5.out.block⟩⟩
      · obtain rfl : i = n := by omega
        have HYS := Lib.hid (show mayB D num ks = true by rw [HHO.out]; exact keysTo_all HTO.out HN.out)
        go_wp2_with fail
        go_ret
        exact ⟨by rw [HRR.out, HYS.out]; rfl, HBW.out⟩
end Go.Proofs.YtlkikjeccamheaaDoor.Js
/-
  Walk: jwk.key.
-/
namespace Go.Proofs.YtlkikjeccamheaaDoor.Js
set_option linter.unusedSimpArgs false
set_option linter.unusedVariables false
open Go.RowKit
def RowFrom (u : World) (L : Nat) (t : TypeId) (n : Nat) (xs : List Value) (v : Value) : Prop := ∃ g, v = .slice (some ⟨g, 0, none⟩) n n ∧ Blk u g t xs.toArray ∧ L ≤ g
theorem RowFrom.step {u u' : World} {L : Nat} {t : TypeId} {n : Nat} {xs : List Value} {v : Value} (h : RowFrom u L t n xs v) (hb : Below u.heap.size u u') : RowFrom u' L t n xs v := by
  obtain ⟨g, h1, h2, h3⟩ := h
  exact ⟨g, h1, h2.below hb h2.lt, h3⟩
def BytFrom (u : World) (L n : Nat) (l : Bs) (v : Value) : Prop := ∃ g c, v = .slice (some ⟨g, 0, none⟩) n c ∧ n ≤ c ∧ c ≤ 9223372036854775807 ∧ L ≤ g ∧ Rd u u.heap.size (some ⟨g, 0, none⟩) (bytesV l)
theorem BytFrom.step {u u' : World} {L n : Nat} {l : Bs} {v : Value} (h : BytFrom u L n l v) (hb : Below u.heap.size u u') : BytFrom u' L n l v := by
  obtain ⟨g, c, h1, h2, h3, h4, h5⟩ := h
  exact ⟨g, c, h1, h2, h3, h4, (h5.below hb).mono hb.size⟩
theorem BytFrom.wrote {u u' : World} {L n k : Nat} {l : Bs} {v : Value} (h : BytFrom u L n l v) (hw : Wrote k u u') (hk : k < L) : BytFrom u' L n l v := by
  obtain ⟨g, c, h1, h2, h3, h4, h5⟩ := h
  refine ⟨g, c, h1, h2, h3, h4, fun i x hx => ?_⟩
  obtain ⟨ad, e1, e2, e3⟩ := h5 i x hx
  refine ⟨ad, e1, Nat.lt_of_lt_of_le e2 hw.grown.size, ?_⟩
  rw [← e3]
  injection e1 with e1
  subst e1
  exact World.cell?_of_block (w := u) (w' := u') (by rw [block_of_add]; exact hw.grown.block _ e2 (by intro h; injection h with h; have h9 : g = k := h; omega))
def RepFrom (u : World) (L : Nat) (j : JT) (v : Value) : Prop := ∃ jv, v = .agg (jvCells jv) ∧ JRep u (fun b => L ≤ b) j jv
theorem RepFrom.step {u u' : World} {L : Nat} {j : JT} {v : Value} (h : RepFrom u L j v) (hb : Below u.heap.size u u') : RepFrom u' L j v := by
  obtain ⟨jv, h1, h2⟩ := h
  exact ⟨jv, h1, h2.heap fun b hlt _ => hb.block b hlt⟩
theorem key_rep {u : World} {gn gk L : Nat} {tn tk : TypeId} (kid x : Bs) (hn : Blk u gn tn [Value.string (bs [99, 114, 118]), .string (bs [107, 105, 100]), .string (bs [107, 116, 121]), .string (bs [120])].toArray)
    (hk : Blk u gk tk (rowsV jvCells [flatV 3 0 [69, 100, 50, 53, 53, 49, 57], flatV 3 0 kid, flatV 3 0 [79, 75, 80], flatV 3 0 (enc x)]).toArray) (hln : L ≤ gn) (hlk : L ≤ gk) :
    JRep u (fun b => L ≤ b) (keyJ (kid, x)) ⟨5, 0, [], some ⟨gn, 0, none⟩, 4, 4, some ⟨gk, 0, none⟩, 4, 4⟩ := by
  have h1 : RdS u (fun b => L ≤ b) (some ⟨gn, 0, none⟩) (rowsV sCell [[99, 114, 118], [107, 105, 100], [107, 116, 121], [120]]) := fun i v hv => by
    obtain ⟨ad, e1, _, e3⟩ := (Rd.of_blk hn hn.lt) i v hv
    injection e1 with e1
    subst e1
    exact ⟨_, rfl, hln, e3⟩
  have h2 : RdS u (fun b => L ≤ b) (some ⟨gk, 0, none⟩) (rowsV jvCells [flatV 3 0 [69, 100, 50, 53, 53, 49, 57], flatV 3 0 kid, flatV 3 0 [79, 75, 80], flatV 3 0 (enc x)]) := fun i v hv => by
    obtain ⟨ad, e1, _, e3⟩ := (Rd.of_blk hk hk.lt) i v hv
    injection e1 with e1
    subst e1
    exact ⟨_, rfl, hlk, e3⟩
  refine JRep.mk (⟨5, 0, [], some ⟨gn, 0, none⟩, 4, 4, some ⟨gk, 0, none⟩, 4, 4⟩ : JV) _ _ _ rfl (Nat.le_refl _) h1 rfl (Nat.le_refl _) rfl h2 ?_
  intro i h h'
  match i, h, h' with
  | 0, _, _ => exact JRep.flat _ _ _ _ _
  | 1, _, _ => exact JRep.flat _ _ _ _ _
  | 2, _, _ => exact JRep.flat _ _ _ _ _
  | 3, _, _ => exact JRep.flat _ _ _ _ _
  | n + 4, h, _ => exact absurd h (by simp)
set_option maxRecDepth 100000 in
set_option maxHeartbeats 4000000 in
theorem key_any (kid x : Bs) (hx : x.length = 32) (w : World) :
    Calls Tryd.prog 17 #[.agg (kCell (kid, x))] w fun e w' => ∃ jv, e = .returned (.agg (jvCells jv)) ∧ JRep w' (fun b => w.heap.size ≤ b) (keyJ (kid, x)) jv ∧ Below w.heap.size w w' := by
  have hu := Tryd.underlying45
  obtain ⟨G, hG⟩ : ∃ G, G = w.heap.size := ⟨_, rfl⟩
  obtain ⟨W1, hW1⟩ : ∃ W1, W1 = (w.alloc (.cells (kCell (kid, x)) 37)).alloc (.cells (jvCells zJV) 45) := ⟨_, rfl⟩
  have hb1 : Below w.heap.size w W1 := by rw [hW1]; exact ((Below.refl _ w).alloc (Nat.le_refl _) _).alloc (by simp) _
  have HB1 := Lib.hid hb1
  have HK1 := Lib.hid (show Blk W1 w.heap.size 37 (kCell (kid, x)) by rw [hW1]; exact (Blk.new _ _ _).alloc _)
  have HZ1 := Lib.hid (show Blk W1 (w.heap.size + 1) 45 (jvCells zJV) by rw [hW1]; have := Blk.new (w.alloc (.cells (kCell (kid, x)) 37)) 45 (jvCells zJV); simpa using this)
  have HS1 := Lib.hid (show W1.heap.size = w.heap.size + 2 by rw [hW1]; simp)
  have HW1 := Lib.hid hW1
  have HTX := Lib.hid (jtext_any)
  have HEN := Lib.hid (fun (u : World) (A : Option Addr) (c : Nat) (h : Rd u u.heap.size A (bytesV x)) (hc : 32 ≤ c) => show Calls Tryd.prog 26 #[.slice A 32 c] u fun e w' => e = .returned (.string (bs (enc x))) ∧ Below u.heap.size u w' by
    have h2 := encode_any x (by omega) (by omega) A c u h (by omega)
    rw [hx] at h2
    exact h2)
  have HS32 := Lib.hid (show (bs x).size = 32 by rw [bs_size, hx])
  have hus := Tryd.underlying9
  have hub8 := Tryd.underlying22
  have hu8 := Tryd.underlying5
  clear hW1 hb1 hG hx
  go_enter Tryd.func17, Tryd.ntmps17
  go_upto_region 1 with (fail)
  rw [show ((w.alloc (.cells (kCell (kid, x)) 37)).alloc (.cells #[.int .i64 0, .int .i64 0, .string ⟨#[]⟩, .slice none 0 0, .slice none 0 0] 45)) = W1 from HW1.out.symm]
  generalize Value.agg (kCell (kid, x)) = AV
  have HC0 : Below (w.heap.size + 1) W1 W1.drew := (Below.refl _ _).drew
  have HI0 : Blk W1.drew (w.heap.size + 1) 45 (jvCells zJV) := HZ1.out
  have HJ0 : w.heap.size + 2 ≤ W1.drew.heap.size := by have := HS1.out; show _ ≤ W1.heap.size; omega
  refine wp_region_list (fun u => Below (w.heap.size + 1) W1 u) (fun | false => (fun u => Blk u (w.heap.size + 1) 45 (jvCells zJV)) | true => (fun u => w.heap.size + 2 ≤ u.heap.size)) (fun | false, i => i == 13 | true, _ => false)
    [fun z u => (fun v u => RowFrom u (w.heap.size + 2) 9 4 [.string (bs [99, 114, 118]), .string (bs [107, 105, 100]), .string (bs [107, 116, 121]), .string (bs [120])] v) (z 0) u,
     fun z _ => z 1 = .agg (jvCells (flatV 3 0 [69, 100, 50, 53, 53, 49, 57])),
     fun z _ => z 2 = .pointer (some ⟨w.heap.size, 0, none⟩),
     fun z _ => z 3 = .string (bs kid),
     fun z _ => z 4 = .agg (jvCells (flatV 3 0 kid)),
     fun z _ => z 5 = .agg (jvCells (flatV 3 0 [79, 75, 80])),
     fun z _ => z 6 = .pointer (some ⟨w.heap.size, 1, none⟩),
     fun z _ => z 7 = .string (bs x),
     fun z u => (fun v u => BytFrom u (w.heap.size + 2) 32 x v) (z 8) u,
     fun z _ => z 9 = .string (bs (enc x)),
     fun z _ => z 10 = .agg (jvCells (flatV 3 0 (enc x))),
     fun z u => (fun v u => RowFrom u (w.heap.size + 2) 45 4 (rowsV jvCells [flatV 3 0 [69, 100, 50, 53, 53, 49, 57], flatV 3 0 kid, flatV 3 0 [79, 75, 80], flatV 3 0 (enc x)]) v) (z 11) u,
     fun z u => (fun v u => RepFrom u (w.heap.size + 2) (keyJ (kid, x)) v) (z 12) u,
     fun z u => ∃ jv, Blk u (w.heap.size + 1) 45 (jvCells jv) ∧ JRep u (fun b => w.heap.size + 2 ≤ b) (keyJ (kid, x)) jv]
    [fun u u' => Below u.heap.size u u', fun u u' => Below u.heap.size u u', Eq, Eq, fun u u' => Below u.heap.size u u', fun u u' => Below u.heap.size u u', Eq, Eq, fun u u' => Below u.heap.size u u', fun u u' => Below u.heap.size u u', fun u u' => Below u.heap.size u u', fun u u' => Below u.heap.size u u', Eq, fun u u' => Wrote (w.heap.size + 1) u u']
    (fun i k => (i == 13 && k == 0) || (i == 13 && k == 11) || (i == 13 && k == 12)) [(0, some 3), (1, some 4), (2, some 5), (3, some 6), (4, some 7), (5, some 8), (6, some 9), (7, some 10), (8, some 11), (9, some 12), (10, some 13), (11, some 14), (12, some 15), (13, none)] (by kernel_rfl) (by kernel_rfl) rfl (fun _ => rfl) ?_ ?_ ?_ ?_ ?_ ?_
  · exact HC0
  · intro m; cases m; exact HI0; exact HJ0
  · intro m; cases m
    · exact ⟨.inr (fun _ _ h h0 => h0.below h h0.lt), .inr (fun _ _ h h0 => h0.below h h0.lt), .inr (fun _ _ h h0 => h ▸ h0), .inr (fun _ _ h h0 => h ▸ h0), .inr (fun _ _ h h0 => h0.below h h0.lt), .inr (fun _ _ h h0 => h0.below h h0.lt), .inr (fun _ _ h h0 => h ▸ h0), .inr (fun _ _ h h0 => h ▸ h0), .inr (fun _ _ h h0 => h0.below h h0.lt), .inr (fun _ _ h h0 => h0.below h h0.lt), .inr (fun _ _ h h0 => h0.below h h0.lt), .inr (fun _ _ h h0 => h0.below h h0.lt), .inr (fun _ _ h h0 => h ▸ h0), .inl rfl, trivial⟩
    · exact ⟨.inr (fun _ _ h h0 => Nat.le_trans h0 h.size), .inr (fun _ _ h h0 => Nat.le_trans h0 h.size), .inr (fun _ _ h h0 => h ▸ h0), .inr (fun _ _ h h0 => h ▸ h0), .inr (fun _ _ h h0 => Nat.le_trans h0 h.size), .inr (fun _ _ h h0 => Nat.le_trans h0 h.size), .inr (fun _ _ h h0 => h ▸ h0), .inr (fun _ _ h h0 => h ▸ h0), .inr (fun _ _ h h0 => Nat.le_trans h0 h.size), .inr (fun _ _ h h0 => Nat.le_trans h0 h.size), .inr (fun _ _ h h0 => Nat.le_trans h0 h.size), .inr (fun _ _ h h0 => Nat.le_trans h0 h.size), .inr (fun _ _ h h0 => h ▸ h0), .inr (fun _ _ h h0 => Nat.le_trans h0 h.grown.size), trivial⟩
  · exact ⟨⟨.inl rfl, .inr (.inr (.inr (fun _ _ _ _ _ h => h))), .inr (.inr (.inr (fun _ _ _ _ _ h => h))), .inr (.inr (.inr (fun _ _ _ _ _ h => h))), .inr (.inr (.inr (fun _ _ _ _ _ h => h))), .inr (.inr (.inr (fun _ _ _ _ _ h => h))), .inr (.inr (.inr (fun _ _ _ _ _ h => h))), .inr (.inr (.inr (fun _ _ _ _ _ h => h))), .inr (.inr (.inr (fun _ _ _ _ h h0 => h0.step h))), .inr (.inr (.inr (fun _ _ _ _ _ h => h))), .inr (.inr (.inr (fun _ _ _ _ _ h => h))), .inr (.inr (.inr (fun _ _ _ _ h h0 => h0.step h))), .inr (.inr (.inl rfl)), .inr (.inr (.inl rfl)), trivial⟩,
      ⟨.inr (.inr (.inr (fun _ _ _ _ h h0 => h0.step h))), .inl rfl, .inr (.inr (.inr (fun _ _ _ _ _ h => h))), .inr (.inr (.inr (fun _ _ _ _ _ h => h))), .inr (.inr (.inl rfl)), .inr (.inr (.inl rfl)), .inr (.inr (.inr (fun _ _ _ _ _ h => h))), .inr (.inr (.inr (fun _ _ _ _ _ h => h))), .inr (.inr (.inr (fun _ _ _ _ h h0 => h0.step h))), .inr (.inr (.inl rfl)), .inr (.inr (.inr (fun _ _ _ _ _ h => h))), .inr (.inr (.inl rfl)), .inr (.inr (.inl rfl)), .inr (.inr (.inl rfl)), trivial⟩,
      ⟨.inr (.inr (.inr (fun _ _ _ _ h h0 => by cases h; exact h0))), .inr (.inr (.inr (fun _ _ _ _ _ h => h))), .inl rfl, .inr (.inr (.inl rfl)), .inr (.inr (.inl rfl)), .inr (.inr (.inl rfl)), .inr (.inr (.inr (fun _ _ _ _ _ h => h))), .inr (.inr (.inr (fun _ _ _ _ _ h => h))), .inr (.inr (.inr (fun _ _ _ _ h h0 => by cases h; exact h0))), .inr (.inr (.inr (fun _ _ _ _ _ h => h))), .inr (.inr (.inr (fun _ _ _ _ _ h => h))), .inr (.inr (.inl rfl)), .inr (.inr (.inr (fun _ _ _ _ h h0 => by cases h; exact h0))), .inr (.inr (.inl rfl)), trivial⟩,
      ⟨.inr (.inr (.inr (fun _ _ _ _ h h0 => by cases h; exact h0))), .inr (.inr (.inr (fun _ _ _ _ _ h => h))), .inr (.inr (.inr (fun _ _ _ _ _ h => h))), .inl rfl, .inr (.inr (.inl rfl)), .inr (.inr (.inl rfl)), .inr (.inr (.inr (fun _ _ _ _ _ h => h))), .inr (.inr (.inr (fun _ _ _ _ _ h => h))), .inr (.inr (.inr (fun _ _ _ _ h h0 => by cases h; exact h0))), .inr (.inr (.inl rfl)), .inr (.inr (.inr (fun _ _ _ _ _ h => h))), .inr (.inr (.inl rfl)), .inr (.inr (.inl rfl)), .inr (.inr (.inl rfl)), trivial⟩,
      ⟨.inr (.inr (.inr (fun _ _ _ _ h h0 => h0.step h))), .inr (.inr (.inr (fun _ _ _ _ _ h => h))), .inr (.inr (.inr (fun _ _ _ _ _ h => h))), .inr (.inr (.inr (fun _ _ _ _ _ h => h))), .inl rfl, .inr (.inr (.inl rfl)), .inr (.inr (.inr (fun _ _ _ _ _ h => h))), .inr (.inr (.inr (fun _ _ _ _ _ h => h))), .inr (.inr (.inr (fun _ _ _ _ h h0 => h0.step h))), .inr (.inr (.inl rfl)), .inr (.inr (.inl rfl)), .inr (.inr (.inl rfl)), .inr (.inr (.inl rfl)), .inr (.inr (.inl rfl)), trivial⟩,
      ⟨.inr (.inr (.inr (fun _ _ _ _ h h0 => h0.step h))), .inr (.inr (.inr (fun _ _ _ _ _ h => h))), .inr (.inr (.inr (fun _ _ _ _ _ h => h))), .inr (.inr (.inr (fun _ _ _ _ _ h => h))), .inr (.inr (.inr (fun _ _ _ _ _ h => h))), .inl rfl, .inr (.inr (.inr (fun _ _ _ _ _ h => h))), .inr (.inr (.inr (fun _ _ _ _ _ h => h))), .inr (.inr (.inr (fun _ _ _ _ h h0 => h0.step h))), .inr (.inr (.inl rfl)), .inr (.inr (.inl rfl)), .inr (.inr (.inl rfl)), .inr (.inr (.inl rfl)), .inr (.inr (.inl rfl)), trivial⟩,
      ⟨.inr (.inr (.inr (fun _ _ _ _ h h0 => by cases h; exact h0))), .inr (.inr (.inr (fun _ _ _ _ _ h => h))), .inr (.inr (.inr (fun _ _ _ _ _ h => h))), .inr (.inr (.inr (fun _ _ _ _ _ h => h))), .inr (.inr (.inr (fun _ _ _ _ _ h => h))), .inr (.inr (.inr (fun _ _ _ _ _ h => h))), .inl rfl, .inr (.inr (.inl rfl)), .inr (.inr (.inl rfl)), .inr (.inr (.inl rfl)), .inr (.inr (.inr (fun _ _ _ _ _ h => h))), .inr (.inr (.inr (fun _ _ _ _ h h0 => by cases h; exact h0))), .inr (.inr (.inr (fun _ _ _ _ h h0 => by cases h; exact h0))), .inr (.inr (.inl rfl)), trivial⟩,
      ⟨.inr (.inr (.inr (fun _ _ _ _ h h0 => by cases h; exact h0))), .inr (.inr (.inr (fun _ _ _ _ _ h => h))), .inr (.inr (.inr (fun _ _ _ _ _ h => h))), .inr (.inr (.inr (fun _ _ _ _ _ h => h))), .inr (.inr (.inr (fun _ _ _ _ _ h => h))), .inr (.inr (.inr (fun _ _ _ _ _ h => h))), .inr (.inr (.inr (fun _ _ _ _ _ h => h))), .inl rfl, .inr (.inr (.inl rfl)), .inr (.inr (.inl rfl)), .inr (.inr (.inl rfl)), .inr (.inr (.inr (fun _ _ _ _ h h0 => by cases h; exact h0))), .inr (.inr (.inr (fun _ _ _ _ h h0 => by cases h; exact h0))), .inr (.inr (.inl rfl)), trivial⟩,
      ⟨.inr (.inr (.inr (fun _ _ _ _ h h0 => h0.step h))), .inr (.inr (.inr (fun _ _ _ _ _ h => h))), .inr (.inr (.inr (fun _ _ _ _ _ h => h))), .inr (.inr (.inr (fun _ _ _ _ _ h => h))), .inr (.inr (.inr (fun _ _ _ _ _ h => h))), .inr (.inr (.inr (fun _ _ _ _ _ h => h))), .inr (.inr (.inr (fun _ _ _ _ _ h => h))), .inr (.inr (.inr (fun _ _ _ _ _ h => h))), .inl rfl, .inr (.inr (.inl rfl)), .inr (.inr (.inl rfl)), .inr (.inr (.inl rfl)), .inr (.inr (.inr (fun _ _ _ _ h h0 => h0.step h))), .inr (.inr (.inl rfl)), trivial⟩,
      ⟨.inr (.inr (.inr (fun _ _ _ _ h h0 => h0.step h))), .inr (.inr (.inr (fun _ _ _ _ _ h => h))), .inr (.inr (.inr (fun _ _ _ _ _ h => h))), .inr (.inr (.inr (fun _ _ _ _ _ h => h))), .inr (.inr (.inr (fun _ _ _ _ _ h => h))), .inr (.inr (.inr (fun _ _ _ _ _ h => h))), .inr (.inr (.inr (fun _ _ _ _ _ h => h))), .inr (.inr (.inr (fun _ _ _ _ _ h => h))), .inr (.inr (.inr (fun _ _ _ _ h h0 => h0.step h))), .inl rfl, .inr (.inr (.inl rfl)), .inr (.inr (.inl rfl)), .inr (.inr (.inl rfl)), .inr (.inr (.inl rfl)), trivial⟩,
      ⟨.inr (.inr (.inr (fun _ _ _ _ h h0 => h0.step h))), .inr (.inr (.inr (fun _ _ _ _ _ h => h))), .inr (.inr (.inr (fun _ _ _ _ _ h => h))), .inr (.inr (.inr (fun _ _ _ _ _ h => h))), .inr (.inr (.inr (fun _ _ _ _ _ h => h))), .inr (.inr (.inr (fun _ _ _ _ _ h => h))), .inr (.inr (.inr (fun _ _ _ _ _ h => h))), .inr (.inr (.inr (fun _ _ _ _ _ h => h))), .inr (.inr (.inr (fun _ _ _ _ h h0 => h0.step h))), .inr (.inr (.inr (fun _ _ _ _ _ h => h))), .inl rfl, .inr (.inr (.inl rfl)), .inr (.inr (.inl rfl)), .inr (.inr (.inl rfl)), trivial⟩,
      ⟨.inr (.inr (.inr (fun _ _ _ _ h h0 => h0.step h))), .inr (.inr (.inr (fun _ _ _ _ _ h => h))), .inr (.inr (.inr (fun _ _ _ _ _ h => h))), .inr (.inr (.inr (fun _ _ _ _ _ h => h))), .inr (.inr (.inr (fun _ _ _ _ _ h => h))), .inr (.inr (.inr (fun _ _ _ _ _ h => h))), .inr (.inr (.inr (fun _ _ _ _ _ h => h))), .inr (.inr (.inr (fun _ _ _ _ _ h => h))), .inr (.inr (.inr (fun _ _ _ _ h h0 => h0.step h))), .inr (.inr (.inr (fun _ _ _ _ _ h => h))), .inr (.inr (.inr (fun _ _ _ _ _ h => h))), .inl rfl, .inr (.inr (.inl rfl)), .inr (.inr (.inl rfl)), trivial⟩,
      ⟨.inr (.inr (.inr (fun _ _ _ _ h h0 => by cases h; exact h0))), .inr (.inr (.inr (fun _ _ _ _ _ h => h))), .inr (.inr (.inr (fun _ _ _ _ _ h => h))), .inr (.inr (.inr (fun _ _ _ _ _ h => h))), .inr (.inr (.inr (fun _ _ _ _ _ h => h))), .inr (.inr (.inr (fun _ _ _ _ _ h => h))), .inr (.inr (.inr (fun _ _ _ _ _ h => h))), .inr (.inr (.inr (fun _ _ _ _ _ h => h))), .inr (.inr (.inr (fun _ _ _ _ h h0 => by cases h; exact h0))), .inr (.inr (.inr (fun _ _ _ _ _ h => h))), .inr (.inr (.inr (fun _ _ _ _ _ h => h))), .inr (.inr (.inr (fun _ _ _ _ h h0 => by cases h; exact h0))), .inl rfl, .inr (.inr (.inl rfl)), trivial⟩,
      ⟨.inr (.inl rfl), .inr (.inr (.inr (fun _ _ _ _ _ h => h))), .inr (.inr (.inr (fun _ _ _ _ _ h => h))), .inr (.inr (.inr (fun _ _ _ _ _ h => h))), .inr (.inr (.inr (fun _ _ _ _ _ h => h))), .inr (.inr (.inr (fun _ _ _ _ _ h => h))), .inr (.inr (.inr (fun _ _ _ _ _ h => h))), .inr (.inr (.inr (fun _ _ _ _ _ h => h))), .inr (.inr (.inr (fun _ _ _ _ h h0 => h0.wrote h (by omega)))), .inr (.inr (.inr (fun _ _ _ _ _ h => h))), .inr (.inr (.inr (fun _ _ _ _ _ h => h))), .inr (.inl rfl), .inr (.inl rfl), .inl rfl, trivial⟩, trivial⟩
  · refine ⟨?_, ?_, ?_, ?_, ?_, ?_, ?_, ?_, ?_, ?_, ?_, ?_, ?_, ?_, trivial⟩
    · -- 0: Op.buildSlice 42 4 #[(0, Operand.const (Value.string { data := #[99, 114, 118] })), (1, Operand.const (Value.s
      refine step_plain [] (fun _ => rfl) rfl ?_
      intro w1 vals hC1 hi0 hf E hE
      have hI1 : (fun u => Blk u (w.heap.size + 1) 45 (jvCells zJV)) w1 := hi0 false rfl
      try dsimp only at hI1
      have hJ1 : (fun u => w.heap.size + 2 ≤ u.heap.size) w1 := hi0 true rfl
      try dsimp only at hJ1
      clear hi0
      clear hf
      simp only [puts, act_put, act_put_none, List.setIfInBounds_toArray, List.set_cons_zero, List.set_cons_succ] at hE ⊢
      go_wp2
      exact .mk (hE _ _ ⟨_, rfl, Blk.new _ _ _, hJ1⟩ (hC1.alloc (Nat.le_of_succ_le hJ1) _) ((Below.refl _ _).alloc (Nat.le_refl _) _))
    · -- 1: Op.call { callee := Callee.value (Operand.func 19), args := #[Operand.const (Value.string { data := #[69, 100,
      refine step_plain [] (fun _ => rfl) rfl ?_
      intro w1 vals hC1 hi0 hf E hE
      have hI1 : (fun u => Blk u (w.heap.size + 1) 45 (jvCells zJV)) w1 := hi0 false rfl
      try dsimp only at hI1
      have hJ1 : (fun u => w.heap.size + 2 ≤ u.heap.size) w1 := hi0 true rfl
      try dsimp only at hJ1
      clear hi0
      clear hf
      simp only [puts, act_put, act_put_none, List.setIfInBounds_toArray, List.set_cons_zero, List.set_cons_succ] at hE ⊢
      go_wp2_with fail
      refine calls_then (HTX.out [69, 100, 50, 53, 53, 49, 57] _) ?_
      rintro e w2 ⟨rfl, hb2⟩
      go_wp2_with fail
      exact .mk (hE _ _ rfl (hC1.trans (hb2.mono (Nat.le_of_succ_le hJ1))) hb2)
    · -- 2: Op.fieldAddr 37 (Operand.tmp 1) 0
      refine step_plain [] (fun _ => rfl) rfl ?_
      intro w1 vals hC1 hi0 hf E hE
      have hI1 : (fun u => Blk u (w.heap.size + 1) 45 (jvCells zJV)) w1 := hi0 false rfl
      try dsimp only at hI1
      have hJ1 : (fun u => w.heap.size + 2 ≤ u.heap.size) w1 := hi0 true rfl
      try dsimp only at hJ1
      clear hi0
      clear hf
      simp only [puts, act_put, act_put_none, List.setIfInBounds_toArray, List.set_cons_zero, List.set_cons_succ] at hE ⊢
      go_wp2
      exact .mk (hE _ _ rfl hC1 rfl)
    · -- 3: Op.load 9 (Operand.tmp 5)
      refine step_plain [(2, some 5)] (fun _ => rfl) rfl ?_
      intro w1 vals hC1 hi0 hf E hE
      have hI1 : (fun u => Blk u (w.heap.size + 1) 45 (jvCells zJV)) w1 := hi0 false rfl
      try dsimp only at hI1
      have hJ1 : (fun u => w.heap.size + 2 ≤ u.heap.size) w1 := hi0 true rfl
      try dsimp only at hJ1
      clear hi0
      have f2 : vals 2 = .pointer (some ⟨w.heap.size, 0, none⟩) := hf 2 rfl
      try dsimp only at f2
      clear hf
      simp only [puts, act_put, act_put_none, List.setIfInBounds_toArray, List.set_cons_zero, List.set_cons_succ, f2] at hE ⊢
      clear f2
      have d0 := (HK1.out.below hC1 (Nat.lt_succ_self _)).cell 0
      simp only [kCell, List.getElem?_toArray, List.getElem?_cons_zero] at d0
      go_wp2
      exact .mk (hE _ _ rfl hC1 rfl)
    · -- 4: Op.call { callee := Callee.value (Operand.func 19), args := #[Operand.tmp 6], argTypes := #[9] }
      refine step_plain [(3, some 6), (1, some 4)] (fun _ => rfl) rfl ?_
      intro w1 vals hC1 hi0 hf E hE
      have hI1 : (fun u => Blk u (w.heap.size + 1) 45 (jvCells zJV)) w1 := hi0 false rfl
      try dsimp only at hI1
      have hJ1 : (fun u => w.heap.size + 2 ≤ u.heap.size) w1 := hi0 true rfl
      try dsimp only at hJ1
      clear hi0
      have f1 : vals 1 = .agg (jvCells (flatV 3 0 [69, 100, 50, 53, 53, 49, 57])) := hf 1 rfl
      have f3 : vals 3 = .string (bs kid) := hf 3 rfl
      try dsimp only at f1 f3
      clear hf
      simp only [puts, act_put, act_put_none, List.setIfInBounds_toArray, List.set_cons_zero, List.set_cons_succ, f1, f3] at hE ⊢
      clear f1 f3
      go_wp2_with fail
      refine calls_then (HTX.out kid _) ?_
      rintro e w2 ⟨rfl, hb2⟩
      go_wp2_with fail
      exact .mk (hE _ _ rfl (hC1.trans (hb2.mono (Nat.le_of_succ_le hJ1))) hb2)
    · -- 5: Op.call { callee := Callee.value (Operand.func 19), args := #[Operand.const (Value.string { data := #[79, 75, 
      refine step_plain [(4, some 7)] (fun _ => rfl) rfl ?_
      intro w1 vals hC1 hi0 hf E hE
      have hI1 : (fun u => Blk u (w.heap.size + 1) 45 (jvCells zJV)) w1 := hi0 false rfl
      try dsimp only at hI1
      have hJ1 : (fun u => w.heap.size + 2 ≤ u.heap.size) w1 := hi0 true rfl
      try dsimp only at hJ1
      clear hi0
      have f4 : vals 4 = .agg (jvCells (flatV 3 0 kid)) := hf 4 rfl
      try dsimp only at f4
      clear hf
      simp only [puts, act_put, act_put_none, List.setIfInBounds_toArray, List.set_cons_zero, List.set_cons_succ, f4] at hE ⊢
      clear f4
      go_wp2_with fail
      refine calls_then (HTX.out [79, 75, 80] _) ?_
      rintro e w2 ⟨rfl, hb2⟩
      go_wp2_with fail
      exact .mk (hE _ _ rfl (hC1.trans (hb2.mono (Nat.le_of_succ_le hJ1))) hb2)
    · -- 6: Op.fieldAddr 37 (Operand.tmp 1) 1
      refine step_plain [] (fun _ => rfl) rfl ?_
      intro w1 vals hC1 hi0 hf E hE
      have hI1 : (fun u => Blk u (w.heap.size + 1) 45 (jvCells zJV)) w1 := hi0 false rfl
      try dsimp only at hI1
      have hJ1 : (fun u => w.heap.size + 2 ≤ u.heap.size) w1 := hi0 true rfl
      try dsimp only at hJ1
      clear hi0
      clear hf
      simp only [puts, act_put, act_put_none, List.setIfInBounds_toArray, List.set_cons_zero, List.set_cons_succ] at hE ⊢
      go_wp2
      exact .mk (hE _ _ rfl hC1 rfl)
    · -- 7: Op.load 9 (Operand.tmp 9)
      refine step_plain [(6, some 9)] (fun _ => rfl) rfl ?_
      intro w1 vals hC1 hi0 hf E hE
      have hI1 : (fun u => Blk u (w.heap.size + 1) 45 (jvCells zJV)) w1 := hi0 false rfl
      try dsimp only at hI1
      have hJ1 : (fun u => w.heap.size + 2 ≤ u.heap.size) w1 := hi0 true rfl
      try dsimp only at hJ1
      clear hi0
      have f6 : vals 6 = .pointer (some ⟨w.heap.size, 1, none⟩) := hf 6 rfl
      try dsimp only at f6
      clear hf
      simp only [puts, act_put, act_put_none, List.setIfInBounds_toArray, List.set_cons_zero, List.set_cons_succ, f6] at hE ⊢
      clear f6
      have d0 := (HK1.out.below hC1 (Nat.lt_succ_self _)).cell 1
      simp only [kCell, List.getElem?_toArray, List.getElem?_cons_zero, List.getElem?_cons_succ] at d0
      go_wp2
      exact .mk (hE _ _ rfl hC1 rfl)
    · -- 8: Op.convert 9 22 (Operand.tmp 10)
      refine step_plain [(7, some 10)] (fun _ => rfl) rfl ?_
      intro w1 vals hC1 hi0 hf E hE
      have hI1 : (fun u => Blk u (w.heap.size + 1) 45 (jvCells zJV)) w1 := hi0 false rfl
      try dsimp only at hI1
      have hJ1 : (fun u => w.heap.size + 2 ≤ u.heap.size) w1 := hi0 true rfl
      try dsimp only at hJ1
      clear hi0
      have f7 : vals 7 = .string (bs x) := hf 7 rfl
      try dsimp only at f7
      clear hf
      simp only [puts, act_put, act_put_none, List.setIfInBounds_toArray, List.set_cons_zero, List.set_cons_succ, f7] at hE ⊢
      clear f7
      refine wpList_bytes_cap (s := bs x) hus hub8 hu8 rfl rfl rfl (by rw [HS32.out]; decide) ?_
      intro c7 w7 hr7 hc7 hm7 hb7
      rw [HS32.out] at hc7 ⊢
      go_wp2_with fail
      exact .mk (hE _ _ ⟨_, c7, rfl, hc7, hm7, hJ1, hr7⟩ (hC1.trans (hb7.mono (Nat.le_of_succ_le hJ1))) hb7)
    · -- 9: Op.call { callee := Callee.value (Operand.func 26), args := #[Operand.tmp 11], argTypes := #[22] }
      refine step_plain [(8, some 11), (5, some 8)] (fun _ => rfl) rfl ?_
      intro w1 vals hC1 hi0 hf E hE
      have hI1 : (fun u => Blk u (w.heap.size + 1) 45 (jvCells zJV)) w1 := hi0 false rfl
      try dsimp only at hI1
      have hJ1 : (fun u => w.heap.size + 2 ≤ u.heap.size) w1 := hi0 true rfl
      try dsimp only at hJ1
      clear hi0
      have f5 : vals 5 = .agg (jvCells (flatV 3 0 [79, 75, 80])) := hf 5 rfl
      have f8 : (fun v u => BytFrom u (w.heap.size + 2) 32 x v) (vals 8) w1 := hf 8 rfl
      try dsimp only at f5 f8
      clear hf
      obtain ⟨g9, c9, hx9, hc9, hm9, hl9, hr9⟩ := f8
      simp only [puts, act_put, act_put_none, List.setIfInBounds_toArray, List.set_cons_zero, List.set_cons_succ, f5, hx9] at hE ⊢
      clear f5
      clear hx9
      go_wp2_with fail
      refine calls_then (HEN.out _ _ c9 hr9 hc9) ?_
      rintro e w2 ⟨rfl, hb2⟩
      go_wp2_with fail
      exact .mk (hE _ _ rfl (hC1.trans (hb2.mono (Nat.le_of_succ_le hJ1))) hb2)
    · -- 10: Op.call { callee := Callee.value (Operand.func 19), args := #[Operand.tmp 12], argTypes := #[9] }
      refine step_plain [(9, some 12), (9, some 12)] (fun _ => rfl) rfl ?_
      intro w1 vals hC1 hi0 hf E hE
      have hI1 : (fun u => Blk u (w.heap.size + 1) 45 (jvCells zJV)) w1 := hi0 false rfl
      try dsimp only at hI1
      have hJ1 : (fun u => w.heap.size + 2 ≤ u.heap.size) w1 := hi0 true rfl
      try dsimp only at hJ1
      clear hi0
      have f9 : vals 9 = .string (bs (enc x)) := hf 9 rfl
      try dsimp only at f9
      clear hf
      simp only [puts, act_put, act_put_none, List.setIfInBounds_toArray, List.set_cons_zero, List.set_cons_succ, f9] at hE ⊢
      clear f9
      go_wp2_with fail
      refine calls_then (HTX.out (enc x) _) ?_
      rintro e w2 ⟨rfl, hb2⟩
      go_wp2_with fail
      exact .mk (hE _ _ rfl (hC1.trans (hb2.mono (Nat.le_of_succ_le hJ1))) hb2)
    · -- 11: Op.buildSlice 43 4 #[(0, Operand.tmp 4), (1, Operand.tmp 7), (2, Operand.tmp 8), (3, Operand.tmp 13)]
      refine step_plain [(1, some 4), (4, some 7), (5, some 8), (10, some 13)] (fun _ => rfl) rfl ?_
      intro w1 vals hC1 hi0 hf E hE
      have hI1 : (fun u => Blk u (w.heap.size + 1) 45 (jvCells zJV)) w1 := hi0 false rfl
      try dsimp only at hI1
      have hJ1 : (fun u => w.heap.size + 2 ≤ u.heap.size) w1 := hi0 true rfl
      try dsimp only at hJ1
      clear hi0
      have f1 : vals 1 = .agg (jvCells (flatV 3 0 [69, 100, 50, 53, 53, 49, 57])) := hf 1 rfl
      have f4 : vals 4 = .agg (jvCells (flatV 3 0 kid)) := hf 4 rfl
      have f5 : vals 5 = .agg (jvCells (flatV 3 0 [79, 75, 80])) := hf 5 rfl
      have f10 : vals 10 = .agg (jvCells (flatV 3 0 (enc x))) := hf 10 rfl
      try dsimp only at f1 f4 f5 f10
      clear hf
      simp only [puts, act_put, act_put_none, List.setIfInBounds_toArray, List.set_cons_zero, List.set_cons_succ, f1, f4, f5, f10] at hE ⊢
      clear f1 f4 f5 f10
      unfold jvCells flatV
      go_wp2
      exact .mk (hE _ _ ⟨_, rfl, Blk.new _ _ _, hJ1⟩ (hC1.alloc (Nat.le_of_succ_le hJ1) _) ((Below.refl _ _).alloc (Nat.le_refl _) _))
    · -- 12: Op.build 45 #[(0, Operand.const (Value.int IntKind.i64 5)), (3, Operand.tmp 3), (4, Operand.tmp 14)]
      refine step_plain [(0, some 3), (11, some 14)] (fun _ => rfl) rfl ?_
      intro w1 vals hC1 hi0 hf E hE
      have hI1 : (fun u => Blk u (w.heap.size + 1) 45 (jvCells zJV)) w1 := hi0 false rfl
      try dsimp only at hI1
      have hJ1 : (fun u => w.heap.size + 2 ≤ u.heap.size) w1 := hi0 true rfl
      try dsimp only at hJ1
      clear hi0
      have f0 : (fun v u => RowFrom u (w.heap.size + 2) 9 4 [.string (bs [99, 114, 118]), .string (bs [107, 105, 100]), .string (bs [107, 116, 121]), .string (bs [120])] v) (vals 0) w1 := hf 0 rfl
      have f11 : (fun v u => RowFrom u (w.heap.size + 2) 45 4 (rowsV jvCells [flatV 3 0 [69, 100, 50, 53, 53, 49, 57], flatV 3 0 kid, flatV 3 0 [79, 75, 80], flatV 3 0 (enc x)]) v) (vals 11) w1 := hf 11 rfl
      try dsimp only at f0 f11
      clear hf
      obtain ⟨g0, hx0, hg0, hl0⟩ := f0
      obtain ⟨g1, hx1, hg1, hl1⟩ := f11
      simp only [puts, act_put, act_put_none, List.setIfInBounds_toArray, List.set_cons_zero, List.set_cons_succ, hx0, hx1] at hE ⊢
      clear hx0 hx1
      go_wp2
      exact .mk (hE _ _ ⟨_, rfl, key_rep kid x hg0 hg1 hl0 hl1⟩ hC1 rfl)
    · -- 13: Op.store 45 (Operand.tmp 2) (Operand.tmp 15)
      refine step_plain [(12, some 15), (10, some 13), (0, some 3), (1, some 4), (2, some 5), (3, some 6), (4, some 7), (5, some 8), (6, some 9), (7, some 10), (8, some 11), (9, some 12), (10, some 13), (11, some 14), (12, some 15)] (fun _ => rfl) rfl ?_
      intro w1 vals hC1 hi0 hf E hE
      have hI1 : (fun u => Blk u (w.heap.size + 1) 45 (jvCells zJV)) w1 := hi0 false rfl
      try dsimp only at hI1
      have hJ1 : (fun u => w.heap.size + 2 ≤ u.heap.size) w1 := hi0 true rfl
      try dsimp only at hJ1
      clear hi0
      have f0 : (fun v u => RowFrom u (w.heap.size + 2) 9 4 [.string (bs [99, 114, 118]), .string (bs [107, 105, 100]), .string (bs [107, 116, 121]), .string (bs [120])] v) (vals 0) w1 := hf 0 rfl
      have f1 : vals 1 = .agg (jvCells (flatV 3 0 [69, 100, 50, 53, 53, 49, 57])) := hf 1 rfl
      have f2 : vals 2 = .pointer (some ⟨w.heap.size, 0, none⟩) := hf 2 rfl
      have f3 : vals 3 = .string (bs kid) := hf 3 rfl
      have f4 : vals 4 = .agg (jvCells (flatV 3 0 kid)) := hf 4 rfl
      have f5 : vals 5 = .agg (jvCells (flatV 3 0 [79, 75, 80])) := hf 5 rfl
      have f6 : vals 6 = .pointer (some ⟨w.heap.size, 1, none⟩) := hf 6 rfl
      have f7 : vals 7 = .string (bs x) := hf 7 rfl
      have f8 : (fun v u => BytFrom u (w.heap.size + 2) 32 x v) (vals 8) w1 := hf 8 rfl
      have f9 : vals 9 = .string (bs (enc x)) := hf 9 rfl
      have f10 : vals 10 = .agg (jvCells (flatV 3 0 (enc x))) := hf 10 rfl
      have f11 : (fun v u => RowFrom u (w.heap.size + 2) 45 4 (rowsV jvCells [flatV 3 0 [69, 100, 50, 53, 53, 49, 57], flatV 3 0 kid, flatV 3 0 [79, 75, 80], flatV 3 0 (enc x)]) v) (vals 11) w1 := hf 11 rfl
      have f12 : (fun v u => RepFrom u (w.heap.size + 2) (keyJ (kid, x)) v) (vals 12) w1 := hf 12 rfl
      try dsimp only at f0 f1 f2 f3 f4 f5 f6 f7 f8 f9 f10 f11 f12
      clear hf
      obtain ⟨jv, hx1, hj1⟩ := f12
      have HJJ := Lib.hid hj1
      have HII := Lib.hid hI1
      have HCC := Lib.hid hC1
      clear hj1 hI1 hC1
      simp only [puts, act_put, act_put_none, List.setIfInBounds_toArray, List.set_cons_zero, List.set_cons_succ, f1, f2, f3, f4, f5, f6, f7, f9, f10, hx1] at hE ⊢
      clear f1 f2 f3 f4 f5 f6 f7 f9 f10
      clear hx1
      go_wp2_with (refine wpList_put_box (cells := jvCells jv) HII.out rfl rfl rfl rfl jT_size4 rfl (jvCells_one _) ?_; intro w5 hb5 hw5)
      exact .mk (hE undef _ ⟨jv, hb5, HJJ.out.heap fun b hlt hl => hw5.grown.block b hlt (by intro h; injection h with h; omega)⟩ (hw5.below HCC.out (Nat.le_refl _) (Nat.le_of_succ_le hJ1)) hw5)
  intro w1 vals hC1 hf
  have f1 : vals 1 = .agg (jvCells (flatV 3 0 [69, 100, 50, 53, 53, 49, 57])) := hf 1 (by decide) rfl
  have f2 : vals 2 = .pointer (some ⟨w.heap.size, 0, none⟩) := hf 2 (by decide) rfl
  have f3 : vals 3 = .string (bs kid) := hf 3 (by decide) rfl
  have f4 : vals 4 = .agg (jvCells (flatV 3 0 kid)) := hf 4 (by decide) rfl
  have f5 : vals 5 = .agg (jvCells (flatV 3 0 [79, 75, 80])) := hf 5 (by decide) rfl
  have f6 : vals 6 = .pointer (some ⟨w.heap.size, 1, none⟩) := hf 6 (by decide) rfl
  have f7 : vals 7 = .string (bs x) := hf 7 (by decide) rfl
  have f8 : (fun v u => BytFrom u (w.heap.size + 2) 32 x v) (vals 8) w1 := hf 8 (by decide) rfl
  have f9 : vals 9 = .string (bs (enc x)) := hf 9 (by decide) rfl
  have f10 : vals 10 = .agg (jvCells (flatV 3 0 (enc x))) := hf 10 (by decide) rfl
  have f13 : (fun z u => ∃ jv, Blk u (w.heap.size + 1) 45 (jvCells jv) ∧ JRep u (fun b => w.heap.size + 2 ≤ b) (keyJ (kid, x)) jv) vals w1 := hf 13 (by decide) rfl
  try dsimp only at f1 f2 f3 f4 f5 f6 f7 f8 f9 f10 f13
  clear hf
  simp only [puts, act_put, act_put_none, List.setIfInBounds_toArray, List.set_cons_zero, List.set_cons_succ, f1, f2, f3, f4, f5, f6, f7, f9, f10]
  clear f1 f2 f3 f4 f5 f6 f7 f9 f10
  generalize vals 0 = x0 at *
  generalize vals 8 = x8 at *
  generalize vals 11 = x11 at *
  generalize vals 12 = x12 at *
  obtain ⟨jv, hb13, hj13⟩ := f13
  have HB13 := Lib.hid hb13
  have HJ13 := Lib.hid hj13
  have HB14 := Lib.hid (HB1.out.trans (hC1.mono (Nat.le_succ _)))
  clear hb13 hj13 hC1 HC0 HI0 HJ0
  go_wp2_with fail
  refine bodyPost_ret (results_box (P := Tryd.prog) rfl rfl HB13.out hu rfl jT_size4) rfl ?_
  exact ⟨jv, rfl, HJ13.out.imp fun b _ hb => by omega, HB14.out⟩
end Go.Proofs.YtlkikjeccamheaaDoor.Js
/-
  Plain: which bundles may be; their texts.
-/
namespace Go.Proofs.YtlkikjeccamheaaDoor.Js
set_option linter.unusedSimpArgs false
set_option linter.unusedVariables false
theorem digB_len : ∀ f n : Nat, (digB f n).length ≤ f
  | 0, n => by simp [digB]
  | f + 1, n => by
    unfold digB
    split
    · simp
    · have := digB_len f (n / 10)
      simp
      omega
theorem intB_len (n : Int) : (intB n).length ≤ 17 := by
  unfold intB
  have := digB_len 16 n.natAbs
  split
  · simp; omega
  · omega
theorem hexB_plain : ∀ x : Fin 256, (hexB x.1).all plainC = true := by decide +kernel
theorem nameL_plain (x : Bs) : (nameL x).all plainC = true := by
  unfold nameL nameK
  rw [List.all_eq_true]
  intro c hc
  obtain ⟨b, _, hb⟩ := List.mem_flatMap.1 hc
  have h := hexB_plain ⟨b.toNat, b.toNat_lt⟩
  rw [List.all_eq_true] at h
  exact h c hb
theorem nameL_len (x : Bs) : (nameL x).length = 8 := by
  unfold nameL
  rw [nameK_length (by rw [digS32_len2]; omega)]
theorem keysOk_all : ∀ (seen : List Bs) (ks : List (Bs × Bs)), keysOk seen ks = true → ∀ k ∈ ks, k.2.length = 32 ∧ k.1 = nameL k.2
  | _, [], _, k, hk => by cases hk
  | seen, x :: r, h, k, hk => by
    unfold keysOk at h
    simp only [Bool.and_eq_true, decide_eq_true_eq] at h
    rcases List.mem_cons.1 hk with rfl | hk
    · exact ⟨h.1.1.1, h.1.1.2⟩
    · exact keysOk_all _ r h.2 k hk
theorem innerZ_plain : ∀ x : Fin 256, innerZ ((x.1 : Nat) : Int) = true → plainC (UInt8.ofNat x.1) = true := by decide +kernel
theorem domB_plain {s : Bs} (h : domB s = true) : s.all plainC = true ∧ s.length ≤ 16 := by
  unfold domB at h
  simp only [Bool.and_eq_true, decide_eq_true_eq] at h
  refine ⟨?_, h.1⟩
  have h1 := h.2.1
  unfold allD at h1
  simp only [Bool.and_eq_true] at h1
  rw [List.all_eq_true] at h1 ⊢
  intro c hc
  have h2 := innerZ_plain ⟨c.toNat, c.toNat_lt⟩ (h1.1 c hc)
  simpa using h2
theorem mayB_parts {b : BD} (h : mayB b.dom b.num b.keys = true) : PlainB b ∧ (∀ k ∈ b.keys, k.2.length = 32 ∧ k.1 = nameL k.2) := by
  unfold mayB headOk at h
  simp only [Bool.and_eq_true, decide_eq_true_eq] at h
  obtain ⟨⟨⟨⟨h1, h2⟩, h3⟩, h4⟩, h5⟩ := h
  obtain ⟨p1, p2⟩ := domB_plain h1
  have hk := keysOk_all _ _ h5
  exact ⟨⟨p1, p2, h2, h3, h4, fun k hm => by rw [(hk k hm).2]; exact ⟨nameL_plain _, by rw [nameL_len]; exact Nat.le_refl _⟩, fun k hm => by rw [(hk k hm).1]; exact Nat.le_refl _⟩, hk⟩
def keyT (k : Bs × Bs) : Bs := [123, 34, 99, 114, 118, 34, 58, 34, 69, 100, 50, 53, 53, 49, 57, 34, 44, 34, 107, 105, 100, 34, 58, 34] ++ (k.1 ++ ([34, 44, 34, 107, 116, 121, 34, 58, 34, 79, 75, 80, 34, 44, 34, 120, 34, 58, 34] ++ (enc k.2 ++ [34, 125])))
theorem key_text {k : Bs × Bs} (h : k.1.all plainC = true) : writeV (keyJ k) = keyT k := by
  have e1 := quote_plain h
  have e2 := quote_plain (enc_plain k.2)
  have e3 : quote [99, 114, 118] = [34, 99, 114, 118, 34] := by decide +kernel
  have e4 : quote [107, 105, 100] = [34, 107, 105, 100, 34] := by decide +kernel
  have e5 : quote [107, 116, 121] = [34, 107, 116, 121, 34] := by decide +kernel
  have e6 : quote [120] = [34, 120, 34] := by decide +kernel
  have e7 : quote [69, 100, 50, 53, 53, 49, 57] = [34, 69, 100, 50, 53, 53, 49, 57, 34] := by decide +kernel
  have e8 : quote [79, 75, 80] = [34, 79, 75, 80, 34] := by decide +kernel
  simp [keyJ, jtext, writeV, itemsV, keyT, e1, e2, e3, e4, e5, e6, e7, e8]
def keysT : List (Bs × Bs) → Bool → Bs
  | [], _ => []
  | k :: r, f => (if f then [] else [44]) ++ (keyT k ++ keysT r false)
theorem keys_text : ∀ (ks : List (Bs × Bs)) (f : Bool), (∀ k ∈ ks, k.1.all plainC = true) → itemsV false [] (ks.map keyJ) f = keysT ks f
  | [], f, _ => by simp [itemsV, keysT]
  | k :: r, f, h => by
    have h1 := key_text (h k List.mem_cons_self)
    have h2 := keys_text r false (fun x hx => h x (List.mem_cons_of_mem _ hx))
    simp [itemsV, keysT, h1, h2]
def bundleT (b : BD) : Bs := [123, 34, 100, 111, 109, 97, 105, 110, 34, 58, 34] ++ (b.dom ++ ([34, 44, 34, 107, 101, 121, 115, 34, 58, 91] ++ (keysT b.keys true ++ ([93, 44, 34, 110, 117, 109, 98, 101, 114, 34, 58] ++ (intB b.num ++ [125])))))
theorem bundle_text {b : BD} (h : PlainB b) : writeV (bundleJ b) = bundleT b := by
  have e1 := quote_plain h.dom
  have e2 := keys_text b.keys true (fun k hk => (h.kid k hk).1)
  have e3 : quote [100, 111, 109, 97, 105, 110] = [34, 100, 111, 109, 97, 105, 110, 34] := by decide +kernel
  have e4 : quote [107, 101, 121, 115] = [34, 107, 101, 121, 115, 34] := by decide +kernel
  have e5 : quote [110, 117, 109, 98, 101, 114] = [34, 110, 117, 109, 98, 101, 114, 34] := by decide +kernel
  simp [bundleJ, jtext, jint, writeV, itemsV, bundleT, e1, e2, e3, e4, e5]
theorem keysT_len : ∀ (ks : List (Bs × Bs)) (f : Bool), (∀ k ∈ ks, k.1.length ≤ 8 ∧ k.2.length ≤ 32) → (keysT ks f).length ≤ ks.length * 130
  | [], f, _ => by simp [keysT]
  | k :: r, f, h => by
    have h1 := h k List.mem_cons_self
    have h2 := keysT_len r false (fun x hx => h x (List.mem_cons_of_mem _ hx))
    have h3 : (enc k.2).length ≤ 2 * k.2.length + 1 := encS_len k.2 0 0 (by omega)
    have h4 : (if f = true then ([] : Bs) else [44]).length ≤ 1 := by cases f <;> simp
    simp only [keysT, keyT, List.length_append, List.length_cons, List.length_nil]
    omega
theorem bundle_len {b : BD} (h : PlainB b) : (writeV (bundleJ b)).length ≤ 2000 := by
  rw [bundle_text h]
  have h1 := keysT_len b.keys true (fun k hk => ⟨(h.kid k hk).2, h.x k hk⟩)
  have h2 := h.kn
  have h3 := h.dlen
  have h4 := intB_len b.num
  simp only [bundleT, List.length_append, List.length_cons, List.length_nil]
  omega
theorem wrE_may {b : BD} (h : PlainB b) : wrE (bundleJ b) = (writeV (bundleJ b), 0) := by
  unfold wrE
  rw [bundleJ_right h, if_neg (by simp), if_neg (by have := bundle_len h; omega)]
theorem bundle_inj {a b : BD} (ha : mayB a.dom a.num a.keys = true) (hb : mayB b.dom b.num b.keys = true) (h : writeV (bundleJ a) = writeV (bundleJ b)) : a = b := by
  obtain ⟨pa, ka⟩ := mayB_parts ha
  obtain ⟨pb, kb⟩ := mayB_parts hb
  have h1 := readP_write _ (bundleJ_right pa) (bundle_len pa)
  rw [h, readP_write _ (bundleJ_right pb) (bundle_len pb)] at h1
  injection h1 with h1
  exact (bundleJ_inj (fun k hk => (kb k hk).1) (fun k hk => (ka k hk).1) h1).symm
end Go.Proofs.YtlkikjeccamheaaDoor.Js
