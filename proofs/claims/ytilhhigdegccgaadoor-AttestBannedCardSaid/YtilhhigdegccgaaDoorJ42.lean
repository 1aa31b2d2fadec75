/-
  Joined texts: Lg3.
-/
import Derived.Test.YtilhhigdegccgaaDoorJ33
import Derived.Test.YtilhhigdegccgaaDoorJ27
import Derived.Test.YtilhhigdegccgaaDoorJ2
import Derived.Test.YtilhhigdegccgaaDoorJ41
/-
  Walk: brevetref20.Ledger, and what it does to tokens and nodes. (Printed by gen/conv3.py.)
-/
namespace Go.Proofs.YtilhhigdegccgaaDoor
set_option linter.unusedSimpArgs false
set_option linter.unusedVariables false
open Go.RowKit
def LedInv (w : World) (K : Nat) (d : LedD) : Prop := LedOk w K d ∧ InvP d
theorem LedInv.grow {w w' : World} {K : Nat} {d : LedD} (h : LedInv w K d) (hb : Below w.heap.size w w') : LedInv w' K d := ⟨h.1.grow hb, h.2⟩
theorem LedInv.more {w : World} {K K' : Nat} {d : LedD} (h : LedInv w K d) (hk : K ≤ K') : LedInv w K' d := ⟨h.1.more hk, h.2⟩
theorem LedInv.box {w w' : World} {K : Nat} {d : LedD} (h : LedInv w K d) (hk : KeepBut 33 w w') : LedInv w' K d := ⟨h.1.box hk, h.2⟩
theorem LedInv.wrote {u u' : World} {K g : Nat} {d : LedD} {cs : Array Value} (h : LedInv u K d) (hb : Blk u g 33 cs) (hw : Wrote g u u') : LedInv u' K d := ⟨h.1.wrote hb hw, h.2⟩
theorem zLed_li (w : World) : LedInv w 0 zLed := ⟨zLed_ok w, fun j hj => (by cases hj), fun n hn => (by cases hn)⟩
def ApPostI (K : Nat) (w : World) (e : Ending) (w' : World) : Prop := ∃ (d' : LedD) (f : Int), e = .returned (.tuple #[.agg (ledCells d'), .int .i64 f]) ∧ LedInv w' (K + 1) d' ∧ Below w.heap.size w w'
theorem apply15i_any (d : LedD) (o : OpD) (K : Nat) (w : World) (h : LedInv w K d) (hK : K ≤ 900) (ho : OpIn w o) :
    Calls Tryd.prog 9 #[.agg (ledCells d), .agg (opC o)] w (ApPostI K w) :=
  (apply15r_any d o K w h.1 hK ho).mono fun e w' ⟨d', f, h1, h2, h3, h4⟩ => ⟨d', f, h1, ⟨h2, h4.inv h.2⟩, h3⟩
def LgPostR (w : World) (e : Ending) (w' : World) : Prop := ∃ d : LedD, e = .returned (.agg (ledCells d)) ∧ LedInv w' 20 d ∧ Below w.heap.size w w'
set_option maxRecDepth 100000 in
set_option maxHeartbeats 4000000 in
theorem ledger20r_any (l : List OpD) (A : Option Addr) (c B : Nat) (w : World) (hr : Rd w B A (rowsV opC l)) (hs : ∀ o ∈ l, OpSee w B o) (hB : B ≤ w.heap.size) (hl : (l.length : Int) ≤ 9223372036854775807) :
    Calls Tryd.prog 5 #[.slice A l.length c] w (LgPostR w) := by
  have hul := Tryd.underlying33
  have huo := Tryd.underlying47
  obtain ⟨n, hn⟩ : ∃ n, n = l.length := ⟨_, rfl⟩
  rw [← hn] at hl ⊢
  have HN := Lib.hid hn
  have HR := Lib.hid hr
  have HSE := Lib.hid hs
  have HBB := Lib.hid hB
  obtain ⟨W0, hW0⟩ : ∃ W0, W0 = (w.alloc (.cells (ledCells zLed) 33)).alloc (.cells (ledCells zLed) 33) := ⟨_, rfl⟩
  have hb0 : Below w.heap.size w W0 := by rw [hW0]; exact ((Below.refl _ w).alloc (Nat.le_refl _) _).alloc (by simp) _
  have HB0 := Lib.hid hb0
  have HZ0 := Lib.hid (show Blk W0 w.heap.size 33 (ledCells zLed) by rw [hW0]; exact (Blk.new _ _ _).alloc _)
  have HL0 := Lib.hid (show Blk W0 (w.heap.size + 1) 33 (ledCells zLed) by rw [hW0]; have := Blk.new (w.alloc (.cells (ledCells zLed) 33)) 33 (ledCells zLed); simpa using this)
  have HW0 := Lib.hid hW0
  obtain ⟨mn, hmn⟩ : ∃ mn, mn = min n 20 := ⟨_, rfl⟩
  have HMN := Lib.hid hmn
  clear hr hs hB hn hW0 hb0 hmn
  go_enter Tryd.func5, Tryd.ntmps5
  go_upto_region 2 with (fail)
  rw [show (w.alloc (.cells #[.slice none 0 0, .slice none 0 0, .slice none 0 0, .slice none 0 0, .slice none 0 0, .slice none 0 0] 33)).alloc (.cells #[.slice none 0 0, .slice none 0 0, .slice none 0 0, .slice none 0 0, .slice none 0 0, .slice none 0 0] 33) = W0 from HW0.out.symm]
  go_wp2_with fail
  go_loopw [4] (fun x wr => ∃ (i : Nat) (d : LedD), i ≤ mn ∧ x = .int .i64 (i : Int) ∧ LedInv wr i d ∧ Blk wr (w.heap.size + 1) 33 (ledCells d) ∧ Blk wr w.heap.size 33 (ledCells zLed) ∧ Below w.heap.size w wr) (fun x _ => mn - (intOf x).toNat)
  case atStart => exact ⟨0, zLed, Nat.zero_le _, rfl, zLed_li _, HL0.out, HZ0.out, HB0.out⟩
  case round =>
    obtain ⟨i, d, hi, rfl, hok, hlb, hzb, hbw⟩ := hrel
    have HOK := Lib.hid hok
    have HLB := Lib.hid hlb
    have HZB := Lib.hid hzb
    have HBW := Lib.hid hbw
    clear hok hlb hzb hbw
    by_cases hlt : i < mn
    · have h1 : (i : Int) < (n : Int) := by have := HMN.out; omega
      have h2 : (i : Int) < 20 := by have := HMN.out; omega
      have hi0 : (0 : Int) ≤ (i : Int) := by omega
      have hil : i < l.length := by have := HMN.out; rw [← HN.out]; omega
      obtain ⟨ad, hA, -, hcell⟩ := rd_rows (f := opC) (m := 24) (fun _ => rfl) (by decide) (HR.out.below (HBW.out.mono HBB.out)) hil
      subst hA
      obtain ⟨X, hX⟩ : ∃ X, X = l[i] := ⟨_, rfl⟩
      rw [← hX] at hcell
      have HCL := Lib.hid (show ∀ u, Below w.heap.size w u → ∀ j v, (opC X).toList[j]? = some v → u.cell? ((ad.add (i * 24)).add j) = some v from fun u hu j v hv => by
        obtain ⟨ad', e, -, hc⟩ := rd_rows (f := opC) (m := 24) (fun _ => rfl) (by decide) (HR.out.below (hu.mono HBB.out)) hil
        injection e with e
        subst e
        rw [← hX] at hc
        exact hc j v (by simpa using hv))
      have HCT := Lib.hid (show ∀ u, Below w.heap.size w u → Calls Tryd.prog 13 #[.agg (opC X)] u (CtPost u) from fun u hu => by
        obtain ⟨⟨l1, h1, h2⟩, ⟨l2, h3, h4⟩, h5, h6⟩ := HSE.out X (by rw [hX]; exact List.getElem_mem hil)
        exact cut15_any X B u ⟨⟨l1, h1, h2.below (hu.mono HBB.out)⟩, ⟨l2, h3, h4.below (hu.mono HBB.out)⟩, h5, h6⟩ (Nat.le_trans HBB.out hu.size))
      have HLT := Lib.hid hlt
      have hi20 : i ≤ 900 := by omega
      have CA := Lib.hid (show ∀ u o', LedInv u i d → OpIn u o' → Calls Tryd.prog 9 #[.agg (ledCells d), .agg (opC o')] u (ApPostI i u) from fun u o' hu ho => apply15i_any d o' i u hu hi20 ho)
      clear hX hcell hil hlt
      go_wp2_with fail
      have HC0 : Below w.heap.size w wr.drew := HBW.out.drew
      have hdw : Below wr.heap.size wr wr.drew := (Below.refl _ _).drew
      have HI0 : Blk wr.drew (w.heap.size + 1) 33 (ledCells d) ∧ Blk wr.drew w.heap.size 33 (ledCells zLed) ∧ LedInv wr.drew i d := ⟨HLB.out.below hdw HLB.out.lt, HZB.out.below hdw HZB.out.lt, HOK.out.grow hdw⟩
      refine wp_region_list (fun u => Below w.heap.size w u) (fun | false => (fun u => Blk u (w.heap.size + 1) 33 (ledCells d) ∧ Blk u w.heap.size 33 (ledCells zLed) ∧ LedInv u i d) | true => (fun _ => True)) (fun | false, i => i == 10 | true, _ => false)
        [fun z _ => z 0 = .agg (ledCells d),
         fun z _ => z 1 = .slice (some ad) n c,
         fun z _ => z 2 = .int .i64 (i : Int),
         fun z _ => z 3 = .pointer (some (ad.add (i * 24))),
         fun z _ => z 4 = .agg (opC X),
         fun z u => (fun v u => ∃ o', v = .agg (opC o') ∧ OpIn u o') (z 5) u,
         fun z u => (fun v u => ∃ (d2 : LedD) (f : Int), v = .tuple #[.agg (ledCells d2), .int .i64 f] ∧ LedInv u (i + 1) d2) (z 6) u,
         fun z u => (fun v u => ∃ (d2 : LedD) (f : Int), v = .tuple #[.agg (ledCells d2), .int .i64 f] ∧ LedInv u (i + 1) d2) (z 7) u,
         fun z u => (fun v u => ∃ d2 : LedD, v = .agg (ledCells d2) ∧ LedInv u (i + 1) d2) (z 8) u,
         fun _ _ => True,
         fun z u => ∃ d2 : LedD, LedInv u (i + 1) d2 ∧ Blk u (w.heap.size + 1) 33 (ledCells d2) ∧ Blk u w.heap.size 33 (ledCells zLed)]
        [Eq, Eq, Eq, Eq, Eq, fun u u' => Below u.heap.size u u', fun u u' => Below u.heap.size u u', Eq, Eq, Eq, KeepBut 33]
        (fun i k => (i == 10 && k == 5) || (i == 10 && k == 6) || (i == 10 && k == 8)) [(0, some 16), (1, some 17), (2, some 18), (3, some 19), (4, some 20), (5, some 21), (6, some 22), (7, some 15), (8, some 23), (9, some 24), (10, none)] (by kernel_rfl) (by kernel_rfl) rfl (fun _ => rfl) ?_ ?_ ?_ ?_ ?_ ?_
      · exact HC0
      · intro m; cases m; exact HI0; exact trivial
      · intro m; cases m
        · exact ⟨.inr (fun _ _ h h0 => h ▸ h0), .inr (fun _ _ h h0 => h ▸ h0), .inr (fun _ _ h h0 => h ▸ h0), .inr (fun _ _ h h0 => h ▸ h0), .inr (fun _ _ h h0 => h ▸ h0), .inr (fun _ _ h h0 => ⟨h0.1.below h h0.1.lt, h0.2.1.below h h0.2.1.lt, h0.2.2.grow h⟩), .inr (fun _ _ h h0 => ⟨h0.1.below h h0.1.lt, h0.2.1.below h h0.2.1.lt, h0.2.2.grow h⟩), .inr (fun _ _ h h0 => h ▸ h0), .inr (fun _ _ h h0 => h ▸ h0), .inr (fun _ _ h h0 => h ▸ h0), .inl rfl, trivial⟩
        · exact ⟨.inr (fun _ _ h h0 => h ▸ h0), .inr (fun _ _ h h0 => h ▸ h0), .inr (fun _ _ h h0 => h ▸ h0), .inr (fun _ _ h h0 => h ▸ h0), .inr (fun _ _ h h0 => h ▸ h0), .inr (fun _ _ _ h => h), .inr (fun _ _ _ h => h), .inr (fun _ _ h h0 => h ▸ h0), .inr (fun _ _ h h0 => h ▸ h0), .inr (fun _ _ h h0 => h ▸ h0), .inr (fun _ _ _ h => h), trivial⟩
      · exact ⟨⟨.inl rfl, .inr (.inr (.inr (fun _ _ _ _ _ h => h))), .inr (.inr (.inr (fun _ _ _ _ _ h => h))), .inr (.inr (.inr (fun _ _ _ _ _ h => h))), .inr (.inr (.inr (fun _ _ _ _ _ h => h))), .inr (.inr (.inr (fun _ _ _ _ h h0 => by cases h; exact h0))), .inr (.inr (.inl rfl)), .inr (.inr (.inl rfl)), .inr (.inr (.inl rfl)), .inr (.inr (.inl rfl)), .inr (.inr (.inl rfl)), trivial⟩,
          ⟨.inr (.inr (.inr (fun _ _ _ _ _ h => h))), .inl rfl, .inr (.inr (.inr (fun _ _ _ _ _ h => h))), .inr (.inr (.inl rfl)), .inr (.inr (.inl rfl)), .inr (.inr (.inl rfl)), .inr (.inr (.inr (fun _ _ _ _ h h0 => by cases h; exact h0))), .inr (.inr (.inr (fun _ _ _ _ h h0 => by cases h; exact h0))), .inr (.inr (.inr (fun _ _ _ _ h h0 => by cases h; exact h0))), .inr (.inr (.inr (fun _ _ _ _ _ _ => trivial))), .inr (.inr (.inl rfl)), trivial⟩,
          ⟨.inr (.inr (.inr (fun _ _ _ _ _ h => h))), .inr (.inr (.inr (fun _ _ _ _ _ h => h))), .inl rfl, .inr (.inr (.inl rfl)), .inr (.inr (.inl rfl)), .inr (.inr (.inl rfl)), .inr (.inr (.inr (fun _ _ _ _ h h0 => by cases h; exact h0))), .inr (.inr (.inr (fun _ _ _ _ h h0 => by cases h; exact h0))), .inr (.inr (.inr (fun _ _ _ _ h h0 => by cases h; exact h0))), .inr (.inr (.inr (fun _ _ _ _ _ _ => trivial))), .inr (.inr (.inl rfl)), trivial⟩,
          ⟨.inr (.inr (.inr (fun _ _ _ _ _ h => h))), .inr (.inr (.inr (fun _ _ _ _ _ h => h))), .inr (.inr (.inr (fun _ _ _ _ _ h => h))), .inl rfl, .inr (.inr (.inl rfl)), .inr (.inr (.inl rfl)), .inr (.inr (.inl rfl)), .inr (.inr (.inr (fun _ _ _ _ h h0 => by cases h; exact h0))), .inr (.inr (.inr (fun _ _ _ _ h h0 => by cases h; exact h0))), .inr (.inr (.inr (fun _ _ _ _ _ _ => trivial))), .inr (.inr (.inl rfl)), trivial⟩,
          ⟨.inr (.inr (.inr (fun _ _ _ _ _ h => h))), .inr (.inr (.inr (fun _ _ _ _ _ h => h))), .inr (.inr (.inr (fun _ _ _ _ _ h => h))), .inr (.inr (.inr (fun _ _ _ _ _ h => h))), .inl rfl, .inr (.inr (.inl rfl)), .inr (.inr (.inl rfl)), .inr (.inr (.inl rfl)), .inr (.inr (.inr (fun _ _ _ _ h h0 => by cases h; exact h0))), .inr (.inr (.inr (fun _ _ _ _ _ _ => trivial))), .inr (.inr (.inl rfl)), trivial⟩,
          ⟨.inr (.inr (.inr (fun _ _ _ _ _ h => h))), .inr (.inr (.inr (fun _ _ _ _ _ h => h))), .inr (.inr (.inr (fun _ _ _ _ _ h => h))), .inr (.inr (.inr (fun _ _ _ _ _ h => h))), .inr (.inr (.inr (fun _ _ _ _ _ h => h))), .inl rfl, .inr (.inr (.inl rfl)), .inr (.inr (.inl rfl)), .inr (.inr (.inl rfl)), .inr (.inr (.inl rfl)), .inr (.inr (.inl rfl)), trivial⟩,
          ⟨.inr (.inr (.inr (fun _ _ _ _ _ h => h))), .inr (.inr (.inr (fun _ _ _ _ _ h => h))), .inr (.inr (.inr (fun _ _ _ _ _ h => h))), .inr (.inr (.inr (fun _ _ _ _ _ h => h))), .inr (.inr (.inr (fun _ _ _ _ _ h => h))), .inr (.inr (.inr (fun _ _ _ _ h h0 => by obtain ⟨o', e, hi⟩ := h0; exact ⟨o', e, hi.grow h⟩))), .inl rfl, .inr (.inr (.inl rfl)), .inr (.inr (.inl rfl)), .inr (.inr (.inl rfl)), .inr (.inr (.inl rfl)), trivial⟩,
          ⟨.inr (.inr (.inr (fun _ _ _ _ _ h => h))), .inr (.inr (.inr (fun _ _ _ _ _ h => h))), .inr (.inr (.inr (fun _ _ _ _ _ h => h))), .inr (.inr (.inr (fun _ _ _ _ _ h => h))), .inr (.inr (.inr (fun _ _ _ _ _ h => h))), .inr (.inr (.inr (fun _ _ _ _ h h0 => by cases h; exact h0))), .inr (.inr (.inr (fun _ _ _ _ h h0 => by cases h; exact h0))), .inl rfl, .inr (.inr (.inl rfl)), .inr (.inr (.inl rfl)), .inr (.inr (.inl rfl)), trivial⟩,
          ⟨.inr (.inr (.inr (fun _ _ _ _ _ h => h))), .inr (.inr (.inr (fun _ _ _ _ _ h => h))), .inr (.inr (.inr (fun _ _ _ _ _ h => h))), .inr (.inr (.inr (fun _ _ _ _ _ h => h))), .inr (.inr (.inr (fun _ _ _ _ _ h => h))), .inr (.inr (.inr (fun _ _ _ _ h h0 => by cases h; exact h0))), .inr (.inr (.inr (fun _ _ _ _ h h0 => by cases h; exact h0))), .inr (.inr (.inr (fun _ _ _ _ h h0 => by cases h; exact h0))), .inl rfl, .inr (.inr (.inr (fun _ _ _ _ _ _ => trivial))), .inr (.inr (.inl rfl)), trivial⟩,
          ⟨.inr (.inr (.inr (fun _ _ _ _ _ h => h))), .inr (.inr (.inr (fun _ _ _ _ _ h => h))), .inr (.inr (.inr (fun _ _ _ _ _ h => h))), .inr (.inr (.inr (fun _ _ _ _ _ h => h))), .inr (.inr (.inr (fun _ _ _ _ _ h => h))), .inr (.inr (.inr (fun _ _ _ _ h h0 => by cases h; exact h0))), .inr (.inr (.inr (fun _ _ _ _ h h0 => by cases h; exact h0))), .inr (.inr (.inr (fun _ _ _ _ h h0 => by cases h; exact h0))), .inr (.inr (.inr (fun _ _ _ _ h h0 => by cases h; exact h0))), .inl rfl, .inr (.inr (.inr (fun _ _ _ _ h h0 => by cases h; exact h0))), trivial⟩,
          ⟨.inr (.inr (.inr (fun _ _ _ _ _ h => h))), .inr (.inr (.inr (fun _ _ _ _ _ h => h))), .inr (.inr (.inr (fun _ _ _ _ _ h => h))), .inr (.inr (.inr (fun _ _ _ _ _ h => h))), .inr (.inr (.inr (fun _ _ _ _ _ h => h))), .inr (.inl rfl), .inr (.inl rfl), .inr (.inr (.inr (fun _ _ _ _ h h0 => by obtain ⟨d2, f, e, hi⟩ := h0; exact ⟨d2, f, e, hi.box h⟩))), .inr (.inl rfl), .inr (.inr (.inr (fun _ _ _ _ _ _ => trivial))), .inl rfl, trivial⟩, trivial⟩
      · refine ⟨?_, ?_, ?_, ?_, ?_, ?_, ?_, ?_, ?_, ?_, ?_, trivial⟩
        · -- 0: Op.load 33 (Operand.tmp 3)
          refine step_plain [] (fun _ => rfl) rfl ?_
          intro w1 vals hC1 hi0 hf E hE
          have hI1 : (fun u => Blk u (w.heap.size + 1) 33 (ledCells d) ∧ Blk u w.heap.size 33 (ledCells zLed) ∧ LedInv u i d) w1 := hi0 false rfl
          try dsimp only at hI1
          clear hi0
          clear hf
          have HI1 := Lib.hid hI1
          clear hI1
          simp only [puts, act_put, act_put_none, List.setIfInBounds_toArray, List.set_cons_zero, List.set_cons_succ] at hE ⊢
          refine wpList_get_box (cs := ledCells d) HI1.out.1 rfl rfl rfl hul rfl ledT2_size ?_
          go_wp2_with fail
          exact .mk (hE _ _ rfl hC1 rfl)
        · -- 1: Op.move (Operand.tmp 0)
          refine step_plain [] (fun _ => rfl) rfl ?_
          intro w1 vals hC1 hi0 hf E hE
          have hI1 : (fun u => Blk u (w.heap.size + 1) 33 (ledCells d) ∧ Blk u w.heap.size 33 (ledCells zLed) ∧ LedInv u i d) w1 := hi0 false rfl
          try dsimp only at hI1
          clear hi0
          clear hf
          clear hI1
          simp only [puts, act_put, act_put_none, List.setIfInBounds_toArray, List.set_cons_zero, List.set_cons_succ] at hE ⊢
          go_wp2
          exact .mk (hE _ _ rfl hC1 rfl)
        · -- 2: Op.move (Operand.tmp 4)
          refine step_plain [] (fun _ => rfl) rfl ?_
          intro w1 vals hC1 hi0 hf E hE
          have hI1 : (fun u => Blk u (w.heap.size + 1) 33 (ledCells d) ∧ Blk u w.heap.size 33 (ledCells zLed) ∧ LedInv u i d) w1 := hi0 false rfl
          try dsimp only at hI1
          clear hi0
          clear hf
          clear hI1
          simp only [puts, act_put, act_put_none, List.setIfInBounds_toArray, List.set_cons_zero, List.set_cons_succ] at hE ⊢
          go_wp2
          exact .mk (hE _ _ rfl hC1 rfl)
        · -- 3: Op.indexAddr 22 (Operand.tmp 17) (Operand.tmp 18)
          refine step_plain [(1, some 17), (2, some 18)] (fun _ => rfl) rfl ?_
          intro w1 vals hC1 hi0 hf E hE
          have hI1 : (fun u => Blk u (w.heap.size + 1) 33 (ledCells d) ∧ Blk u w.heap.size 33 (ledCells zLed) ∧ LedInv u i d) w1 := hi0 false rfl
          try dsimp only at hI1
          clear hi0
          have f1 : vals 1 = .slice (some ad) n c := hf 1 rfl
          have f2 : vals 2 = .int .i64 (i : Int) := hf 2 rfl
          try dsimp only at f1 f2
          clear hf
          clear hI1
          simp only [puts, act_put, act_put_none, List.setIfInBounds_toArray, List.set_cons_zero, List.set_cons_succ, f1, f2] at hE ⊢
          clear f1 f2
          go_wp2
          exact .mk (hE _ _ rfl hC1 rfl)
        · -- 4: Op.load 47 (Operand.tmp 19)
          refine step_plain [(3, some 19)] (fun _ => rfl) rfl ?_
          intro w1 vals hC1 hi0 hf E hE
          have hI1 : (fun u => Blk u (w.heap.size + 1) 33 (ledCells d) ∧ Blk u w.heap.size 33 (ledCells zLed) ∧ LedInv u i d) w1 := hi0 false rfl
          try dsimp only at hI1
          clear hi0
          have f3 : vals 3 = .pointer (some (ad.add (i * 24))) := hf 3 rfl
          try dsimp only at f3
          clear hf
          clear hI1
          simp only [puts, act_put, act_put_none, List.setIfInBounds_toArray, List.set_cons_zero, List.set_cons_succ, f3] at hE ⊢
          clear f3
          refine wpList_get_rd (r := (opC X).toList) (HCL.out _ hC1) rfl rfl rfl huo rfl opO_size ?_
          go_wp2_with fail
          exact .mk (hE _ _ rfl hC1 rfl)
        · -- 5: Op.call { callee := Callee.value (Operand.func 13), args := #[Operand.tmp 20], argTypes := #[47] }
          refine step_plain [(4, some 20)] (fun _ => rfl) rfl ?_
          intro w1 vals hC1 hi0 hf E hE
          have hI1 : (fun u => Blk u (w.heap.size + 1) 33 (ledCells d) ∧ Blk u w.heap.size 33 (ledCells zLed) ∧ LedInv u i d) w1 := hi0 false rfl
          try dsimp only at hI1
          clear hi0
          have f4 : vals 4 = .agg (opC X) := hf 4 rfl
          try dsimp only at f4
          clear hf
          clear hI1
          simp only [puts, act_put, act_put_none, List.setIfInBounds_toArray, List.set_cons_zero, List.set_cons_succ, f4] at hE ⊢
          clear f4
          go_wp2_with fail
          refine calls_then (HCT.out _ hC1) ?_
          rintro e w2 ⟨o', rfl, hin, hb2⟩
          have HIN := Lib.hid hin
          clear hin
          go_wp2_with fail
          exact .mk (hE _ _ ⟨o', rfl, HIN.out⟩ (hC1.trans (hb2.mono hC1.size)) hb2)
        · -- 6: Op.call { callee := Callee.value (Operand.func 9), args := #[Operand.tmp 16, Operand.tmp 21], argTypes := #[33
          refine step_plain [(0, some 16), (5, some 21), (5, some 21)] (fun _ => rfl) rfl ?_
          intro w1 vals hC1 hi0 hf E hE
          have hI1 : (fun u => Blk u (w.heap.size + 1) 33 (ledCells d) ∧ Blk u w.heap.size 33 (ledCells zLed) ∧ LedInv u i d) w1 := hi0 false rfl
          try dsimp only at hI1
          clear hi0
          have f0 : vals 0 = .agg (ledCells d) := hf 0 rfl
          have f5 : (fun v u => ∃ o', v = .agg (opC o') ∧ OpIn u o') (vals 5) w1 := hf 5 rfl
          try dsimp only at f0 f5
          clear hf
          have HI1 := Lib.hid hI1
          clear hI1
          obtain ⟨o', hx5, hin⟩ := f5
          have HIN := Lib.hid hin
          clear hin
          simp only [puts, act_put, act_put_none, List.setIfInBounds_toArray, List.set_cons_zero, List.set_cons_succ, f0, hx5] at hE ⊢
          clear f0
          clear hx5
          go_wp2_with fail
          refine calls_then (CA.out _ o' HI1.out.2.2 HIN.out) ?_
          rintro e w2 ⟨d2, f, rfl, hok2, hb2⟩
          have HOK2 := Lib.hid hok2
          clear hok2
          go_wp2_with fail
          exact .mk (hE _ _ ⟨d2, f, rfl, HOK2.out⟩ (hC1.trans (hb2.mono hC1.size)) hb2)
        · -- 7: Op.move (Operand.tmp 22)
          refine step_plain [(6, some 22)] (fun _ => rfl) rfl ?_
          intro w1 vals hC1 hi0 hf E hE
          have hI1 : (fun u => Blk u (w.heap.size + 1) 33 (ledCells d) ∧ Blk u w.heap.size 33 (ledCells zLed) ∧ LedInv u i d) w1 := hi0 false rfl
          try dsimp only at hI1
          clear hi0
          have f6 : (fun v u => ∃ (d2 : LedD) (f : Int), v = .tuple #[.agg (ledCells d2), .int .i64 f] ∧ LedInv u (i + 1) d2) (vals 6) w1 := hf 6 rfl
          try dsimp only at f6
          clear hf
          clear hI1
          obtain ⟨d2, f, hx6, hok2⟩ := f6
          have HOK2 := Lib.hid hok2
          clear hok2
          simp only [puts, act_put, act_put_none, List.setIfInBounds_toArray, List.set_cons_zero, List.set_cons_succ, hx6] at hE ⊢
          clear hx6
          go_wp2
          exact .mk (hE _ _ ⟨d2, f, rfl, HOK2.out⟩ hC1 rfl)
        · -- 8: Op.extract (Operand.tmp 15) 0
          refine step_plain [(7, some 15)] (fun _ => rfl) rfl ?_
          intro w1 vals hC1 hi0 hf E hE
          have hI1 : (fun u => Blk u (w.heap.size + 1) 33 (ledCells d) ∧ Blk u w.heap.size 33 (ledCells zLed) ∧ LedInv u i d) w1 := hi0 false rfl
          try dsimp only at hI1
          clear hi0
          have f7 : (fun v u => ∃ (d2 : LedD) (f : Int), v = .tuple #[.agg (ledCells d2), .int .i64 f] ∧ LedInv u (i + 1) d2) (vals 7) w1 := hf 7 rfl
          try dsimp only at f7
          clear hf
          clear hI1
          obtain ⟨d2, f, hx7, hok2⟩ := f7
          have HOK2 := Lib.hid hok2
          clear hok2
          simp only [puts, act_put, act_put_none, List.setIfInBounds_toArray, List.set_cons_zero, List.set_cons_succ, hx7] at hE ⊢
          clear hx7
          go_wp2
          exact .mk (hE _ _ ⟨d2, rfl, HOK2.out⟩ hC1 rfl)
        · -- 9: Op.extract (Operand.tmp 15) 1
          refine step_plain [(7, some 15)] (fun _ => rfl) rfl ?_
          intro w1 vals hC1 hi0 hf E hE
          clear hi0
          have f7 : (fun v u => ∃ (d2 : LedD) (f : Int), v = .tuple #[.agg (ledCells d2), .int .i64 f] ∧ LedInv u (i + 1) d2) (vals 7) w1 := hf 7 rfl
          try dsimp only at f7
          clear hf
          obtain ⟨d2, f, hx7, hok2⟩ := f7
          clear hok2
          simp only [puts, act_put, act_put_none, List.setIfInBounds_toArray, List.set_cons_zero, List.set_cons_succ, hx7] at hE ⊢
          clear hx7
          go_wp2
          exact .mk (hE _ _ trivial hC1 rfl)
        · -- 10: Op.store 33 (Operand.tmp 3) (Operand.tmp 23)
          refine step_plain [(8, some 23), (6, some 22), (0, some 16), (1, some 17), (2, some 18), (3, some 19), (4, some 20), (5, some 21), (6, some 22), (7, some 15), (8, some 23)] (fun _ => rfl) rfl ?_
          intro w1 vals hC1 hi0 hf E hE
          have hI1 : (fun u => Blk u (w.heap.size + 1) 33 (ledCells d) ∧ Blk u w.heap.size 33 (ledCells zLed) ∧ LedInv u i d) w1 := hi0 false rfl
          try dsimp only at hI1
          clear hi0
          have f0 : vals 0 = .agg (ledCells d) := hf 0 rfl
          have f1 : vals 1 = .slice (some ad) n c := hf 1 rfl
          have f2 : vals 2 = .int .i64 (i : Int) := hf 2 rfl
          have f3 : vals 3 = .pointer (some (ad.add (i * 24))) := hf 3 rfl
          have f4 : vals 4 = .agg (opC X) := hf 4 rfl
          have f5 : (fun v u => ∃ o', v = .agg (opC o') ∧ OpIn u o') (vals 5) w1 := hf 5 rfl
          have f6 : (fun v u => ∃ (d2 : LedD) (f : Int), v = .tuple #[.agg (ledCells d2), .int .i64 f] ∧ LedInv u (i + 1) d2) (vals 6) w1 := hf 6 rfl
          have f7 : (fun v u => ∃ (d2 : LedD) (f : Int), v = .tuple #[.agg (ledCells d2), .int .i64 f] ∧ LedInv u (i + 1) d2) (vals 7) w1 := hf 7 rfl
          have f8 : (fun v u => ∃ d2 : LedD, v = .agg (ledCells d2) ∧ LedInv u (i + 1) d2) (vals 8) w1 := hf 8 rfl
          try dsimp only at f0 f1 f2 f3 f4 f5 f6 f7 f8
          clear hf
          have HI1 := Lib.hid hI1
          clear hI1
          obtain ⟨d2, hx8, hok2⟩ := f8
          have HOK2 := Lib.hid hok2
          clear hok2
          simp only [puts, act_put, act_put_none, List.setIfInBounds_toArray, List.set_cons_zero, List.set_cons_succ, f0, f1, f2, f3, f4, hx8] at hE ⊢
          clear f0 f1 f2 f3 f4
          clear hx8
          refine wpList_put_box (cells := ledCells d2) HI1.out.1 rfl rfl rfl rfl ledT2_size rfl (ledCells_one _) ?_
          intro w3 hb3 hw3
          go_wp2_with fail
          exact .mk (hE undef _ ⟨d2, HOK2.out.wrote HI1.out.1 hw3, hb3, hw3.blk HI1.out.2.1 (by omega)⟩ (hw3.below hC1 (by omega) hC1.size) (KeepBut.of_wrote hw3 HI1.out.1))
      intro w1 vals hC1 hf
      have f0 : vals 0 = .agg (ledCells d) := hf 0 (by decide) rfl
      have f1 : vals 1 = .slice (some ad) n c := hf 1 (by decide) rfl
      have f2 : vals 2 = .int .i64 (i : Int) := hf 2 (by decide) rfl
      have f3 : vals 3 = .pointer (some (ad.add (i * 24))) := hf 3 (by decide) rfl
      have f4 : vals 4 = .agg (opC X) := hf 4 (by decide) rfl
      have f7 : (fun v u => ∃ (d2 : LedD) (f : Int), v = .tuple #[.agg (ledCells d2), .int .i64 f] ∧ LedInv u (i + 1) d2) (vals 7) w1 := hf 7 (by decide) rfl
      have f10 : (fun z u => ∃ d2 : LedD, LedInv u (i + 1) d2 ∧ Blk u (w.heap.size + 1) 33 (ledCells d2) ∧ Blk u w.heap.size 33 (ledCells zLed)) vals w1 := hf 10 (by decide) rfl
      try dsimp only at f0 f1 f2 f3 f4 f7 f10
      clear hf
      simp only [puts, act_put, act_put_none, List.setIfInBounds_toArray, List.set_cons_zero, List.set_cons_succ, f0, f1, f2, f3, f4]
      clear f0 f1 f2 f3 f4
      generalize vals 5 = x5 at *
      generalize vals 6 = x6 at *
      generalize vals 7 = x7 at *
      generalize vals 8 = x8 at *
      generalize vals 9 = x9 at *
      obtain ⟨d2, hok2, hb2, hz2⟩ := f10
      have HFN := Lib.hid (show LedInv w1 (i + 1) d2 ∧ Blk w1 (w.heap.size + 1) 33 (ledCells d2) ∧ Blk w1 w.heap.size 33 (ledCells zLed) ∧ Below w.heap.size w w1 from ⟨hok2, hb2, hz2, hC1⟩)
      clear hC1 HC0 HI0 hok2 hb2 hz2 hdw
      go_wp2_with fail
      go_roundw
      case rel => exact ⟨i + 1, d2, HLT.out, by go_num, HFN.out⟩
      case measure => have := HLT.out; simp [intOf]; omega
    · have hor : ¬ ((i : Int) < (n : Int)) ∨ ((i : Int) < (n : Int) ∧ ¬ (i : Int) < 20) := by have := HMN.out; omega
      have HI20 := Lib.hid (show i ≤ 20 by have := HMN.out; omega)
      clear hlt
      rcases hor with hor | ⟨hor, hor2⟩
      · go_wp2_with (first
          | refine wpList_get_box (x := .tmp 3) (cs := ledCells d) HLB.out rfl rfl rfl hul rfl ledT2_size ?_
          | (refine wpList_put_box (x := .tmp 2) (cells := ledCells d) HZB.out rfl rfl rfl rfl ledT2_size rfl (ledCells_one _) ?_; intro w9 hb9 hw9))
        have HB9 := Lib.hid hb9
        have HFN := Lib.hid (show LgPostR w (.returned (.agg (ledCells d))) w9 from ⟨d, rfl, (HOK.out.wrote HZB.out hw9).more HI20.out, hw9.below HBW.out (Nat.le_refl _) HBW.out.size⟩)
        refine bodyPost_ret (results_box (P := Tryd.prog) rfl rfl HB9.out hul rfl ledT2_size) rfl ?_
        exact HFN.out
      · go_wp2_with (first
          | refine wpList_get_box (x := .tmp 3) (cs := ledCells d) HLB.out rfl rfl rfl hul rfl ledT2_size ?_
          | (refine wpList_put_box (x := .tmp 2) (cells := ledCells d) HZB.out rfl rfl rfl rfl ledT2_size rfl (ledCells_one _) ?_; intro w9 hb9 hw9))
        have HB9 := Lib.hid hb9
        have HFN := Lib.hid (show LgPostR w (.returned (.agg (ledCells d))) w9 from ⟨d, rfl, (HOK.out.wrote HZB.out hw9).more HI20.out, hw9.below HBW.out (Nat.le_refl _) HBW.out.size⟩)
        refine bodyPost_ret (results_box (P := Tryd.prog) rfl rfl HB9.out hul rfl ledT2_size) rfl ?_
        exact HFN.out
end Go.Proofs.YtilhhigdegccgaaDoor
