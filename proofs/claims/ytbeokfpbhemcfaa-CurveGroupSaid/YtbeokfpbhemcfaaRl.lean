/-
  Walks: the reference's P and Less.
-/
import Derived.Test.YtbeokfpbhemcfaaDig
namespace Go.Proofs.Ytbeokfpbhemcfaa
set_option linter.unusedSimpArgs false
set_option linter.unusedVariables false
open Go.RowKit

/-- digits that read -/
def DigPost (l : List Nat) (w : World) (e : Ending) (w' : World) : Prop :=
  ∃ A c, e = .returned (.slice A l.length c) ∧ l.length ≤ c ∧ Rd w' w'.heap.size A (dV l) ∧ Below w.heap.size w w'
theorem dV_set (l : List Nat) (j n : Nat) : (dV l).toArray.setIfInBounds j (.int .i64 (n : Int)) = (dV (l.set j n)).toArray := by simp [dV, numV, List.map_set]
/-- a block of digits that the call made -/
structure D1 (w0 : World) (o : Nat) (l : List Nat) (u : World) : Prop where
  bel : Below w0.heap.size w0 u
  out : Blk u o 3 (dV l).toArray
  lo : w0.heap.size ≤ o
theorem D1.put {w0 u u' : World} {o : Nat} {l l' : List Nat} (k : D1 w0 o l u) (hw : Wrote o u u') (hb : Blk u' o 3 (dV l').toArray) : D1 w0 o l' u' :=
  ⟨hw.below k.bel k.lo k.bel.size, hb, k.lo⟩
theorem D1.next {w0 u u' : World} {o : Nat} {l : List Nat} (k : D1 w0 o l u) (hb : Below u.heap.size u u') : D1 w0 o l u' :=
  ⟨k.bel.trans (hb.mono k.bel.size), k.out.below hb k.out.lt, k.lo⟩
theorem D1.drew {w0 u : World} {o : Nat} {l : List Nat} (k : D1 w0 o l u) : D1 w0 o l u.drew := ⟨k.bel.drew, k.out, k.lo⟩
theorem d1_new {w0 u : World} (l : List Nat) (hb : Below w0.heap.size w0 u) : D1 w0 u.heap.size l (u.alloc (.cells (dV l).toArray 3)) :=
  ⟨hb.alloc hb.size _, Blk.new _ _ _, hb.size⟩
theorem D1.post {w0 u : World} {o n c : Nat} {l : List Nat} (k : D1 w0 o l u) (hn : n = l.length) (hc : n ≤ c) : DigPost l w0 (.returned (.slice (some ⟨o, 0, none⟩) n c)) u :=
  ⟨_, c, by rw [hn], by omega, Rd.of_blk k.out k.out.lt, k.bel⟩
theorem dig_len (l : List Nat) : (dV l).toArray.size = l.length := by simp [dV]
theorem int_size : (Try.prog.info? 3).map (·.size) = some 1 := by kernel_rfl
theorem pfill_end : ((fillL 32).set 0 237).set 31 127 = pL := by decide
set_option maxRecDepth 100000 in
set_option maxHeartbeats 2000000 in
theorem p_any (w : World) : Calls Try.prog 35 #[] w (DigPost pL w) := by
  have hmk : ∀ u : World, (Instr.makeSlice 32 (.int .i64 32) (.int .i64 32)).run Try.prog u = .ok (.slice (some ⟨u.heap.size, 0, none⟩) 32 32) (u.alloc (.cells (dV (fillL 0)).toArray 3)) := fun _ => by kernel_rfl
  have hst0 := d1_new (fillL 0) (Below.refl w.heap.size w)
  have HST0 := Lib.hid hst0
  clear hst0
  go_enter Try.func35, Try.ntmps35
  go_wp2_with fail
  generalize ho : w.heap.size = o at HST0 ⊢
  clear ho hmk
  go_loopw [2] (fun i wr => ∃ k : Nat, k ≤ 32 ∧ i = .int .i64 k ∧ D1 w o (fillL k) wr) (fun i _ => 32 - (intOf i).toNat)
  case atStart => exact ⟨0, by omega, rfl, HST0.out⟩
  case round =>
    clear HST0
    obtain ⟨k, hk, rfl, hst⟩ := hrel
    by_cases hlt : k < 32
    · have hlt' : (k : Int) < 32 := by omega
      have HST := Lib.hid hst
      clear hst
      go_wp2_with (refine wpList_put_cell (x := .tmp 10) (i := k) (v := .int .i64 255) HST.out.out rfl rfl rfl rfl int_size (by rw [dig_len, fill_len k (by omega)]; exact hlt) rfl ?_; intro w5 hb5 hw5; have hst5 := HST.out.put (l' := fillL (k + 1)) hw5 (by rw [show (Value.int IntKind.i64 255) = .int .i64 ((255 : Nat) : Int) from rfl, dV_set, fill_set k hlt] at hb5; exact hb5); have HST5 := Lib.hid hst5; clear hst5 hb5 hw5)
      exact ⟨⟨k + 1, by omega, by go_num, HST5.out⟩, by simp [intOf]; omega⟩
    · obtain rfl : k = 32 := by omega
      have HST := Lib.hid hst
      clear hst
      go_wp2_with (first
        | (refine wpList_put_cell (x := .tmp 12) (i := 0) (v := .int .i64 237) HST.out.out rfl rfl rfl rfl int_size (by rw [dig_len, fill_len 32 (by omega)]; decide) rfl ?_; intro w5 hb5 hw5; have hst5 := HST.out.put (l' := (fillL 32).set 0 237) hw5 (by rw [show (Value.int IntKind.i64 237) = .int .i64 ((237 : Nat) : Int) from rfl, dV_set] at hb5; exact hb5); have HST5 := Lib.hid hst5; clear hst5 hb5 hw5)
        | (refine wpList_put_cell (x := .tmp 14) (i := 31) (v := .int .i64 127) HST5.out.out rfl rfl rfl rfl int_size (by rw [dig_len, List.length_set, fill_len 32 (by omega)]; decide) rfl ?_; intro w6 hb6 hw6; have hst6 := HST5.out.put (l' := pL) hw6 (by rw [show (Value.int IntKind.i64 127) = .int .i64 ((127 : Nat) : Int) from rfl, dV_set, pfill_end] at hb6; exact hb6); have HST6 := Lib.hid hst6; clear hst6 hb6 hw6))
      go_ret
      exact HST6.out.post pL_len.symm (by decide)
theorem less_step {a b : List Nat} {j p n m : Nat} (h : ∀ t, n + m + 1 ≤ t + j → a.getD t 0 = b.getD t 0) (hp : p + j = n + m) (he : a.getD p 0 = b.getD p 0) : ∀ t, n + m + 1 ≤ t + (j + 1) → a.getD t 0 = b.getD t 0 := fun t ht => by
  by_cases hpt : t = p
  · rw [hpt]; exact he
  · exact h t (by omega)
set_option maxRecDepth 100000 in
set_option maxHeartbeats 2000000 in
theorem less_any (a b : List Nat) (ha : Dg a) (hb : Dg b) (A B : Option Addr) (c d : Nat) (w : World) (hra : Rd w w.heap.size A (dV a)) (hrb : Rd w w.heap.size B (dV b)) (hla : a.length ≤ 1000000) (hlb : b.length ≤ 1000000) :
    Calls Try.prog 34 #[.slice A a.length c, .slice B b.length d] w (fun e w' => e = .returned (.bool (decide (leV a < leV b))) ∧ w' = w) := by
  obtain ⟨n, hn⟩ : ∃ n, n = a.length := ⟨_, rfl⟩
  obtain ⟨m, hm⟩ : ∃ m, m = b.length := ⟨_, rfl⟩
  rw [← hn, ← hm]
  have hn63 : (n : Int) ≤ 1000000 := by omega
  have hm63 : (m : Int) ≤ 1000000 := by omega
  have HRA := Lib.hid hra
  have HRB := Lib.hid hrb
  have HA := Lib.hid ha
  have HB := Lib.hid hb
  have HN := Lib.hid hn
  have HM := Lib.hid hm
  clear hra hrb ha hb hn hm hla hlb
  go_enter Try.func34, Try.ntmps34
  go_wp2_with fail
  go_loop [5] (fun i => ∃ j : Nat, j ≤ n + m + 1 ∧ i = .int .i64 ((n : Int) + (m : Int) - (j : Int)) ∧ ∀ t, n + m + 1 ≤ t + j → a.getD t 0 = b.getD t 0) (fun i => (intOf i + 1).toNat)
  case atStart => exact ⟨0, by omega, by go_num, fun t ht => by rw [List.getD_eq_getElem?_getD, List.getD_eq_getElem?_getD, List.getElem?_eq_none (by have := HN.out; omega), List.getElem?_eq_none (by have := HM.out; omega)]⟩
  case round =>
    obtain ⟨j, hj, rfl, hsame⟩ := hrel
    have HSAME := Lib.hid hsame
    clear hsame
    by_cases hlt : j < n + m + 1
    · obtain ⟨p, hp⟩ : ∃ p, p + j = n + m := ⟨n + m - j, by omega⟩
      have hpi : (n : Int) + (m : Int) - (j : Int) = (p : Int) := by omega
      rw [hpi]
      obtain ⟨x, hx⟩ : ∃ x, x = a.getD p 0 := ⟨_, rfl⟩
      obtain ⟨y, hy⟩ : ∃ y, y = b.getD p 0 := ⟨_, rfl⟩
      have HX := Lib.hid hx
      have HY := Lib.hid hy
      have HP := Lib.hid hp
      have hpl2 : (p : Int) ≤ 2000000 := by omega
      clear hpi
      have hcase : ∀ Z : Prop, (((p < n → ∃ ad, A = some ad ∧ w.cell? (ad.add p) = some (.int .i64 (x : Int))) → (¬ p < n → x = 0) → (p < m → ∃ ad, B = some ad ∧ w.cell? (ad.add p) = some (.int .i64 (y : Int))) → (¬ p < m → y = 0) → Z) → Z) := fun Z hZ => hZ
        (fun h => by
          obtain ⟨ad, h1, _, h3⟩ := HRA.out.at_ (k := p) (by rw [dV_length, ← HN.out]; exact h)
          have hpa : p < a.length := by rw [← HN.out]; exact h
          rw [dV_at hpa, show a[p] = x by rw [hx, List.getD_eq_getElem?_getD, List.getElem?_eq_getElem hpa]; rfl] at h3
          exact ⟨ad, h1, h3⟩)
        (fun h => by rw [hx, List.getD_eq_getElem?_getD, List.getElem?_eq_none (by rw [← HN.out]; omega)]; rfl)
        (fun h => by
          obtain ⟨ad, h1, _, h3⟩ := HRB.out.at_ (k := p) (by rw [dV_length, ← HM.out]; exact h)
          have hpa : p < b.length := by rw [← HM.out]; exact h
          rw [dV_at hpa, show b[p] = y by rw [hy, List.getD_eq_getElem?_getD, List.getElem?_eq_getElem hpa]; rfl] at h3
          exact ⟨ad, h1, h3⟩)
        (fun h => by rw [hy, List.getD_eq_getElem?_getD, List.getElem?_eq_none (by rw [← HM.out]; omega)]; rfl)
      apply hcase
      intro h1 h2 h3 h4
      clear hcase hx hy hp
      by_cases hpn : p < n <;> by_cases hpm : p < m
      · -- 1 1
        obtain ⟨ad, rfl, hca⟩ := h1 hpn
        have hpn' : (p : Int) < (n : Int) := by omega
        obtain ⟨bd, rfl, hcb⟩ := h3 hpm
        have hpm' : (p : Int) < (m : Int) := by omega
        clear h1 h2 h3 h4
        by_cases hxy : x = y
        · subst hxy
          go_wp2_with fail
          have hq1 : (p : Int) - 1 = (n : Int) + (m : Int) - ((j + 1 : Nat) : Int) := by have := HP.out; omega
          exact ⟨⟨j + 1, by omega, by rw [hq1], less_step HSAME.out HP.out (HX.out.symm.trans HY.out)⟩, by simp [intOf]⟩
        · have hxy' : ¬ (x : Int) = (y : Int) := by omega
          have HXY := Lib.hid hxy
          clear hxy
          go_wp2_with fail
          go_ret
          refine ⟨?_, rfl⟩
          have hl := less_at HA.out HB.out p (fun t ht => HSAME.out t (by have := HP.out; omega)) (by rw [← HX.out, ← HY.out]; exact HXY.out)
          rw [← HX.out, ← HY.out] at hl
          rw [show decide (leV a < leV b) = decide (x < y) from decide_eq_decide.mpr (by rw [hl])]
          exact congrArg (fun b => Ending.returned (.bool b)) (decide_eq_decide.mpr (by omega))
      · -- 1 0
        obtain ⟨ad, rfl, hca⟩ := h1 hpn
        have hpn' : (p : Int) < (n : Int) := by omega
        obtain rfl := h4 hpm
        have hpm' : ¬ (p : Int) < (m : Int) := by omega
        clear h1 h2 h3 h4
        by_cases hxy : x = 0
        · subst hxy
          go_wp2_with fail
          have hq1 : (p : Int) - 1 = (n : Int) + (m : Int) - ((j + 1 : Nat) : Int) := by have := HP.out; omega
          exact ⟨⟨j + 1, by omega, by rw [hq1], less_step HSAME.out HP.out (HX.out.symm.trans HY.out)⟩, by simp [intOf]⟩
        · have hxy' : ¬ (x : Int) = (0 : Int) := by omega
          have HXY := Lib.hid hxy
          clear hxy
          go_wp2_with fail
          go_ret
          refine ⟨?_, rfl⟩
          have hl := less_at HA.out HB.out p (fun t ht => HSAME.out t (by have := HP.out; omega)) (by rw [← HX.out, ← HY.out]; exact HXY.out)
          rw [← HX.out, ← HY.out] at hl
          rw [show decide (leV a < leV b) = decide (x < 0) from decide_eq_decide.mpr (by rw [hl])]
          exact congrArg (fun b => Ending.returned (.bool b)) (decide_eq_decide.mpr (by omega))
      · -- 0 1
        obtain rfl := h2 hpn
        have hpn' : ¬ (p : Int) < (n : Int) := by omega
        obtain ⟨bd, rfl, hcb⟩ := h3 hpm
        have hpm' : (p : Int) < (m : Int) := by omega
        clear h1 h2 h3 h4
        by_cases hxy : 0 = y
        · subst hxy
          go_wp2_with fail
          have hq1 : (p : Int) - 1 = (n : Int) + (m : Int) - ((j + 1 : Nat) : Int) := by have := HP.out; omega
          exact ⟨⟨j + 1, by omega, by rw [hq1], less_step HSAME.out HP.out (HX.out.symm.trans HY.out)⟩, by simp [intOf]⟩
        · have hxy' : ¬ (0 : Int) = (y : Int) := by omega
          have HXY := Lib.hid hxy
          clear hxy
          go_wp2_with fail
          go_ret
          refine ⟨?_, rfl⟩
          have hl := less_at HA.out HB.out p (fun t ht => HSAME.out t (by have := HP.out; omega)) (by rw [← HX.out, ← HY.out]; exact HXY.out)
          rw [← HX.out, ← HY.out] at hl
          rw [show decide (leV a < leV b) = decide (0 < y) from decide_eq_decide.mpr (by rw [hl])]
          exact congrArg (fun b => Ending.returned (.bool b)) (decide_eq_decide.mpr (by omega))
      · -- 0 0
        obtain rfl := h2 hpn
        have hpn' : ¬ (p : Int) < (n : Int) := by omega
        obtain rfl := h4 hpm
        have hpm' : ¬ (p : Int) < (m : Int) := by omega
        clear h1 h2 h3 h4
        go_wp2_with fail
        have hq1 : (p : Int) - 1 = (n : Int) + (m : Int) - ((j + 1 : Nat) : Int) := by have := HP.out; omega
        exact ⟨⟨j + 1, by omega, by rw [hq1], less_step HSAME.out HP.out (HX.out.symm.trans HY.out)⟩, by simp [intOf]⟩
    · obtain rfl : j = n + m + 1 := by omega
      have hno := less_no HA.out HB.out fun t => HSAME.out t (by omega)
      have hm1 : (n : Int) + (m : Int) - ((n + m + 1 : Nat) : Int) = -1 := by omega
      have HNO := Lib.hid hno
      rw [hm1]
      clear hno hm1 hlt
      go_wp2_with fail
      go_ret
      refine ⟨?_, rfl⟩
      rw [HNO.out, decide_eq_false (Nat.lt_irrefl _)]
      rfl
end Go.Proofs.Ytbeokfpbhemcfaa
