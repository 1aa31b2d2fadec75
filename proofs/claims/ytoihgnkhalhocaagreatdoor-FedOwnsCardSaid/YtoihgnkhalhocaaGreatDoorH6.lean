/-
  Joined texts: Fd2 FdA FdB Fd3 Fd4 Fd6 Fdh Rda Rmy Fd5 Fd7 Fd8 Fd9 FdC Opb FdO.
-/
import Derived.Lib.SlTrimSet
import Derived.Deep.QuietTactic
import Derived.BigQuiet
import Derived.Deep.CutBlock
import Derived.Deep.Slices
import Derived.Test.YtoihgnkhalhocaaGreatDoorH5
import Derived.Test.YtoihgnkhalhocaaGreatDoorH4
import Derived.Test.YtoihgnkhalhocaaGreatDoorH1
/-
  Walks: slices.Clone of keys and of bundles. (Printed by gen/fed2.py.)
-/
namespace Go.Proofs.YtoihgnkhalhocaaGreatDoor.Js
set_option linter.unusedSimpArgs false
set_option linter.unusedVariables false
open Go.RowKit

theorem sl_buns : SlT Tryz.prog 22 25 3 48 := SlT.mk1 (z := .agg #[.string ⟨#[]⟩, .int .i64 0, .slice none 0 0]) Tryz.underlying22 (by kernel_rfl) rfl (by decide)
def ClonePost (t : TypeId) (m n : Nat) (xs : List Value) (w : World) (e : Ending) (w' : World) : Prop := ∃ A' c', e = .returned (.slice A' n c') ∧ OwnR w' w.heap.size t m A' c' n xs ∧ Below w.heap.size w w'
theorem ownR_empty (w : World) (t : TypeId) (m : Nat) : OwnR (w.alloc (.cells #[] t)) w.heap.size t m (some ⟨w.heap.size, 0, none⟩) 0 0 [] :=
  ⟨by simp, .inr ⟨w.heap.size, 0, #[], rfl, Nat.le_refl _, heap_alloc_new w _, Nat.le_refl _, by unfold maxLen; omega, by simp, by simp⟩⟩
set_option maxRecDepth 100000 in
set_option maxHeartbeats 2000000 in
theorem kclone_any (xs : List (Bs × Bs)) (A : Option Addr) (c B : Nat) (w : World) (hr : Rd w B A (rowsV kCell xs)) (hB : B ≤ w.heap.size) (hl : xs.length ≤ 1000000) :
    Calls Tryz.prog 17 #[.slice A xs.length c] w (ClonePost 39 2 xs.length (rowsV kCell xs) w) := by
  obtain ⟨n, hn⟩ : ∃ n, n = xs.length := ⟨_, rfl⟩
  have HN := Lib.hid hn
  have hn' : (n : Int) ≤ 1000000 := by omega
  rw [← hn]
  cases A with
  | none =>
    have h0 : xs = [] := by
      cases xs with
      | nil => rfl
      | cons x r =>
        obtain ⟨ad, hA, _⟩ := rd_rows (f := kCell) (m := 2) (fun _ => rfl) (by decide) hr (i := 0) (by simp)
        simp at hA
    subst h0
    have hne : ∀ u : World, (binOp .eql 23 (.slice none n c) (.slice none 0 0)).run Tryz.prog u = .ok (.bool true) u := fun _ => by kernel_rfl
    clear hr hl hB hn' hn
    go_enter Tryz.func17, Tryz.ntmps17
    go_wp2_with fail
    go_ret
    obtain rfl : n = 0 := HN.out
    exact ⟨none, 0, rfl, OwnR.nil _ _ _ _, Below.refl _ _⟩
  | some ad =>
    have HR := Lib.hid hr
    have HBB := Lib.hid hB
    have hne : ∀ u : World, (binOp .eql 23 (.slice (some ad) n c) (.slice none 0 0)).run Tryz.prog u = .ok (.bool false) u := fun _ => by kernel_rfl
    have HO := Lib.hid (ownR_empty w 39 2)
    have HB := Lib.hid (show Below w.heap.size w (w.alloc (.cells #[] 39)) from (Below.refl _ w).alloc (Nat.le_refl _) _)
    have HL := Lib.hid (show (rowsV kCell xs).length = n * 2 by rw [rowsV_len (f := kCell) (m := 2) (fun _ => rfl) xs, hn])
    clear hr hn hB hl
    go_enter Tryz.func17, Tryz.ntmps17
    go_wp2_with (refine wpList_append_r (news := rowsV kCell xs) (m := n) sl_jwks rfl rfl HO.out rfl rfl HL.out (HR.out.below (HB.out.mono HBB.out)) (rowsV_mem kCell_one xs) (by unfold maxLen; omega) (by omega) (by simp) ?_; intro A1 c1 w1 hown hg hn1; have HOWN := Lib.hid hown; have HG := Lib.hid hg; clear hown hg hn1)
    go_ret
    refine ⟨A1, c1, by simp, by simpa using HOWN.out, HB.out.grown HG.out HB.out.size fun k hk => (HO.out.lt k hk).1⟩
set_option maxRecDepth 100000 in
set_option maxHeartbeats 2000000 in
theorem bclone_any (xs : List FD) (A : Option Addr) (c B : Nat) (w : World) (hr : Rd w B A (rowsV fC xs)) (hB : B ≤ w.heap.size) (hl : xs.length ≤ 1000000) :
    Calls Tryz.prog 23 #[.slice A xs.length c] w (ClonePost 25 3 xs.length (rowsV fC xs) w) := by
  obtain ⟨n, hn⟩ : ∃ n, n = xs.length := ⟨_, rfl⟩
  have HN := Lib.hid hn
  have hn' : (n : Int) ≤ 1000000 := by omega
  rw [← hn]
  cases A with
  | none =>
    have h0 : xs = [] := by
      cases xs with
      | nil => rfl
      | cons x r =>
        obtain ⟨ad, hA, _⟩ := rd_rows (f := fC) (m := 3) (fun _ => rfl) (by decide) hr (i := 0) (by simp)
        simp at hA
    subst h0
    have hne : ∀ u : World, (binOp .eql 22 (.slice none n c) (.slice none 0 0)).run Tryz.prog u = .ok (.bool true) u := fun _ => by kernel_rfl
    clear hr hl hB hn' hn
    go_enter Tryz.func23, Tryz.ntmps23
    go_wp2_with fail
    go_ret
    obtain rfl : n = 0 := HN.out
    exact ⟨none, 0, rfl, OwnR.nil _ _ _ _, Below.refl _ _⟩
  | some ad =>
    have HR := Lib.hid hr
    have HBB := Lib.hid hB
    have hne : ∀ u : World, (binOp .eql 22 (.slice (some ad) n c) (.slice none 0 0)).run Tryz.prog u = .ok (.bool false) u := fun _ => by kernel_rfl
    have HO := Lib.hid (ownR_empty w 25 3)
    have HB := Lib.hid (show Below w.heap.size w (w.alloc (.cells #[] 25)) from (Below.refl _ w).alloc (Nat.le_refl _) _)
    have HL := Lib.hid (show (rowsV fC xs).length = n * 3 by rw [rowsV_len (f := fC) (m := 3) (fun _ => rfl) xs, hn])
    clear hr hn hB hl
    go_enter Tryz.func23, Tryz.ntmps23
    go_wp2_with (refine wpList_append_r (news := rowsV fC xs) (m := n) sl_buns rfl rfl HO.out rfl rfl HL.out (HR.out.below (HB.out.mono HBB.out)) (rowsV_mem fC_one xs) (by unfold maxLen; omega) (by omega) (by simp) ?_; intro A1 c1 w1 hown hg hn1; have HOWN := Lib.hid hown; have HG := Lib.hid hg; clear hown hg hn1)
    go_ret
    refine ⟨A1, c1, by simp, by simpa using HOWN.out, HB.out.grown HG.out HB.out.size fun k hk => (HO.out.lt k hk).1⟩
end Go.Proofs.YtoihgnkhalhocaaGreatDoor.Js
/-
  Walks: the reference's Same and Find of held bundles.
-/
namespace Go.Proofs.YtoihgnkhalhocaaGreatDoor.Js
set_option linter.unusedSimpArgs false
set_option linter.unusedVariables false
open Go.RowKit

theorem sameB_b (x y : FD) : sameB x.d x.n x.k y.d y.n y.k = decide (x.b = y.b) := by
  unfold sameB FD.b
  by_cases h1 : x.d = y.d <;> by_cases h2 : x.n = y.n <;> by_cases h3 : x.k = y.k <;> simp [h1, h2, h3]
theorem fbA_size : (Tryz.prog.info? 25).map (·.size) = some 3 := by kernel_rfl
set_option maxRecDepth 100000 in
set_option maxHeartbeats 4000000 in
theorem same23_any (xs ys : List FD) (A1 A2 : Option Addr) (c1 c2 B : Nat) (w : World) (hr1 : HL w B A1 xs) (hr2 : HL w B A2 ys) (hB : B ≤ w.heap.size) (hl1 : xs.length ≤ 1000) (hl2 : ys.length ≤ 1000) (hk1 : ∀ x ∈ xs, x.k.length ≤ 1000000) (hk2 : ∀ x ∈ ys, x.k.length ≤ 1000000) :
    Calls Tryz.prog 9 #[.slice A1 xs.length c1, .slice A2 ys.length c2] w fun e w' => e = .returned (.bool (decide (xs.map FD.b = ys.map FD.b))) ∧ Below w.heap.size w w' := by
  have hub := Tryz.underlying25
  obtain ⟨r, hrr⟩ : ∃ r, r = decide (xs.map FD.b = ys.map FD.b) := ⟨_, rfl⟩
  rw [← hrr]
  have HRR := Lib.hid hrr
  obtain ⟨n, hn⟩ : ∃ n, n = xs.length := ⟨_, rfl⟩
  obtain ⟨m, hm⟩ : ∃ n, n = ys.length := ⟨_, rfl⟩
  have HN := Lib.hid hn
  have HM := Lib.hid hm
  have hnl : (n : Int) ≤ 1000 := by omega
  have hml : (m : Int) ≤ 1000 := by omega
  rw [← hn, ← hm]
  have HR1 := Lib.hid hr1
  have HR2 := Lib.hid hr2
  have HBB := Lib.hid hB
  have HK1 := Lib.hid hk1
  have HK2 := Lib.hid hk2
  clear hr1 hr2 hB hl1 hl2 hk1 hk2 hn hm hrr
  go_enter Tryz.func9, Tryz.ntmps9
  by_cases hnm : n = m
  · subst hnm
    go_wp2_with fail
    go_loopw [5] (fun x wr => ∃ i : Nat, i ≤ n ∧ x = .int .i64 (i : Int) ∧ (xs.map FD.b).take i = (ys.map FD.b).take i ∧ Below w.heap.size w wr) (fun x _ => n - (intOf x).toNat)
    case atStart => exact ⟨0, Nat.zero_le _, rfl, by simp, Below.refl _ _⟩
    case round =>
      obtain ⟨i, hi, rfl, htk, hbw⟩ := hrel
      have HTK := Lib.hid htk
      have HBW := Lib.hid hbw
      clear htk hbw
      by_cases hlt : i < n
      · have hi1 : i < xs.length := by rw [← HN.out]; exact hlt
        have hi2 : i < ys.length := by rw [← HM.out]; exact hlt
        have hlt' : (i : Int) < (n : Int) := by omega
        have hi0 : (0 : Int) ≤ (i : Int) := by omega
        obtain ⟨ad1, hA1, -, hcell1⟩ := rd_rows (f := fC) (m := 3) (fun _ => rfl) (by decide) (HR1.out.row.below (HBW.out.mono HBB.out)) hi1
        obtain ⟨ad2, hA2, -, hcell2⟩ := rd_rows (f := fC) (m := 3) (fun _ => rfl) (by decide) (HR2.out.row.below (HBW.out.mono HBB.out)) hi2
        subst hA1 hA2
        obtain ⟨X, hX⟩ : ∃ X, X = xs[i] := ⟨_, rfl⟩
        obtain ⟨Y, hY⟩ : ∃ Y, Y = ys[i] := ⟨_, rfl⟩
        have hXm : X ∈ xs := by rw [hX]; exact List.getElem_mem hi1
        have hYm : Y ∈ ys := by rw [hY]; exact List.getElem_mem hi2
        rw [← hX] at hcell1
        rw [← hY] at hcell2
        have HC1 := Lib.hid (show ∀ u, Below wr.heap.size wr u → ∀ j v, (fC X).toList[j]? = some v → u.cell? ((ad1.add (i * 3)).add j) = some v from fun u hu j v hv => by
          have h := hcell1 j v (by simpa using hv)
          exact (hu.cell (World.block_lt_of_cell? wr _ h)).trans h)
        have HC2 := Lib.hid (show ∀ u, Below wr.heap.size wr u → ∀ j v, (fC Y).toList[j]? = some v → u.cell? ((ad2.add (i * 3)).add j) = some v from fun u hu j v hv => by
          have h := hcell2 j v (by simpa using hv)
          exact (hu.cell (World.block_lt_of_cell? wr _ h)).trans h)
        obtain ⟨q, hqq⟩ : ∃ q, q = decide (X.b = Y.b) := ⟨_, rfl⟩
        have HSM := Lib.hid (show ∀ u, Below wr.heap.size wr u → Calls Tryz.prog 13 #[.agg (fC X), .agg (fC Y)] u fun e w' => e = .returned (.bool q) ∧ Below u.heap.size u w' from fun u hu => by
          have hb := HBW.out.trans (hu.mono HBW.out.size)
          have h := same11_any X.d Y.d X.n Y.n X.k Y.k X.A Y.A X.c Y.c B B u ((HR1.out.keys X hXm).below (hb.mono HBB.out)) ((HR2.out.keys Y hYm).below (hb.mono HBB.out)) (Nat.le_trans HBB.out hb.size) (Nat.le_trans HBB.out hb.size) (by have := HK1.out X hXm; omega) (by have := HK2.out Y hYm; omega)
          rw [sameB_b, ← hqq] at h
          exact h)
        have HQ := Lib.hid hqq
        have HLT := Lib.hid hlt
        have HXI := Lib.hid (show ∃ (h1 : i < (xs.map FD.b).length) (h2 : i < (ys.map FD.b).length), X.b = (xs.map FD.b)[i] ∧ Y.b = (ys.map FD.b)[i] from ⟨by simpa using hi1, by simpa using hi2, by simp [hX], by simp [hY]⟩)
        clear hX hY hXm hYm hcell1 hcell2 hi1 hi2 hlt hqq
        go_wp2_with fail
        have HC0 : Below wr.heap.size wr wr.drew := (Below.refl _ _).drew
        apply wp_region_seqg (fun u => Below wr.heap.size wr u) (fun u u' => Below u.heap.size u u') [_, _, _, _, _, _, _, _, _, _] (gOf []) (by kernel_rfl) (by kernel_rfl) (stabL_of _ trivial) HC0
        iterate 3
          ((first | (apply SeqG.next; rfl; rfl; rfl)); (simp only [act_put, act_put_none, List.setIfInBounds_toArray, List.set_cons_zero, List.set_cons_succ]; rfl); (intro w1 hC1 hf E hE; go_wp2; exact .mk (hE _ hC1 (Below.refl _ _))))
        apply SeqG.next
        · rfl
        · rfl
        · rfl
        · simp only [act_put, act_put_none, List.setIfInBounds_toArray, List.set_cons_zero, List.set_cons_succ]
          rfl
        · intro w1 hC1 hf E hE
          refine wpList_get_rd (r := (fC X).toList) (HC1.out _ hC1) rfl rfl rfl hub rfl fbA_size ?_
          go_wp2_with fail
          exact .mk (hE _ hC1 (Below.refl _ _))
        iterate 3
          ((first | (apply SeqG.next; rfl; rfl; rfl)); (simp only [act_put, act_put_none, List.setIfInBounds_toArray, List.set_cons_zero, List.set_cons_succ]; rfl); (intro w1 hC1 hf E hE; go_wp2; exact .mk (hE _ hC1 (Below.refl _ _))))
        apply SeqG.next
        · rfl
        · rfl
        · rfl
        · simp only [act_put, act_put_none, List.setIfInBounds_toArray, List.set_cons_zero, List.set_cons_succ]
          rfl
        · intro w1 hC1 hf E hE
          refine wpList_get_rd (r := (fC Y).toList) (HC2.out _ hC1) rfl rfl rfl hub rfl fbA_size ?_
          go_wp2_with fail
          exact .mk (hE _ hC1 (Below.refl _ _))
        apply SeqG.next
        · rfl
        · rfl
        · rfl
        · simp only [act_put, act_put_none, List.setIfInBounds_toArray, List.set_cons_zero, List.set_cons_succ]
          rfl
        · intro w1 hC1 hf E hE
          go_wp2_with fail
          refine calls_then (HSM.out _ hC1) ?_
          rintro e w2 ⟨rfl, hb2⟩
          go_wp2_with fail
          exact .mk (hE _ (hC1.trans (hb2.mono hC1.size)) hb2)
        iterate 1
          ((first | (apply SeqG.next; rfl; rfl; rfl)); (simp only [act_put, act_put_none, List.setIfInBounds_toArray, List.set_cons_zero, List.set_cons_succ]; rfl); (intro w1 hC1 hf E hE; go_wp2; exact .mk (hE _ hC1 (Below.refl _ _))))
        refine SeqG.nil ?_
        intro w1 hC1 hf
        clear hf
        have HB6 := Lib.hid (HBW.out.trans (hC1.mono HBW.out.size))
        clear hC1 HC0
        cases q with
        | true =>
          have HT2 := Lib.hid (show (xs.map FD.b).take (i + 1) = (ys.map FD.b).take (i + 1) by
            obtain ⟨h1, h2, hx, hy⟩ := HXI.out
            rw [List.take_succ_eq_append_getElem h1, List.take_succ_eq_append_getElem h2, HTK.out, ← hx, ← hy, of_decide_eq_true HQ.out.symm])
          go_wp2_with fail
          go_roundw
          case rel => exact ⟨i + 1, HLT.out, by go_num, HT2.out, HB6.out⟩
          case measure => have := HLT.out; simp [intOf]; omega
        | false =>
          have HRF := Lib.hid (show r = false by
            rw [HRR.out, decide_eq_false]
            intro h
            obtain ⟨h1, h2, hx, hy⟩ := HXI.out
            refine of_decide_eq_false HQ.out.symm ?_
            rw [hx, hy]
            simp only [h])
          go_wp2_with fail
          go_ret
          exact ⟨by rw [HRF.out]; rfl, HB6.out⟩
      · obtain rfl : i = n := by omega
        have HRT := Lib.hid (show r = true by
          rw [HRR.out, decide_eq_true]
          have h := HTK.out
          rwa [List.take_of_length_le (by rw [List.length_map, ← HN.out]; exact Nat.le_refl _), List.take_of_length_le (by rw [List.length_map, ← HM.out]; exact Nat.le_refl _)] at h)
        go_wp2_with fail
        go_ret
        exact ⟨by rw [HRT.out]; rfl, HBW.out⟩
  · have hm' : ((n : Int) == (m : Int)) = false := by simp; omega
    have HRF := Lib.hid (show r = false by
      rw [HRR.out, decide_eq_false]
      intro h
      have := congrArg List.length h
      rw [List.length_map, List.length_map, ← HN.out, ← HM.out] at this
      exact hnm this)
    go_wp2_with fail
    go_ret
    exact ⟨by rw [HRF.out]; rfl, Below.refl _ _⟩
/-- the first of a domain -/
def fI (l : List FD) (d : Bs) : Nat := (l.takeWhile fun x => decide (x.d ≠ d)).length
theorem fI_eq {l : List FD} {d : Bs} {i : Nat} (h0 : ∀ x ∈ l.take i, x.d ≠ d) (h : i < l.length) (h1 : (l[i]).d = d) : fI l d = i := by
  have e : l = l.take i ++ l[i] :: l.drop (i + 1) := by rw [← List.drop_eq_getElem_cons h, List.take_append_drop]
  have e2 : l.takeWhile (fun x => decide (x.d ≠ d)) = l.take i := by
    conv => lhs; rw [e]
    rw [List.takeWhile_append_of_pos (by simpa using h0), List.takeWhile_cons, if_neg (by simpa using h1)]
    simp
  rw [fI, e2, List.length_take]
  omega
theorem fI_all {l : List FD} {d : Bs} (h0 : ∀ x ∈ l, x.d ≠ d) : fI l d = l.length := by
  have e2 : l.takeWhile (fun x => decide (x.d ≠ d)) = l := by
    have := List.takeWhile_append_of_pos (p := fun x : FD => decide (x.d ≠ d)) (l₁ := l) (l₂ := []) (by simpa using h0)
    simpa using this
  rw [fI, e2]
def fZ (l : List FD) (d : Bs) : Int := if fI l d < l.length then (fI l d : Int) else -1
set_option maxRecDepth 100000 in
set_option maxHeartbeats 4000000 in
theorem find23_any (l : List FD) (s : Bs) (A : Option Addr) (c B : Nat) (w : World) (hr : Rd w B A (rowsV fC l)) (hl : l.length ≤ 1000) :
    Calls Tryz.prog 11 #[.slice A l.length c, .string (bs s)] w fun e w' => e = .returned (.int .i64 (fZ l s)) ∧ w' = w := by
  obtain ⟨n, hn⟩ : ∃ n, n = l.length := ⟨_, rfl⟩
  have HN := Lib.hid hn
  have hnl : (n : Int) ≤ 1000 := by omega
  rw [← hn]
  have HR := Lib.hid hr
  obtain ⟨z, hz⟩ : ∃ z, z = fZ l s := ⟨_, rfl⟩
  rw [← hz]
  have HZ := Lib.hid hz
  clear hr hl hn hz
  go_enter Tryz.func11, Tryz.ntmps11
  go_wp2_with fail
  go_loopw [5] (fun x wr => ∃ i : Nat, i ≤ n ∧ x = .int .i64 (i : Int) ∧ (∀ k ∈ l.take i, k.d ≠ s) ∧ wr = w) (fun x _ => n - (intOf x).toNat)
  case atStart => exact ⟨0, Nat.zero_le _, rfl, by simp, rfl⟩
  case round =>
    obtain ⟨i, hi, rfl, hok, rfl⟩ := hrel
    have HOK := Lib.hid hok
    clear hok
    by_cases hlt : i < n
    · have hil : i < l.length := by rw [← HN.out]; exact hlt
      have hlt' : (i : Int) < (n : Int) := by omega
      have hi0 : (0 : Int) ≤ (i : Int) := by omega
      obtain ⟨ad, hA, -, hcell⟩ := rd_rows (f := fC) (m := 3) (fun _ => rfl) (by decide) HR.out hil
      subst hA
      obtain ⟨X, hX⟩ : ∃ X, X = l[i] := ⟨_, rfl⟩
      rw [← hX] at hcell
      have d0 : wr.cell? (ad.add (i * 3)) = some (.string (bs X.d)) := hcell 0 _ rfl
      have HLT := Lib.hid hlt
      by_cases hq : X.d = s
      · have hq' : ((bs X.d).toList == (bs s).toList) = true := by rw [bs_toList, bs_toList]; simpa using hq
        have HP := Lib.hid (show z = (i : Int) by rw [HZ.out, fZ, fI_eq HOK.out hil (by rw [← hX]; exact hq), if_pos hil])
        clear hX hcell hil hlt hq
        go_wp2_with fail
        go_ret
        exact ⟨by rw [HP.out]; rfl, rfl⟩
      · have hq' : ((bs X.d).toList == (bs s).toList) = false := by rw [bs_toList, bs_toList]; simpa using hq
        have HP := Lib.hid (show ∀ k ∈ l.take (i + 1), k.d ≠ s from fun k hk => by
          rw [List.take_succ_eq_append_getElem hil, List.mem_append] at hk
          rcases hk with hk | hk
          · exact HOK.out k hk
          · have e : k = X := by rw [hX]; simpa using hk
            rw [e]
            exact hq)
        clear hX hcell hil hlt hq
        go_wp2_with fail
        go_roundw
        case rel => exact ⟨i + 1, HLT.out, by go_num, HP.out, by trivial⟩
        case measure => have := HLT.out; simp [intOf]; omega
    · obtain rfl : i = n := by omega
      have HP := Lib.hid (show z = -1 by
        have h0 : l.take i = l := List.take_of_length_le (by rw [← HN.out]; exact Nat.le_refl _)
        have h := HOK.out
        rw [h0] at h
        rw [HZ.out, fZ, fI_all h, if_neg (by omega)])
      clear hlt
      go_wp2_with fail
      go_ret
      exact ⟨by rw [HP.out]; rfl, rfl⟩
end Go.Proofs.YtoihgnkhalhocaaGreatDoor.Js
/-
  Walks: fed.Find; the law's example.
-/
namespace Go.Proofs.YtoihgnkhalhocaaGreatDoor.Js
set_option linter.unusedSimpArgs false
set_option linter.unusedVariables false
open Go.RowKit

theorem fbB_size : (Tryz.prog.info? 25).map (·.size) = some 3 := by kernel_rfl
/-- what Find gives -/
def FFPost (l : List FD) (s : Bs) (w : World) (e : Ending) (w' : World) : Prop :=
  ((∃ (h : fI l s < l.length) (A' : Option Addr) (c' : Nat), e = .returned (.tuple #[.agg (bC (l[fI l s]).d (l[fI l s]).n A' (l[fI l s]).k.length c'), .int .i64 0]) ∧ Rd w' w'.heap.size A' (rowsV kCell (l[fI l s]).k)) ∨
    (fI l s = l.length ∧ e = .returned (.tuple #[.agg zB, .int .i64 16]))) ∧ Below w.heap.size w w'
theorem ffpost_hit {l : List FD} {s : Bs} {w w' : World} {i : Nat} {X : FD} {A' : Option Addr} {c' : Nat} (hi : fI l s = i) (h : i < l.length) (hX : l[i] = X) (hr : Rd w' w'.heap.size A' (rowsV kCell X.k)) (hb : Below w.heap.size w w') :
    FFPost l s w (.returned (.tuple #[.agg (bC X.d X.n A' X.k.length c'), .int .i64 0])) w' := by
  subst hi hX
  exact ⟨.inl ⟨h, A', c', rfl, hr⟩, hb⟩
set_option maxRecDepth 100000 in
set_option maxHeartbeats 4000000 in
theorem ffind_any (l : List FD) (s : Bs) (A : Option Addr) (c B : Nat) (w : World) (hr : HL w B A l) (hB : B ≤ w.heap.size) (hl : l.length ≤ 1000) (hk : ∀ x ∈ l, x.k.length ≤ 1000000) :
    Calls Tryz.prog 10 #[.slice A l.length c, .string (bs s)] w (FFPost l s w) := by
  have hub := Tryz.underlying25
  obtain ⟨n, hn⟩ : ∃ n, n = l.length := ⟨_, rfl⟩
  have HN := Lib.hid hn
  have hnl : (n : Int) ≤ 1000 := by omega
  rw [← hn]
  have HR := Lib.hid hr
  have HBB := Lib.hid hB
  have HKK := Lib.hid hk
  obtain ⟨W0, hW0⟩ : ∃ W0, W0 = w.alloc (.cells zB 25) := ⟨_, rfl⟩
  have HB0 := Lib.hid (show Below w.heap.size w W0 by rw [hW0]; exact (Below.refl _ w).alloc (Nat.le_refl _) _)
  have HK0 := Lib.hid (show Blk W0 w.heap.size 25 zB by rw [hW0]; exact Blk.new _ _ _)
  have HS0 := Lib.hid (show W0.heap.size = w.heap.size + 1 by rw [hW0]; simp)
  have HW0 := Lib.hid hW0
  clear hr hB hl hk hn hW0
  go_enter Tryz.func10, Tryz.ntmps10
  go_upto_region 1 with (fail)
  rw [show w.alloc (.cells #[.string ⟨#[]⟩, .int .i64 0, .slice none 0 0] 25) = W0 from HW0.out.symm]
  go_wp2_with fail
  go_loopw [10] (fun x wr => ∃ i : Nat, i ≤ n ∧ x = .int .i64 (i : Int) ∧ (∀ k ∈ l.take i, k.d ≠ s) ∧ Below W0.heap.size W0 wr) (fun x _ => n - (intOf x).toNat)
  case atStart => exact ⟨0, Nat.zero_le _, rfl, by simp, Below.refl _ _⟩
  case round =>
    obtain ⟨i, hi, rfl, hok, hbw⟩ := hrel
    have HOK := Lib.hid hok
    have HBW := Lib.hid hbw
    have HKR := Lib.hid (HK0.out.below hbw HK0.out.lt)
    have HBO := Lib.hid (HB0.out.trans (hbw.mono HB0.out.size))
    clear hok hbw
    by_cases hlt : i < n
    · have hil : i < l.length := by rw [← HN.out]; exact hlt
      have hlt' : (i : Int) < (n : Int) := by omega
      have hi0 : (0 : Int) ≤ (i : Int) := by omega
      obtain ⟨ad, hA, -, hcell⟩ := rd_rows (f := fC) (m := 3) (fun _ => rfl) (by decide) (HR.out.row.below (HBO.out.mono HBB.out)) hil
      subst hA
      obtain ⟨X, hX⟩ : ∃ X, X = l[i] := ⟨_, rfl⟩
      have hXm : X ∈ l := by rw [hX]; exact List.getElem_mem hil
      rw [← hX] at hcell
      have HCL := Lib.hid (show ∀ j u, (fC X).toList[j]? = some u → wr.cell? ((ad.add (i * 3)).add j) = some u from fun j u hu => hcell j u (by simpa using hu))
      have HCK := Lib.hid (show ∀ u, Below wr.heap.size wr u → Calls Tryz.prog 17 #[.slice X.A X.k.length X.c] u (ClonePost 39 2 X.k.length (rowsV kCell X.k) u) from fun u hu =>
        kclone_any X.k X.A X.c B u ((HR.out.keys X hXm).below ((HBO.out.trans (hu.mono HBO.out.size)).mono HBB.out)) (Nat.le_trans HBB.out (HBO.out.trans (hu.mono HBO.out.size)).size) (HKK.out X hXm))
      have HLT := Lib.hid hlt
      have HXL := Lib.hid (show ∃ h : i < l.length, X = l[i] from ⟨hil, hX⟩)
      clear hX hXm hcell hil hlt
      go_upto_region 4 with (first
        | refine wpList_get_rd (r := (fC X).toList) HCL.out rfl rfl rfl hub rfl fbB_size ?_
        | (refine wpList_put_box (cells := fC X) (Blk.new _ _ _) rfl rfl rfl rfl fbB_size rfl (fC_one X) ?_; intro w5 hb5 hw5))
      have hbw5 : Below wr.heap.size wr w5 := box_low9 hw5
      obtain ⟨H, hH⟩ : ∃ H, H = wr.heap.size := ⟨_, rfl⟩
      rw [← hH] at hb5 ⊢
      have HK5 := Lib.hid hb5
      have HB5 := Lib.hid hbw5
      have HHG := Lib.hid (show w.heap.size < H by rw [hH]; exact HKR.out.lt)
      have HHE := Lib.hid hH
      have a0 : w5.cell? ⟨H, 0, none⟩ = some (.string (bs X.d)) := hb5.cell 0
      have a2 : w5.cell? ⟨H, 2, none⟩ = some (.slice X.A X.k.length X.c) := hb5.cell 2
      clear hb5 hw5 hbw5 hH
      by_cases hq : X.d = s
      · have hq' : ((bs X.d).toList == (bs s).toList) = true := by rw [bs_toList, bs_toList]; simpa using hq
        have HFI := Lib.hid (show fI l s = i by
          obtain ⟨h, hx⟩ := HXL.out
          exact fI_eq HOK.out h (by rw [← hx]; exact hq))
        clear hq
        go_wp2_with fail
        refine calls_then (HCK.out _ HB5.out) ?_
        rintro e w6 ⟨A2, c2, rfl, ho6, hb6⟩
        have HK6 := Lib.hid (HK5.out.below hb6 HK5.out.lt)
        have HO6 := Lib.hid ho6
        have HB6 := Lib.hid (HB5.out.trans (hb6.mono HB5.out.size))
        have HG6 := Lib.hid ((HKR.out.below HB5.out HKR.out.lt).below hb6 (Nat.lt_of_lt_of_le HKR.out.lt HB5.out.size))
        have HS6 := Lib.hid (show H < w5.heap.size from HK5.out.lt)
        clear ho6 hb6 a0 a2
        go_upto_region 6 with (refine wpList_put_cell (i := 2) HK6.out rfl rfl rfl rfl (by kernel_rfl) (by simp [fC, bC]) rfl ?_; intro w7 hb7 hw7)
        have HK7 := Lib.hid (show Blk w7 H 25 (bC X.d X.n A2 X.k.length c2) from hb7)
        have HG7 := Lib.hid (hw7.blk HG6.out (by have := HHG.out; omega))
        have HB7 := Lib.hid (hw7.below (HBO.out.trans (HB6.out.mono HBO.out.size)) (by have := HHG.out; omega) (HBO.out.trans (HB6.out.mono HBO.out.size)).size)
        have HO7 := Lib.hid (ownR_wrote HO6.out hw7 fun k hk => by have := (HO6.out.lt k hk).1; have := HS6.out; omega)
        clear hb7 hw7
        go_wp2_with (first
          | refine wpList_get_box (cs := bC X.d X.n A2 X.k.length c2) HK7.out rfl rfl rfl hub rfl fbB_size ?_
          | (refine wpList_put_box (cells := bC X.d X.n A2 X.k.length c2) HG7.out rfl rfl rfl rfl fbB_size rfl (by simp [bC, Value.oneCell']) ?_; intro w9 hb9 hw9))
        have HB9 := Lib.hid hb9
        have HFN := Lib.hid (show FFPost l s w (.returned (.tuple #[.agg (bC X.d X.n A2 X.k.length c2), .int .i64 0])) w9 by
          obtain ⟨h, hx⟩ := HXL.out
          have ho := ownR_wrote HO7.out hw9 fun k hk => by have := (HO7.out.lt k hk).1; have := HS6.out; have := HHG.out; omega
          exact ffpost_hit HFI.out h hx.symm (Rd.of_own ho.x (Nat.le_refl _)) (hw9.below HB7.out (Nat.le_refl _) HB7.out.size))
        refine bodyPost_ret (results_box_tmp (P := Tryz.prog) rfl rfl HB9.out hub rfl fbB_size) rfl ?_
        exact HFN.out
      · have hq' : ((bs X.d).toList == (bs s).toList) = false := by rw [bs_toList, bs_toList]; simpa using hq
        have HP := Lib.hid (show ∀ k ∈ l.take (i + 1), k.d ≠ s from fun k hk => by
          obtain ⟨h, hx⟩ := HXL.out
          rw [List.take_succ_eq_append_getElem h, List.mem_append] at hk
          rcases hk with hk | hk
          · exact HOK.out k hk
          · have e : k = X := by rw [hx]; simpa using hk
            rw [e]
            exact hq)
        clear hq
        go_wp2_with fail
        go_roundw
        case rel => exact ⟨i + 1, HLT.out, by go_num, HP.out, HBW.out.trans (HB5.out.mono HBW.out.size)⟩
        case measure => have := HLT.out; simp [intOf]; omega
    · obtain rfl : i = n := by omega
      have HFA := Lib.hid (show fI l s = l.length by
        have h0 : l.take i = l := List.take_of_length_le (by rw [← HN.out]; exact Nat.le_refl _)
        have h := HOK.out
        rw [h0] at h
        exact fI_all h)
      clear hlt
      go_wp2_with (refine wpList_put_box (cells := zB) HKR.out rfl rfl rfl rfl fbB_size rfl (by simp [zB, Value.oneCell']) ?_; intro w9 hb9 hw9)
      have HB9 := Lib.hid hb9
      have HFN := Lib.hid (show FFPost l s w (.returned (.tuple #[.agg zB, .int .i64 16])) w9 from ⟨.inr ⟨HFA.out, rfl⟩, hw9.below HBO.out (Nat.le_refl _) HBO.out.size⟩)
      refine bodyPost_ret (results_box_tmp (P := Tryz.prog) rfl rfl HB9.out hub rfl fbB_size) rfl ?_
      exact HFN.out
end Go.Proofs.YtoihgnkhalhocaaGreatDoor.Js
/-
  Walk: fed.clone.
-/
namespace Go.Proofs.YtoihgnkhalhocaaGreatDoor.Js
set_option linter.unusedSimpArgs false
set_option linter.unusedVariables false
open Go.RowKit

/-- so many of the bundles have keys of their own -/
structure Cl (w : World) (hs : List FD) (A1 : Option Addr) (c1 : Nat) (i : Nat) (ys : List FD) (u : World) : Prop where
  len : ys.length = hs.length
  same : ∀ j (h : j < ys.length) (h' : j < hs.length), ys[j].b = hs[j].b
  rest : ∀ j (h : j < ys.length) (h' : j < hs.length), i ≤ j → ys[j] = hs[j]
  keys : ∀ j (h : j < ys.length), j < i → OwnR u w.heap.size 39 2 ys[j].A ys[j].c ys[j].k.length (rowsV kCell ys[j].k)
  row : OwnR u w.heap.size 25 3 A1 c1 ys.length (rowsV fC ys)
  low : Below w.heap.size w u
section
variable {w : World} {hs : List FD} {A1 : Option Addr} {c1 i : Nat} {ys : List FD} {u u' : World}
theorem Cl.below (h : Cl w hs A1 c1 i ys u) (hb : Below u.heap.size u u') : Cl w hs A1 c1 i ys u' :=
  ⟨h.len, h.same, h.rest, fun j hj hi => (h.keys j hj hi).below hb, h.row.below hb, h.low.trans (hb.mono h.low.size)⟩
theorem Cl.put {g : Nat} {cs : Array Value} {x : FD} (h : Cl w hs A1 c1 i ys u) (hi : i < ys.length) (hg : w.heap.size ≤ g) (hb : Blk u g 25 cs) (hw : Wrote g u u') (hx : x.b = (ys[i]).b)
    (hk : OwnR u w.heap.size 39 2 x.A x.c x.k.length (rowsV kCell x.k)) (hr : OwnR u' w.heap.size 25 3 A1 c1 ys.length (rowsV fC (ys.set i x))) : Cl w hs A1 c1 (i + 1) (ys.set i x) u' := by
  have hkeep : ∀ {A : Option Addr} {c n : Nat} {xs : List Value}, OwnR u w.heap.size 39 2 A c n xs → OwnR u' w.heap.size 39 2 A c n xs := fun h => ownR_wrote h hw (ownR_ne h hb (by decide))
  refine ⟨by rw [List.length_set]; exact h.len, fun j hj hj' => ?_, fun j hj hj' hij => ?_, fun j hj hij => ?_, by rw [List.length_set]; exact hr, hw.below h.low hg h.low.size⟩
  · rw [List.length_set] at hj
    rw [List.getElem_set]
    split
    · rename_i he
      subst he
      rw [hx]
      exact h.same i hj hj'
    · exact h.same j hj hj'
  · rw [List.length_set] at hj
    rw [List.getElem_set, if_neg (by omega)]
    exact h.rest j hj hj' (by omega)
  · rw [List.length_set] at hj
    by_cases he : i = j
    · subst he
      simp only [List.getElem_set_self]
      exact hkeep hk
    · have : (ys.set i x)[j]'(by rw [List.length_set]; exact hj) = ys[j] := by rw [List.getElem_set, if_neg he]
      rw [this]
      exact hkeep (h.keys j hj (by omega))
theorem Cl.done (h : Cl w hs A1 c1 i ys u) (hi : i = hs.length) : HO u w.heap.size A1 c1 ys ∧ ys.map FD.b = hs.map FD.b := by
  refine ⟨⟨h.row, fun x hx => ?_⟩, List.ext_getElem (by simp [h.len]) fun j h1 h2 => ?_⟩
  · obtain ⟨j, hj, rfl⟩ := List.getElem_of_mem hx
    exact h.keys j hj (by rw [hi, ← h.len]; exact hj)
  · simp only [List.getElem_map]
    exact h.same j _ _
end
def FClPost (hs : List FD) (w : World) (e : Ending) (w' : World) : Prop := ∃ A' c' ys, e = .returned (.slice A' ys.length c') ∧ ys.map FD.b = hs.map FD.b ∧ HO w' w.heap.size A' c' ys ∧ Below w.heap.size w w'
set_option maxRecDepth 100000 in
set_option maxHeartbeats 2000000 in
theorem fclone_any (hs : List FD) (A : Option Addr) (c B : Nat) (w : World) (hr : HL w B A hs) (hB : B ≤ w.heap.size) (hl : hs.length ≤ 1000) (hk : ∀ x ∈ hs, x.k.length ≤ 1000000) :
    Calls Tryz.prog 15 #[.slice A hs.length c] w (FClPost hs w) := by
  have C0 := bclone_any hs A c B w hr.row hB (by omega)
  obtain ⟨n, hn⟩ : ∃ n, n = hs.length := ⟨_, rfl⟩
  have HN := Lib.hid hn
  have hn' : (n : Int) ≤ 1000 := by omega
  rw [← hn] at C0 ⊢
  have HR := Lib.hid hr
  have HBB := Lib.hid hB
  have HKK := Lib.hid hk
  have C1 := Lib.hid C0
  clear hr hn hl hB hk C0
  go_enter Tryz.func15, Tryz.ntmps15
  go_wp2_with fail
  refine calls_then C1.out ?_
  rintro e w1 ⟨A1, c1, rfl, ho1, hb1⟩
  have HC := Lib.hid (show Cl w hs A1 c1 0 hs w1 from ⟨rfl, fun _ _ _ => rfl, fun _ _ _ _ => rfl, fun j _ h => absurd h (by omega), by rw [HN.out] at ho1; exact ho1, hb1⟩)
  clear ho1 hb1
  go_wp2_with fail
  go_loopw [9] (fun x wr => ∃ (i : Nat) (ys : List FD), i ≤ n ∧ x = .int .i64 (i : Int) ∧ Cl w hs A1 c1 i ys wr) (fun x _ => n - (intOf x).toNat)
  case atStart => exact ⟨0, hs, Nat.zero_le _, rfl, HC.out⟩
  case round =>
    obtain ⟨i, ys, hi, rfl, hc⟩ := hrel
    by_cases hlt : i < n
    · have hih : i < hs.length := by rw [← HN.out]; exact hlt
      have hiy : i < ys.length := by rw [hc.len]; exact hih
      have hlt' : (i : Int) < (n : Int) := by omega
      obtain ⟨ad, cur, hA, hbase, hblt, hblk, hoff, hput⟩ := ownR_ad (f := fC) (m := 3) (fun _ => rfl) hc.row hiy (j := 2) (by decide)
      subst hA
      obtain ⟨ad', hA', -, hcell⟩ := rd_rows (f := fC) (m := 3) (fun _ => rfl) (by decide) (Rd.of_own (B := wr.heap.size) hc.row.x (Nat.le_refl _)) hiy
      injection hA' with hA'
      subst hA'
      have he : ys[i] = hs[i] := hc.rest i hiy hih (Nat.le_refl _)
      obtain ⟨X, hX⟩ : ∃ X, X = hs[i] := ⟨_, rfl⟩
      have hXm : X ∈ hs := by rw [hX]; exact List.getElem_mem hih
      rw [he, ← hX] at hcell
      have c2 : wr.cell? ⟨(ad.add (i * 3)).block, (ad.add (i * 3)).off + 2, none⟩ = some (.slice X.A X.k.length X.c) := hcell 2 _ rfl
      have HCC := Lib.hid (kclone_any X.k X.A X.c B wr ((HR.out.keys X hXm).below (hc.low.mono HBB.out)) (Nat.le_trans HBB.out hc.low.size) (HKK.out X hXm))
      have HCL := Lib.hid hc
      have HBK := Lib.hid (show ∀ u, Below wr.heap.size wr u → Blk u (ad.add (i * 3)).block 25 cur from fun u h => hblk.below h hblt)
      have HOF := Lib.hid hoff
      have HLT := Lib.hid hlt
      have HFN := Lib.hid (show ∀ (A' : Option Addr) (c' : Nat) (u u' : World), Below wr.heap.size wr u → OwnR u wr.heap.size 39 2 A' c' X.k.length (rowsV kCell X.k) → Wrote (ad.add (i * 3)).block u u' →
          Blk u' (ad.add (i * 3)).block 25 (cur.setIfInBounds ((ad.add (i * 3)).off + 2) (.slice A' X.k.length c')) → ∃ zs, Cl w hs (some ad) c1 (i + 1) zs u' from fun A' c' u u' hbu hok hw hb =>
        ⟨ys.set i ⟨X.d, X.n, A', c', X.k⟩, (hc.below hbu).put hiy hbase (hblk.below hbu hblt) hw (by rw [he, ← hX]; rfl) (hok.mono hc.low.size) (hput _ _ _ (by rw [he, ← hX]; rfl) hb)⟩)
      clear hc hX hXm hcell he hput hblk hoff hbase hblt hih hiy hlt
      go_wp2_with fail
      refine calls_then HCC.out ?_
      rintro e w2 ⟨A2, c2', rfl, ho2, hb2⟩
      have HO2 := Lib.hid ho2
      have HB2 := Lib.hid hb2
      have HBK2 := Lib.hid (HBK.out w2 hb2)
      clear ho2 hb2 c2
      go_wp2_with (refine wpList_put_cell HBK2.out rfl rfl rfl rfl (by kernel_rfl) HOF.out rfl ?_; intro w3 hb3 hw3)
      obtain ⟨zs, hz⟩ := HFN.out _ _ _ _ HB2.out HO2.out hw3 hb3
      have HZ := Lib.hid hz
      clear hb3 hw3 hz
      go_roundw
      case rel => exact ⟨i + 1, zs, HLT.out, by go_num, HZ.out⟩
      case measure => have := HLT.out; simp [intOf]; omega
    · obtain rfl : i = n := by omega
      have HE := Lib.hid (hc.done HN.out)
      have HLW := Lib.hid hc.low
      have HYL := Lib.hid (show ys.length = i by rw [hc.len]; exact HN.out.symm)
      clear hc hlt
      go_wp2_with fail
      go_ret
      exact ⟨A1, c1, ys, by rw [HYL.out]; rfl, HE.out.2, HE.out.1, HLW.out⟩
end Go.Proofs.YtoihgnkhalhocaaGreatDoor.Js
/-
  Walks: slices.IndexFunc as fed.Hold has it: the first bundle that is not before.
-/
namespace Go.Proofs.YtoihgnkhalhocaaGreatDoor.Js
set_option linter.unusedSimpArgs false
set_option linter.unusedVariables false
open Go.RowKit

theorem fb_size : (Tryz.prog.info? 25).map (·.size) = some 3 := by kernel_rfl
theorem atF_eq {b : FD} {hs : List FD} {i : Nat} (h0 : ∀ x ∈ hs.take i, lsB x.d b.d = true) (h : i < hs.length) (h1 : lsB (hs[i]).d b.d = false) : atF b hs = i := by
  have e : hs = hs.take i ++ hs[i] :: hs.drop (i + 1) := by rw [← List.drop_eq_getElem_cons h, List.take_append_drop]
  have e2 : hs.takeWhile (fun x => lsB x.d b.d) = hs.take i := by
    conv => lhs; rw [e]
    rw [List.takeWhile_append_of_pos (by simpa using h0), List.takeWhile_cons, h1]
    simp
  rw [atF, e2, List.length_take]
  omega
theorem atF_all {b : FD} {hs : List FD} (h0 : ∀ x ∈ hs, lsB x.d b.d = true) : atF b hs = hs.length := by
  have e2 : hs.takeWhile (fun x => lsB x.d b.d) = hs := by
    have := List.takeWhile_append_of_pos (p := fun x : FD => lsB x.d b.d) (l₁ := hs) (l₂ := []) (by simpa using h0)
    simpa using this
  rw [atF, e2]
/-- what slices.IndexFunc gives -/
def idxH (b : FD) (hs : List FD) : Int := if atF b hs < hs.length then (atF b hs : Int) else -1
set_option maxHeartbeats 2000000 in
theorem hold1_any (x b : FD) (g : Nat) (u : World) (hb : Blk u g 25 (fC b)) :
    Calls Tryz.prog 19 #[.agg (fC x), .pointer (some ⟨g, 0, none⟩)] u fun e w' => e = .returned (.bool (!lsB x.d b.d)) ∧ Below u.heap.size u w' := by
  obtain ⟨W0, hW0⟩ : ∃ W0, W0 = u.alloc (.cells (fC x) 25) := ⟨_, rfl⟩
  have HB0 := Lib.hid (show Below u.heap.size u W0 by rw [hW0]; exact (Below.refl _ u).alloc (Nat.le_refl _) _)
  have hk : Blk W0 u.heap.size 25 (fC x) := by rw [hW0]; exact Blk.new _ _ _
  have hg : Blk W0 g 25 (fC b) := hb.below HB0.out hb.lt
  have a0 : W0.cell? ⟨u.heap.size, 0, none⟩ = some (.string (bs x.d)) := hk.cell 0
  have a1 : W0.cell? ⟨g, 0, none⟩ = some (.string (bs b.d)) := hg.cell 0
  have HW0 := Lib.hid hW0
  obtain ⟨q, hq⟩ : ∃ q, q = lsB x.d b.d := ⟨_, rfl⟩
  have hqq : Op.bytesLess (bs x.d).toList (bs b.d).toList = q := by rw [bs_toList, bs_toList, hq]; rfl
  rw [← hq]
  clear hk hg hb hW0 hq
  go_enter Tryz.func19, Tryz.ntmps19
  go_upto_region 1 with (fail)
  rw [← HW0.out]
  generalize Value.agg (fC x) = AV
  cases q with
  | true =>
    go_wp2_with fail
    go_ret
    exact ⟨rfl, HB0.out⟩
  | false =>
    go_wp2_with fail
    go_ret
    exact ⟨rfl, HB0.out⟩
set_option maxHeartbeats 2000000 in
theorem idxf23_any (b : FD) (hs : List FD) (A : Option Addr) (c B g : Nat) (w : World) (hr : Rd w B A (rowsV fC hs)) (hB : B ≤ w.heap.size) (hl : hs.length ≤ 1000) (hb : Blk w g 25 (fC b)) :
    Calls Tryz.prog 18 #[.slice A hs.length c, .func (.func 19) #[] #[.pointer (some ⟨g, 0, none⟩)]] w fun e w' => e = .returned (.int .i64 (idxH b hs)) ∧ Below w.heap.size w w' := by
  have eg : ∀ args w, (callFunc 19 args).run Tryz.prog w = .ok (.enter 19 args) w := enters_of Tryz.func19 (by kernel_rfl) rfl
  have huj := Tryz.underlying25
  obtain ⟨n, hn⟩ : ∃ n, n = hs.length := ⟨_, rfl⟩
  have HN := Lib.hid hn
  have HR := Lib.hid hr
  have HBK := Lib.hid hb
  have HBB := Lib.hid hB
  have HL := Lib.hid (show (n : Int) ≤ 1000 by omega)
  have HR0 := Lib.hid (Below.refl w.heap.size w)
  obtain ⟨z, hz⟩ : ∃ z, z = idxH b hs := ⟨_, rfl⟩
  have HZ := Lib.hid hz
  rw [← hn, ← hz]
  clear hr hl hn hB hb hz
  go_enter Tryz.func18, Tryz.ntmps18
  go_wp2_with fail
  go_loopw [8] (fun x wr => ∃ i : Nat, i ≤ n ∧ x = .int .i64 (i : Int) ∧ (∀ k ∈ hs.take i, lsB k.d b.d = true) ∧ Below w.heap.size w wr) (fun x _ => n - (intOf x).toNat)
  case atStart => exact ⟨0, Nat.zero_le _, rfl, by simp, HR0.out⟩
  case round =>
    obtain ⟨i, hi, rfl, hok, hbw⟩ := hrel
    have HOK := Lib.hid hok
    have HBW := Lib.hid hbw
    clear hok hbw
    have hns := HL.out
    by_cases hlt : i < n
    · have hil : i < hs.length := by rw [← HN.out]; exact hlt
      have hlt' : (i : Int) < (n : Int) := by omega
      obtain ⟨ad, hA, hadb, hcell⟩ := rd_rows (f := fC) (m := 3) (fun _ => rfl) (by decide) (HR.out.below (HBW.out.mono HBB.out)) hil
      subst hA
      obtain ⟨X, hX⟩ : ∃ X, X = hs[i] := ⟨_, rfl⟩
      rw [← hX] at hcell
      have HCL := Lib.hid (show ∀ j u, (fC X).toList[j]? = some u → wr.cell? ((ad.add (i * 3)).add j) = some u from fun j u hu => hcell j u (by simpa using hu))
      have HC := Lib.hid (hold1_any X b g wr (HBK.out.below HBW.out HBK.out.lt))
      have HLT := Lib.hid hlt
      obtain ⟨q, hq⟩ : ∃ q, q = lsB X.d b.d := ⟨_, rfl⟩
      rw [← hq] at HC
      cases q with
      | false =>
        have HP := Lib.hid (show z = (i : Int) by
          have h := atF_eq HOK.out hil (by rw [← hX]; exact hq.symm)
          rw [HZ.out, idxH, h, if_pos hil])
        clear hX hcell hadb hil hlt hq
        go_wp2_with (first
          | refine wpList_get_rd (r := (fC X).toList) HCL.out rfl rfl rfl huj rfl fb_size ?_
          | (go_at_call 19; refine calls_then HC.out ?_; rintro e W' ⟨rfl, hb'⟩; have HB' := Lib.hid hb'; clear hb'))
        go_ret
        exact ⟨by rw [HP.out]; rfl, HBW.out.trans (HB'.out.mono HBW.out.size)⟩
      | true =>
        have HP := Lib.hid (show ∀ k ∈ hs.take (i + 1), lsB k.d b.d = true from fun k hk => by
          rw [List.take_succ_eq_append_getElem hil, List.mem_append] at hk
          rcases hk with hk | hk
          · exact HOK.out k hk
          · have e : k = X := by rw [hX]; simpa using hk
            subst e
            exact hq.symm)
        clear hX hcell hadb hil hlt hq
        go_wp2_with (first
          | refine wpList_get_rd (r := (fC X).toList) HCL.out rfl rfl rfl huj rfl fb_size ?_
          | (go_at_call 19; refine calls_then HC.out ?_; rintro e W' ⟨rfl, hb'⟩; have HB' := Lib.hid hb'; clear hb'))
        go_roundw
        case rel => exact ⟨i + 1, HLT.out, by go_num, HP.out, HBW.out.trans (HB'.out.mono HBW.out.size)⟩
        case measure => have := HLT.out; simp [intOf]; omega
    · obtain rfl : i = n := by omega
      have HP := Lib.hid (show z = -1 by
        have h0 : hs.take i = hs := List.take_of_length_le (by rw [← HN.out]; exact Nat.le_refl _)
        have h := HOK.out
        rw [h0] at h
        rw [HZ.out, idxH, atF_all h, if_neg (by omega)])
      clear hlt
      go_wp2_with fail
      go_ret
      exact ⟨by rw [HP.out]; rfl, HBW.out⟩
end Go.Proofs.YtoihgnkhalhocaaGreatDoor.Js
/-
  Laws: a bundle is stored into a row; a row is cut; what Hold makes turns on the bundles alone, not on where they lie.
-/
namespace Go.Proofs.YtoihgnkhalhocaaGreatDoor.Js
set_option linter.unusedSimpArgs false
set_option linter.unusedVariables false
open Go.RowKit

section
variable {P : Program}
theorem run_store_part23 {w : World} {ty : TypeId} {g k n : Nat} {r cs new : Array Value} {t : TypeId} (hg : Blk w g t cs) (hi : (P.info? ty).map (·.size) = some n) (hn : r.size = n) (hfit : k + n ≤ cs.size) (h1 : ∀ v ∈ r.toList, v.oneCell' = true)
    (hnew : (cs.toList.take k ++ r.toList ++ cs.toList.drop (k + n)).toArray = new) :
    (storeVar ty ⟨g, k, none⟩ (.agg r)).run P w = .ok () (w.setRow g new) := by
  have hst := run_storeCells_at P g k t r.toList 0 cs w hg (by simp; omega) h1
  rw [Nat.add_zero, Array.length_toList, hn, hnew] at hst
  have hc : (Value.agg r).cells = r := rfl
  cases hq : P.info? ty with
  | none => simp [hq] at hi
  | some j =>
    have hj : j.size = n := by simpa [hq] using hi
    simp [storeVar, hc, sizeOf, typeInfo, hq, hj, hn, hst]
theorem wpList_put_part23 {w : World} {ops : Array Oper} {rest : List Oper} {o : Oper} {a : Act} {Q : Exit → Act → World → Prop} {ty : TypeId} {x y : Operand} {p : Addr} {n : Nat} {r cs : Array Value} {t : TypeId}
    (hg : Blk w p.block t cs) (hs : p.spot = none) (hfit : p.off + n ≤ cs.size) (hn : r.size = n) (h1 : ∀ v ∈ r.toList, v.oneCell' = true)
    (hgd : o.guard = none) (ho : o.op = .store ty x y) (hx : a.eval x = .pointer (some p)) (hy : a.eval y = .agg r) (hi : (P.info? ty).map (·.size) = some n)
    (h : ∀ w', Blk w' p.block t (cs.toList.take p.off ++ r.toList ++ cs.toList.drop (p.off + n)).toArray → Wrote p.block w w' → wpList P ops Q rest (a.put o.dst undef) w') : wpList P ops Q (o :: rest) a w := by
  refine wpList_plain hgd fun K hK => ?_
  obtain ⟨pb, po, ps⟩ := p
  dsimp only at hs hg hfit h
  subst hs
  have hr := run_store_part23 (P := P) (ty := ty) hg hi hn hfit h1 rfl
  unfold Oper.wp execOp
  simp only [ho, hx, hy, Instr.storeAt, Instr.sureAddr, Sem.run_bind, Sem.run_pure, Result.andThen_ok, hr]
  exact hK _ _ (h _ (setRow_heap w pb cs _ t (0, 0) hg) (wrote_setRow w pb _))
/-- a slice of a slice, by an equation -/
theorem wpList_slice {w : World} {ops : Array Oper} {rest : List Oper} {o : Oper} {a : Act} {Q : Exit → Act → World → Prop} {t : TypeId} {x : Operand} {lo hi mx : Option Operand} {r : Value}
    (hgd : o.guard = none) (ho : o.op = .slice t x lo hi mx) (hr : (Instr.sliceAt t (a.eval x) (lo.map a.eval) (hi.map a.eval) (mx.map a.eval)).run P w = .ok r w) (h : wpList P ops Q rest (a.put o.dst r) w) : wpList P ops Q (o :: rest) a w := by
  refine wpList_plain hgd fun K hK => ?_
  unfold Oper.wp execOp
  simp only [ho, Sem.run_bind, Sem.run_pure, Result.andThen_ok, hr]
  exact hK _ _ h
end
theorem rowsV_setw {α : Type} {f : α → Array Value} {m : Nat} (hf : ∀ x, (f x).size = m) {x' : α} {xs : List α} {i : Nat} (hi : i < xs.length) : rowsV f (xs.set i x') = (rowsV f xs).take (i * m) ++ (f x').toList ++ (rowsV f xs).drop ((i + 1) * m) := by
  rw [List.set_eq_take_append_cons_drop, if_pos hi, rowsV_append, rowsV_cons, rowsV_take hf, rowsV_drop hf, List.append_assoc]
/-- one element is written, whole -/
theorem ownR_adw {α : Type} {f : α → Array Value} {m : Nat} (hf : ∀ x, (f x).size = m) {w : World} {base : Nat} {e : TypeId} {A : Option Addr} {c : Nat} {xs : List α} (h : OwnR w base e m A c xs.length (rowsV f xs)) {i : Nat} (hi : i < xs.length) (hm : 0 < m) :
    ∃ ad cur, A = some ad ∧ base ≤ (ad.add (i * m)).block ∧ (ad.add (i * m)).block < w.heap.size ∧ Blk w (ad.add (i * m)).block e cur ∧ (ad.add (i * m)).spot = none ∧ (ad.add (i * m)).off + m ≤ cur.size ∧ ∀ (x' : α) (w' : World), Blk w' (ad.add (i * m)).block e (cur.toList.take (ad.add (i * m)).off ++ (f x').toList ++ cur.toList.drop ((ad.add (i * m)).off + m)).toArray → OwnR w' base e m A c xs.length (rowsV f (xs.set i x')) := by
  rcases h.2 with ⟨_, h0⟩ | ⟨g, cap, cur, h1, h2, h3, h4, h5, h6, h7⟩
  · omega
  · injection h1 with e1 e2 e3
    have hle : xs.length * m ≤ cap * m := Nat.mul_le_mul_right _ h4
    have hlx : (i + 1) * m ≤ xs.length * m := Nat.mul_le_mul_right _ hi
    have hsu : (i + 1) * m = i * m + m := by rw [Nat.add_mul]; omega
    refine ⟨⟨g, 0, none⟩, cur, e1, ?_, ?_, ?_, ?_, ?_, fun x' w' hb => ?_⟩
    · rw [add0]; exact h2
    · rw [add0]; exact (Array.getElem?_eq_some_iff.1 h3).1
    · rw [add0]; exact h3
    · rw [add0]
    · rw [add0]; show i * m + m ≤ cur.size; omega
    · rw [add0] at hb
      have hb : Blk w' g e (cur.toList.take (i * m) ++ (f x').toList ++ cur.toList.drop (i * m + m)).toArray := hb
      have hfl : (f x').toList.length = m := by simp [hf]
      have hcl : cur.toList.length = cap * m := by simpa using h6
      refine ⟨by rw [rowsV_len hf, List.length_set], .inr ⟨g, cap, _, by rw [e1, e3], h2, hb, h4, h5, ?_, ?_⟩⟩
      · simp only [List.size_toArray, List.length_append, List.length_take, List.length_drop, hfl, hcl]
        omega
      · rw [rowsV_setw hf hi, ← h7, hsu]
        have e1 : (cur.toList.take (xs.length * m)).take (i * m) = cur.toList.take (i * m) := by rw [List.take_take]; congr 1; omega
        have hl1 : (cur.toList.take (i * m) ++ (f x').toList).length = i * m + m := by rw [List.length_append, List.length_take, hfl, hcl]; omega
        rw [e1, List.take_append, List.take_of_length_le (by rw [hl1]; omega), hl1, List.drop_take]
/-- .. and another row's cells stay -/
theorem HO.set {w w' : World} {K : Nat} {A : Option Addr} {c g : Nat} {xs : List FD} {x : FD} {cs : Array Value} {i : Nat} (h : HO w K A c xs) (hb : Blk w g 25 cs) (hw : Wrote g w w')
    (hk : OwnR w K 39 2 x.A x.c x.k.length (rowsV kCell x.k)) (hr : OwnR w' K 25 3 A c xs.length (rowsV fC (xs.set i x))) : HO w' K A c (xs.set i x) :=
  ⟨by rw [List.length_set]; exact hr, fun y hy => by
    have hkeep : ∀ {A : Option Addr} {c n : Nat} {xs : List Value}, OwnR w K 39 2 A c n xs → OwnR w' K 39 2 A c n xs := fun h => ownR_wrote h hw (ownR_ne h hb (by decide))
    rcases List.mem_or_eq_of_mem_set hy with hy | rfl
    · exact hkeep (h.keys y hy)
    · exact hkeep hk⟩
-- what Hold makes turns on the bundles alone
def atB (b : FB) (l : List FB) : Nat := (l.takeWhile fun x => lsB x.1 b.1).length
def holdB (b : FB) (l : List FB) : List FB := l.take (atB b l) ++ b :: (l.drop (atB b l)).filter (fun x => decide (x.1 ≠ b.1))
theorem tw_map (b : FD) : ∀ hs : List FD, (hs.map FD.b).takeWhile (fun x => lsB x.1 b.d) = (hs.takeWhile fun x => lsB x.d b.d).map FD.b
  | [] => rfl
  | x :: r => by
    by_cases h : lsB x.d b.d = true
    · have h' : lsB x.b.1 b.d = true := h
      simp only [List.map_cons, List.takeWhile_cons, h, h', if_true]
      rw [tw_map b r]
    · have h' : ¬ lsB x.b.1 b.d = true := h
      simp only [List.map_cons, List.takeWhile_cons, if_neg h, if_neg h', List.map_nil]
theorem atB_map (b : FD) (hs : List FD) : atB b.b (hs.map FD.b) = atF b hs := by
  unfold atB atF
  rw [show (fun x : FB => lsB x.1 b.b.1) = (fun x : FB => lsB x.1 b.d) from rfl, tw_map, List.length_map]
theorem filter_map23 (b : FD) : ∀ l : List FD, (l.map FD.b).filter (fun x => decide (x.1 ≠ b.b.1)) = (l.filter fun x => decide (x.d ≠ b.d)).map FD.b
  | [] => rfl
  | x :: r => by
    have ih := filter_map23 b r
    rw [List.map_cons, List.filter_cons, List.filter_cons, ih]
    show (if decide (x.d ≠ b.d) = true then _ else _) = _
    by_cases h : decide (x.d ≠ b.d) = true
    · rw [if_pos h, if_pos h]
      rfl
    · rw [if_neg h, if_neg h]
theorem holdR_map (b : FD) (hs : List FD) : (holdR b hs).map FD.b = holdB b.b (hs.map FD.b) := by
  rw [holdR_eq, holdB, atB_map, List.map_append, List.map_cons, List.map_take, ← List.map_drop, filter_map23]
theorem holdR_same {b b' : FD} {hs hs' : List FD} (hb : b'.b = b.b) (hh : hs'.map FD.b = hs.map FD.b) : (holdR b' hs').map FD.b = (holdR b hs).map FD.b := by rw [holdR_map, holdR_map, hb, hh]
theorem len_same {hs hs' : List FD} (hh : hs'.map FD.b = hs.map FD.b) : hs'.length = hs.length := by have := congrArg List.length hh; simpa using this
theorem refH_same {b b' : FD} {hs hs' : List FD} (hb : b'.b = b.b) (hh : hs'.map FD.b = hs.map FD.b) : ((refH b' hs').1.map FD.b, (refH b' hs').2) = ((refH b hs).1.map FD.b, (refH b hs).2) := by
  have h1 := holdR_same hb hh
  have h2 := len_same h1
  have h3 := len_same hh
  have hm : mayB b'.d b'.n b'.k = mayB b.d b.n b.k := by
    have e1 : b'.d = b.d := congrArg (·.1) hb
    have e2 : b'.n = b.n := congrArg (·.2.1) hb
    have e3 : b'.k = b.k := congrArg (·.2.2) hb
    rw [e1, e2, e3]
  unfold refH
  rw [hm, h2, h3]
  split
  · split
    · rw [hh]
    · rw [h1]
  · rw [hh]
theorem ord_map : ∀ {hs hs' : List FD}, hs'.map FD.b = hs.map FD.b → InOrd hs → InOrd hs'
  | [], [], _, _ => List.Pairwise.nil
  | [], _ :: _, h, _ => by simp at h
  | _ :: _, [], h, _ => by simp at h
  | x :: r, y :: s, h, ho => by
    injection h with h1 h2
    obtain ⟨h3, h4⟩ := List.pairwise_cons.1 ho
    refine List.pairwise_cons.2 ⟨fun z hz => ?_, ord_map h2 h4⟩
    have e1 : y.d = x.d := congrArg (·.1) h1
    have hz' : z.b ∈ r.map FD.b := by rw [← h2]; exact List.mem_map_of_mem hz
    obtain ⟨z', hz1, hz2⟩ := List.mem_map.1 hz'
    have e2 : z'.d = z.d := congrArg (·.1) hz2
    rw [e1, ← e2]
    exact h3 z' hz1
end Go.Proofs.YtoihgnkhalhocaaGreatDoor.Js
/-
  Plain: rows that lie at or above a block.
-/
namespace Go.Proofs.YtoihgnkhalhocaaGreatDoor.Js
set_option linter.unusedSimpArgs false
set_option linter.unusedVariables false
open Go.RowKit

/-- the row lies at or above block k -/
def Hi (k : Nat) (A : Option Addr) (xs : List Value) : Prop := ∀ (i : Nat) u, xs[i]? = some u → ∃ ad, A = some ad ∧ k ≤ ad.block
theorem Hi.mono {k k' : Nat} {A : Option Addr} {xs : List Value} (h : Hi k A xs) (hk : k' ≤ k) : Hi k' A xs := fun i u hu => by
  obtain ⟨ad, h1, h2⟩ := h i u hu
  exact ⟨ad, h1, Nat.le_trans hk h2⟩
theorem Hi.nil (k : Nat) (A : Option Addr) : Hi k A [] := fun i u hu => by simp at hu
theorem hi_own {w : World} {base : Nat} {e : TypeId} {m : Nat} {A : Option Addr} {c n : Nat} {xs : List Value} (h : OwnR w base e m A c n xs) : Hi base A xs := fun i u hu => by
  rcases h.2 with ⟨h1, h0⟩ | ⟨g, cap, cur, h1, h2, _⟩
  · subst h0
    have := h.1
    rw [Nat.zero_mul] at this
    rw [List.eq_nil_of_length_eq_zero this] at hu
    simp at hu
  · injection h1 with e1 e2 e3
    exact ⟨_, e1, h2⟩
/-- a block below was written -/
theorem Hi.rd {w w' : World} {k g : Nat} {A : Option Addr} {xs : List Value} (h : Hi k A xs) (hr : Rd w w.heap.size A xs) (hw : Wrote g w w') (hg : g < k) : Rd w' w'.heap.size A xs := fun i u hu => by
  obtain ⟨ad, h1, h2, h3⟩ := hr i u hu
  obtain ⟨ad', h1', h4⟩ := h i u hu
  rw [h1] at h1'
  injection h1' with h1'
  subst h1'
  refine ⟨ad, h1, by rw [hw.size]; exact h2, ?_⟩
  rw [← h3]
  exact World.cell?_of_block (w := w) (w' := w') (by rw [block_of_add]; exact hw.grown.block _ h2 (by intro h; injection h with h; omega))
/-- bundles that lie at or above block k, keys and all -/
structure HiL (k : Nat) (A : Option Addr) (xs : List FD) : Prop where
  row : Hi k A (rowsV fC xs)
  keys : ∀ x ∈ xs, Hi k x.A (rowsV kCell x.k)
theorem HiL.hl {w w' : World} {k g : Nat} {A : Option Addr} {xs : List FD} (h : HiL k A xs) (hr : HL w w.heap.size A xs) (hw : Wrote g w w') (hg : g < k) : HL w' w'.heap.size A xs :=
  ⟨h.row.rd hr.row hw hg, fun x hx => (h.keys x hx).rd (hr.keys x hx) hw hg⟩
end Go.Proofs.YtoihgnkhalhocaaGreatDoor.Js
/-
  Walks: the reference's in, of, Domain, in plain words.
-/
namespace Go.Proofs.YtoihgnkhalhocaaGreatDoor.Js
set_option linter.unusedSimpArgs false
set_option linter.unusedVariables false
open Go.RowKit
theorem rin_any (c : UInt8) (s : Bs) (hs : s.length ≤ 100000) (w : World) : Calls Tryz.prog 41 #[.int .u8 ((c.toNat : Nat) : Int), .string (bs s)] w fun e w' => e = .returned (.bool (decide (c ∈ s))) ∧ w' = w := by
  obtain ⟨n, hn⟩ : ∃ n, n = s.length := ⟨_, rfl⟩
  have hsz : ((bs s).size : Int) = (n : Int) := by rw [bs_size, hn]
  have hs' : (n : Int) ≤ 100000 := by omega
  have HN := Lib.hid hn
  have HSZ := Lib.hid (bs_size s)
  obtain ⟨z, hz⟩ : ∃ z : Int, z = ((c.toNat : Nat) : Int) := ⟨_, rfl⟩
  rw [← hz]
  have HZ := Lib.hid hz
  clear hn hz
  go_enter Tryz.func41, Tryz.ntmps41
  go_wp2_with fail
  go_loop [5] (fun i => ∃ k : Nat, k ≤ n ∧ i = .int .i64 k ∧ c ∉ s.take k) (fun i => n - (intOf i).toNat)
  case atStart => exact ⟨0, Nat.zero_le _, rfl, by simp⟩
  case round =>
    obtain ⟨k, hk, rfl, hno⟩ := hrel
    have HNO := Lib.hid hno
    clear hno
    by_cases hlt : k < n
    · have hks : k < s.length := by rw [← HN.out]; exact hlt
      have hkb : k < (bs s).size := by rw [HSZ.out]; exact hks
      have hlt' : (k : Int) < (n : Int) := by omega
      obtain ⟨x, hx⟩ : ∃ x : Int, x = (((bs s)[k]'hkb).toNat : Int) := ⟨_, rfl⟩
      have HX := Lib.hid (show x = ((s[k].toNat : Nat) : Int) by rw [hx]; rfl)
      by_cases he : x = z
      · have HIN := Lib.hid (show c ∈ s by
          have h1 : s[k].toNat = c.toNat := by have := HX.out; have := HZ.out; omega
          have h2 : s[k] = c := UInt8.toNat.inj h1
          rw [← h2]
          exact List.getElem_mem hks)
        have hxz : (x == z) = true := by simpa using he
        have HLT := Lib.hid hlt
        clear he
        go_wp2_with fail
        go_ret
        exact ⟨by rw [decide_eq_true HIN.out]; rfl, rfl⟩
      · have HNX := Lib.hid (show c ∉ s.take (k + 1) by
          rw [List.take_succ_eq_append_getElem hks, List.mem_append]
          rintro (h1 | h1)
          · exact HNO.out h1
          · have h2 : c = s[k] := List.mem_singleton.1 h1
            exact he (by rw [HX.out, HZ.out, h2]))
        have hxz : (x == z) = false := by simpa using he
        have HLT := Lib.hid hlt
        clear he
        go_wp2_with fail
        go_round
        case rel => exact ⟨k + 1, HLT.out, by go_num, HNX.out⟩
        case measure => have := HLT.out; simp [intOf]; omega
    · obtain rfl : k = n := by omega
      have HF := Lib.hid (show c ∉ s by
        have h := HNO.out
        rwa [HN.out, List.take_length] at h)
      go_wp2_with fail
      go_ret
      exact ⟨by rw [decide_eq_false HF.out]; rfl, rfl⟩
def of9 (s t : Bs) (m : Nat) : Bool := s.all (fun c => decide (c ∈ t)) && (decide (1 ≤ s.length) && decide (s.length ≤ m))
theorem rof_any (s t : Bs) (m : Nat) (hs : s.length ≤ 100000) (ht : t.length ≤ 100000) (hm : (m : Int) ≤ 100000) (w : World) : Calls Tryz.prog 40 #[.string (bs s), .string (bs t), .int .i64 (m : Int)] w fun e w' => e = .returned (.bool (of9 s t m)) ∧ w' = w := by
  obtain ⟨n, hn⟩ : ∃ n, n = s.length := ⟨_, rfl⟩
  have hsz : ((bs s).size : Int) = (n : Int) := by rw [bs_size, hn]
  have hs' : (n : Int) ≤ 100000 := by omega
  have HN := Lib.hid hn
  have HSZ := Lib.hid (bs_size s)
  have C := Lib.hid (fun (c : UInt8) => rin_any c t ht w)
  obtain ⟨r, hr⟩ : ∃ r, r = of9 s t m := ⟨_, rfl⟩
  rw [← hr]
  have HR := Lib.hid hr
  clear hn hr hs ht
  go_enter Tryz.func40, Tryz.ntmps40
  go_wp2_with fail
  go_loop [7] (fun i => ∃ k : Nat, k ≤ n ∧ i = .int .i64 k ∧ (s.take k).all (fun c => decide (c ∈ t)) = true) (fun i => n - (intOf i).toNat)
  case atStart => exact ⟨0, Nat.zero_le _, rfl, by simp⟩
  case round =>
    obtain ⟨k, hk, rfl, hok⟩ := hrel
    have HOK := Lib.hid hok
    clear hok
    by_cases hlt : k < n
    · have hks : k < s.length := by rw [← HN.out]; exact hlt
      have hkb : k < (bs s).size := by rw [HSZ.out]; exact hks
      have hlt' : (k : Int) < (n : Int) := by omega
      obtain ⟨x, hx⟩ : ∃ x : UInt8, x = s[k] := ⟨_, rfl⟩
      have hxv : (((bs s)[k]'hkb).toNat : Int) = ((x.toNat : Nat) : Int) := by rw [hx]; rfl
      obtain ⟨b, hb⟩ : ∃ b, b = decide (x ∈ t) := ⟨_, rfl⟩
      have CX := Lib.hid (C.out x)
      rw [← hb] at CX
      have HST := Lib.hid (show (s.take (k + 1)).all (fun c => decide (c ∈ t)) = b by
        rw [List.take_succ_eq_append_getElem hks, List.all_append, HOK.out, hb, hx]
        simp only [List.all_cons, List.all_nil, Bool.and_true, Bool.true_and]
        rfl)
      have HSF := Lib.hid (show b = false → r = false from fun h => by
        rw [HR.out, of9]
        have : s.all (fun c => decide (c ∈ t)) = false := by
          rw [List.all_eq_false]
          exact ⟨s[k], List.getElem_mem hks, by rw [← hx, ← hb, h]; simp⟩
        rw [this]
        rfl)
      have HLT := Lib.hid hlt
      clear hx hb
      go_wp2_with fail
      refine calls_then CX.out ?_
      rintro e w' ⟨rfl, rfl⟩
      cases b with
      | true =>
        go_wp2_with fail
        go_round
        case rel => exact ⟨k + 1, HLT.out, by go_num, HST.out⟩
        case measure => have := HLT.out; simp [intOf]; omega
      | false =>
        have HRF := Lib.hid (HSF.out rfl)
        go_wp2_with fail
        go_ret
        exact ⟨by rw [HRF.out]; rfl, rfl⟩
    · obtain rfl : k = n := by omega
      have HRE := Lib.hid (show r = (decide (1 ≤ k) && decide (k ≤ m)) by
        have h := HOK.out
        rw [HN.out, List.take_length] at h
        rw [HR.out, of9, h, HN.out]
        rfl)
      by_cases h1 : (1 : Int) ≤ (k : Int)
      · have d1 : decide ((1 : Int) ≤ (k : Int)) = true := by simpa using h1
        have D2 := Lib.hid (show decide (1 ≤ k) = true by simp; omega)
        go_wp2_with fail
        go_ret
        exact ⟨by rw [HRE.out, D2.out]; rfl, rfl⟩
      · have d1 : decide ((1 : Int) ≤ (k : Int)) = false := by simpa using h1
        have D2 := Lib.hid (show decide (1 ≤ k) = false by simp; omega)
        go_wp2_with fail
        go_ret
        exact ⟨by rw [HRE.out, D2.out]; rfl, rfl⟩
def domC : Bs := [97, 98, 99, 100, 101, 102, 103, 104, 105, 106, 107, 108, 109, 110, 111, 112, 113, 114, 115, 116, 117, 118, 119, 120, 121, 122, 48, 49, 50, 51, 52, 53, 54, 55, 56, 57, 46, 45]
theorem innerC_eq (c : UInt8) : innerC c = decide (c ∈ domC) := by
  have key : ∀ x : Fin 256, innerC (UInt8.ofNat x.1) = decide (UInt8.ofNat x.1 ∈ domC) := by decide +kernel
  have := key ⟨c.toNat, c.toNat_lt⟩
  simpa using this
theorem drop_eq {p : UInt8 → Bool} {l : Bs} : l.dropWhile p = l ↔ ∀ h : 0 < l.length, p (l[0]) = false := by
  cases l with
  | nil => simp
  | cons a r =>
    rw [List.dropWhile_cons]
    constructor
    · intro h _
      cases hp : p a with
      | false => simpa using hp
      | true =>
        rw [hp, if_pos rfl] at h
        have := congrArg List.length h
        have h2 := (List.dropWhile_sublist p (l := r)).length_le
        simp at this
        omega
    · intro h
      have := h (by simp)
      simp at this
      rw [if_neg (by simp [this])]
theorem trim_eq (s cs : Bs) (h0 : 0 < s.length) : (Lib.trimS s cs = s) ↔ (s[0] ∉ cs ∧ s[s.length - 1] ∉ cs) := by
  have hl : s.reverse.length = s.length := List.length_reverse
  have hlast : s.reverse[0]'(by omega) = s[s.length - 1] := by rw [List.getElem_reverse]; congr 1
  have hD : ∀ l : Bs, l.dropWhile (cs.contains ·) = l ↔ ∀ h : 0 < l.length, l[0] ∉ cs := fun l => by
    rw [drop_eq]
    constructor
    · intro h h1
      have := h h1
      simpa using this
    · intro h h1
      simpa using h h1
  unfold Lib.trimS Lib.trimLeftS Lib.trimRightS
  constructor
  · intro h
    have e1 := congrArg List.length h
    have e2 := (List.dropWhile_sublist (cs.contains ·) (l := (s.reverse.dropWhile (cs.contains ·)).reverse)).length_le
    have e3 := (List.dropWhile_sublist (cs.contains ·) (l := s.reverse)).length_le
    rw [List.length_reverse] at e2
    have e4 : s.reverse.dropWhile (cs.contains ·) = s.reverse := (List.dropWhile_sublist _).eq_of_length (by omega)
    rw [e4, List.reverse_reverse] at h
    refine ⟨(hD s).1 h h0, ?_⟩
    rw [← hlast]
    exact (hD s.reverse).1 e4 (by omega)
  · rintro ⟨h1, h2⟩
    rw [(hD s.reverse).2 (fun h => by rw [hlast]; exact h2), List.reverse_reverse]
    exact (hD s).2 fun _ => h1
theorem of9_dom (s : Bs) : of9 s domC 16 = (decide (s.length ≤ 16) && allD s) := by
  unfold of9 allD
  rw [show (fun c : UInt8 => decide (c ∈ domC)) = innerC from funext fun c => (innerC_eq c).symm]
  cases hq : s.all innerC with
  | false => simp
  | true =>
    cases s with
    | nil => simp
    | cons a r => simp
set_option maxHeartbeats 1000000 in
theorem rdom_any (s : Bs) (hs : s.length ≤ 100000) (w : World) : Calls Tryz.prog 28 #[.string (bs s)] w fun e w' => e = .returned (.bool (domB s)) ∧ w' = w := by
  have CO := Lib.hid (show Calls Tryz.prog 40 #[.string (bs s), .string ⟨#[97, 98, 99, 100, 101, 102, 103, 104, 105, 106, 107, 108, 109, 110, 111, 112, 113, 114, 115, 116, 117, 118, 119, 120, 121, 122, 48, 49, 50, 51, 52, 53, 54, 55, 56, 57, 46, 45]⟩, .int .i64 16] w fun e w' => e = .returned (.bool (of9 s domC 16)) ∧ w' = w from rof_any s domC 16 hs (by decide) (by decide) w)
  have CI := Lib.hid (fun (c : UInt8) => show Calls Tryz.prog 41 #[.int .u8 ((c.toNat : Nat) : Int), .string ⟨#[46, 45]⟩] w fun e w' => e = .returned (.bool (decide (c ∈ ([46, 45] : Bs)))) ∧ w' = w from rin_any c [46, 45] (by decide) w)
  obtain ⟨r, hr⟩ : ∃ r, r = domB s := ⟨_, rfl⟩
  rw [← hr]
  have hr2 : r = (of9 s domC 16 && decide (trimD s = s)) := by rw [hr, domB, of9_dom, Bool.and_assoc]
  have HLE := Lib.hid (show of9 s domC 16 = true → 0 < s.length from fun h => by
    unfold of9 at h
    simp only [Bool.and_eq_true, decide_eq_true_eq] at h
    omega)
  obtain ⟨b, hb⟩ : ∃ b, b = of9 s domC 16 := ⟨_, rfl⟩
  rw [← hb] at CO hr2 HLE
  have HR := Lib.hid hr2
  clear hr hr2 hb
  have hsz : ((bs s).size : Int) = (s.length : Int) := by rw [bs_size]
  have hsn : (s.length : Int) ≤ 100000 := by omega
  have HSZ := Lib.hid (bs_size s)
  go_enter Tryz.func28, Tryz.ntmps28
  go_wp2_with fail
  refine calls_then CO.out ?_
  rintro e w' ⟨rfl, rfl⟩
  cases b with
  | false =>
    have HRF := Lib.hid (show r = false from HR.out)
    go_wp2_with fail
    go_ret
    exact ⟨by rw [HRF.out]; rfl, rfl⟩
  | true =>
    have h0 := HLE.out rfl
    have h0' : 0 < (s.length : Int) := by omega
    obtain ⟨x, hx⟩ : ∃ x : UInt8, x = s[0] := ⟨_, rfl⟩
    obtain ⟨y, hy⟩ : ∃ y : UInt8, y = s[s.length - 1] := ⟨_, rfl⟩
    have hk0 : 0 < (bs s).size := by rw [HSZ.out]; exact h0
    have hk1 : s.length - 1 < (bs s).size := by rw [HSZ.out]; omega
    have hxv : (((bs s)[0]'hk0).toNat : Int) = ((x.toNat : Nat) : Int) := by rw [hx]; rfl
    have hyv : (((bs s)[s.length - 1]'hk1).toNat : Int) = ((y.toNat : Nat) : Int) := by rw [hy]; rfl
    have HRE := Lib.hid (show r = (!decide (x ∈ ([46, 45] : Bs)) && !decide (y ∈ ([46, 45] : Bs))) by
      rw [HR.out, Bool.true_and]
      unfold trimD
      have h := trim_eq s [46, 45] h0
      rw [← hx, ← hy] at h
      by_cases h1 : x ∈ ([46, 45] : Bs) <;> by_cases h2 : y ∈ ([46, 45] : Bs) <;> simp only [h1, h2, decide_true, decide_false, Bool.not_true, Bool.not_false, Bool.and_true, Bool.and_false] <;> (first | exact decide_eq_true (h.2 ⟨h1, h2⟩) | exact decide_eq_false (fun he => absurd h1 (h.1 he).1) | exact decide_eq_false (fun he => absurd h2 (h.1 he).2)))
    clear hx hy
    obtain ⟨p, hp⟩ : ∃ p, p = decide (x ∈ ([46, 45] : Bs)) := ⟨_, rfl⟩
    obtain ⟨q, hq⟩ : ∃ q, q = decide (y ∈ ([46, 45] : Bs)) := ⟨_, rfl⟩
    have CX := Lib.hid (CI.out x)
    have CY := Lib.hid (CI.out y)
    rw [← hp] at CX HRE
    rw [← hq] at CY HRE
    clear hp hq CI
    go_wp2_with fail
    refine calls_then CX.out ?_
    rintro e w' ⟨rfl, rfl⟩
    go_wp2_with fail
    refine calls_then CY.out ?_
    rintro e w' ⟨rfl, rfl⟩
    cases p <;> go_wp2_with fail
    all_goals go_ret
    all_goals exact ⟨by rw [HRE.out]; rfl, rfl⟩
end Go.Proofs.YtoihgnkhalhocaaGreatDoor.Js
/-
  Walk: the reference's May, at any bundle.
-/
namespace Go.Proofs.YtoihgnkhalhocaaGreatDoor.Js
set_option linter.unusedSimpArgs false
set_option linter.unusedVariables false
open Go.RowKit
theorem below_drewNq {B : Nat} {a w : World} (h : Below B a w) (n : Nat) : Below B a (w.drewN n) := ⟨h.os, h.tape, h.output, h.size, h.block⟩
set_option maxRecDepth 100000 in
set_option maxHeartbeats 8000000 in
theorem rmay_any (D : Bs) (num : Int) (ks : List (Bs × Bs)) (A : Option Addr) (c B : Nat) (w : World) (hr : Rd w B A (rowsV kCell ks)) (hB : B ≤ w.heap.size) (hD : D.length ≤ 100000) (hl : (ks.length : Int) ≤ 9223372036854775807)
    (hk : ∀ k ∈ ks, (k.2.length : Int) ≤ 9223372036854775807) :
    Calls Tryz.prog 20 #[.agg (bC D num A ks.length c)] w fun e w' => e = .returned (.bool (mayB D num ks)) ∧ Below w.heap.size w w' := by
  obtain ⟨r, hrr⟩ : ∃ r, r = mayB D num ks := ⟨_, rfl⟩
  rw [← hrr]
  have HRR := Lib.hid hrr
  clear hrr
  obtain ⟨n, hn⟩ : ∃ n, n = ks.length := ⟨_, rfl⟩
  rw [← hn] at hl ⊢
  have HN := Lib.hid hn
  obtain ⟨W0, hW0⟩ : ∃ W0, W0 = w.alloc (.cells (bC D num A n c) 25) := ⟨_, rfl⟩
  have hb0 : Below w.heap.size w W0 := by rw [hW0]; exact (Below.refl _ w).alloc (Nat.le_refl _) _
  have HB0 := Lib.hid hb0
  have HK := Lib.hid (show Blk W0 w.heap.size 25 (bC D num A n c) by rw [hW0]; exact Blk.new _ _ _)
  have HW0 := Lib.hid hW0
  have HR := Lib.hid (hr.below (hb0.mono hB))
  have HBB := Lib.hid hB
  have HKX := Lib.hid hk
  have HHD := Lib.hid (show headOk D num ks = (domB D && decide (0 ≤ num) && decide (num ≤ 1099511627776) && decide (n ≤ 8)) by rw [hn]; rfl)
  have C := Lib.hid (rdom_any D hD W0)
  obtain ⟨d, hd⟩ : ∃ d, d = domB D := ⟨_, rfl⟩
  rw [← hd] at C HHD
  have a0 : W0.cell? ⟨w.heap.size, 0, none⟩ = some (.string (bs D)) := HK.out.cell 0
  have a1 : W0.cell? ⟨w.heap.size, 1, none⟩ = some (.int .i64 num) := HK.out.cell 1
  have a2 : W0.cell? ⟨w.heap.size, 2, none⟩ = some (.slice A n c) := HK.out.cell 2
  clear hW0 hn hr hB hk hD hd hb0
  go_enter Tryz.func20, Tryz.ntmps20
  go_upto_region 1 with (fail)
  rw [show w.alloc (.cells (bC D num A n c) 25) = W0 from HW0.out.symm]
  generalize Value.agg (bC D num A n c) = AV
  go_wp2_with fail
  refine calls_then C.out ?_
  rintro e W0 ⟨rfl, rfl⟩
  cases d with
  | false =>
    have HNO := Lib.hid (mayB_no (HHD.out.trans (by rfl)))
    go_wp2_with fail
    go_ret
    exact ⟨by rw [HRR.out, HNO.out]; rfl, HB0.out⟩
  | true =>
    by_cases hn0 : num < 0
    · have HNO := Lib.hid (mayB_no (HHD.out.trans (by rw [decide_eq_false (show ¬ (0 ≤ num) by omega)]; rfl)))
      go_wp2_with fail
      go_ret
      exact ⟨by rw [HRR.out, HNO.out]; rfl, HB0.out⟩
    by_cases hn1 : 1099511627776 < num
    · have HNO := Lib.hid (mayB_no (HHD.out.trans (by rw [decide_eq_false (show ¬ (num ≤ 1099511627776) by omega)]; simp)))
      go_wp2_with fail
      go_ret
      exact ⟨by rw [HRR.out, HNO.out]; rfl, HB0.out⟩
    by_cases hn8 : 8 < (n : Int)
    · have HNO := Lib.hid (mayB_no (HHD.out.trans (by rw [decide_eq_false (show ¬ (n ≤ 8) by omega)]; simp)))
      go_wp2_with fail
      go_ret
      exact ⟨by rw [HRR.out, HNO.out]; rfl, HB0.out⟩
    have HHO := Lib.hid (show mayB D num ks = keysOk [] ks by
      unfold mayB
      rw [HHD.out, decide_eq_true (show 0 ≤ num by omega), decide_eq_true (show num ≤ 1099511627776 by omega), decide_eq_true (show n ≤ 8 by omega)]
      rfl)
    have hn8' : (n : Int) ≤ 8 := by omega
    clear hl
    go_upto_region 4 with (fail)
    clear hn0 hn1 hn8 a0 a1
    go_wp2_with fail
    go_loopw [4] (fun x wr => ∃ i : Nat, i ≤ n ∧ x = .int .i64 (i : Int) ∧ keysTo ks i ∧ Below W0.heap.size W0 wr) (fun x _ => n - (intOf x).toNat)
    case atStart => exact ⟨0, Nat.zero_le _, rfl, keysTo_zero ks, Below.refl _ _⟩
    case round =>
      obtain ⟨i, hi, rfl, hto, hbw⟩ := hrel
      have HTO := Lib.hid hto
      have HBW := Lib.hid hbw
      have a2 : wr.cell? ⟨w.heap.size, 2, none⟩ = some (.slice A n c) := (HK.out.below hbw HK.out.lt).cell 2
      clear hto hbw
      by_cases hlt : i < n
      · have huj := Tryz.underlying39
        have hil : i < ks.length := by rw [← HN.out]; exact hlt
        have hlt' : (i : Int) < (n : Int) := by omega
        obtain ⟨ad, hA, hadb, hcell⟩ := rd_rows (f := kCell) (m := 2) (fun _ => rfl) (by decide) (HR.out.below (HBW.out.mono (Nat.le_trans HBB.out HB0.out.size))) hil
        subst hA
        obtain ⟨X, hX⟩ : ∃ X, X = ks[i] := ⟨_, rfl⟩
        rw [← hX] at hcell
        have HCL := Lib.hid (show ∀ j u, (kCell X).toList[j]? = some u → wr.cell? ((ad.add (i * 2)).add j) = some u from fun j u hu => hcell j u (by simpa using hu))
        have HKL := Lib.hid (HKX.out X (by rw [hX]; exact List.getElem_mem hil))
        have HLT := Lib.hid hlt
        have HNK := Lib.hid (fun (hno : X.2.length = 32 → X.1 = nameL X.2 → X.1 ∈ (ks.take i).map (·.1)) => show mayB D num ks = false by
          rw [HHO.out]
          exact keysTo_no HTO.out hil (by rw [← hX]; exact hno))
        have HYK := Lib.hid (fun (h1 : X.2.length = 32) (h2 : X.1 = nameL X.2) (h3 : X.1 ∉ (ks.take i).map (·.1)) => show keysTo ks (i + 1) from
          keysTo_step HTO.out hil (by rw [← hX]; exact h1) (by rw [← hX]; exact h2) (by rw [← hX]; exact h3))
        clear hX hcell hadb hil hlt
        go_upto_region 8 with (first
          | refine wpList_get_rd (r := (kCell X).toList) HCL.out rfl rfl rfl huj rfl jk_size ?_
          | (refine wpList_put_box (cells := kCell X) (Blk.new _ _ _) rfl rfl rfl rfl jk_size rfl (kCell_one X) ?_; intro w5 hb5 hw5))
        have hbw5 : Below wr.heap.size wr w5 := box_low9 hw5
        obtain ⟨H, hH⟩ : ∃ H, H = wr.heap.size := ⟨_, rfl⟩
        rw [← hH] at hb5 ⊢
        have HK5 := Lib.hid hb5
        have HB5 := Lib.hid (HBW.out.trans (hbw5.mono HBW.out.size))
        have hc1 : w5.cell? ⟨H, 1, none⟩ = some (.string (bs X.2)) := hb5.cell 1
        have hs0 : ((bs X.2).size : Int) = (X.2.length : Int) := by rw [bs_size]
        have HHW := Lib.hid (show W0.heap.size ≤ H by rw [hH]; exact HBW.out.size)
        clear hb5 hw5 hbw5 a2 hH
        by_cases h32 : X.2.length = 32
        · have HS32 := Lib.hid (show (bs X.2).size = 32 by rw [bs_size, h32])
          have HSZ := Lib.hid (show ((bs X.2).size : Int) = 32 by rw [hs0, h32]; rfl)
          have HNA := Lib.hid (show ∀ A c u, Rd u u.heap.size A (bytesV X.2) → 32 ≤ c → Calls Tryz.prog 14 #[.slice A 32 c] u (fun e w' => e = .returned (.string (bs (nameL X.2))) ∧ Below u.heap.size u w') from
            fun A c u h1 h2 => by have h := rname_any X.2 (by omega) A c u h1 (by omega) (digS32_len2 X.2); rw [h32] at h; exact h)
          have hus := Tryz.underlying9
          have hub8 := Tryz.underlying42
          have hu8 := Tryz.underlying5
          have HC0 : Below w5.heap.size w5 w5.drew := (Below.refl _ _).drew
          have H32 := Lib.hid h32
          clear hs0 h32 hc1
          obtain ⟨q, hq⟩ : ∃ q, q = decide (X.1 = nameL X.2) := ⟨_, rfl⟩
          have HQ := Lib.hid (show ((bs X.1).toList == (bs (nameL X.2)).toList) = q by rw [bs_toList, bs_toList, hq]; by_cases h : X.1 = nameL X.2 <;> simp [h])
          have HQQ := Lib.hid hq
          clear hq
          apply wp_region_seqg (fun u => Below w5.heap.size w5 u) (fun u u' => Below u.heap.size u u') [_, _, _, _, _, _, _, _, _, undef, _, _, _] (gOf [(9, fun v u => BytFrom u 0 32 X.2 v)]) (by kernel_rfl) (by kernel_rfl) (stabL_of _ ⟨(fun _ _ _ h h0 => h0.step h), trivial⟩) HC0
          iterate 1
            ((first | (apply SeqG.next; rfl; rfl; rfl)); (simp only [act_put, act_put_none, List.setIfInBounds_toArray, List.set_cons_zero, List.set_cons_succ]; rfl); (intro w1 hC1 hf E hE; go_wp2; exact .mk (hE _ hC1 (Below.refl _ _))))
          apply SeqG.next
          · rfl
          · rfl
          · rfl
          · simp only [act_put, act_put_none, List.setIfInBounds_toArray, List.set_cons_zero, List.set_cons_succ]
            rfl
          · intro w1 hC1 hf E hE
            have d0 := (HK5.out.below hC1 HK5.out.lt).cell 1
            simp only [kCell, List.getElem?_toArray, List.getElem?_cons_zero, List.getElem?_cons_succ] at d0
            go_wp2
            exact .mk (hE _ hC1 (Below.refl _ _))
          apply SeqG.next
          · rfl
          · rfl
          · rfl
          · simp only [act_put, act_put_none, List.setIfInBounds_toArray, List.set_cons_zero, List.set_cons_succ]
            rfl
          · intro w1 hC1 hf E hE
            have hsz := HSZ.out
            go_wp2
            exact .mk (hE _ hC1 (Below.refl _ _))
          iterate 3
            first
            | (apply SeqG.no (fun _ => (Below.refl _ _)); rfl; rfl; rfl; rfl; rfl; (simp only [act_put, act_put_none, List.setIfInBounds_toArray, List.set_cons_zero, List.set_cons_succ]; rfl))
            | ((first | (apply SeqG.next; rfl; rfl; rfl) | (apply SeqG.yes; rfl; rfl; rfl; rfl; rfl)); (simp only [act_put, act_put_none, List.setIfInBounds_toArray, List.set_cons_zero, List.set_cons_succ]; rfl); (intro w1 hC1 hf E hE; go_wp2; exact .mk (hE _ hC1 (Below.refl _ _))))
          apply SeqG.yes
          · rfl
          · rfl
          · rfl
          · rfl
          · rfl
          · simp only [act_put, act_put_none, List.setIfInBounds_toArray, List.set_cons_zero, List.set_cons_succ]
            rfl
          · intro w1 hC1 hf E hE
            have d0 := (HK5.out.below hC1 HK5.out.lt).cell 0
            simp only [kCell, List.getElem?_toArray, List.getElem?_cons_zero, List.getElem?_cons_succ] at d0
            go_wp2
            exact .mk (hE _ hC1 (Below.refl _ _))
          iterate 1
            first
            | (apply SeqG.no (fun _ => (Below.refl _ _)); rfl; rfl; rfl; rfl; rfl; (simp only [act_put, act_put_none, List.setIfInBounds_toArray, List.set_cons_zero, List.set_cons_succ]; rfl))
            | ((first | (apply SeqG.next; rfl; rfl; rfl) | (apply SeqG.yes; rfl; rfl; rfl; rfl; rfl)); (simp only [act_put, act_put_none, List.setIfInBounds_toArray, List.set_cons_zero, List.set_cons_succ]; rfl); (intro w1 hC1 hf E hE; go_wp2; exact .mk (hE _ hC1 (Below.refl _ _))))
          apply SeqG.yes
          · rfl
          · rfl
          · rfl
          · rfl
          · rfl
          · simp only [act_put, act_put_none, List.setIfInBounds_toArray, List.set_cons_zero, List.set_cons_succ]
            rfl
          · intro w1 hC1 hf E hE
            have d0 := (HK5.out.below hC1 HK5.out.lt).cell 1
            simp only [kCell, List.getElem?_toArray, List.getElem?_cons_zero, List.getElem?_cons_succ] at d0
            go_wp2
            exact .mk (hE _ hC1 (Below.refl _ _))
          apply SeqG.yesS
          · rfl
          · rfl
          · rfl
          · rfl
          · intro w1 hC1 hf E hE
            simp only [act_put, act_put_none, List.setIfInBounds_toArray, List.set_cons_zero, List.set_cons_succ] at hE
            refine wpList_bytes_cap (s := bs X.2) hus hub8 hu8 rfl rfl rfl (by rw [HS32.out]; decide) ?_
            intro c7 w7 hr7 hc7 hm7 hb7
            rw [HS32.out] at hc7 ⊢
            go_wp2_with fail
            exact .mk (hE _ _ ⟨_, c7, rfl, hc7, hm7, Nat.zero_le _, hr7⟩ (hC1.trans (hb7.mono hC1.size)) hb7)
          intro x9
          simp only [act_put, act_put_none, List.setIfInBounds_toArray, List.set_cons_zero, List.set_cons_succ]
          apply SeqG.yes
          · rfl
          · rfl
          · rfl
          · rfl
          · rfl
          · simp only [act_put, act_put_none, List.setIfInBounds_toArray, List.set_cons_zero, List.set_cons_succ]
            rfl
          · intro w1 hC1 hf E hE
            have f9 := (hf 9 (of_decide_eq_true (by kernel_rfl))).1 rfl
            obtain ⟨g9, c9, hx9, hc9, hm9, hl9, hr9⟩ := f9
            subst hx9
            go_wp2_with fail
            refine calls_then (HNA.out _ c9 _ hr9 hc9) ?_
            rintro e w2 ⟨rfl, hb2⟩
            go_wp2_with fail
            exact .mk (hE _ (hC1.trans (hb2.mono hC1.size)) hb2)
          apply SeqG.yes
          · rfl
          · rfl
          · rfl
          · rfl
          · rfl
          · simp only [act_put, act_put_none, List.setIfInBounds_toArray, List.set_cons_zero, List.set_cons_succ]
            rfl
          · intro w1 hC1 hf E hE
            have hq := HQ.out
            go_wp2
            exact .mk (hE _ hC1 (Below.refl _ _))
          iterate 1
            ((first | (apply SeqG.next; rfl; rfl; rfl)); (simp only [act_put, act_put_none, List.setIfInBounds_toArray, List.set_cons_zero, List.set_cons_succ]; rfl); (intro w1 hC1 hf E hE; go_wp2; exact .mk (hE _ hC1 (Below.refl _ _))))
          refine SeqG.nil ?_
          intro w1 hC1 hf
          have f9 := (hf 9).1 rfl
          clear hf
          have HB6 := Lib.hid (HB5.out.trans (hC1.mono HB5.out.size))
          have HK6 := Lib.hid (HK5.out.below hC1 HK5.out.lt)
          clear hC1 HC0
          cases q with
          | false =>
            have HNO := Lib.hid (HNK.out fun _ h => absurd h (of_decide_eq_false HQQ.out.symm))
            go_wp2_with fail
            go_ret
            exact ⟨by rw [HRR.out, HNO.out]; rfl, HB0.out.trans (HB6.out.mono HB0.out.size)⟩
          | true =>
            have HKN := Lib.hid (show X.1 = nameL X.2 from of_decide_eq_true HQQ.out.symm)
            go_wp2_with fail
            go_loopw [6] (fun x wq => ∃ j : Nat, j ≤ i ∧ x = .int .i64 (j : Int) ∧ X.1 ∉ (ks.take j).map (·.1) ∧ Below w1.heap.size w1 wq) (fun x _ => i - (intOf x).toNat)
            case atStart => exact ⟨0, Nat.zero_le _, rfl, by simp, Below.refl _ _⟩
            case round =>
              obtain ⟨j, hj, rfl, hno, hbq⟩ := hrel
              have HNJ := Lib.hid hno
              have HBQ := Lib.hid hbq
              have HBX := Lib.hid (HB6.out.trans (hbq.mono HB6.out.size))
              have b2 : wr.cell? ⟨w.heap.size, 2, none⟩ = some (.slice (some ad) n c) := (HK.out.below HBX.out HK.out.lt).cell 2
              have b0 : wr.cell? ⟨H, 0, none⟩ = some (.string (bs X.1)) := (HK6.out.below hbq HK6.out.lt).cell 0
              clear hno hbq
              by_cases hlj : j < i
              · have hjl : j < ks.length := by have := HN.out; have := HLT.out; omega
                have hlj' : (j : Int) < (i : Int) := by omega
                have hjn : (j : Int) < (n : Int) := by have := HLT.out; omega
                obtain ⟨ad2, hA2, -, hcell2⟩ := rd_rows (f := kCell) (m := 2) (fun _ => rfl) (by decide) (HR.out.below (HBX.out.mono (Nat.le_trans HBB.out HB0.out.size))) hjl
                injection hA2 with hA2
                subst hA2
                obtain ⟨Y, hY⟩ : ∃ Y, Y = ks[j] := ⟨_, rfl⟩
                rw [← hY] at hcell2
                have c0 : wr.cell? (ad.add (j * 2)) = some (.string (bs Y.1)) := hcell2 0 _ rfl
                have HLJ := Lib.hid hlj
                by_cases hq : Y.1 = X.1
                · have hq' : ((bs Y.1).toList == (bs X.1).toList) = true := by rw [bs_toList, bs_toList]; simpa using hq
                  have HNO := Lib.hid (HNK.out fun _ _ => List.mem_map.2 ⟨Y, by
                    rw [hY]
                    exact List.mem_take_iff_getElem.2 ⟨j, by omega, rfl⟩, hq⟩)
                  clear hY hcell2 hjl hlj hq
                  go_wp2_with fail
                  go_quiet (fail)
                  go_wp2_with fail
                  go_ret
                  exact ⟨by rw [HRR.out, HNO.out]; rfl, below_drewNq (HB0.out.trans (HBX.out.mono HB0.out.size)) _⟩
                · have hq' : ((bs Y.1).toList == (bs X.1).toList) = false := by rw [bs_toList, bs_toList]; simpa using hq
                  have HN2 := Lib.hid (show X.1 ∉ (ks.take (j + 1)).map (·.1) by
                    rw [List.take_succ_eq_append_getElem hjl, List.map_append, List.mem_append]
                    rintro (h1 | h1)
                    · exact HNJ.out h1
                    · have h2 : X.1 = ks[j].1 := List.mem_singleton.1 h1
                      exact hq (by rw [hY, h2]))
                  clear hY hcell2 hjl hlj hq
                  go_wp2_with fail
                  go_quiet (fail)
                  go_wp2_with fail
                  go_roundw
                  case rel => exact ⟨j + 1, HLJ.out, by go_num, HN2.out, below_drewNq HBQ.out _⟩
                  case measure => have := HLJ.out; simp [intOf]; omega
              · obtain rfl : j = i := by omega
                have HTO2 := Lib.hid (HYK.out H32.out HKN.out HNJ.out)
                clear hlj
                go_wp2_with fail
                go_roundw
                case rel => exact ⟨j + 1, HLT.out, by go_num, HTO2.out, HBX.out⟩
                case measure => have := HLT.out; simp [intOf]; omega
        · have h32' : ¬ ((bs X.2).size : Int) = 32 := by omega
          have HNO := Lib.hid (HNK.out fun h => absurd h h32)
          clear hs0 h32
          go_quiet (fail)
          go_wp2_with fail
          go_ret
          exact ⟨by rw [HRR.out, HNO.out]; rfl, below_drewNq (HB0.out.trans (HB5.out.mono HB0.out.size)) _⟩
      · obtain rfl : i = n := by omega
        have HYS := Lib.hid (show mayB D num ks = true by rw [HHO.out]; exact keysTo_all HTO.out HN.out)
        go_wp2_with fail
        go_ret
        exact ⟨by rw [HRR.out, HYS.out]; rfl, HB0.out.trans (HBW.out.mono HB0.out.size)⟩
end Go.Proofs.YtoihgnkhalhocaaGreatDoor.Js
/-
  Walk: the reference's Hold.
-/
namespace Go.Proofs.YtoihgnkhalhocaaGreatDoor.Js
set_option linter.unusedSimpArgs false
set_option linter.unusedVariables false
open Go.RowKit

theorem fb5_size : (Tryz.prog.info? 25).map (·.size) = some 3 := by kernel_rfl
theorem hmid_done (b : FD) (xs : List FD) (X : FD) : hmid b (xs, true) X = (xs, true) := by simp [hmid]
theorem hmid_lt {b : FD} (xs : List FD) {X : FD} (h : lsB X.d b.d = true) : hmid b (xs, false) X = (xs, false) := by simp [hmid, h]
theorem hmid_ge {b : FD} (xs : List FD) {X : FD} (h : lsB X.d b.d = false) : hmid b (xs, false) X = (xs ++ [b], true) := by simp [hmid, h]
theorem hmid_len {b : FD} {s : List FD × Bool} {X : FD} {ys : List FD} {q : Bool} (h : hmid b s X = (ys, q)) : ys.length ≤ s.1.length + 1 := by
  unfold hmid at h
  split at h
  · injection h with h1 h2
    rw [← h1]
    simp
  · rw [h]
    simp
def RHPost (b : FD) (hs : List FD) (A : Option Addr) (w : World) (e : Ending) (w' : World) : Prop :=
  ∃ A' c', e = .returned (.tuple #[.slice A' (refH b hs).1.length c', .int .i64 (refH b hs).2]) ∧ Below w.heap.size w w' ∧ Rd w' w'.heap.size A' (rowsV fC (refH b hs).1) ∧ ∀ k, k ≤ w.heap.size → Hi k A (rowsV fC hs) → Hi k A' (rowsV fC (refH b hs).1)
theorem refH_no {b : FD} {hs : List FD} (h : mayB b.d b.n b.k = false) : refH b hs = (hs, 1) := by simp [refH, h]
theorem refH_full {b : FD} {hs : List FD} (h : mayB b.d b.n b.k = true) (h3 : 3 < (holdR b hs).length) (hn : hs.length < (holdR b hs).length) : refH b hs = (hs, 6) := by simp [refH, h, h3, hn]
theorem refH_ok {b : FD} {hs : List FD} (h : mayB b.d b.n b.k = true) (h3 : ¬ (3 < (holdR b hs).length ∧ hs.length < (holdR b hs).length)) : refH b hs = (holdR b hs, 0) := by simp only [refH, h, if_true, if_neg h3]
set_option maxRecDepth 100000 in
set_option maxHeartbeats 4000000 in
theorem rhold_any (b : FD) (hs : List FD) (A : Option Addr) (c B : Nat) (w : World) (hr : Rd w B A (rowsV fC hs)) (hb : Rd w B b.A (rowsV kCell b.k)) (hB : B ≤ w.heap.size) (hl : hs.length ≤ 1000) (hD : b.d.length ≤ 100000) (hk : b.k.length ≤ 1000000)
    (hkl : ∀ k ∈ b.k, (k.2.length : Int) ≤ 9223372036854775807) :
    Calls Tryz.prog 8 #[.slice A hs.length c, .agg (fC b)] w (RHPost b hs A w) := by
  have hub := Tryz.underlying25
  obtain ⟨W0, hW0⟩ : ∃ W0, W0 = w.alloc (.cells (fC b) 25) := ⟨_, rfl⟩
  have hb0 : Below w.heap.size w W0 := by rw [hW0]; exact (Below.refl _ w).alloc (Nat.le_refl _) _
  have HB0 := Lib.hid hb0
  have HK := Lib.hid (show Blk W0 w.heap.size 25 (fC b) by rw [hW0]; exact Blk.new _ _ _)
  have HW0 := Lib.hid hW0
  have CM := Lib.hid (show Calls Tryz.prog 20 #[.agg (fC b)] W0 _ from rmay_any b.d b.n b.k b.A b.c B W0 (hb.below (hb0.mono hB)) (Nat.le_trans hB hb0.size) hD (by omega) hkl)
  obtain ⟨n, hn⟩ : ∃ n, n = hs.length := ⟨_, rfl⟩
  have HN := Lib.hid hn
  have hn' : (n : Int) ≤ 1000 := by omega
  rw [← hn]
  have HR := Lib.hid hr
  have HBB := Lib.hid hB
  obtain ⟨m, hm⟩ : ∃ m, m = mayB b.d b.n b.k := ⟨_, rfl⟩
  rw [← hm] at CM
  have HMM := Lib.hid hm
  clear hW0 hr hb hB hD hk hkl hm hn hl
  go_enter Tryz.func8, Tryz.ntmps8
  go_upto_region 1 with (fail)
  rw [show w.alloc (.cells (fC b) 25) = W0 from HW0.out.symm]
  generalize hAV : Value.agg (fC b) = AV
  rw [hAV] at CM
  go_wp2_with (refine wpList_get_box (x := .tmp 3) (cs := fC b) HK.out rfl rfl rfl hub rfl fb5_size ?_)
  refine calls_then CM.out ?_
  rintro e W1 ⟨rfl, hb1⟩
  have HK1 := Lib.hid (HK.out.below hb1 HK.out.lt)
  have HB1 := Lib.hid (HB0.out.trans (hb1.mono HB0.out.size))
  have HSZ1 := Lib.hid (show w.heap.size < W1.heap.size from HK1.out.lt)
  have HR1 := Lib.hid (HR.out.below (HB1.out.mono HBB.out))
  clear hb1 CM hb0
  cases m with
  | false =>
    have HE := Lib.hid (refH_no (hs := hs) HMM.out.symm)
    go_wp2_with fail
    go_ret2
    exact ⟨A, c, by rw [HE.out, HN.out]; rfl, HB1.out, by rw [HE.out]; exact rd_mono5 HR1.out (Nat.le_trans HBB.out HB1.out.size), fun k _ h => by rw [HE.out]; exact h⟩
  | true =>
    go_wp2_with fail
    go_loopw [7, 8, 9] (fun out dv i wr => ∃ (k : Nat) (A1 : Option Addr) (c1 : Nat) (xs : List FD) (dn : Bool), k ≤ n ∧ hto b hs k = (xs, dn) ∧ out = .slice A1 xs.length c1 ∧ dv = .bool dn ∧ i = .int .i64 (k : Int) ∧ OwnR wr W1.heap.size 25 3 A1 c1 xs.length (rowsV fC xs) ∧ Below W1.heap.size W1 wr) (fun _ _ i _ => n - (intOf i).toNat)
    case atStart => exact ⟨0, none, 0, [], false, by omega, hto_zero _ _, rfl, rfl, rfl, OwnR.nil _ _ _ _, Below.refl _ _⟩
    case round =>
      obtain ⟨k, A1, c1, xs, dn, hk, hto0, rfl, rfl, rfl, hown, hbel⟩ := hrel
      have HTO := Lib.hid hto0
      have hxl : xs.length ≤ 2000 := by
        have := hto_len b hs k
        rw [hto0] at this
        have hh : xs.length ≤ 2 * k := this
        omega
      have HOWN := Lib.hid hown
      have HBEL := Lib.hid hbel
      clear hto0 hown hbel
      by_cases hlt : k < n
      · have hkl : k < hs.length := by rw [← HN.out]; exact hlt
        have hi1 : (0 : Int) ≤ (k : Int) := by omega
        have hi2 : (k : Int) < (n : Int) := by omega
        obtain ⟨ad, hA, hadb, hcell⟩ := rd_rows (f := fC) (m := 3) (fun _ => rfl) (by decide) HR1.out hkl
        subst hA
        obtain ⟨X, hX⟩ : ∃ X, X = hs[k] := ⟨_, rfl⟩
        rw [← hX] at hcell
        obtain ⟨ys, dn2, hM⟩ : ∃ ys dn2, hmid b (xs, dn) X = (ys, dn2) := ⟨_, _, rfl⟩
        have HM := Lib.hid hM
        have hyl : ys.length ≤ 2001 := by have := hmid_len hM; dsimp only at this; omega
        have HST := Lib.hid (show hto b hs (k + 1) = (if X.d ≠ b.d then ys ++ [X] else ys, dn2) by rw [hto_step b hs hkl, HTO.out, ← hX, hstep, hM])
        have HC := Lib.hid (show ∀ u, Below W1.heap.size W1 u → ∀ j v, (fC X).toList[j]? = some v → u.cell? ((ad.add (k * 3)).add j) = some v from fun u hu j v hv => by
          rw [hu.cell (p := (ad.add (k * 3)).add j) (by rw [block_of_add, block_of_add]; exact Nat.lt_of_lt_of_le hadb (Nat.le_trans HBB.out HB1.out.size))]
          exact hcell j v (by simpa using hv))
        have HD := Lib.hid (show ∀ u, Below W1.heap.size W1 u → u.cell? (ad.add (k * 3)) = some (.string (bs X.d)) ∧ u.cell? ⟨w.heap.size, 0, none⟩ = some (.string (bs b.d)) from fun u hu => ⟨HC.out u hu 0 _ rfl, (HK1.out.below hu HK1.out.lt).cell 0⟩)
        obtain ⟨q, hq⟩ : ∃ q, q = lsB X.d b.d := ⟨_, rfl⟩
        have hqq : Op.bytesLess (bs X.d).toList (bs b.d).toList = q := by rw [bs_toList, bs_toList, hq]; rfl
        have HQ := Lib.hid hq
        have HLT := Lib.hid hlt
        clear hX hcell hadb hM hkl hq hlt
        obtain ⟨p, hp⟩ : ∃ p, p = (!dn && !q) := ⟨_, rfl⟩
        have HP1 := Lib.hid (show p = true → ys = xs ++ [b] ∧ dn2 = true from fun h => by
          rw [hp] at h
          have h1 : dn = false := by revert h; cases dn <;> simp
          have h2 : q = false := by revert h; cases q <;> simp
          subst h1 h2
          have := (hmid_ge xs HQ.out.symm).symm.trans HM.out
          injection this with h1 h2
          exact ⟨h1.symm, h2.symm⟩)
        have HP0 := Lib.hid (show p = false → ys = xs ∧ dn2 = dn from fun h => by
          rw [hp] at h
          cases dn with
          | true =>
            have := (hmid_done b xs X).symm.trans HM.out
            injection this with h1 h2
            exact ⟨h1.symm, h2.symm⟩
          | false =>
            have h2 : q = true := by revert h; cases q <;> simp
            subst h2
            have := (hmid_lt xs HQ.out.symm).symm.trans HM.out
            injection this with h1 h2
            exact ⟨h1.symm, h2.symm⟩)
        have HPP := Lib.hid hp
        clear hp
        go_upto_region 9 with (fail)
        go_cut [32] (fun v wx => v = .bool p ∧ ∃ m, wx = wr.drewN m)
        case first =>
          obtain ⟨d0, d2⟩ := HD.out wr HBEL.out
          cases dn with
          | true =>
            obtain rfl : p = false := HPP.out
            go_wp2_with fail
            go_quiet (fail)
            go_wp2_with fail
            go_meet
            exact ⟨rfl, _, rfl⟩
          | false =>
            cases q with
            | true =>
              obtain rfl : p = false := HPP.out
              go_wp2_with fail
              go_quiet (fail)
              go_wp2_with fail
              go_meet
              exact ⟨rfl, _, rfl⟩
            | false =>
              obtain rfl : p = true := HPP.out
              go_wp2_with fail
              go_quiet (fail)
              go_wp2_with fail
              go_meet
              exact ⟨rfl, _, rfl⟩
        case rest =>
        obtain ⟨rfl, md, rfl⟩ := hcut
        have HBD := Lib.hid (below_drewNq HBEL.out md)
        have HOD := Lib.hid (show OwnR (wr.drewN md) W1.heap.size 25 3 A1 c1 xs.length (rowsV fC xs) from HOWN.out)
        clear hqq
        go_upto_if 32 with (fail)
        go_cut [7, 8] (fun out dv wx => ∃ (A2 : Option Addr) (c2 : Nat), out = .slice A2 ys.length c2 ∧ dv = .bool dn2 ∧ OwnR wx W1.heap.size 25 3 A2 c2 ys.length (rowsV fC ys) ∧ Below W1.heap.size W1 wx)
        case first =>
          cases p with
          | false =>
            obtain ⟨rfl, rfl⟩ := HP0.out rfl
            go_wp2_with fail
            go_meet
            exact ⟨A1, c1, rfl, rfl, HOD.out, HBD.out⟩
          | true =>
            obtain ⟨rfl, rfl⟩ := HP1.out rfl
            go_wp2_with (first
              | (refine wpList_get_box (x := .tmp 3) (cs := #[.string (bs b.d), .int .i64 b.n, .slice b.A b.k.length b.c]) (HK1.out.below HBD.out HK1.out.lt) rfl rfl rfl hub rfl fb5_size ?_)
              | (refine wpList_append_r1 (ys := [.string (bs b.d), .int .i64 b.n, .slice b.A b.k.length b.c]) sl_buns rfl rfl HOD.out rfl rfl rfl rfl (by simp [Value.oneCell']) (by unfold maxLen; omega) (by omega) HBD.out.size ?_; intro A5 c5 w5 hown5 hgr5 hn5))
            go_meet
            exact ⟨A5, c5, by simp, rfl, by rw [rowsV_append, rowsV_one, List.length_append]; exact hown5, HBD.out.grown hgr5 HBD.out.size (fun j hj => (HOD.out.lt j hj).1)⟩
        case rest =>
        obtain ⟨A2, c2, rfl, rfl, hown2, hbel2⟩ := hcut
        have HOWN2 := Lib.hid hown2
        have HBEL2 := Lib.hid hbel2
        clear hown2 hbel2
        obtain ⟨d0, d2⟩ := HD.out _ HBEL2.out
        by_cases he : X.d = b.d
        · have hq' : ((bs X.d).toList == (bs b.d).toList) = true := by rw [bs_toList, bs_toList]; simpa using he
          have HS2 := Lib.hid (show hto b hs (k + 1) = (ys, dn2) by rw [HST.out, if_neg (by simpa using he)])
          go_wp2_with fail
          go_quiet (fail)
          go_wp2_with fail
          go_roundw
          case rel => exact ⟨k + 1, A2, c2, ys, dn2, HLT.out, HS2.out, rfl, rfl, by go_num, HOWN2.out, below_drewNq HBEL2.out _⟩
          case measure => have := HLT.out; simp [intOf]; omega
        · have hq' : ((bs X.d).toList == (bs b.d).toList) = false := by rw [bs_toList, bs_toList]; simpa using he
          have HS2 := Lib.hid (show hto b hs (k + 1) = (ys ++ [X], dn2) by rw [HST.out, if_pos he])
          go_wp2_with fail
          go_quiet (fail)
          go_wp2_with (first
            | (refine wpList_get_rd (r := [.string (bs X.d), .int .i64 X.n, .slice X.A X.k.length X.c]) (fun j u hj => HC.out _ (below_drewNq HBEL2.out _) j u hj) rfl rfl rfl hub rfl fb5_size ?_)
            | (refine wpList_append_r1 (ys := [.string (bs X.d), .int .i64 X.n, .slice X.A X.k.length X.c]) sl_buns rfl rfl (show OwnR (World.drewN _ _) W1.heap.size 25 3 A2 c2 ys.length (rowsV fC ys) from HOWN2.out) rfl rfl rfl rfl (by simp [Value.oneCell']) (by unfold maxLen; omega) (by omega) (below_drewNq HBEL2.out _).size ?_; intro A5 c5 w5 hown5 hgr5 hn5))
          go_roundw
          case rel => exact ⟨k + 1, A5, c5, ys ++ [X], dn2, HLT.out, HS2.out, by simp, rfl, by go_num, by rw [rowsV_append, rowsV_one, List.length_append]; exact hown5, (below_drewNq HBEL2.out _).grown hgr5 (below_drewNq HBEL2.out _).size (fun j hj => (HOWN2.out.lt j hj).1)⟩
          case measure => have := HLT.out; simp [intOf]; omega
      · obtain rfl : k = n := by omega
        obtain ⟨H, hH⟩ : ∃ H, H = holdR b hs := ⟨_, rfl⟩
        have HH := Lib.hid hH
        have HHE := Lib.hid (show H = if dn then xs else xs ++ [b] by rw [hH, holdR_end HN.out, HTO.out])
        clear hlt hH
        go_upto_if 53 with (fail)
        go_cut [7] (fun out wx => ∃ (A2 : Option Addr) (c2 : Nat), out = .slice A2 H.length c2 ∧ OwnR wx W1.heap.size 25 3 A2 c2 H.length (rowsV fC H) ∧ Below W1.heap.size W1 wx)
        case first =>
          cases dn with
          | true =>
            obtain rfl : H = xs := HHE.out
            go_wp2_with fail
            go_meet
            exact ⟨A1, c1, rfl, HOWN.out, HBEL.out⟩
          | false =>
            obtain rfl : H = xs ++ [b] := HHE.out
            go_wp2_with (first
              | (refine wpList_get_box (x := .tmp 3) (cs := #[.string (bs b.d), .int .i64 b.n, .slice b.A b.k.length b.c]) (HK1.out.below HBEL.out HK1.out.lt) rfl rfl rfl hub rfl fb5_size ?_)
              | (refine wpList_append_r1 (ys := [.string (bs b.d), .int .i64 b.n, .slice b.A b.k.length b.c]) sl_buns rfl rfl HOWN.out rfl rfl rfl rfl (by simp [Value.oneCell']) (by unfold maxLen; omega) (by omega) HBEL.out.size ?_; intro A5 c5 w5 hown5 hgr5 hn5))
            go_meet
            exact ⟨A5, c5, by simp, by rw [rowsV_append, rowsV_one, List.length_append]; exact hown5, HBEL.out.grown hgr5 HBEL.out.size (fun j hj => (HOWN.out.lt j hj).1)⟩
        case rest =>
        obtain ⟨A2, c2, rfl, hown2, hbel2⟩ := hcut
        have HOWN2 := Lib.hid hown2
        have HBEL2 := Lib.hid hbel2
        have HLE := Lib.hid (show H.length = (holdR b hs).length by rw [HH.out])
        obtain ⟨L, hL⟩ : ∃ L, L = H.length := ⟨_, rfl⟩
        rw [← hL] at HLE ⊢
        have HLL := Lib.hid hL
        have HFO := Lib.hid (fun (u : World) (hu : u = wc) (h : ¬ (3 < L ∧ k < L)) => show RHPost b hs A w (.returned (.tuple #[.slice A2 L c2, .int .i64 0])) u by
          have he := refH_ok (b := b) (hs := hs) HMM.out.symm (by rw [← HLE.out, ← HN.out]; exact h)
          unfold RHPost
          rw [he, ← HLE.out, ← HH.out, hu]
          exact ⟨A2, c2, rfl, HB1.out.trans (HBEL2.out.mono HB1.out.size), Rd.of_own HOWN2.out.x (Nat.le_refl _), fun k hk _ => (hi_own HOWN2.out).mono (Nat.le_trans hk HB1.out.size)⟩)
        have HFF := Lib.hid (fun (u : World) (hu : u = wc) (h3 : 3 < L) (hk : k < L) => show RHPost b hs A w (.returned (.tuple #[.slice A k c, .int .i64 6])) u by
          have he := refH_full (b := b) (hs := hs) HMM.out.symm (by rw [← HLE.out]; exact h3) (by rw [← HLE.out, ← HN.out]; exact hk)
          unfold RHPost
          rw [he, hu]
          exact ⟨A, c, by rw [HN.out], HB1.out.trans (HBEL2.out.mono HB1.out.size), (rd_mono5 (HR1.out.below (HBEL2.out.mono (Nat.le_trans HBB.out HB1.out.size))) (Nat.le_trans HBB.out (HB1.out.trans (HBEL2.out.mono HB1.out.size)).size)), fun _ _ h => h⟩)
        clear hown2 hbel2 hL
        by_cases h3 : 3 < L
        · have h3' : (3 : Int) < (L : Int) := by omega
          by_cases hk2 : k < L
          · have hk' : (k : Int) < (L : Int) := by omega
            have H3 := Lib.hid h3
            have HK2 := Lib.hid hk2
            clear h3 hk2
            go_wp2_with fail
            go_ret2
            exact HFF.out _ rfl H3.out HK2.out
          · have hk' : ¬ (k : Int) < (L : Int) := by omega
            have HNO := Lib.hid (show ¬ (3 < L ∧ k < L) from fun h => hk2 h.2)
            clear h3 hk2
            go_wp2_with fail
            go_ret2
            exact HFO.out _ rfl HNO.out
        · have h3' : ¬ (3 : Int) < (L : Int) := by omega
          have HNO := Lib.hid (show ¬ (3 < L ∧ k < L) from fun h => h3 h.1)
          clear h3
          go_wp2_with fail
          go_ret2
          exact HFO.out _ rfl HNO.out
end Go.Proofs.YtoihgnkhalhocaaGreatDoor.Js
/-
  Walk: fed.Hold.
-/
namespace Go.Proofs.YtoihgnkhalhocaaGreatDoor.Js
set_option linter.unusedSimpArgs false
set_option linter.unusedVariables false
open Go.RowKit

def cutA (A : Option Addr) (c k : Nat) : Option Addr := if c = k then A else A.map (·.add (k * 3))
theorem addr_add0 (a : Addr) : a.add 0 = a := by unfold Addr.add; simp
theorem addr_addadd (a : Addr) (i j : Nat) : (a.add i).add j = a.add (i + j) := by
  unfold Addr.add
  by_cases h1 : i = 0 <;> by_cases h2 : j = 0 <;> simp [h1, h2, Nat.add_assoc]
theorem size_elem23 (w : World) : (sizeOf (Tryz.prog.elem 22)).run Tryz.prog w = .ok 3 w := by kernel_rfl
theorem und_elem23 : Tryz.prog.underlying 22 = some (.slice (Tryz.prog.elem 22)) := by kernel_rfl
theorem slice_hm23 (A : Option Addr) (L c k : Nat) (hk : k ≤ c) (w : World) : (Instr.sliceAt 22 (.slice A L c) none (some (.int .i64 (k : Int))) (some (.int .i64 (k : Int)))).run Tryz.prog w = .ok (.slice A k k) w := by
  have h := run_slice_hm (P := Tryz.prog) w 22 A L c und_elem23 .i64 .i64 (k : Int) (k : Int) (by omega) (Int.le_refl _) (by omega)
  rw [run_sliceAt_slice w _ _ _ _ _ und_elem23, h, size_elem23]
  simp only [Result.andThen_ok, sliced, Int.toNat_natCast, Nat.zero_mul, Nat.sub_zero]
  by_cases h0 : k = 0
  · rw [if_pos h0]
  · rw [if_neg h0]
    cases A with
    | none => rfl
    | some a => rw [show Option.map (fun x : Addr => x.add 0) (some a) = some (a.add 0) from rfl, addr_add0]
theorem slice_l23 (A : Option Addr) (L c k : Nat) (hk : k ≤ L) (w : World) : (Instr.sliceAt 22 (.slice A L c) (some (.int .i64 (k : Int))) none none).run Tryz.prog w = .ok (.slice (cutA A c k) (L - k) (c - k)) w := by
  have h := run_slice_l (P := Tryz.prog) w 22 A L c und_elem23 .i64 (k : Int) (by omega) (by omega)
  rw [run_sliceAt_slice w _ _ _ _ _ und_elem23, h, size_elem23]
  simp only [Result.andThen_ok, sliced, Int.toNat_natCast, cutA]
section
variable {P : Program}
/-- 'append(s, x...)', s a row that is full, or nil. -/
theorem wpList_append_cut {w : World} {ops : Array Oper} {rest : List Oper} {o : Oper} {a : Act} {Q : Exit → Act → World → Prop} {sl x : Operand} {t e : TypeId} {size bytes : Nat} (T : SlT P t e size bytes)
    (hgd : o.guard = none) (ho : o.op = .call { callee := .builtin .append, args := #[sl, x], argTypes := #[t, t] })
    {A : Option Addr} {k m cx : Nat} {Ad : Option Addr} {olds news : List Value} (hs : a.eval sl = .slice A k k) (hx : a.eval x = .slice Ad m cx) (hlo : olds.length = k * size) (hold : ∀ j u, olds[j]? = some u → ∃ ad, A = some ad ∧ w.cell? (ad.add j) = some u)
    (hl : news.length = m * size) (hnews : ∀ j u, news[j]? = some u → ∃ a, Ad = some a ∧ w.cell? (a.add j) = some u) (h1 : ∀ u ∈ news, u.oneCell' = true) (hm : 0 < m)
    (h63 : k + m ≤ maxLen) (hbytes : (k + m) * bytes ≤ 140737488355328)
    (hA : A = none → k = 0)
    (h : ∀ A' c' w', OwnR w' w.heap.size e size A' c' (k + m) (olds ++ news) → Below w.heap.size w w' → wpList P ops Q rest (a.put o.dst (.slice A' (k + m) c')) w') :
    wpList P ops Q (o :: rest) a w := by
  cases A with
  | some ad =>
    refine wpList_append_full (m := m) T hgd ho hs hx hlo (fun j u hu => ?_) hl hnews hm (by omega) h63 hbytes h
    obtain ⟨ad', he, hc⟩ := hold j u hu
    injection he with he
    subst he
    exact hc
  | none =>
    obtain rfl : k = 0 := hA rfl
    have h0 : olds = [] := List.eq_nil_of_length_eq_zero (by simpa using hlo)
    subst h0
    obtain ⟨A', c', w', hrun, h2, h3, h4⟩ := run_append_r (P := P) (ty := o.type) (cx := cx) T (OwnR.nil w w.heap.size e size) hl hnews h1 h63 hbytes (Nat.le_refl _)
    refine wpList_of_append (R := fun v' w1 => v' = .slice A' (0 + m) c' ∧ w1 = w') hgd ho hs hx ⟨_, _, hrun, rfl, rfl⟩ ?_
    rintro v' w1 ⟨rfl, rfl⟩
    exact h _ _ _ h2 ⟨h3.os, h3.tape, h3.output, h3.size, fun b hb => h3.block b hb (by simp [Value.ownBlock])⟩
end
theorem HO.wrote {w w' : World} {K : Nat} {A : Option Addr} {c g : Nat} {xs : List FD} (h : HO w K A c xs) (hw : Wrote g w w') (hg : g < K) : HO w' K A c xs :=
  ⟨ownR_wrote h.row hw fun k hk => by have := (h.row.lt k hk).1; omega, fun x hx => ownR_wrote (h.keys x hx) hw fun k hk => by have := ((h.keys x hx).lt k hk).1; omega⟩
theorem HO.mono {w : World} {K K' : Nat} {A : Option Addr} {c : Nat} {xs : List FD} (h : HO w K A c xs) (hk : K' ≤ K) : HO w K' A c xs := ⟨h.row.mono hk, fun x hx => (h.keys x hx).mono hk⟩
/-- what Hold gives -/
def FHPost (b : FD) (hs : List FD) (w : World) (e : Ending) (w' : World) : Prop :=
  ∃ A' c' ys, e = .returned (.tuple #[.slice A' ys.length c', .int .i64 (refH b hs).2]) ∧ ys.map FD.b = (refH b hs).1.map FD.b ∧ HO w' w.heap.size A' c' ys ∧ Below w.heap.size w w'
/-- out of what it is where the list was cloned -/
theorem fhpost_of {b b' : FD} {hs ys zs : List FD} {w w' : World} {A' : Option Addr} {c' : Nat} {f : Int} (hb : b'.b = b.b) (hh : ys.map FD.b = hs.map FD.b) (hr : refH b' ys = (zs, f)) (ho : HO w' w.heap.size A' c' zs) (hbw : Below w.heap.size w w') :
    FHPost b hs w (.returned (.tuple #[.slice A' zs.length c', .int .i64 f])) w' := by
  have h := refH_same hb hh
  rw [hr] at h
  injection h with h1 h2
  have h2 : f = (refH b hs).2 := h2
  exact ⟨A', c', zs, by rw [h2], h1, ho, hbw⟩
set_option maxRecDepth 100000 in
set_option maxHeartbeats 8000000 in
theorem fhold_any (b : FD) (hs : List FD) (A : Option Addr) (c B : Nat) (w : World) (hr : HL w B A hs) (hb : Rd w B b.A (rowsV kCell b.k)) (hB : B ≤ w.heap.size) (hl : hs.length ≤ 1000) (ho : InOrd hs) (hD : b.d.length ≤ 100000) (hk : b.k.length ≤ 1000000)
    (hkx : ∀ x ∈ hs, x.k.length ≤ 1000000) (hkl : ∀ k ∈ b.k, (k.2.length : Int) ≤ 9223372036854775807) (hG : Sh.TabG w) :
    Calls Tryz.prog 7 #[.slice A hs.length c, .agg (fC b)] w (FHPost b hs w) := by
  have hub := Tryz.underlying25
  have hmf : ∀ (fn : Fn) (first cap : Array Value) (u : World), (Instr.makeFunc fn first cap).run Tryz.prog u = .ok (.func fn first cap) u := fun _ _ _ _ => rfl
  obtain ⟨W0, hW0⟩ : ∃ W0, W0 = w.alloc (.cells (fC b) 25) := ⟨_, rfl⟩
  have hb0 : Below w.heap.size w W0 := by rw [hW0]; exact (Below.refl _ w).alloc (Nat.le_refl _) _
  have HB0 := Lib.hid hb0
  have HK := Lib.hid (show Blk W0 w.heap.size 25 (fC b) by rw [hW0]; exact Blk.new _ _ _)
  have HS0 := Lib.hid (show W0.heap.size = w.heap.size + 1 by rw [hW0]; simp)
  have HW0 := Lib.hid hW0
  have CC := Lib.hid (fclone_any hs A c B W0 (hr.below (hb0.mono hB)) (Nat.le_trans hB hb0.size) hl hkx)
  have CW := Lib.hid (fun (u : World) (hu : Below w.heap.size w u) => show Calls Tryz.prog 16 #[.agg (fC b)] u _ from jwkwrite_any b.d b.n b.k b.A b.c B u (hb.below (hu.mono hB)) (Nat.le_trans hB hu.size) (by rw [bs_size]; omega) (by omega) hkl (hG.below hu hG.size))
  have CK := Lib.hid (fun (u : World) (hu : Below w.heap.size w u) => kclone_any b.k b.A b.c B u (hb.below (hu.mono hB)) (Nat.le_trans hB hu.size) hk)
  have HWR := Lib.hid (show wrB b.d b.n b.k = if mayB b.d b.n b.k then (writeV (bundleJ ⟨b.d, b.n, b.k⟩), 0) else ([], 1) from rfl)
  obtain ⟨R, hR⟩ : ∃ R, R = wrB b.d b.n b.k := ⟨_, rfl⟩
  obtain ⟨m, hm⟩ : ∃ m, m = mayB b.d b.n b.k := ⟨_, rfl⟩
  rw [← hR] at CW HWR
  rw [← hm] at HWR
  have HM := Lib.hid hm
  obtain ⟨n, hn⟩ : ∃ n, n = hs.length := ⟨_, rfl⟩
  have hn' : (n : Int) ≤ 1000 := by omega
  have HN := Lib.hid hn
  rw [← hn] at CC ⊢
  have HORD := Lib.hid ho
  clear hW0 hb0 hr hb hB hl ho hD hk hkx hkl hG hR hm hn
  go_enter Tryz.func7, Tryz.ntmps7
  go_upto_region 1 with (fail)
  rw [show w.alloc (.cells (fC b) 25) = W0 from HW0.out.symm]
  generalize hAV : Value.agg (fC b) = AV
  rw [hAV] at CW
  go_wp2_with fail
  refine calls_then CC.out ?_
  rintro e w1 ⟨A1, c1, ys, rfl, hys, ho1, hb1⟩
  have HYS := Lib.hid hys
  have HO1 := Lib.hid ho1
  have HB1 := Lib.hid (HB0.out.trans (hb1.mono HB0.out.size))
  have HK1 := Lib.hid (HK.out.below hb1 HK.out.lt)
  have HLN := Lib.hid (show ys.length = n by rw [len_same hys]; exact HN.out.symm)
  obtain ⟨L, hL⟩ : ∃ L, L = ys.length := ⟨_, rfl⟩
  rw [← hL] at HLN ⊢
  have HLL := Lib.hid hL
  have hL' : (L : Int) ≤ 1000 := by have := HLN.out; omega
  clear hys ho1 hb1 CC hL
  go_wp2_with (refine wpList_get_box (x := .tmp 3) (cs := fC b) HK1.out rfl rfl rfl hub rfl fb_size ?_)
  refine calls_then (CW.out w1 HB1.out) ?_
  rintro e w2 ⟨rfl, hb2⟩
  have HB2 := Lib.hid (HB1.out.trans (hb2.mono HB1.out.size))
  have HO2 := Lib.hid (HO1.out.below hb2)
  have HK2 := Lib.hid (HK1.out.below hb2 HK1.out.lt)
  clear hb2 CW HO1 HK1
  cases m with
  | false =>
    obtain rfl : R = ([], 1) := HWR.out
    have HE := Lib.hid (fhpost_of (b := b) (b' := b) rfl HYS.out (refH_no HM.out.symm) (HO2.out.mono (by rw [HS0.out]; omega)) HB2.out)
    go_wp2_with fail
    go_ret2
    rw [HLL.out]
    exact HE.out
  | true =>
    obtain ⟨RT, hRT⟩ : ∃ RT, R = (RT, 0) := ⟨_, HWR.out⟩
    subst hRT
    have a2 : w2.cell? ⟨w.heap.size, 2, none⟩ = some (.slice b.A b.k.length b.c) := HK2.out.cell 2
    go_wp2_with fail
    refine calls_then (CK.out w2 HB2.out) ?_
    rintro e w3 ⟨A2, c2, rfl, ho3, hb3⟩
    have HK3 := Lib.hid (HK2.out.below hb3 HK2.out.lt)
    have HB3 := Lib.hid (HB2.out.trans (hb3.mono HB2.out.size))
    have HO3 := Lib.hid (HO2.out.below hb3)
    have HOK := Lib.hid (ho3.mono (show w.heap.size + 1 ≤ w2.heap.size from HK2.out.lt))
    clear ho3 hb3 a2 CK HK2 HO2
    go_upto_region 6 with (refine wpList_put_cell (x := .tmp 23) (i := 2) HK3.out rfl rfl rfl rfl (by kernel_rfl) (by simp [fC, bC]) rfl ?_; intro w4 hb4 hw4)
    obtain ⟨b', hb'⟩ : ∃ b' : FD, b' = ⟨b.d, b.n, A2, c2, b.k⟩ := ⟨_, rfl⟩
    have HBB := Lib.hid (show b'.b = b.b by rw [hb']; rfl)
    have HK4 := Lib.hid (show Blk w4 w.heap.size 25 (fC b') by rw [hb']; exact hb4)
    have HB4 := Lib.hid (hw4.below HB3.out (Nat.le_refl _) HB3.out.size)
    have HO4 := Lib.hid (HO3.out.wrote hw4 (by rw [HS0.out]; omega))
    have HKO := Lib.hid (show OwnR w4 (w.heap.size + 1) 39 2 b'.A b'.c b'.k.length (rowsV kCell b'.k) by
      rw [hb']
      exact ownR_wrote HOK.out hw4 fun k hk => by have := (HOK.out.lt k hk).1; omega)
    have HM' := Lib.hid (show mayB b'.d b'.n b'.k = true by rw [hb']; exact HM.out.symm)
    have HOY := Lib.hid (ord_map HYS.out HORD.out)
    have HID := Lib.hid (show ∀ u, Below w4.heap.size w4 u → Calls Tryz.prog 18 #[.slice A1 L c1, .func (.func 19) #[] #[.pointer (some ⟨w.heap.size, 0, none⟩)]] u _ from fun u hu => by
      have h := idxf23_any b' ys A1 c1 u.heap.size w.heap.size u ((HO4.out.below hu).hl.row) (Nat.le_refl _) (by rw [← HLL.out]; omega) (HK4.out.below hu HK4.out.lt)
      rw [← HLL.out] at h
      exact h)
    clear hb4 hw4 hb' HK3 HO3 HOK HM hAV
    go_wp2_with fail
    refine calls_then (HID.out w4 (Below.refl _ _)) ?_
    rintro e w5 ⟨rfl, hb5⟩
    have HK5 := Lib.hid (HK4.out.below hb5 HK4.out.lt)
    have HB5 := Lib.hid (HB4.out.trans (hb5.mono HB4.out.size))
    have HO5 := Lib.hid (HO4.out.below hb5)
    have HKO5 := Lib.hid (HKO.out.below hb5)
    obtain ⟨k, hk⟩ : ∃ k, k = atF b' ys := ⟨_, rfl⟩
    have HKE := Lib.hid hk
    have HKL := Lib.hid (show k ≤ L by rw [hk, HLL.out]; exact tw_le _ _)
    obtain ⟨z, hz⟩ : ∃ z, z = idxH b' ys := ⟨_, rfl⟩
    rw [← hz]
    have HZ := Lib.hid (show z = if k < L then (k : Int) else -1 by rw [hz, idxH, hk, HLL.out])
    clear hb5 hk hz HK4 HO4 HKO HID
    by_cases hset : ∃ h : k < ys.length, (ys[k]).d = b'.d
    · -- it takes another one's place
      obtain ⟨hky, hkd⟩ := hset
      have hkl : k < L := by rw [HLL.out]; exact hky
      have hzk : z = (k : Int) := by rw [HZ.out, if_pos hkl]
      subst hzk
      obtain ⟨ad, cur, hA, hbase, hblt, hblk, hspot, hoff, hput⟩ := ownR_adw (f := fC) (m := 3) (fun _ => rfl) HO5.out.row hky (by decide)
      subst hA
      obtain ⟨ad', hA', -, hcell⟩ := rd_rows (f := fC) (m := 3) (fun _ => rfl) (by decide) (Rd.of_own (B := w5.heap.size) HO5.out.row.x (Nat.le_refl _)) hky
      injection hA' with hA'
      subst hA'
      have d0 : w5.cell? (ad.add (k * 3)) = some (.string (bs (ys[k]).d)) := hcell 0 _ rfl
      rw [hkd] at d0
      have d1 : w5.cell? ⟨w.heap.size, 0, none⟩ = some (.string (bs b'.d)) := HK5.out.cell 0
      have hq : ((bs b'.d).toList == (bs b'.d).toList) = true := by simp
      have hk0 : (0 : Int) ≤ (k : Int) := by omega
      have hkL : (k : Int) < (L : Int) := by omega
      have HEQ := Lib.hid (show refH b' ys = (ys.set k b', 0) by
        rw [refH_ok HM'.out (by
          have h := holdR_set HOY.out (by rw [← HKE.out]; exact hky) (by simp only [← HKE.out]; exact hkd)
          have h2 := congrArg List.length h
          simp only [List.length_append, List.length_cons, List.length_take, List.length_drop] at h2
          have := HKE.out
          omega), holdR_set HOY.out (by rw [← HKE.out]; exact hky) (by simp only [← HKE.out]; exact hkd), List.set_eq_take_append_cons_drop, if_pos hky, ← HKE.out])
      have HBLK := Lib.hid (fun (m : Nat) => show Blk (w5.drewN m) (ad.add (k * 3)).block 25 cur from hblk)
      have HOFF := Lib.hid hoff
      have HSP := Lib.hid hspot
      have HK6 := Lib.hid (fun (m : Nat) => show Blk (w5.drewN m) w.heap.size 25 (fC b') from HK5.out)
      have HFIN := Lib.hid (fun (m : Nat) (u : World) (hb : Blk u (ad.add (k * 3)).block 25 (cur.toList.take (ad.add (k * 3)).off ++ (fC b').toList ++ cur.toList.drop ((ad.add (k * 3)).off + 3)).toArray) (hw : Wrote (ad.add (k * 3)).block (w5.drewN m) u) =>
        show FHPost b hs w (.returned (.tuple #[.slice (some ad) L c1, .int .i64 0])) u by
          have hw' : Wrote (ad.add (k * 3)).block w5 u := ⟨⟨hw.grown.os, hw.grown.tape, hw.grown.output, hw.grown.size, hw.grown.block⟩, hw.size⟩
          have h1 := HO5.out.set hblk hw' (HKO5.out.mono (by rw [HS0.out]; exact Nat.le_refl _)) (hput b' u hb)
          have h2 := fhpost_of (b := b) (b' := b') (hs := hs) (ys := ys) HBB.out HYS.out HEQ.out (h1.mono (by rw [HS0.out]; omega)) (hw'.below HB5.out (by have := HS0.out; omega) HB5.out.size)
          rw [List.length_set, ← HLL.out] at h2
          exact h2)
      clear hcell hkd hblk hoff hspot hput hbase hblt hky
      go_wp2_with fail
      go_quiet (fail)
      go_wp2_with (first
        | (refine wpList_get_box (x := .tmp 3) (cs := fC b') (HK6.out _) rfl rfl rfl hub rfl fb_size ?_)
        | (refine wpList_put_part23 (n := 3) (r := fC b') (HBLK.out _) HSP.out HOFF.out rfl (by simp [fC, bC, Value.oneCell']) rfl rfl rfl rfl fb_size ?_; intro w7 hb7 hw7))
      go_ret2
      exact HFIN.out _ _ hb7 hw7
    · have HNE := Lib.hid (show ∀ h : atF b' ys < ys.length, (ys[atF b' ys]).d ≠ b'.d from fun h he => hset ⟨by rw [HKE.out]; exact h, by simp only [HKE.out]; exact he⟩)
      have HIN := Lib.hid (holdR_ins HOY.out HNE.out)
      have HLI := Lib.hid (show (holdR b' ys).length = L + 1 by
        rw [HIN.out, List.length_append, List.length_cons, List.length_take, List.length_drop, ← HKE.out, ← HLL.out]
        have := HKL.out
        omega)
      have d1 : w5.cell? ⟨w.heap.size, 0, none⟩ = some (.string (bs b'.d)) := HK5.out.cell 0
      obtain ⟨z0, hz0⟩ : ∃ z0 : Int, z0 = z := ⟨_, rfl⟩
      have HZ0 := Lib.hid hz0
      have HCUT := Lib.hid (show z = -1 ∧ k = L ∨ z = (k : Int) ∧ k < L ∧ ∃ ad X, A1 = some ad ∧ w5.cell? (ad.add (k * 3)) = some (.string (bs X)) ∧ X ≠ b'.d by
        by_cases hkl : k < L
        · have hky : k < ys.length := by rw [← HLL.out]; exact hkl
          obtain ⟨ad, hA, -, hcell⟩ := rd_rows (f := fC) (m := 3) (fun _ => rfl) (by decide) (Rd.of_own (B := w5.heap.size) HO5.out.row.x (Nat.le_refl _)) hky
          exact .inr ⟨by rw [HZ.out, if_pos hkl], hkl, ad, (ys[k]).d, hA, hcell 0 _ rfl, fun he => hset ⟨hky, he⟩⟩
        · exact .inl ⟨by rw [HZ.out, if_neg hkl], by have := HKL.out; omega⟩)
      clear hset hz0
      by_cases hfull : 3 ≤ L
      · have hf3 : (3 : Int) ≤ (L : Int) := by omega
        have HEQ := Lib.hid (show refH b' ys = (ys, 6) from refH_full HM'.out (by rw [HLI.out]; omega) (by rw [HLI.out, ← HLL.out]; omega))
        have HFN := Lib.hid (fun (m : Nat) => show FHPost b hs w (.returned (.tuple #[.slice A1 L c1, .int .i64 6])) (w5.drewN m) by
          have h := fhpost_of (b := b) (b' := b') (hs := hs) (ys := ys) (w := w) (w' := w5.drewN m) HBB.out HYS.out HEQ.out (A' := A1) (c' := c1) (HO.mono (K := W0.heap.size) ⟨HO5.out.row, fun x hx => HO5.out.keys x hx⟩ (by rw [HS0.out]; omega)) (below_drewNq HB5.out m)
          rw [← HLL.out] at h
          exact h)
        clear hfull
        rcases HCUT.out with ⟨rfl, _⟩ | ⟨rfl, hkl, ad, X, rfl, d0, hX⟩
        · clear d1
          go_wp2_with fail
          go_quiet (fail)
          go_wp2_with fail
          go_ret2
          exact HFN.out _
        · have hq : ((bs X).toList == (bs b'.d).toList) = false := by rw [bs_toList, bs_toList]; simpa using hX
          have hk0 : (0 : Int) ≤ (k : Int) := by omega
          have hkL : (k : Int) < (L : Int) := by omega
          clear hX hkl
          go_wp2_with fail
          go_quiet (fail)
          go_wp2_with fail
          go_ret2
          exact HFN.out _
      · have hf3 : ¬ (3 : Int) ≤ (L : Int) := by omega
        have HL3 := Lib.hid (show L ≤ 2 by omega)
        have HEQ := Lib.hid (show refH b' ys = (ys.take k ++ b' :: ys.drop k, 0) by
          rw [refH_ok HM'.out (by rw [HLI.out]; omega), HIN.out, HKE.out])
        clear hfull
        go_upto_block 0 with fail
        go_cut [9] (fun v wx => v = .int .i64 (k : Int) ∧ ∃ m, wx = w5.drewN m)
        case first =>
          rcases HCUT.out with ⟨rfl, hkl⟩ | ⟨rfl, hkl, ad, X, rfl, d0, hX⟩
          · clear d1
            go_wp2_with fail
            go_quiet (fail)
            go_wp2_with fail
            go_meet
            exact ⟨by rw [hkl], _, rfl⟩
          · have hq : ((bs X).toList == (bs b'.d).toList) = false := by rw [bs_toList, bs_toList]; simpa using hX
            have hk0 : (0 : Int) ≤ (k : Int) := by omega
            have hk1 : ¬ (k : Int) < 0 := by omega
            have hkL : (k : Int) < (L : Int) := by omega
            clear hX hkl
            go_wp2_with fail
            go_quiet (fail)
            go_wp2_with fail
            go_meet
            exact ⟨rfl, _, rfl⟩
        case rest =>
        obtain ⟨rfl, md, hwc⟩ := hcut
        have HB6 := Lib.hid (show Below w.heap.size w wc by rw [hwc]; exact below_drewNq HB5.out md)
        have HO6 := Lib.hid (show HO wc W0.heap.size A1 c1 ys by rw [hwc]; exact ⟨HO5.out.row, fun x hx => HO5.out.keys x hx⟩)
        have HK6 := Lib.hid (show Blk wc w.heap.size 25 (fC b') by rw [hwc]; exact HK5.out)
        have HKO6 := Lib.hid (show OwnR wc (w.heap.size + 1) 39 2 b'.A b'.c b'.k.length (rowsV kCell b'.k) by rw [hwc]; exact HKO5.out)
        clear hwc d1 HO5 HK5 HB5 HKO5
        have HSL1 := Lib.hid (slice_hm23 A1 L c1 k (Nat.le_trans HKL.out (by have := HO6.out.row.cap; rw [← HLL.out] at this; exact this)))
        have HSL2 := Lib.hid (slice_l23 A1 L c1 k HKL.out)
        obtain ⟨A3, hA3⟩ : ∃ A3, A3 = cutA A1 c1 k := ⟨_, rfl⟩
        rw [← hA3] at HSL2
        have HRO := Lib.hid (show ∀ u, Below wc.heap.size wc u → ∀ j v, (rowsV fC (ys.take k))[j]? = some v → ∃ ad, A1 = some ad ∧ u.cell? (ad.add j) = some v from fun u hu j v hv => by
          rw [rowsV_take (fun _ => rfl) ys k (m := 3)] at hv
          have hv' : (rowsV fC ys)[j]? = some v := by
            rw [List.getElem?_take] at hv
            split at hv
            · exact hv
            · simp at hv
          obtain ⟨ad, h1, _, h3⟩ := (HO6.out.below hu).hl.row j v hv'
          exact ⟨ad, h1, h3⟩)
        have HRN := Lib.hid (show ∀ u, Below wc.heap.size wc u → ∀ j v, (rowsV fC (ys.drop k))[j]? = some v → ∃ ad, A3 = some ad ∧ u.cell? (ad.add j) = some v from fun u hu j v hv => by
          have hkl : k ≠ L := fun he => by
            have : ys.drop k = [] := List.drop_of_length_le (by rw [he, HLL.out]; exact Nat.le_refl _)
            rw [this] at hv
            simp [rowsV] at hv
          rw [rowsV_drop (fun _ => rfl) ys k (m := 3), List.getElem?_drop] at hv
          obtain ⟨ad, h1, _, h3⟩ := (HO6.out.below hu).hl.row _ v hv
          have hcap := HO6.out.row.cap
          refine ⟨ad.add (k * 3), ?_, by rw [addr_addadd]; exact h3⟩
          rw [hA3, cutA, if_neg (by have := HKL.out; have := HLL.out; omega), h1]
          rfl)
        have HNN := Lib.hid (show A1 = none → k = 0 from fun he => by
          by_cases h0 : k = 0
          · exact h0
          · have hpos : 0 < ys.length := by have := HKL.out; have := HLL.out; omega
            obtain ⟨ad, h1, _⟩ := rd_rows (f := fC) (m := 3) (fun _ => rfl) (by decide) (Rd.of_own (B := wc.heap.size) HO6.out.row.x (Nat.le_refl _)) hpos
            rw [he] at h1
            simp at h1)
        have HT1 := Lib.hid (show (rowsV fC (ys.take k)).length = k * 3 by rw [rowsV_len (fun _ => rfl) (m := 3), List.length_take, Nat.min_eq_left (by have := HKL.out; have := HLL.out; omega)])
        have HT2 := Lib.hid (show (rowsV fC (ys.drop k)).length = (L - k) * 3 by rw [rowsV_len (fun _ => rfl) (m := 3), List.length_drop, HLL.out])
        have HT3 := Lib.hid (show rowsV fC (ys.take k) ++ (fC b').toList ++ rowsV fC (ys.drop k) = rowsV fC (ys.take k ++ b' :: ys.drop k) by rw [rowsV_append, rowsV_cons, List.append_assoc])
        have HT4 := Lib.hid (show (ys.take k ++ b' :: ys.drop k).length = k + 1 + (L - k) by rw [List.length_append, List.length_cons, List.length_take, List.length_drop, Nat.min_eq_left (by have := HKL.out; have := HLL.out; omega), HLL.out]; omega)
        have HKY := Lib.hid (show ∀ u, (∀ b, b < wc.heap.size → u.heap[b]? = wc.heap[b]?) → ∀ x ∈ ys.take k ++ b' :: ys.drop k, OwnR u W0.heap.size 39 2 x.A x.c x.k.length (rowsV kCell x.k) from fun u hu x hx => by
          have hkeep : ∀ {A : Option Addr} {c n : Nat} {xs : List Value}, OwnR wc W0.heap.size 39 2 A c n xs → OwnR u W0.heap.size 39 2 A c n xs := fun h => h.heap fun k cs hq _ => (hu k (Array.getElem?_eq_some_iff.1 hq).1).trans hq
          rcases List.mem_append.1 hx with hx | hx
          · exact hkeep (HO6.out.keys x (List.mem_of_mem_take hx))
          · rcases List.mem_cons.1 hx with rfl | hx
            · exact hkeep (HKO6.out.mono (by rw [HS0.out]; exact Nat.le_refl _))
            · exact hkeep (HO6.out.keys x (List.mem_of_mem_drop hx)))
        have HC0 : Below wc.heap.size wc wc.drew := (Below.refl _ _).drew
        have HKLL := HKL.out
        have HL33 := HL3.out
        clear hA3
        go_wp2_with fail
        apply wp_region_seqh (fun u => Below wc.heap.size wc u) (fun u u' => Below u.heap.size u u') [_, _, _, _, _, undef, undef, _, _, _] (gOf [(5, fun v u => ∃ ad, v = .slice (some ⟨ad, 0, none⟩) 1 1 ∧ Blk u ad 25 (fC b')), (6, fun v u => ∃ (A' : Option Addr) (c' : Nat), v = .slice A' (k + 1) c' ∧ OwnR u wc.heap.size 25 3 A' c' (k + 1) (rowsV fC (ys.take k) ++ (fC b').toList))]) 10 (by kernel_rfl) (by kernel_rfl) (by decide) (by kernel_rfl) (stabL_of _ ⟨(fun _ _ _ h h0 => by obtain ⟨g, e, hb⟩ := h0; exact ⟨g, e, hb.below h hb.lt⟩), (fun _ _ _ h h0 => by obtain ⟨A', c', e, ho⟩ := h0; exact ⟨A', c', e, ho.below h⟩), trivial⟩) HC0
        simp only [List.take_succ_cons, List.take_zero, List.drop_succ_cons, List.drop_zero]
        iterate 3
          ((first | (apply SeqG.next; rfl; rfl; rfl)); (simp only [act_put, act_put_none, List.setIfInBounds_toArray, List.set_cons_zero, List.set_cons_succ]; rfl); (intro w1 hC1 hf E hE; go_wp2; exact .mk (hE _ hC1 (Below.refl _ _))))
        apply SeqG.next
        · rfl
        · rfl
        · rfl
        · simp only [act_put, act_put_none, List.setIfInBounds_toArray, List.set_cons_zero, List.set_cons_succ]
          rfl
        · intro w1 hC1 hf E hE
          refine wpList_slice rfl rfl (HSL1.out _) ?_
          go_wp2_with fail
          exact .mk (hE _ hC1 (Below.refl _ _))
        apply SeqG.next
        · rfl
        · rfl
        · rfl
        · simp only [act_put, act_put_none, List.setIfInBounds_toArray, List.set_cons_zero, List.set_cons_succ]
          rfl
        · intro w1 hC1 hf E hE
          refine wpList_get_box (cs := fC b') (HK6.out.below (hC1.mono (Nat.le_refl _)) HK6.out.lt) rfl rfl rfl hub rfl fb_size ?_
          go_wp2_with fail
          exact .mk (hE _ hC1 (Below.refl _ _))
        apply SeqG.some
        · rfl
        · rfl
        · intro w1 hC1 hf E hE
          simp only [act_put, act_put_none, List.setIfInBounds_toArray, List.set_cons_zero, List.set_cons_succ] at hE
          unfold fC bC
          go_wp2
          exact .mk (hE _ _ ⟨_, rfl, Blk.new _ _ _⟩ (hC1.alloc hC1.size _) ((Below.refl _ _).alloc (Nat.le_refl _) _))
        intro x5
        simp only [act_put, act_put_none, List.setIfInBounds_toArray, List.set_cons_zero, List.set_cons_succ]
        apply SeqG.some
        · rfl
        · rfl
        · intro w1 hC1 hf E hE
          simp only [act_put, act_put_none, List.setIfInBounds_toArray, List.set_cons_zero, List.set_cons_succ] at hE
          have f5 := (hf 5 (of_decide_eq_true (by kernel_rfl))).1 rfl
          obtain ⟨g5, hx5, hb5⟩ := f5
          have HG5 := Lib.hid hb5
          clear hb5
          subst hx5
          refine wpList_append_cut (k := k) (m := 1) (news := (fC b').toList) sl_buns rfl rfl rfl rfl HT1.out (HRO.out _ hC1) rfl (fun j u hj => by obtain ⟨ad, h1, _, h3⟩ := Rd.of_blk (l := (fC b').toList) HG5.out HG5.out.lt j u hj; exact ⟨ad, h1, h3⟩) (by simp [fC, bC, Value.oneCell']) (by decide) (by unfold maxLen; omega) (by omega) HNN.out ?_
          intro A7 c7 w7 ho7 hb7
          have HO7 := Lib.hid (ho7.mono hC1.size)
          clear ho7
          go_wp2_with fail
          exact .mk (hE _ _ ⟨A7, c7, rfl, HO7.out⟩ (hC1.trans (hb7.mono hC1.size)) hb7)
        intro x6
        simp only [act_put, act_put_none, List.setIfInBounds_toArray, List.set_cons_zero, List.set_cons_succ]
        iterate 2
          ((first | (apply SeqG.next; rfl; rfl; rfl)); (simp only [act_put, act_put_none, List.setIfInBounds_toArray, List.set_cons_zero, List.set_cons_succ]; rfl); (intro w1 hC1 hf E hE; go_wp2; exact .mk (hE _ hC1 (Below.refl _ _))))
        apply SeqG.next
        · rfl
        · rfl
        · rfl
        · simp only [act_put, act_put_none, List.setIfInBounds_toArray, List.set_cons_zero, List.set_cons_succ]
          rfl
        · intro w1 hC1 hf E hE
          refine wpList_slice rfl rfl (HSL2.out _) ?_
          go_wp2_with fail
          exact .mk (hE _ hC1 (Below.refl _ _))
        refine SeqG.nil ?_
        intro w1 hC1 hf
        have f6 := (hf 6 (of_decide_eq_true (by kernel_rfl))).1 rfl
        clear hf
        refine SeqT.step rfl ?_
        intro E hE
        simp only [act_put, act_put_none, List.setIfInBounds_toArray, List.set_cons_zero, List.set_cons_succ] at hE
        obtain ⟨A7, c7, hx7, ho7⟩ := f6
        simp only [hx7] at hE ⊢
        refine wpList_append_r (m := L - k) (news := rowsV fC (ys.drop k)) (B := w1.heap.size) sl_buns rfl rfl ho7 rfl rfl HT2.out (fun j u hj => by obtain ⟨ad, h1, h3⟩ := HRN.out _ hC1 j u hj; exact ⟨ad, h1, by rw [← block_of_add ad j]; exact World.block_lt_of_cell? _ _ h3, h3⟩) (rowsV_mem fC_one _) (by unfold maxLen; omega) (by omega) hC1.size ?_
        intro A8 c8 w8 ho8 hg8 hn8
        have HO8 := Lib.hid ho8
        have HG8 := Lib.hid (show Below wc.heap.size wc w8 from hC1.grown hg8 hC1.size fun k hk => (ho7.lt k hk).1)
        clear ho8 hg8 hn8 ho7
        go_wp2_with fail
        refine .mk (hE _ _ ?_)
        clear hE E
        refine SeqT.step rfl ?_
        intro E hE
        simp only [act_put, act_put_none, List.setIfInBounds_toArray, List.set_cons_zero, List.set_cons_succ] at hE
        go_wp2
        refine .mk (hE _ _ ?_)
        clear hE E
        refine SeqT.step rfl ?_
        intro E hE
        simp only [act_put, act_put_none, List.setIfInBounds_toArray, List.set_cons_zero, List.set_cons_succ] at hE
        go_wp2
        refine .mk (hE _ _ ?_)
        clear hE E
        refine SeqT.nil ?_
        have HFN := Lib.hid (show FHPost b hs w (.returned (.tuple #[.slice A8 (k + 1 + (L - k)) c8, .int .i64 0])) w8 by
          have h1 : HO w8 W0.heap.size A8 c8 (ys.take k ++ b' :: ys.drop k) := ⟨by
            rw [HT4.out, ← HT3.out]
            exact HO8.out.mono (by have := HB6.out.size; have := HS0.out; have := HK6.out.lt; omega), HKY.out w8 HG8.out.block⟩
          have h2 := fhpost_of (b := b) (b' := b') (hs := hs) (ys := ys) HBB.out HYS.out HEQ.out (h1.mono (by rw [HS0.out]; omega)) (HB6.out.trans (HG8.out.mono HB6.out.size))
          rw [HT4.out] at h2
          exact h2)
        clear hC1 HC0
        go_wp2_with fail
        go_ret2
        exact HFN.out
end Go.Proofs.YtoihgnkhalhocaaGreatDoor.Js
/-
  Walk: the reference's Cut of a bundle.
-/
namespace Go.Proofs.YtoihgnkhalhocaaGreatDoor.Js
set_option linter.unusedSimpArgs false
set_option linter.unusedVariables false
open Go.RowKit

def cutL (ks : List (Bs × Bs)) : List (Bs × Bs) := (ks.take 9).map cutK
theorem cutL_len (ks : List (Bs × Bs)) : (cutL ks).length ≤ 9 := by simp [cutL]; omega
theorem cutL_small (ks : List (Bs × Bs)) : ∀ k ∈ cutL ks, k.2.length ≤ 40 := fun k hk => by
  obtain ⟨x, _, rfl⟩ := List.mem_map.1 hk
  simp [cutK]
  omega
/-- what Cut gives -/
def CutPost9 (D : Bs) (num : Int) (ks : List (Bs × Bs)) (w : World) (e : Ending) (w' : World) : Prop :=
  ∃ (A' : Option Addr) (c' : Nat), e = .returned (.agg (bC (D.take 30) num A' (cutL ks).length c')) ∧ Below w.heap.size w w' ∧ Rd w' w'.heap.size A' (rowsV kCell (cutL ks)) ∧ Hi w.heap.size A' (rowsV kCell (cutL ks))
theorem bs_takex (t : Bs) (m : Nat) : (bs t).extract 0 m = bs (t.take m) := by
  apply ByteArray.ext
  simp [bs, ByteArray.data_extract]
theorem kC_x (X : Bs × Bs) (v : Value) (h : v = .string (bs (X.2.take 40))) : (kCell X).setIfInBounds 1 v = kCell (X.1, X.2.take 40) := by subst h; rfl
theorem kC_k (X : Bs × Bs) (v : Value) (h : v = .string (bs (X.1.take 20))) : (kCell X).setIfInBounds 0 v = kCell (X.1.take 20, X.2) := by subst h; rfl
theorem bC_d (D : Bs) (num : Int) (v : Value) (h : v = .string (bs (D.take 30))) : (bC D num none 0 0).setIfInBounds 0 v = bC (D.take 30) num none 0 0 := by subst h; rfl
set_option maxRecDepth 100000 in
set_option maxHeartbeats 4000000 in
theorem cut23_any (D : Bs) (num : Int) (ks : List (Bs × Bs)) (A : Option Addr) (c B : Nat) (w : World) (hr : Rd w B A (rowsV kCell ks)) (hB : B ≤ w.heap.size) (hl : (ks.length : Int) ≤ 9223372036854775807) :
    Calls Tryz.prog 6 #[.agg (bC D num A ks.length c)] w (CutPost9 D num ks w) := by
  have hub := Tryz.underlying25
  obtain ⟨W1, hW1⟩ : ∃ W1, W1 = (w.alloc (.cells (bC D num A ks.length c) 25)).alloc (.cells zB 25) := ⟨_, rfl⟩
  have hb1 : Below w.heap.size w W1 := by rw [hW1]; exact ((Below.refl _ w).alloc (Nat.le_refl _) _).alloc (by simp) _
  have HB1 := Lib.hid hb1
  have HK1 := Lib.hid (show Blk W1 w.heap.size 25 (bC D num A ks.length c) by rw [hW1]; exact (Blk.new _ _ _).alloc _)
  have HZ1 := Lib.hid (show Blk W1 (w.heap.size + 1) 25 zB by rw [hW1]; have := Blk.new (w.alloc (.cells (bC D num A ks.length c) 25)) 25 zB; simpa using this)
  have HS1 := Lib.hid (show W1.heap.size = w.heap.size + 2 by rw [hW1]; simp)
  have HR := Lib.hid hr
  have HBB := Lib.hid hB
  have HW1 := Lib.hid hW1
  obtain ⟨n, hn⟩ : ∃ n, n = ks.length := ⟨_, rfl⟩
  rw [← hn] at HK1 HW1 hl ⊢
  have HN := Lib.hid hn
  have b0 : W1.cell? ⟨w.heap.size, 0, none⟩ = some (.string (bs D)) := HK1.out.cell 0
  have b1 : W1.cell? ⟨w.heap.size, 1, none⟩ = some (.int .i64 num) := HK1.out.cell 1
  clear hW1 hb1 hr hB hn
  go_enter Tryz.func6, Tryz.ntmps6
  go_upto_region 1 with (fail)
  rw [show ((w.alloc (.cells (bC D num A n c) 25)).alloc (.cells #[.string ⟨#[]⟩, .int .i64 0, .slice none 0 0] 25)) = W1 from HW1.out.symm]
  generalize Value.agg (bC D num A n c) = AV
  go_upto_region 2 with (refine wpList_put_box (cells := bC D num none 0 0) (Blk.new _ _ _) rfl rfl rfl rfl jb_size rfl (by simp [bC, Value.oneCell']) ?_; intro w5 hb5 hw5)
  have hbw5 : Below W1.heap.size W1 w5 := box_low9 hw5
  have HG := Lib.hid (show W1.heap.size = w.heap.size + 2 from HS1.out)
  have HC2 := Lib.hid (show Cb w (bC D num A n c) (bC D num none 0 0) none 0 [] w5 from
    ⟨HB1.out.trans (hbw5.mono HB1.out.size), HK1.out.below hbw5 HK1.out.lt, HZ1.out.below hbw5 HZ1.out.lt, by rw [← HG.out]; exact hb5, OwnR.nil _ _ _ _⟩)
  rw [HG.out]
  clear hb5 hw5 hbw5 b0 b1
  -- the domain
  have a0 : w5.cell? ⟨w.heap.size + 2, 0, none⟩ = some (.string (bs D)) := HC2.out.out.cell 0
  go_upto_if 14 with (fail)
  go_cut [] (fun wx => Cb w (bC D num A n c) (bC (D.take 30) num none 0 0) none 0 [] wx)
  case first =>
    have hsz : ((bs D).size : Int) = (D.length : Int) := by rw [bs_size]
    by_cases h30 : 30 < D.length
    · have h1 : (30 : Int) < ((bs D).size : Int) := by omega
      have h2 : 30 ≤ (bs D).size := by omega
      clear hsz h30
      go_wp2_with (refine wpList_put_cell (i := 0) HC2.out.out rfl rfl rfl rfl (by kernel_rfl) (by simp [bC]) rfl ?_; intro w6 hb6 hw6)
      go_meet
      exact HC2.out.put hw6 (by rw [bC_d _ _ _ (by rw [← bs_takex]; rfl)] at hb6; exact hb6)
    · have h1 : ¬ (30 : Int) < ((bs D).size : Int) := by omega
      have HT := Lib.hid (show D.take 30 = D from List.take_of_length_le (by omega))
      clear hsz h30
      go_wp2_with fail
      go_meet
      rw [HT.out]
      exact HC2.out
  case rest =>
  have HC3 := Lib.hid hcut
  clear hcut a0
  obtain ⟨mn, hmn⟩ : ∃ mn, mn = min n 9 := ⟨_, rfl⟩
  have HMN := Lib.hid hmn
  have HRW := Lib.hid (show ∀ u, Below w.heap.size w u → Rd u B A (rowsV kCell ks) from fun u hu => HR.out.below (hu.mono HBB.out))
  clear hmn
  go_wp2_with fail
  go_loopw [4] (fun x wr => ∃ (i : Nat) (A1 : Option Addr) (c1 : Nat), i ≤ mn ∧ x = .int .i64 (i : Int) ∧
    Cb w (bC D num A n c) (bC (D.take 30) num A1 ((ks.take i).map cutK).length c1) A1 c1 ((ks.take i).map cutK) wr) (fun x _ => mn - (intOf x).toNat)
  case atStart => exact ⟨0, none, 0, Nat.zero_le _, rfl, HC3.out⟩
  case round =>
    obtain ⟨i, A1, c1, hi, rfl, hcs⟩ := hrel
    have HCS := Lib.hid hcs
    clear hcs
    have a2 : wr.cell? ⟨w.heap.size, 2, none⟩ = some (.slice A n c) := HCS.out.vbox.cell 2
    by_cases hlt : i < mn
    · have HLT := Lib.hid hlt
      have h1 : (i : Int) < (n : Int) := by have := HMN.out; omega
      have h2 : (i : Int) < 9 := by have := HMN.out; omega
      have hil : i < ks.length := by have := HMN.out; rw [← HN.out]; omega
      obtain ⟨ad, hA, hadb, hcell⟩ := rd_rows (f := kCell) (m := 2) (fun _ => rfl) (by decide) (HRW.out wr HCS.out.low) hil
      subst hA
      obtain ⟨X, hX⟩ : ∃ X, X = ks[i] := ⟨_, rfl⟩
      rw [← hX] at hcell
      have HCL := Lib.hid (show ∀ j u, (kCell X).toList[j]? = some u → wr.cell? ((ad.add (i * 2)).add j) = some u from fun j u hu => hcell j u (by simpa using hu))
      have HXS := Lib.hid (show (ks.take (i + 1)).map cutK = (ks.take i).map cutK ++ [cutK X] by rw [List.take_succ_eq_append_getElem hil, List.map_append, hX]; rfl)
      obtain ⟨N, hN⟩ : ∃ N, N = (ks.take i).map cutK := ⟨_, rfl⟩
      have HNL := Lib.hid (show N.length ≤ 9 by rw [hN]; simp; have := HMN.out; omega)
      rw [← hN] at HCS HXS
      have huj := Tryz.underlying39
      clear hX hcell hil hlt hadb hN
      go_upto_region 8 with (first
        | refine wpList_get_rd (r := (kCell X).toList) HCL.out rfl rfl rfl huj rfl jk_size ?_
        | (refine wpList_put_box (cells := kCell X) (Blk.new _ _ _) rfl rfl rfl rfl jk_size rfl (kCell_one X) ?_; intro w6 hb6 hw6))
      have hbw6 : Below wr.heap.size wr w6 := box_low9 hw6
      obtain ⟨H, hH⟩ : ∃ H, H = wr.heap.size := ⟨_, rfl⟩
      rw [← hH] at hb6 ⊢
      have HHL := Lib.hid (show w.heap.size + 3 ≤ H by rw [hH]; exact HCS.out.size)
      have HNE := Lib.hid (show ∀ k, (Value.slice A1 N.length c1).ownBlock = some k → k ≠ H from fun k hk he => by have h1 := (HCS.out.keys.lt k hk).2; omega)
      have HC6 := Lib.hid (HCS.out.new hbw6)
      have HK6 := Lib.hid hb6
      clear hb6 hw6 hbw6 hH HCS HCL a2 h1 h2
      -- the key's bytes
      have a1 : w6.cell? ⟨H, 1, none⟩ = some (.string (bs X.2)) := HK6.out.cell 1
      go_upto_if 38 with (fail)
      go_cut [] (fun wx => Cb w (bC D num (some ad) n c) (bC (D.take 30) num A1 N.length c1) A1 c1 N wx ∧ Blk wx H 39 (kCell (X.1, X.2.take 40)))
      case first =>
        have hsz : ((bs X.2).size : Int) = (X.2.length : Int) := by rw [bs_size]
        by_cases h40 : 40 < X.2.length
        · have h1 : (40 : Int) < ((bs X.2).size : Int) := by omega
          have h2 : 40 ≤ (bs X.2).size := by omega
          clear hsz h40
          go_wp2_with (refine wpList_put_cell (i := 1) HK6.out rfl rfl rfl rfl (by kernel_rfl) (by simp [kCell]) rfl ?_; intro w7 hb7 hw7)
          go_meet
          exact ⟨HC6.out.wrote hw7 HHL.out HNE.out, by rw [kC_x _ _ (by rw [← bs_takex]; rfl)] at hb7; exact hb7⟩
        · have h1 : ¬ (40 : Int) < ((bs X.2).size : Int) := by omega
          have HT := Lib.hid (show X.2.take 40 = X.2 from List.take_of_length_le (by omega))
          clear hsz h40
          go_wp2_with fail
          go_meet
          rw [HT.out]
          exact ⟨HC6.out, HK6.out⟩
      case rest =>
      obtain ⟨hc7, hk7⟩ := hcut
      have HC7 := Lib.hid hc7
      have HK7 := Lib.hid hk7
      clear hc7 hk7 HC6 HK6 a1
      -- its name
      have a1 := HK7.out.cell 0
      simp only [kCell, List.getElem?_toArray, List.getElem?_cons_zero] at a1
      go_upto_if 46 with (fail)
      go_cut [] (fun wx => Cb w (bC D num (some ad) n c) (bC (D.take 30) num A1 N.length c1) A1 c1 N wx ∧ Blk wx H 39 (kCell (X.1.take 20, X.2.take 40)))
      case first =>
        have hsz : ((bs X.1).size : Int) = (X.1.length : Int) := by rw [bs_size]
        by_cases h20 : 20 < X.1.length
        · have h1 : (20 : Int) < ((bs X.1).size : Int) := by omega
          have h2 : 20 ≤ (bs X.1).size := by omega
          clear hsz h20
          go_wp2_with (refine wpList_put_cell (i := 0) HK7.out rfl rfl rfl rfl (by kernel_rfl) (by simp [kCell]) rfl ?_; intro w7 hb7 hw7)
          go_meet
          exact ⟨HC7.out.wrote hw7 HHL.out HNE.out, by rw [kC_k (X.1, X.2.take 40) _ (by rw [← bs_takex]; rfl)] at hb7; exact hb7⟩
        · have h1 : ¬ (20 : Int) < ((bs X.1).size : Int) := by omega
          have HT := Lib.hid (show X.1.take 20 = X.1 from List.take_of_length_le (by omega))
          clear hsz h20
          go_wp2_with fail
          go_meet
          rw [HT.out]
          exact ⟨HC7.out, HK7.out⟩
      case rest =>
      obtain ⟨hc8, hk8⟩ := hcut
      have HC5 := Lib.hid hc8
      have HK5 := Lib.hid hk8
      clear a1
      have a0 := hk8.cell 0
      have a1 := hk8.cell 1
      simp only [kCell, List.getElem?_toArray, List.getElem?_cons_zero, List.getElem?_cons_succ] at a0 a1
      clear hc8 hk8 HC7 HK7
      obtain ⟨kd, hkd⟩ : ∃ kd, kd = X.1.take 20 := ⟨_, rfl⟩
      obtain ⟨kx, hkx⟩ : ∃ kx, kx = X.2.take 40 := ⟨_, rfl⟩
      rw [← hkd] at HK5 a0
      rw [← hkx] at HK5 a1
      have HKD := Lib.hid hkd
      have HKX := Lib.hid hkx
      have HKL := Lib.hid (show kx.length ≤ 40 by rw [hkx]; simp; omega)
      clear hkd hkx
      go_upto_if 53 with (fail)
      go_cut [] (fun wx => Cb w (bC D num (some ad) n c) (bC (D.take 30) num A1 N.length c1) A1 c1 N wx ∧ Blk wx H 39 (kCell (cutK X)))
      case first =>
        by_cases h0 : kd = []
        · have he : (bs kd).toList.isEmpty = true := by rw [bs_toList, h0]; rfl
          have HCK := Lib.hid (show cutK X = (nameL kx, kx) by rw [cutK, ← HKD.out, ← HKX.out, if_pos h0])
          have hus := Tryz.underlying9
          have hub8 := Tryz.underlying42
          have hu8 := Tryz.underlying5
          have hkl := bs_size kx
          have HKS := Lib.hid hkl
          clear h0 hkl
          go_wp2_with (refine wpList_bytes_of (s := bs kx) hus hub8 hu8 rfl rfl rfl ?_; intro A7 c7 w7 hr7 hc7 hb7; have HR7 := Lib.hid hr7; have HC7 := Lib.hid hc7; have HB7 := Lib.hid hb7; clear hr7 hc7 hb7)
          rw [HKS.out]
          have HCN := Lib.hid (rname_any kx (by have := HKL.out; omega) A7 c7 w7 HR7.out (by have := HC7.out; have := HKS.out; omega) (digS32_len2 kx))
          refine calls_then HCN.out ?_
          rintro e w8 ⟨rfl, hb8⟩
          rw [nameS_bs]
          have HC8 := Lib.hid (HC5.out.new (HB7.out.trans (hb8.mono HB7.out.size)))
          have HK8 := Lib.hid ((HK5.out.below HB7.out HK5.out.lt).below hb8 (Nat.lt_of_lt_of_le HK5.out.lt HB7.out.size))
          clear hb8 a0 a1 HCN
          go_wp2_with (refine wpList_put_cell (i := 0) HK8.out rfl rfl rfl rfl (by kernel_rfl) (by simp [kCell]) rfl ?_; intro w9 hb9 hw9)
          go_meet
          rw [HCK.out]
          exact ⟨HC8.out.wrote hw9 HHL.out HNE.out, hb9⟩
          rename_i hx
          exact absurd (he.symm.trans hx) (by decide)
        · have he : (bs kd).toList.isEmpty = false := by rw [bs_toList]; simpa using h0
          have HCK := Lib.hid (show cutK X = (kd, kx) by rw [cutK, ← HKD.out, ← HKX.out, if_neg h0])
          go_wp2_with fail
          · have hx : (bs kd).toList.isEmpty = true := by assumption
            exact absurd (hx.symm.trans he) (by decide)
          go_meet
          rw [HCK.out]
          exact ⟨HC5.out, HK5.out⟩
      case rest =>
      obtain ⟨hcb, hbk⟩ := hcut
      have HC9 := Lib.hid hcb
      have HK9 := Lib.hid hbk
      clear a0 a1
      have b2 := hcb.out.cell 2
      simp only [bC, List.getElem?_toArray, List.getElem?_cons_zero, List.getElem?_cons_succ] at b2
      have hNL : (N.length : Int) ≤ 9 := by have := HNL.out; omega
      have hi9 : (i : Int) < 9 := by have := HLT.out; have := HMN.out; omega
      obtain ⟨Y, hY⟩ : ∃ Y, Y = cutK X := ⟨_, rfl⟩
      rw [← hY] at HK9 HXS
      clear hcb hbk hY HC5 HK5
      go_wp2_with (first
        | refine wpList_get_box (cs := #[.string (bs Y.1), .string (bs Y.2)]) HK9.out rfl rfl rfl huj rfl jk_size ?_
        | (refine wpList_append_r1 (ys := [.string (bs Y.1), .string (bs Y.2)]) sl_jwks rfl rfl HC9.out.keys rfl rfl rfl rfl (by simp [Value.oneCell']) (by unfold maxLen; omega) (by omega) HC9.out.size ?_; intro A5 c5 w5 hown5 hgr5 hn5; have HCA := Lib.hid (HC9.out.add hown5 hgr5); clear hown5 hgr5 hn5)
        | (refine wpList_put_cell (i := 2) HCA.out.out rfl rfl rfl rfl (by kernel_rfl) (by simp [bC]) rfl ?_; intro w8 hb8 hw8))
      have HCB := Lib.hid (HCA.out.put (R' := bC (D.take 30) num A5 (N ++ [Y]).length c5) hw8 (by rw [List.length_append]; exact hb8))
      clear hb8 hw8
      go_roundw
      case rel => exact ⟨i + 1, A5, c5, HLT.out, by go_num, by rw [HXS.out]; exact HCB.out⟩
      case measure => have := HLT.out; simp [intOf]; omega
    · obtain rfl : i = mn := by omega
      have hor : ¬ ((i : Int) < (n : Int)) ∨ ((i : Int) < (n : Int) ∧ ¬ (i : Int) < 9) := by have := HMN.out; omega
      have HNS := Lib.hid (show (ks.take i).map cutK = cutL ks by
        have h1 := HMN.out
        have h2 := HN.out
        unfold cutL
        by_cases h5 : n ≤ 9
        · have e1 : i = ks.length := by omega
          rw [e1, List.take_of_length_le (Nat.le_refl _), List.take_of_length_le (by omega)]
        · have e1 : i = 9 := by omega
          rw [e1])
      rw [HNS.out] at HCS
      obtain ⟨N, hN⟩ : ∃ N, N = cutL ks := ⟨_, rfl⟩
      rw [← hN] at HCS
      have HNX := Lib.hid hN
      have HFE := Lib.hid (fun (u : World) (hw : Wrote (w.heap.size + 1) wr u) => show CutPost9 D num ks w (.returned (.agg (bC (D.take 30) num A1 N.length c1))) u by
        unfold CutPost9
        rw [← HNX.out]
        have hk := HCS.out.keys.heap (w' := u) fun k cs hq hl => (hw.grown.block k (Array.getElem?_eq_some_iff.1 hq).1 (by intro h; injection h with h; omega)).trans hq
        exact ⟨A1, c1, rfl, hw.below HCS.out.low (by omega) (by have := HCS.out.size; omega), Rd.of_own hk.x (Nat.le_refl _), (hi_own hk).mono (by omega)⟩)
      clear hN
      rcases hor with hor | ⟨hor, hor2⟩
      · go_wp2_with (first
          | refine wpList_get_box (x := .tmp 3) (cs := bC (D.take 30) num A1 N.length c1) HCS.out.out rfl rfl rfl hub rfl jb_size ?_
          | (refine wpList_put_box (x := .tmp 2) (cells := bC (D.take 30) num A1 N.length c1) HCS.out.res rfl rfl rfl rfl jb_size rfl (by simp [bC, Value.oneCell']) ?_; intro w9 hb9 hw9))
        have HB9 := Lib.hid hb9
        refine bodyPost_ret (results_box (P := Tryz.prog) rfl rfl HB9.out hub rfl jb_size) rfl ?_
        exact HFE.out w9 hw9
      · go_wp2_with (first
          | refine wpList_get_box (x := .tmp 3) (cs := bC (D.take 30) num A1 N.length c1) HCS.out.out rfl rfl rfl hub rfl jb_size ?_
          | (refine wpList_put_box (x := .tmp 2) (cells := bC (D.take 30) num A1 N.length c1) HCS.out.res rfl rfl rfl rfl jb_size rfl (by simp [bC, Value.oneCell']) ?_; intro w9 hb9 hw9))
        have HB9 := Lib.hid hb9
        refine bodyPost_ret (results_box (P := Tryz.prog) rfl rfl HB9.out hub rfl jb_size) rfl ?_
        exact HFE.out w9 hw9
end Go.Proofs.YtoihgnkhalhocaaGreatDoor.Js
/-
  Walk: the reference's Held.
-/
namespace Go.Proofs.YtoihgnkhalhocaaGreatDoor.Js
set_option linter.unusedSimpArgs false
set_option linter.unusedVariables false
open Go.RowKit

def cutBB (x : FB) : FB := (x.1.take 30, x.2.1, cutL x.2.2)
def refHB (b : FB) (hs : List FB) : List FB := if mayB b.1 b.2.1 b.2.2 then (if 3 < (holdB b hs).length ∧ hs.length < (holdB b hs).length then hs else holdB b hs) else hs
def heldTo (l : List FB) (i : Nat) : List FB := (l.take i).foldl (fun acc x => refHB (cutBB x) acc) []
def heldB (l : List FB) : List FB := heldTo l 5
theorem heldTo_step {l : List FB} {i : Nat} (h : i < l.length) : heldTo l (i + 1) = refHB (cutBB l[i]) (heldTo l i) := by
  rw [heldTo, List.take_succ_eq_append_getElem h, List.foldl_append]
  rfl
theorem refH_b (b : FD) (hs : List FD) : (refH b hs).1.map FD.b = refHB b.b (hs.map FD.b) := by
  have h1 := holdR_map b hs
  have h2 : (holdR b hs).length = (holdB b.b (hs.map FD.b)).length := by rw [← h1, List.length_map]
  unfold refH refHB
  rw [h2, List.length_map]
  show _ = if mayB b.d b.n b.k then _ else _
  split
  · split
    · rfl
    · exact h1
  · rfl
def Small (x : FD) : Prop := x.d.length ≤ 30 ∧ x.k.length ≤ 9 ∧ ∀ k ∈ x.k, k.2.length ≤ 40
structure Good (hs : List FD) : Prop where
  ord : InOrd hs
  len : hs.length ≤ 3
  small : ∀ x ∈ hs, Small x
theorem Good.nil : Good [] := ⟨List.Pairwise.nil, Nat.zero_le _, fun x hx => by cases hx⟩
theorem refH_mem {b : FD} {hs : List FD} {x : FD} (h : x ∈ (refH b hs).1) : x = b ∨ x ∈ hs := by
  unfold refH at h
  split at h
  · split at h
    · exact .inr h
    · exact holdR_mem h
  · exact .inr h
theorem Good.hold {b : FD} {hs : List FD} (h : Good hs) (hb : Small b) : Good (refH b hs).1 := by
  refine ⟨?_, ?_, fun x hx => ?_⟩
  · unfold refH
    split
    · split
      · exact h.ord
      · exact holdR_ord h.ord
    · exact h.ord
  · unfold refH
    have := h.len
    split
    · split
      · exact h.len
      · rename_i hn
        show (holdR b hs).length ≤ 3
        omega
    · exact h.len
  · rcases refH_mem hx with rfl | hx
    · exact hb
    · exact h.small x hx
/-- what Held gives -/
def HeldPost (l : List FD) (w : World) (e : Ending) (w' : World) : Prop :=
  ∃ A' c' hs, e = .returned (.slice A' hs.length c') ∧ hs.map FD.b = heldB (l.map FD.b) ∧ Good hs ∧ HL w' w'.heap.size A' hs ∧ HiL w.heap.size A' hs ∧ Below w.heap.size w w'
theorem rd_grow5 {w w' : World} {A : Option Addr} {l : List Value} (h : Rd w w.heap.size A l) (hb : Below w.heap.size w w') : Rd w' w'.heap.size A l := rd_mono5 (h.below hb) hb.size
theorem fb9_size : (Tryz.prog.info? 25).map (·.size) = some 3 := by kernel_rfl
set_option maxRecDepth 100000 in
set_option maxHeartbeats 4000000 in
theorem held_any (l : List FD) (A : Option Addr) (c B : Nat) (w : World) (hr : HL w B A l) (hB : B ≤ w.heap.size) (hl : (l.length : Int) ≤ 9223372036854775807) (hk : ∀ x ∈ l, (x.k.length : Int) ≤ 9223372036854775807) :
    Calls Tryz.prog 5 #[.slice A l.length c] w (HeldPost l w) := by
  have hub := Tryz.underlying25
  obtain ⟨n, hn⟩ : ∃ n, n = l.length := ⟨_, rfl⟩
  rw [← hn] at hl ⊢
  have HN := Lib.hid hn
  have HR := Lib.hid hr
  have HBB := Lib.hid hB
  have HKK := Lib.hid hk
  obtain ⟨mn, hmn⟩ : ∃ mn, mn = min n 5 := ⟨_, rfl⟩
  have HMN := Lib.hid hmn
  clear hr hB hk hn hmn
  go_enter Tryz.func5, Tryz.ntmps5
  go_wp2_with fail
  go_loopw [3, 4] (fun out x wr => ∃ (i : Nat) (A1 : Option Addr) (c1 : Nat) (hs : List FD), i ≤ mn ∧ out = .slice A1 hs.length c1 ∧ x = .int .i64 (i : Int) ∧ hs.map FD.b = heldTo (l.map FD.b) i ∧ Good hs ∧ HL wr wr.heap.size A1 hs ∧ HiL w.heap.size A1 hs ∧ Below w.heap.size w wr) (fun _ x _ => mn - (intOf x).toNat)
  case atStart => exact ⟨0, none, 0, [], Nat.zero_le _, rfl, rfl, rfl, Good.nil, HL.nil _ _ _, ⟨Hi.nil _ _, fun x hx => by cases hx⟩, Below.refl _ _⟩
  case round =>
    obtain ⟨i, A1, c1, hs, hi, rfl, rfl, hto, hgood, hhl, hhi, hbw⟩ := hrel
    have HHI := Lib.hid hhi
    clear hhi
    have HTO := Lib.hid hto
    have HGD := Lib.hid hgood
    have HHL := Lib.hid hhl
    have HBW := Lib.hid hbw
    clear hto hgood hhl hbw
    by_cases hlt : i < mn
    · have HLT := Lib.hid hlt
      have h1 : (i : Int) < (n : Int) := by have := HMN.out; omega
      have h2 : (i : Int) < 5 := by have := HMN.out; omega
      have hil : i < l.length := by have := HMN.out; rw [← HN.out]; omega
      obtain ⟨ad, hA, hadb, hcell⟩ := rd_rows (f := fC) (m := 3) (fun _ => rfl) (by decide) (HR.out.row.below (HBW.out.mono HBB.out)) hil
      subst hA
      obtain ⟨X, hX⟩ : ∃ X, X = l[i] := ⟨_, rfl⟩
      have hXm : X ∈ l := by rw [hX]; exact List.getElem_mem hil
      rw [← hX] at hcell
      have HCL := Lib.hid (show ∀ u, Below wr.heap.size wr u → ∀ j v, (fC X).toList[j]? = some v → u.cell? ((ad.add (i * 3)).add j) = some v from fun u hu j v hv => by
        have h := hcell j v (by simpa using hv)
        exact (hu.cell (World.block_lt_of_cell? wr _ h)).trans h)
      have HCT := Lib.hid (show ∀ u, Below wr.heap.size wr u → Calls Tryz.prog 6 #[.agg (fC X)] u (CutPost9 X.d X.n X.k u) from fun u hu => cut23_any X.d X.n X.k X.A X.c B u ((HR.out.keys X hXm).below ((HBW.out.trans (hu.mono HBW.out.size)).mono HBB.out)) (Nat.le_trans HBB.out (HBW.out.trans (hu.mono HBW.out.size)).size) (HKK.out X hXm))
      have HHC := Lib.hid (show ∀ (u : World) (A' : Option Addr) (c' : Nat), Below wr.heap.size wr u → Rd u u.heap.size A' (rowsV kCell (cutL X.k)) → Calls Tryz.prog 8 #[.slice A1 hs.length c1, .agg (fC ⟨X.d.take 30, X.n, A', c', cutL X.k⟩)] u (RHPost ⟨X.d.take 30, X.n, A', c', cutL X.k⟩ hs A1 u) from fun u A' c' hu hk =>
        rhold_any ⟨X.d.take 30, X.n, A', c', cutL X.k⟩ hs A1 c1 u.heap.size u (rd_grow5 HHL.out.row hu) hk (Nat.le_refl _) (by have := HGD.out.len; omega) (by simp; omega) (by have := cutL_len X.k; show (cutL X.k).length ≤ _; omega) (fun k hk => by have := cutL_small X.k k hk; omega))
      have HST := Lib.hid (show ∀ (A' : Option Addr) (c' : Nat), (refH ⟨X.d.take 30, X.n, A', c', cutL X.k⟩ hs).1.map FD.b = heldTo (l.map FD.b) (i + 1) from fun A' c' => by
        rw [refH_b, heldTo_step (by simpa using hil), ← HTO.out, List.getElem_map, ← hX]
        rfl)
      have HGH := Lib.hid (show ∀ (A' : Option Addr) (c' : Nat), Good (refH ⟨X.d.take 30, X.n, A', c', cutL X.k⟩ hs).1 from fun A' c' => HGD.out.hold ⟨by simp; omega, cutL_len X.k, cutL_small X.k⟩)
      have HKE := Lib.hid (show ∀ (u : World) (A' A8 : Option Addr) (c' : Nat), Below wr.heap.size wr u → Rd u u.heap.size A' (rowsV kCell (cutL X.k)) → Rd u u.heap.size A8 (rowsV fC (refH ⟨X.d.take 30, X.n, A', c', cutL X.k⟩ hs).1) → HL u u.heap.size A8 (refH ⟨X.d.take 30, X.n, A', c', cutL X.k⟩ hs).1 from fun u A' A8 c' hu hk hr => ⟨hr, fun x hx => by
        rcases refH_mem hx with rfl | hx
        · exact hk
        · exact rd_grow5 (HHL.out.keys x hx) hu⟩)
      have hi0 : (0 : Int) ≤ (i : Int) := by omega
      clear hX hXm hcell hil hlt hadb
      go_wp2_with (refine wpList_get_rd (r := (fC X).toList) (HCL.out _ (Below.refl _ _)) rfl rfl rfl hub rfl fb9_size ?_)
      refine calls_then (HCT.out _ (Below.refl _ _)) ?_
      rintro e w1 ⟨A', c', rfl, hb1, hr1, hi1⟩
      have HI1 := Lib.hid (hi1.mono HBW.out.size)
      clear hi1
      have HR1 := Lib.hid hr1
      have HB1 := Lib.hid hb1
      clear hr1 hb1
      go_wp2_with fail
      refine calls_then (HHC.out w1 A' c' HB1.out HR1.out) ?_
      rintro e w2 ⟨A8, c8, rfl, hb2, hr2, hi2⟩
      have HI2 := Lib.hid (show HiL w.heap.size A8 (refH ⟨X.d.take 30, X.n, A', c', cutL X.k⟩ hs).1 from ⟨hi2 _ (Nat.le_trans HBW.out.size HB1.out.size) HHI.out.row, fun x hx => by
        rcases refH_mem hx with rfl | hx
        · exact HI1.out
        · exact HHI.out.keys x hx⟩)
      clear hi2
      have HR8 := Lib.hid hr2
      have HB8 := Lib.hid (HB1.out.trans (hb2.mono HB1.out.size))
      have HR6 := Lib.hid (rd_grow5 HR1.out hb2)
      clear hr2 hb2
      have HFN := Lib.hid (HKE.out w2 A' A8 c' HB8.out HR6.out HR8.out)
      have HS2 := Lib.hid (HST.out A' c')
      have HG2 := Lib.hid (HGH.out A' c')
      go_wp2_with fail
      go_roundw
      case rel => exact ⟨i + 1, A8, c8, _, HLT.out, rfl, by go_num, HS2.out, HG2.out, HFN.out, HI2.out, HBW.out.trans (HB8.out.mono HBW.out.size)⟩
      case measure => have := HLT.out; simp [intOf]; omega
    · obtain rfl : i = mn := by omega
      have hor : ¬ ((i : Int) < (n : Int)) ∨ ((i : Int) < (n : Int) ∧ ¬ (i : Int) < 5) := by have := HMN.out; omega
      have HNS := Lib.hid (show heldTo (l.map FD.b) i = heldB (l.map FD.b) by
        have h1 := HMN.out
        have h2 := HN.out
        unfold heldB heldTo
        by_cases h5 : n ≤ 5
        · have e1 : i = (l.map FD.b).length := by rw [List.length_map]; omega
          rw [e1, List.take_of_length_le (Nat.le_refl _), List.take_of_length_le (by rw [← e1]; omega)]
        · have e1 : i = 5 := by omega
          rw [e1])
      have HFE := Lib.hid (show HeldPost l w (.returned (.slice A1 hs.length c1)) wr from ⟨A1, c1, hs, rfl, by rw [HTO.out, HNS.out], HGD.out, HHL.out, HHI.out, HBW.out⟩)
      clear hlt
      rcases hor with hor | ⟨hor, hor2⟩
      · go_wp2_with fail
        go_ret
        exact HFE.out
      · go_wp2_with fail
        go_ret
        exact HFE.out
end Go.Proofs.YtoihgnkhalhocaaGreatDoor.Js
/-
  The law FedHolds.
-/
namespace Go.Proofs.YtoihgnkhalhocaaGreatDoor.Js
set_option linter.unusedSimpArgs false
set_option linter.unusedVariables false
open Go.RowKit

theorem fbC_size : (Tryz.prog.info? 25).map (·.size) = some 3 := by kernel_rfl
def exM : Array Value := #[.int .i64 1, .string ⟨#[97, 46, 111, 114, 103]⟩, .string ⟨#[]⟩, .int .i64 0, .slice none 0 0, .string ⟨#[]⟩]
set_option maxHeartbeats 2000000 in
theorem check0_any (w : World) : Calls Tryz.prog 21 #[.slice none 0 0, .agg exM] w fun e w' => e = .returned (.int .i64 16) ∧ Below w.heap.size w w' := by
  obtain ⟨W0, hW0⟩ : ∃ W0, W0 = w.alloc (.cells exM 51) := ⟨_, rfl⟩
  have HB0 := Lib.hid (show Below w.heap.size w W0 by rw [hW0]; exact (Below.refl _ w).alloc (Nat.le_refl _) _)
  have hk : Blk W0 w.heap.size 51 exM := by rw [hW0]; exact Blk.new _ _ _
  have a1 : W0.cell? ⟨w.heap.size, 1, none⟩ = some (.string ⟨#[97, 46, 111, 114, 103]⟩) := hk.cell 1
  have HC := Lib.hid (show Calls Tryz.prog 10 #[.slice none 0 0, .string ⟨#[97, 46, 111, 114, 103]⟩] W0 fun e w' => e = .returned (.tuple #[.agg zB, .int .i64 16]) ∧ Below W0.heap.size W0 w' from
    (ffind_any [] [97, 46, 111, 114, 103] none 0 0 W0 (HL.nil _ _ _) (Nat.zero_le _) (by simp) (fun x hx => by cases hx)).mono fun e w' h => by
      obtain ⟨h1 | h1, h2⟩ := h
      · obtain ⟨h, _⟩ := h1
        simp at h
      · exact ⟨h1.2, h2⟩)
  have HW0 := Lib.hid hW0
  clear hk hW0
  go_enter Tryz.func21, Tryz.ntmps21
  go_upto_region 1 with (fail)
  rw [show w.alloc (.cells exM 51) = W0 from HW0.out.symm]
  generalize Value.agg exM = AV
  go_wp2_with fail
  refine calls_then HC.out ?_
  rintro e u1 ⟨rfl, hb1⟩
  have HB1 := Lib.hid (HB0.out.trans (hb1.mono HB0.out.size))
  clear hb1
  go_wp2_with (refine wpList_put_box (cells := zB) (Blk.new _ _ _) rfl rfl rfl rfl fbC_size rfl (by simp [zB, Value.oneCell']) ?_; intro w5 hb5 hw5; have HB5 := Lib.hid (HB1.out.trans ((box_low9 hw5).mono HB1.out.size)); clear hb5 hw5)
  go_ret
  exact ⟨rfl, HB5.out⟩
set_option maxHeartbeats 2000000 in
theorem lives23_any (w : World) : Calls Tryz.prog 12 #[] w fun e w' => e = .returned (.bool true) ∧ Below w.heap.size w w' := by
  have HC := Lib.hid check0_any
  go_enter Tryz.func12, Tryz.ntmps12
  go_wp2_with fail
  refine calls_then (HC.out _) ?_
  rintro e u1 ⟨rfl, hb1⟩
  have HB1 := Lib.hid hb1
  clear hb1
  go_wp2_with fail
  go_ret
  exact ⟨rfl, HB1.out⟩
theorem small_map : ∀ {xs zs : List FD}, xs.map FD.b = zs.map FD.b → (∀ z ∈ zs, Small z) → ∀ x ∈ xs, Small x := fun {xs zs} h hs x hx => by
  have hx' : x.b ∈ zs.map FD.b := by rw [← h]; exact List.mem_map_of_mem hx
  obtain ⟨z, hz, hb⟩ := List.mem_map.1 hx'
  have h1 : z.d = x.d := congrArg (·.1) hb
  have h2 : z.k = x.k := congrArg (·.2.2) hb
  have := hs z hz
  unfold Small at this ⊢
  rw [h1, h2] at this
  exact this
set_option maxRecDepth 100000 in
set_option maxHeartbeats 8000000 in
theorem fedHolds_any (l : List FD) (b : FD) (s : Bs) (A : Option Addr) (c : Nat) (w : World) (hr : HL w w.heap.size A l) (hb : Rd w w.heap.size b.A (rowsV kCell b.k)) (hl : (l.length : Int) ≤ 9223372036854775807) (hk : ∀ x ∈ l, (x.k.length : Int) ≤ 9223372036854775807)
    (hbk : (b.k.length : Int) ≤ 9223372036854775807) (hG : Sh.TabG w) :
    Calls Tryz.prog 3 #[.slice A l.length c, .agg (fC b), .string (bs s)] w fun e w' => e = .returned (.bool true) ∧ Below w.heap.size w w' := by
  have hub := Tryz.underlying25
  obtain ⟨W0, hW0⟩ : ∃ W0, W0 = w.alloc (.cells (fC b) 25) := ⟨_, rfl⟩
  have hb0 : Below w.heap.size w W0 := by rw [hW0]; exact (Below.refl _ w).alloc (Nat.le_refl _) _
  have HB0 := Lib.hid hb0
  have HK0 := Lib.hid (show Blk W0 w.heap.size 25 (fC b) by rw [hW0]; exact Blk.new _ _ _)
  have HS0 := Lib.hid (show W0.heap.size = w.heap.size + 1 by rw [hW0]; simp)
  have HW0 := Lib.hid hW0
  have CH := Lib.hid (held_any l A c w.heap.size W0 (hr.below hb0) hb0.size hl hk)
  have CC := Lib.hid (show ∀ u, Below w.heap.size w u → Calls Tryz.prog 6 #[.agg (fC b)] u (CutPost9 b.d b.n b.k u) from fun u hu => cut23_any b.d b.n b.k b.A b.c w.heap.size u (hb.below hu) hu.size hbk)
  have HTG := Lib.hid (show ∀ u, Below w.heap.size w u → Sh.TabG u from fun u hu => hG.below hu hG.size)
  have HLV := Lib.hid lives23_any
  obtain ⟨n, hn⟩ : ∃ n, n = l.length := ⟨_, rfl⟩
  rw [← hn] at CH ⊢
  clear hW0 hb0 hr hb hl hk hbk hG hn
  go_enter Tryz.func3, Tryz.ntmps3
  go_upto_region 1 with (fail)
  rw [show w.alloc (.cells (fC b) 25) = W0 from HW0.out.symm]
  generalize hAV : Value.agg (fC b) = AV
  rw [hAV] at CC
  go_wp2_with fail
  refine calls_then CH.out ?_
  rintro e w1 ⟨A1, c1, hs, rfl, _, hgood, hhl, hhi, hb1⟩
  have HGD := Lib.hid hgood
  have HHL := Lib.hid hhl
  have HHI := Lib.hid hhi
  have HB1 := Lib.hid (HB0.out.trans (hb1.mono HB0.out.size))
  have HK1 := Lib.hid (HK0.out.below hb1 HK0.out.lt)
  clear hgood hhl hhi hb1 CH
  go_wp2_with (refine wpList_get_box (x := .tmp 4) (cs := fC b) HK1.out rfl rfl rfl hub rfl fbC_size ?_)
  refine calls_then (CC.out w1 HB1.out) ?_
  rintro e w2 ⟨A2, c2, rfl, hb2, hr2, hi2⟩
  obtain ⟨b2, hb2e⟩ : ∃ b2 : FD, b2 = ⟨b.d.take 30, b.n, A2, c2, cutL b.k⟩ := ⟨_, rfl⟩
  have HSM := Lib.hid (show Small b2 by rw [hb2e]; exact ⟨by simp; omega, cutL_len b.k, cutL_small b.k⟩)
  have HR2 := Lib.hid (show Rd w2 w2.heap.size b2.A (rowsV kCell b2.k) by rw [hb2e]; exact hr2)
  have HI2 := Lib.hid (show Hi w1.heap.size b2.A (rowsV kCell b2.k) by rw [hb2e]; exact hi2)
  have HB2 := Lib.hid (HB1.out.trans (hb2.mono HB1.out.size))
  have HK2 := Lib.hid (HK1.out.below hb2 HK1.out.lt)
  have HL2 := Lib.hid (HHL.out.grow hb2)
  have HBA := Lib.hid (show Value.agg (bC (b.d.take 30) b.n A2 (cutL b.k).length c2) = .agg (fC b2) by rw [hb2e]; rfl)
  rw [HBA.out]
  clear hb2 hr2 hi2 hb2e hAV CC
  go_upto_region 3 with (refine wpList_put_box (x := .tmp 4) (cells := fC b2) HK2.out rfl rfl rfl rfl fbC_size rfl (fC_one b2) ?_; intro w3 hb3 hw3)
  have HK3 := Lib.hid hb3
  have HB3 := Lib.hid (hw3.below HB2.out (Nat.le_refl _) HB2.out.size)
  have HG1 := Lib.hid (show w.heap.size < w1.heap.size from HK1.out.lt)
  have HL3 := Lib.hid (HHI.out.hl HL2.out hw3 (by rw [HS0.out]; omega))
  have HR3 := Lib.hid (HI2.out.rd HR2.out hw3 HG1.out)
  have HSK := Lib.hid (show ∀ x ∈ hs, x.k.length ≤ 1000000 from fun x hx => by have := (HGD.out.small x hx).2.1; omega)
  have CFH := Lib.hid (fhold_any b2 hs A1 c1 w3.heap.size w3 HL3.out HR3.out (Nat.le_refl _) (by have := HGD.out.len; omega) HGD.out.ord (by have := HSM.out.1; omega) (by have := HSM.out.2.1; omega) HSK.out (fun k hk => by have := HSM.out.2.2 k hk; omega) (HTG.out _ HB3.out))
  have CRH := Lib.hid (show ∀ u, Below w3.heap.size w3 u → Calls Tryz.prog 8 #[.slice A1 hs.length c1, .agg (fC b2)] u (RHPost b2 hs A1 u) from fun u hu => rhold_any b2 hs A1 c1 w3.heap.size u (HL3.out.row.below hu) (HR3.out.below hu) hu.size (by have := HGD.out.len; omega) (by have := HSM.out.1; omega) (by have := HSM.out.2.1; omega) (fun k hk => by have := HSM.out.2.2 k hk; omega))
  have CFF := Lib.hid (show ∀ u, Below w3.heap.size w3 u → Calls Tryz.prog 10 #[.slice A1 hs.length c1, .string (bs s)] u (FFPost hs s u) from fun u hu => ffind_any hs s A1 c1 w3.heap.size u (HL3.out.below hu) hu.size (by have := HGD.out.len; omega) HSK.out)
  have CRF := Lib.hid (show ∀ u, Below w3.heap.size w3 u → Calls Tryz.prog 11 #[.slice A1 hs.length c1, .string (bs s)] u fun e w' => e = .returned (.int .i64 (fZ hs s)) ∧ w' = u from fun u hu => find23_any hs s A1 c1 w3.heap.size u (HL3.out.row.below hu) (by have := HGD.out.len; omega))
  have HGH := Lib.hid (HGD.out.hold HSM.out)
  have HMM := Lib.hid (show ∀ x ∈ (refH b2 hs).1, x = b2 ∨ x ∈ hs from fun x hx => refH_mem hx)
  have HFP := Lib.hid (show ∀ e u, FHPost b2 hs w3 e u → ∃ A' c' ys, e = .returned (.tuple #[.slice A' ys.length c', .int .i64 (refH b2 hs).2]) ∧ ys.map FD.b = (refH b2 hs).1.map FD.b ∧ HO u w3.heap.size A' c' ys ∧ Below w3.heap.size w3 u from fun e u h => h)
  have HRP := Lib.hid (show ∀ e w' u, RHPost b2 hs A1 u e w' → ∃ A' c', e = .returned (.tuple #[.slice A' (refH b2 hs).1.length c', .int .i64 (refH b2 hs).2]) ∧ Below u.heap.size u w' ∧ Rd w' w'.heap.size A' (rowsV fC (refH b2 hs).1) from fun e w' u h => by
    obtain ⟨A', c', h1, h2, h3, _⟩ := h
    exact ⟨A', c', h1, h2, h3⟩)
  obtain ⟨f, hf⟩ : ∃ f, f = (refH b2 hs).2 := ⟨_, rfl⟩
  obtain ⟨zs, hzs⟩ : ∃ zs, zs = (refH b2 hs).1 := ⟨_, rfl⟩
  rw [← hf, ← hzs] at HFP HRP
  rw [← hzs] at HGH HMM
  obtain ⟨m, hm⟩ : ∃ m, m = hs.length := ⟨_, rfl⟩
  rw [← hm] at CFH CRH CFF CRF ⊢
  have HM := Lib.hid hm
  clear hb3 hw3 hf hzs hm
  go_wp2_with (refine wpList_get_box (x := .tmp 4) (cs := fC b2) HK3.out rfl rfl rfl hub rfl fbC_size ?_)
  refine calls_then CFH.out ?_
  intro e w4 hp
  obtain ⟨A3, c3, ys, rfl, hys, ho4, hb4⟩ := HFP.out e w4 hp
  have HYS := Lib.hid hys
  have HO4 := Lib.hid ho4
  have HB4 := Lib.hid hb4
  have HK4 := Lib.hid (HK3.out.below hb4 HK3.out.lt)
  clear hys ho4 hb4 CFH HFP hp
  obtain ⟨ny, hny⟩ : ∃ n, n = ys.length := ⟨_, rfl⟩
  rw [← hny]
  have HNY := Lib.hid hny
  clear hny
  go_wp2_with (refine wpList_get_box (x := .tmp 4) (cs := fC b2) HK4.out rfl rfl rfl hub rfl fbC_size ?_)
  refine calls_then (CRH.out _ HB4.out) ?_
  intro e w5 hp
  obtain ⟨A4, c4, rfl, hb5, hr5⟩ := HRP.out e w5 w4 hp
  have HB5 := Lib.hid (HB4.out.trans (hb5.mono HB4.out.size))
  have HZL := Lib.hid (show HL w5 w5.heap.size A4 zs from ⟨hr5, fun x hx => by
    rcases HMM.out x hx with rfl | hx
    · exact rd_grow5 HR3.out HB5.out
    · exact rd_grow5 (HL3.out.keys x hx) HB5.out⟩)
  have HYL := Lib.hid ((HO4.out.below hb5).hl)
  have HSA := Lib.hid (show Calls Tryz.prog 9 #[.slice A3 ny c3, .slice A4 zs.length c4] w5 fun e w' => e = .returned (.bool true) ∧ Below w5.heap.size w5 w' by
    have hlz := HGH.out.len
    have hsy := small_map HYS.out HGH.out.small
    have h := same23_any ys zs A3 A4 c3 c4 w5.heap.size w5 HYL.out HZL.out (Nat.le_refl _) (by rw [len_same HYS.out]; omega) (by omega) (fun x hx => by have := (hsy x hx).2.1; omega) (fun x hx => by have := (HGH.out.small x hx).2.1; omega)
    rw [decide_eq_true HYS.out, ← HNY.out] at h
    exact h)
  clear hb5 hr5 hp HRP
  obtain ⟨nz, hnz⟩ : ∃ n, n = zs.length := ⟨_, rfl⟩
  rw [← hnz] at HSA ⊢
  clear hnz
  go_wp2_with fail
  refine calls_then HSA.out ?_
  rintro e w6 ⟨rfl, hb6⟩
  have HB6 := Lib.hid (HB5.out.trans (hb6.mono HB5.out.size))
  clear hb6 HSA
  go_wp2_with fail
  refine calls_then (CFF.out _ HB6.out) ?_
  intro e w7 hp
  unfold FFPost at hp
  obtain ⟨hor, hb7⟩ := hp
  have HB7 := Lib.hid (HB6.out.trans (hb7.mono HB6.out.size))
  have hff : (f == f) = true := by simp
  have HBE := Lib.hid HB3.out
  clear hb7
  rcases hor with ⟨hlt, A7, c7, rfl, hr7⟩ | ⟨hall, rfl⟩
  · -- it is held
    obtain ⟨k, hk⟩ : ∃ k, k = fI hs s := ⟨_, rfl⟩
    obtain ⟨X, hX⟩ : ∃ X, X = hs[fI hs s] := ⟨_, rfl⟩
    rw [← hX] at hr7 ⊢
    have HXS := Lib.hid (show ∃ h : k < hs.length, X = hs[k] from ⟨by rw [hk]; exact hlt, by rw [hX]; simp only [hk]⟩)
    have HFZ := Lib.hid (show fZ hs s = (k : Int) by rw [fZ, if_pos hlt, hk])
    have HR7 := Lib.hid hr7
    clear hr7 hX hk hlt
    go_upto_region 7 with (refine wpList_put_box (cells := bC X.d X.n A7 X.k.length c7) (Blk.new _ _ _) rfl rfl rfl rfl fbC_size rfl (by simp [bC, Value.oneCell']) ?_; intro w8 hb8 hw8)
    have hbw8 : Below w7.heap.size w7 w8 := box_low9 hw8
    obtain ⟨H, hH⟩ : ∃ H, H = w7.heap.size := ⟨_, rfl⟩
    rw [← hH] at hb8 ⊢
    have HK8 := Lib.hid hb8
    have HB8 := Lib.hid (HB7.out.trans (hbw8.mono HB7.out.size))
    have HR8 := Lib.hid (rd_grow5 HR7.out hbw8)
    clear hb8 hw8 hbw8 hH
    go_wp2_with fail
    refine calls_then (CRF.out _ HB8.out) ?_
    rintro e w9 ⟨rfl, rfl⟩
    rw [HFZ.out]
    have hk0 : ¬ (k : Int) < 0 := by omega
    have hk1 : (0 : Int) ≤ (k : Int) := by omega
    obtain ⟨hkl, hkx⟩ := HXS.out
    have hkm : (k : Int) < (m : Int) := by rw [HM.out]; omega
    obtain ⟨ad, hA, -, hcell⟩ := rd_rows (f := fC) (m := 3) (fun _ => rfl) (by decide) (HL3.out.row.below HB8.out) hkl
    subst hA
    rw [← hkx] at hcell
    have HCL := Lib.hid (show ∀ u, Below w9.heap.size w9 u → ∀ j v, (fC X).toList[j]? = some v → u.cell? ((ad.add (k * 3)).add j) = some v from fun u hu j v hv => by
      have h := hcell j v (by simpa using hv)
      exact (hu.cell (World.block_lt_of_cell? w9 _ h)).trans h)
    have HSE := Lib.hid (show ∀ u, Below w9.heap.size w9 u → Calls Tryz.prog 13 #[.agg (bC X.d X.n A7 X.k.length c7), .agg (fC X)] u fun e w' => e = .returned (.bool true) ∧ Below u.heap.size u w' from fun u hu => by
      have hb := HB8.out.trans (hu.mono HB8.out.size)
      have hxm : X ∈ hs := by rw [hkx]; exact List.getElem_mem hkl
      have hkk := HSK.out X hxm
      have h := same11_any X.d X.d X.n X.n X.k X.k A7 X.A c7 X.c u.heap.size u.heap.size u (rd_grow5 HR8.out hu) (rd_grow5 (HL3.out.keys X hxm) hb) (Nat.le_refl _) (Nat.le_refl _) (by omega) (by omega)
      rw [show sameB X.d X.n X.k X.d X.n X.k = true by simp [sameB]] at h
      exact h)
    clear hcell hkx hkl
    go_wp2_with fail
    have HC0 : Below w9.heap.size w9 w9.drew := (Below.refl _ _).drew
    apply wp_region_seqg (fun u => Below w9.heap.size w9 u) (fun u u' => Below u.heap.size u u') [_, _, _, _, _, _, _] (gOf []) (by kernel_rfl) (by kernel_rfl) (stabL_of _ trivial) HC0
    apply SeqG.next
    · rfl
    · rfl
    · rfl
    · simp only [act_put, act_put_none, List.setIfInBounds_toArray, List.set_cons_zero, List.set_cons_succ]
      rfl
    · intro w1 hC1 hf E hE
      refine wpList_get_box (cs := bC X.d X.n A7 X.k.length c7) (HK8.out.below hC1 HK8.out.lt) rfl rfl rfl hub rfl fbC_size ?_
      go_wp2_with fail
      exact .mk (hE _ hC1 (Below.refl _ _))
    iterate 3
      ((first | (apply SeqG.next; rfl; rfl; rfl)); (simp only [act_put, act_put_none, List.setIfInBounds_toArray, List.set_cons_zero, List.set_cons_succ]; rfl); (intro w1 hC1 hf E hE; go_wp2; exact .mk (hE _ hC1 (Below.refl _ _))))
    apply SeqG.next
    · rfl
    · rfl
    · rfl
    · simp only [act_put, act_put_none, List.setIfInBounds_toArray, List.set_cons_zero, List.set_cons_succ]
      rfl
    · intro w1 hC1 hf E hE
      refine wpList_get_rd (r := (fC X).toList) (HCL.out _ hC1) rfl rfl rfl hub rfl fbC_size ?_
      go_wp2_with fail
      exact .mk (hE _ hC1 (Below.refl _ _))
    apply SeqG.next
    · rfl
    · rfl
    · rfl
    · simp only [act_put, act_put_none, List.setIfInBounds_toArray, List.set_cons_zero, List.set_cons_succ]
      rfl
    · intro w1 hC1 hf E hE
      go_wp2_with fail
      refine calls_then (HSE.out _ hC1) ?_
      rintro e w2 ⟨rfl, hb2⟩
      go_wp2_with fail
      exact .mk (hE _ (hC1.trans (hb2.mono hC1.size)) hb2)
    iterate 1
      ((first | (apply SeqG.next; rfl; rfl; rfl)); (simp only [act_put, act_put_none, List.setIfInBounds_toArray, List.set_cons_zero, List.set_cons_succ]; rfl); (intro w1 hC1 hf E hE; go_wp2; exact .mk (hE _ hC1 (Below.refl _ _))))
    refine SeqG.nil ?_
    intro w1 hC1 hf
    clear hf
    have HB10 := Lib.hid (HB8.out.trans (hC1.mono HB8.out.size))
    clear hC1 HC0
    go_wp2_with fail
    refine calls_then (HLV.out _) ?_
    rintro e w2 ⟨rfl, hb2⟩
    have HBZ := Lib.hid (HB10.out.trans (hb2.mono HB10.out.size))
    clear hb2
    go_wp2_with fail
    go_ret
    exact ⟨rfl, HBE.out.trans (HBZ.out.mono HBE.out.size)⟩
  · -- it is not
    have HFZ := Lib.hid (show fZ hs s = -1 by rw [fZ, if_neg (by omega)])
    go_upto_region 7 with (refine wpList_put_box (cells := zB) (Blk.new _ _ _) rfl rfl rfl rfl fbC_size rfl (by simp [zB, Value.oneCell']) ?_; intro w8 hb8 hw8)
    have hbw8 : Below w7.heap.size w7 w8 := box_low9 hw8
    obtain ⟨H, hH⟩ : ∃ H, H = w7.heap.size := ⟨_, rfl⟩
    rw [← hH] at hb8 ⊢
    have HK8 := Lib.hid hb8
    have HB8 := Lib.hid (HB7.out.trans (hbw8.mono HB7.out.size))
    clear hb8 hw8 hbw8 hH hall
    go_wp2_with fail
    refine calls_then (CRF.out _ HB8.out) ?_
    rintro e w9 ⟨rfl, rfl⟩
    rw [HFZ.out]
    have hem : (ByteArray.mk #[]).toList.isEmpty = true := by rw [ByteArray.toList_eq]; rfl
    have d0 := HK8.out.cell 0
    simp only [zB, List.getElem?_toArray, List.getElem?_cons_zero] at d0
    go_wp2_with fail
    refine calls_then (HLV.out _) ?_
    rintro e w2 ⟨rfl, hb2⟩
    have HBZ := Lib.hid (HB8.out.trans (hb2.mono HB8.out.size))
    clear hb2 d0
    go_wp2_with fail
    go_ret
    exact ⟨rfl, HBE.out.trans (HBZ.out.mono HBE.out.size)⟩
end Go.Proofs.YtoihgnkhalhocaaGreatDoor.Js
/-
  Opening an argument that is a bundle of keys.
-/
namespace Go.Proofs.YtoihgnkhalhocaaGreatDoor.Js
set_option linter.unusedSimpArgs false
set_option linter.unusedVariables false
open Go.ChangeShapes Go.WideShapes Go.ChangeAt Go.RowKit Go.Joins
def FitK (ks : List (Bs × Bs)) : Prop := ks.length ≤ maxLen ∧ ∀ k ∈ ks, k.1.length ≤ maxLen ∧ k.2.length ≤ maxLen
section
variable {H : Type} {enc : TypeId × Value → H} {w : World} {base : Nat} {spare : Nat → Bool} {held : Bool}
set_option maxRecDepth 100000 in
theorem open_jwk {fuel : Nat} {cs : List Value} {x : DataW H × List MemPlace} (h : DataW.trod enc Tryz.prog w base spare held fuel 39 cs = some x) (hl : cs.length = 2) :
    ∃ k : Bs × Bs, cs = (kCell k).toList ∧ k.1.length ≤ maxLen ∧ k.2.length ≤ maxLen := by
  obtain ⟨xs, n, _, hx, _, hlen, hf⟩ := DataW.trod_struct Tryz.underlying39 h
  match xs, hlen, cs, hl with
  | [y0, y1], _, [v0, v1], _ =>
    have c0 : Tryz.prog.cellsOf 9 = 1 := by kernel_rfl
    have g0 := hf 0 _ rfl
    have g1 := hf 1 _ rfl
    simp [c0] at g0 g1
    obtain ⟨s0, e0, -, w0⟩ := DataW.trod_string Tryz.underlying9 g0
    obtain ⟨s1, e1, -, w1⟩ := DataW.trod_string Tryz.underlying9 g1
    injection e0 with e0
    injection e1 with e1
    subst e0 e1
    exact ⟨(s0.data.toList, s1.data.toList), by simp [kCell, bs_self], by simpa using w0, by simpa using w1⟩
set_option maxRecDepth 100000 in
theorem open_jwks {fuel : Nat} {cs : List Value} {x : DataW H × List MemPlace} (h : DataW.trod enc Tryz.prog w base spare held fuel 23 cs = some x) :
    ∃ (A : Option Addr) (c : Nat) (l : List (Bs × Bs)), cs = [.slice A l.length c] ∧ Rd w w.heap.size A (rowsV kCell l) ∧ FitK l := by
  have c4 : Tryz.prog.cellsOf 39 = 2 := by kernel_rfl
  rcases Deep.open_slice Tryz.underlying23 h with ⟨rfl, _⟩ | ⟨a, len, cap, m, n, D, Pl, rfl, hb, hl, hm, hmm, rfl, hx⟩
  · exact ⟨none, 0, [], rfl, Rd.nil _ _ _, Nat.zero_le _, fun k hk => by cases hk⟩
  · have hlm : len ≤ m := by rw [hmm]; split <;> omega
    rw [c4] at hx
    obtain ⟨f, hf⟩ := Deep.choose_lt (α := Bs × Bs) (n := m) (p := fun i q => w.cells? base (a.add (i * 2)) 2 = some (kCell q).toList ∧ q.1.length ≤ maxLen ∧ q.2.length ≤ maxLen) (fun i hi => by
      obtain ⟨cs', h1, h2⟩ := hx i hi
      obtain ⟨_, hlen, _⟩ := World.cells?_some h1
      obtain ⟨k, rfl, hk, hk2⟩ := open_jwk h2 hlen
      exact ⟨k, h1, hk, hk2⟩)
    refine ⟨some a, cap, (List.range len).map f, by simp, fun i u hu => ?_, by simp; omega, fun k hk => ?_⟩
    · have hl5 : (rowsV kCell ((List.range len).map f)).length = len * 2 := by rw [rowsV_len (m := 2) (fun _ => rfl)]; simp
      have hi : i < len * 2 := by
        have := (List.getElem?_eq_some_iff.1 hu).1
        rwa [hl5] at this
      have hq : i / 2 < len := by omega
      obtain ⟨_, hlen, hcell⟩ := World.cells?_some (hf (i / 2) (by omega)).1
      have hc := hcell (i % 2) (by omega)
      obtain ⟨v, hv⟩ : ∃ v, (kCell (f (i / 2)))[i % 2]? = some v := ⟨_, Array.getElem?_eq_getElem (by rw [show (kCell (f (i / 2))).size = 2 from rfl]; omega)⟩
      have hkv := rowsV_at (f := kCell) (m := 2) (fun _ => rfl) ((List.range len).map f) (i / 2) (by simpa using hq) (i % 2) v (by rw [List.getElem_map, List.getElem_range]; exact hv)
      rw [show i / 2 * 2 + i % 2 = i by omega] at hkv
      rw [hkv] at hu
      injection hu with hu
      subst hu
      rw [Deep.add_add, show i / 2 * 2 + i % 2 = i by omega] at hc
      have hc' : w.cell? (a.add i) = some v := by
        rw [hc, Array.getElem?_toList]
        exact hv
      refine ⟨a, rfl, ?_, hc'⟩
      have := World.block_lt_of_cell? w _ hc'
      rwa [block_of_add] at this
    · obtain ⟨i, hi, rfl⟩ := List.mem_map.1 hk
      exact (hf i (by have := List.mem_range.1 hi; omega)).2
set_option maxRecDepth 100000 in
theorem open_bundle_arg {r : Reach} {b0 : Nat} {v : Value} {d : DataW H} {p : List MemPlace} (hv : Value.okWide Tryz.prog w r b0 25 v) (h : DataW.Trod enc Tryz.prog w base spare held 25 v d p) :
    ∃ (D : Bs) (num : Int) (ks : List (Bs × Bs)) (A : Option Addr) (c : Nat), v = .agg #[.string (bs D), .int .i64 num, .slice A ks.length c] ∧ Rd w w.heap.size A (rowsV kCell ks) ∧ FitK ks ∧ D.length ≤ maxLen := by
  have c5 : Tryz.prog.cellsOf 25 = 3 := by kernel_rfl
  obtain ⟨cs, rfl, hsz⟩ := okWide_struct Tryz.underlying25 hv
  obtain ⟨fuel, hf⟩ := h
  have hl : cs.toList.length = 3 := by rw [← c5]; exact hsz
  obtain ⟨xs, n, _, hx, _, hlen, hf⟩ := DataW.trod_struct Tryz.underlying25 (show DataW.trod enc Tryz.prog w base spare held fuel 25 cs.toList = some (d, p) from hf)
  generalize hcs : cs.toList = l at hl hf
  match xs, hlen, l, hl with
  | [y0, y1, y2], _, [v0, v1, v2], _ =>
    have c0 : Tryz.prog.cellsOf 9 = 1 := by kernel_rfl
    have c1 : Tryz.prog.cellsOf 3 = 1 := by kernel_rfl
    have c2 : Tryz.prog.cellsOf 23 = 1 := by kernel_rfl
    have g0 := hf 0 _ rfl
    have g1 := hf 1 _ rfl
    have g2 := hf 2 _ rfl
    simp [c0, c1, c2] at g0 g1 g2
    obtain ⟨s0, e0, -, w0⟩ := DataW.trod_string Tryz.underlying9 g0
    obtain ⟨n1, e1, -, w1⟩ := DataW.trod_int Tryz.underlying3 g1
    obtain ⟨A, c, l, e2, hr, hfit⟩ := open_jwks g2
    injection e0 with e0
    injection e1 with e1
    injection e2 with e2
    subst e0 e1 e2
    have e' : cs = #[.string s0, .int .i64 n1, .slice A l.length c] := Array.ext' hcs
    subst e'
    exact ⟨s0.data.toList, n1, l, A, c, by rw [bs_self], hr, hfit, by simpa using w0⟩
end
end Go.Proofs.YtoihgnkhalhocaaGreatDoor.Js
/-
  Opening arguments that are lists of bundles, and bundles.
-/
namespace Go.Proofs.YtoihgnkhalhocaaGreatDoor.Js
set_option linter.unusedSimpArgs false
set_option linter.unusedVariables false
open Go.ChangeShapes Go.WideShapes Go.ChangeAt Go.RowKit Go.Joins
/-- what bundles that came in are like -/
def FitF (x : FD) : Prop := FitK x.k ∧ x.d.length ≤ maxLen
section
variable {H : Type} {enc : TypeId × Value → H} {w : World} {base : Nat} {spare : Nat → Bool} {held : Bool}
set_option maxRecDepth 100000 in
theorem open_bun {fuel : Nat} {cs : List Value} {x : DataW H × List MemPlace} (h : DataW.trod enc Tryz.prog w base spare held fuel 25 cs = some x) (hl : cs.length = 3) :
    ∃ b : FD, cs = (fC b).toList ∧ FitF b ∧ Rd w w.heap.size b.A (rowsV kCell b.k) := by
  obtain ⟨xs, n, _, hx, _, hlen, hf⟩ := DataW.trod_struct Tryz.underlying25 h
  match xs, hlen, cs, hl with
  | [y0, y1, y2], _, [v0, v1, v2], _ =>
    have c0 : Tryz.prog.cellsOf 9 = 1 := by kernel_rfl
    have c1 : Tryz.prog.cellsOf 3 = 1 := by kernel_rfl
    have c2 : Tryz.prog.cellsOf 23 = 1 := by kernel_rfl
    have g0 := hf 0 _ rfl
    have g1 := hf 1 _ rfl
    have g2 := hf 2 _ rfl
    simp [c0, c1, c2] at g0 g1 g2
    obtain ⟨s0, e0, -, w0⟩ := DataW.trod_string Tryz.underlying9 g0
    obtain ⟨n1, e1, -, w1⟩ := DataW.trod_int Tryz.underlying3 g1
    obtain ⟨A, c, l, e2, hr, hfit⟩ := open_jwks g2
    injection e0 with e0
    injection e1 with e1
    injection e2 with e2
    subst e0 e1 e2
    exact ⟨⟨s0.data.toList, n1, A, c, l⟩, by simp [fC, bC, bs_self], ⟨hfit, by simpa using w0⟩, hr⟩
set_option maxRecDepth 100000 in
theorem open_buns {fuel : Nat} {cs : List Value} {x : DataW H × List MemPlace} (h : DataW.trod enc Tryz.prog w base spare held fuel 22 cs = some x) :
    ∃ (A : Option Addr) (c : Nat) (l : List FD), cs = [.slice A l.length c] ∧ HL w w.heap.size A l ∧ l.length ≤ maxLen ∧ ∀ b ∈ l, FitF b := by
  have c4 : Tryz.prog.cellsOf 25 = 3 := by kernel_rfl
  rcases Deep.open_slice Tryz.underlying22 h with ⟨rfl, _⟩ | ⟨a, len, cap, m, n, D, Pl, rfl, hb, hl, hm, hmm, rfl, hx⟩
  · exact ⟨none, 0, [], rfl, HL.nil _ _ _, Nat.zero_le _, fun k hk => by cases hk⟩
  · have hlm : len ≤ m := by rw [hmm]; split <;> omega
    rw [c4] at hx
    have : Inhabited FD := ⟨⟨[], 0, none, 0, []⟩⟩
    obtain ⟨f, hf⟩ := Deep.choose_lt (α := FD) (n := m) (p := fun i q => w.cells? base (a.add (i * 3)) 3 = some (fC q).toList ∧ FitF q ∧ Rd w w.heap.size q.A (rowsV kCell q.k)) (fun i hi => by
      obtain ⟨cs', h1, h2⟩ := hx i hi
      obtain ⟨_, hlen, _⟩ := World.cells?_some h1
      obtain ⟨k, rfl, hk, hk2⟩ := open_bun h2 hlen
      exact ⟨k, h1, hk, hk2⟩)
    refine ⟨some a, cap, (List.range len).map f, by simp, ⟨fun i u hu => ?_, fun k hk => ?_⟩, by simp; omega, fun k hk => ?_⟩
    · have hl5 : (rowsV fC ((List.range len).map f)).length = len * 3 := by rw [rowsV_len (m := 3) (fun _ => rfl)]; simp
      have hi : i < len * 3 := by
        have := (List.getElem?_eq_some_iff.1 hu).1
        rwa [hl5] at this
      have hq : i / 3 < len := by omega
      obtain ⟨_, hlen, hcell⟩ := World.cells?_some (hf (i / 3) (by omega)).1
      have hc := hcell (i % 3) (by omega)
      obtain ⟨v, hv⟩ : ∃ v, (fC (f (i / 3)))[i % 3]? = some v := ⟨_, Array.getElem?_eq_getElem (by rw [show (fC (f (i / 3))).size = 3 from rfl]; omega)⟩
      have hkv := rowsV_at (f := fC) (m := 3) (fun _ => rfl) ((List.range len).map f) (i / 3) (by simpa using hq) (i % 3) v (by rw [List.getElem_map, List.getElem_range]; exact hv)
      rw [show i / 3 * 3 + i % 3 = i by omega] at hkv
      rw [hkv] at hu
      injection hu with hu
      subst hu
      rw [Deep.add_add, show i / 3 * 3 + i % 3 = i by omega] at hc
      have hc' : w.cell? (a.add i) = some v := by
        rw [hc, Array.getElem?_toList]
        exact hv
      refine ⟨a, rfl, ?_, hc'⟩
      have := World.block_lt_of_cell? w _ hc'
      rwa [block_of_add] at this
    · obtain ⟨i, hi, rfl⟩ := List.mem_map.1 hk
      exact (hf i (by have := List.mem_range.1 hi; omega)).2.2
    · obtain ⟨i, hi, rfl⟩ := List.mem_map.1 hk
      exact (hf i (by have := List.mem_range.1 hi; omega)).2.1
set_option maxRecDepth 100000 in
theorem open_buns_arg {r : Reach} {b0 : Nat} {v : Value} {d : DataW H} {p : List MemPlace} (hv : Value.okWide Tryz.prog w r b0 22 v) (h : DataW.Trod enc Tryz.prog w base spare held 22 v d p) :
    ∃ (A : Option Addr) (c : Nat) (l : List FD), v = .slice A l.length c ∧ HL w w.heap.size A l ∧ l.length ≤ maxLen ∧ ∀ b ∈ l, FitF b := by
  obtain ⟨a1, len, cap, rfl⟩ := okWide_slice Tryz.underlying22 hv
  obtain ⟨fuel, hf⟩ := h
  obtain ⟨A, c, l, e, h1, h2, h3⟩ := open_buns hf
  simp [Value.cells] at e
  obtain ⟨rfl, rfl, rfl⟩ := e
  exact ⟨_, _, l, rfl, h1, h2, h3⟩
end
end Go.Proofs.YtoihgnkhalhocaaGreatDoor.Js
