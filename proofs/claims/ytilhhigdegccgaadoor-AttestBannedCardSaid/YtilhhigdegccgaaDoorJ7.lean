/-
  Joined texts: Fn2 H9 Jsp.
-/
import Derived.Shelf.Abstract
import Derived.Test.YtilhhigdegccgaaDoorJ6
import Derived.Test.YtilhhigdegccgaaDoorJ3
import Derived.Test.YtilhhigdegccgaaDoorJ1
/-
  Walks: attest.find of join tokens and of nodes. (Printed by gen/fn20.py.)
-/
namespace Go.Proofs.YtilhhigdegccgaaDoor
set_option linter.unusedSimpArgs false
set_option linter.unusedVariables false
open Go.RowKit
section
variable {α : Type} (p : α → Bool)
def ixP (l : List α) : Nat := (l.takeWhile fun x => !p x).length
def ixZ (l : List α) : Int := if ixP p l < l.length then (ixP p l : Int) else -1
theorem ixP_eq {l : List α} {i : Nat} (h0 : ∀ x ∈ l.take i, p x = false) (h : i < l.length) (h1 : p l[i] = true) : ixP p l = i := by
  have e : l = l.take i ++ l[i] :: l.drop (i + 1) := by rw [← List.drop_eq_getElem_cons h, List.take_append_drop]
  have e2 : l.takeWhile (fun x => !p x) = l.take i := by
    conv => lhs; rw [e]
    rw [List.takeWhile_append_of_pos (by intro x hx; simp only [h0 x hx]; rfl), List.takeWhile_cons, h1]
    simp
  rw [ixP, e2, List.length_take]
  omega
theorem ixP_all {l : List α} (h0 : ∀ x ∈ l, p x = false) : ixP p l = l.length := by
  have := List.takeWhile_append_of_pos (p := fun x : α => !p x) (l₁ := l) (l₂ := []) (by intro x hx; simp only [h0 x hx]; rfl)
  rw [ixP]
  simp only [List.append_nil, List.takeWhile_nil] at this
  rw [this]
theorem find_at {l : List α} {i : Nat} (h0 : ∀ x ∈ l.take i, p x = false) (h : i < l.length) (h1 : p l[i] = true) : l.find? p = some l[i] := by
  have e : l = l.take i ++ l[i] :: l.drop (i + 1) := by rw [← List.drop_eq_getElem_cons h, List.take_append_drop]
  conv => lhs; rw [e]
  rw [List.find?_append, List.find?_eq_none.2 (fun x hx => by simp [h0 x hx]), List.find?_cons_of_pos h1]
  rfl
theorem ix_find (l : List α) : (ixP p l < l.length ∧ ∃ h : ixP p l < l.length, l.find? p = some l[ixP p l]) ∨ (¬ ixP p l < l.length ∧ l.find? p = none) := by
  induction l with
  | nil => exact .inr ⟨by simp [ixP], rfl⟩
  | cons x r ih =>
    by_cases hp : p x = true
    · have e : ixP p (x :: r) = 0 := by simp [ixP, List.takeWhile_cons, hp]
      refine .inl ⟨by rw [e]; simp, by rw [e]; simp, ?_⟩
      simp only [e, List.getElem_cons_zero]
      rw [List.find?_cons_of_pos hp]
    · have hp' : p x = false := by simpa using hp
      have e : ixP p (x :: r) = ixP p r + 1 := by simp [ixP, List.takeWhile_cons, hp']
      rcases ih with ⟨h1, h2, h3⟩ | ⟨h1, h2⟩
      · refine .inl ⟨by rw [e]; simpa using h1, by rw [e]; simpa using h1, ?_⟩
        simp only [e, List.getElem_cons_succ]
        rw [List.find?_cons_of_neg (by simp [hp']), h3]
      · exact .inr ⟨by rw [e]; simpa using h1, by rw [List.find?_cons_of_neg (by simp [hp']), h2]⟩
end
def eqJ (s : ByteArray) (x : JoinD) : Bool := (x.text.toList == s.toList)
set_option maxRecDepth 100000 in
set_option maxHeartbeats 2000000 in
theorem j1_any (k : JoinD) (s : ByteArray) (g : Nat) (u : World) (hb : Blk u g 9 #[.string s]) :
    Calls Tryd.prog 15 #[.agg (joinCells k), .pointer (some ⟨g, 0, none⟩)] u fun e w' => e = .returned (.bool (eqJ s k)) ∧ Below u.heap.size u w' := by
  obtain ⟨W0, hW0⟩ : ∃ W0, W0 = u.alloc (.cells (joinCells k) 38) := ⟨_, rfl⟩
  have HB0 := Lib.hid (show Below u.heap.size u W0 by rw [hW0]; exact (Below.refl _ u).alloc (Nat.le_refl _) _)
  have hk : Blk W0 u.heap.size 38 (joinCells k) := by rw [hW0]; exact Blk.new _ _ _
  have hg : Blk W0 g 9 #[.string s] := hb.below HB0.out hb.lt
  have a0 : W0.cell? ⟨u.heap.size, 0, none⟩ = some (.string k.text) := hk.cell 0
  have a1 : W0.cell? ⟨g, 0, none⟩ = some (.string s) := hg.cell 0
  have HW0 := Lib.hid hW0
  obtain ⟨q, hq⟩ : ∃ q, q = eqJ s k := ⟨_, rfl⟩
  have hqq : (k.text.toList == s.toList) = q := by rw [hq]; rfl
  rw [← hq]
  clear hk hg hb hW0 hq
  go_enter Tryd.func15, Tryd.ntmps15
  go_upto_region 1 with (fail)
  rw [← HW0.out]
  generalize Value.agg (joinCells k) = AV
  cases q with
  | true =>
    go_wp2_with fail
    go_ret
    exact ⟨rfl, HB0.out⟩
  | false =>
    go_wp2_with fail
    go_ret
    exact ⟨rfl, HB0.out⟩
set_option maxRecDepth 100000 in
set_option maxHeartbeats 2000000 in
theorem jix_any (l : List JoinD) (s : ByteArray) (A : Option Addr) (c B g : Nat) (w : World) (hr : Rd w B A (rowsV joinCells l)) (hB : B ≤ w.heap.size) (hl : l.length ≤ 1000) (hb : Blk w g 9 #[.string s]) :
    Calls Tryd.prog 29 #[.slice A l.length c, .func (.func 15) #[] #[.pointer (some ⟨g, 0, none⟩)]] w fun e w' => e = .returned (.int .i64 (ixZ (eqJ s) l)) ∧ Below w.heap.size w w' := by
  have eg : ∀ args w, (callFunc 15 args).run Tryd.prog w = .ok (.enter 15 args) w := enters_of Tryd.func15 (by kernel_rfl) rfl
  have huj := Tryd.underlying38
  obtain ⟨n, hn⟩ : ∃ n, n = l.length := ⟨_, rfl⟩
  have HN := Lib.hid hn
  have HR := Lib.hid hr
  have HBK := Lib.hid hb
  have HBB := Lib.hid hB
  have HL := Lib.hid (show (n : Int) ≤ 1000 by omega)
  have HR0 := Lib.hid (Below.refl w.heap.size w)
  obtain ⟨z, hz⟩ : ∃ z, z = ixZ (eqJ s) l := ⟨_, rfl⟩
  have HZ := Lib.hid hz
  rw [← hn, ← hz]
  clear hr hl hn hB hb hz
  go_enter Tryd.func29, Tryd.ntmps29
  go_wp2_with fail
  go_loopw [8] (fun x wr => ∃ i : Nat, i ≤ n ∧ x = .int .i64 (i : Int) ∧ (∀ k ∈ l.take i, eqJ s k = false) ∧ Below w.heap.size w wr) (fun x _ => n - (intOf x).toNat)
  case atStart => exact ⟨0, Nat.zero_le _, rfl, by simp, HR0.out⟩
  case round =>
    obtain ⟨i, hi, rfl, hok, hbw⟩ := hrel
    have HOK := Lib.hid hok
    have HBW := Lib.hid hbw
    clear hok hbw
    have hns := HL.out
    by_cases hlt : i < n
    · have hil : i < l.length := by rw [← HN.out]; exact hlt
      have hlt' : (i : Int) < (n : Int) := by omega
      obtain ⟨ad, hA, hadb, hcell⟩ := rd_rows (f := joinCells) (m := 4) (fun _ => rfl) (by decide) (HR.out.below (HBW.out.mono HBB.out)) hil
      subst hA
      obtain ⟨X, hX⟩ : ∃ X, X = l[i] := ⟨_, rfl⟩
      rw [← hX] at hcell
      have HCL := Lib.hid (show ∀ j u, (joinCells X).toList[j]? = some u → wr.cell? ((ad.add (i * 4)).add j) = some u from fun j u hu => hcell j u (by simpa using hu))
      have HC := Lib.hid (j1_any X s g wr (HBK.out.below HBW.out HBK.out.lt))
      have HLT := Lib.hid hlt
      obtain ⟨q, hq⟩ : ∃ q, q = eqJ s X := ⟨_, rfl⟩
      rw [← hq] at HC
      cases q with
      | true =>
        have HP := Lib.hid (show z = (i : Int) by rw [HZ.out, ixZ, ixP_eq _ HOK.out hil (by rw [← hX]; exact hq.symm), if_pos hil])
        clear hX hcell hadb hil hlt hq
        go_wp2_with (first
          | refine wpList_get_rd (r := (joinCells X).toList) HCL.out rfl rfl rfl huj rfl joinT_size ?_
          | (go_at_call 15; refine calls_then HC.out ?_; rintro e W' ⟨rfl, hb'⟩; have HB' := Lib.hid hb'; clear hb'))
        go_ret
        exact ⟨by rw [HP.out]; rfl, HBW.out.trans (HB'.out.mono HBW.out.size)⟩
      | false =>
        have HP := Lib.hid (show ∀ k ∈ l.take (i + 1), eqJ s k = false from fun k hk => by
          rw [List.take_succ_eq_append_getElem hil, List.mem_append] at hk
          rcases hk with hk | hk
          · exact HOK.out k hk
          · have e : k = X := by rw [hX]; simpa using hk
            rw [e]
            exact hq.symm)
        clear hX hcell hadb hil hlt hq
        go_wp2_with (first
          | refine wpList_get_rd (r := (joinCells X).toList) HCL.out rfl rfl rfl huj rfl joinT_size ?_
          | (go_at_call 15; refine calls_then HC.out ?_; rintro e W' ⟨rfl, hb'⟩; have HB' := Lib.hid hb'; clear hb'))
        go_roundw
        case rel => exact ⟨i + 1, HLT.out, by go_num, HP.out, HBW.out.trans (HB'.out.mono HBW.out.size)⟩
        case measure => have := HLT.out; simp [intOf]; omega
    · obtain rfl : i = n := by omega
      have HP := Lib.hid (show z = -1 by
        have h0 : l.take i = l := List.take_of_length_le (by rw [← HN.out]; exact Nat.le_refl _)
        have h := HOK.out
        rw [h0] at h
        rw [HZ.out, ixZ, ixP_all _ h, if_neg (by omega)])
      clear hlt
      go_wp2_with fail
      go_ret
      exact ⟨by rw [HP.out]; rfl, HBW.out⟩
def zJn : JoinD := ⟨⟨#[]⟩, ⟨#[]⟩, 0, false⟩
def jfind (l : List JoinD) (s : ByteArray) : JoinD × Bool := match l.find? (eqJ s) with
  | some k => (k, true)
  | none => (zJn, false)
set_option maxRecDepth 100000 in
set_option maxHeartbeats 2000000 in
theorem jfind_any (l : List JoinD) (s : ByteArray) (A : Option Addr) (c B g : Nat) (w : World) (hr : Rd w B A (rowsV joinCells l)) (hB : B ≤ w.heap.size) (hl : l.length ≤ 1000) (hb : Blk w g 9 #[.string s]) :
    Calls Tryd.prog 14 #[.slice A l.length c, .func (.func 15) #[] #[.pointer (some ⟨g, 0, none⟩)]] w fun e w' => e = .returned (.tuple #[.agg (joinCells (jfind l s).1), .bool (jfind l s).2]) ∧ Below w.heap.size w w' := by
  have huj := Tryd.underlying38
  obtain ⟨W0, hW0⟩ : ∃ W0, W0 = w.alloc (.cells (joinCells zJn) 38) := ⟨_, rfl⟩
  have hb0 : Below w.heap.size w W0 := by rw [hW0]; exact (Below.refl _ w).alloc (Nat.le_refl _) _
  have HB0 := Lib.hid hb0
  have HK0 := Lib.hid (show Blk W0 w.heap.size 38 (joinCells zJn) by rw [hW0]; exact Blk.new _ _ _)
  have HI := Lib.hid (jix_any l s A c B g W0 (hr.below (hb0.mono hB)) (Nat.le_trans hB hb0.size) hl (hb.below hb0 hb.lt))
  have HR := Lib.hid hr
  have HBB := Lib.hid hB
  have HW0 := Lib.hid hW0
  have HE := Lib.hid (show jfind l s = match l.find? (eqJ s) with | some k => (k, true) | none => (zJn, false) from rfl)
  have HX := Lib.hid (ix_find (eqJ s) l)
  obtain ⟨R, hR⟩ : ∃ R, R = jfind l s := ⟨_, rfl⟩
  rw [← hR] at HE ⊢
  obtain ⟨z, hz⟩ : ∃ z, z = ixZ (eqJ s) l := ⟨_, rfl⟩
  rw [← hz] at HI
  have HZ := Lib.hid hz
  obtain ⟨n, hn⟩ : ∃ n, n = l.length := ⟨_, rfl⟩
  rw [← hn] at HI ⊢
  have HN := Lib.hid hn
  have hnl : (n : Int) ≤ 1000 := by omega
  clear hW0 hb0 hr hB hl hb hR hz hn
  go_enter Tryd.func14, Tryd.ntmps14
  go_upto_region 1 with (fail)
  rw [show w.alloc (.cells #[.string ⟨#[]⟩, .string ⟨#[]⟩, .int .i64 0, .bool false] 38) = W0 from HW0.out.symm]
  go_wp2_with fail
  refine calls_then HI.out ?_
  rintro e w1 ⟨rfl, hb1⟩
  have HB1 := Lib.hid (HB0.out.trans (hb1.mono HB0.out.size))
  have HK1 := Lib.hid (HK0.out.below hb1 HK0.out.lt)
  clear hb1
  rcases HX.out with ⟨hlt, h2, hf⟩ | ⟨hlt, hf⟩
  · obtain ⟨k, hk⟩ : ∃ k, k = ixP (eqJ s) l := ⟨_, rfl⟩
    have hzk : z = (k : Int) := by rw [HZ.out, ixZ, if_pos hlt, hk]
    subst hzk
    have hk2 : k < l.length := by rw [hk]; exact hlt
    obtain ⟨X, hX⟩ : ∃ X, X = l[k] := ⟨_, rfl⟩
    have HRE := Lib.hid (show R = (X, true) by
      rw [HE.out, hf, hX]
      simp only [hk])
    obtain ⟨ad, hA, -, hcell⟩ := rd_rows (f := joinCells) (m := 4) (fun _ => rfl) (by decide) (HR.out.below (HB1.out.mono HBB.out)) hk2
    subst hA
    rw [← hX] at hcell
    have HCL := Lib.hid (show ∀ j u, (joinCells X).toList[j]? = some u → w1.cell? ((ad.add (k * 4)).add j) = some u from fun j u hu => hcell j u (by simpa using hu))
    have hk0 : (0 : Int) ≤ (k : Int) := by omega
    have hkn : (k : Int) < (n : Int) := by rw [HN.out]; omega
    clear hcell hX hk2 hk hf hlt h2
    go_wp2_with (first
      | refine wpList_get_rd (r := (joinCells X).toList) HCL.out rfl rfl rfl huj rfl joinT_size ?_
      | (refine wpList_put_box (x := .tmp 4) (cells := joinCells X) HK1.out rfl rfl rfl rfl joinT_size rfl (joinCells_one X) ?_; intro w9 hb9 hw9))
    have HB9 := Lib.hid hb9
    have HF9 := Lib.hid (hw9.below HB1.out (Nat.le_refl _) HB1.out.size)
    refine bodyPost_ret (results_box_tmp (P := Tryd.prog) rfl rfl HB9.out huj rfl joinT_size) rfl ?_
    exact ⟨by rw [HRE.out]; rfl, HF9.out⟩
  · have hzk : z = -1 := by rw [HZ.out, ixZ, if_neg hlt]
    subst hzk
    have HRE := Lib.hid (show R = (zJn, false) by rw [HE.out, hf])
    clear hf hlt
    go_wp2_with (first
      | refine wpList_get_box (x := .tmp 7) (cs := joinCells zJn) (Blk.new _ _ _) rfl rfl rfl huj rfl joinT_size ?_
      | (refine wpList_put_box (x := .tmp 4) (cells := joinCells zJn) (HK1.out.alloc _) rfl rfl rfl rfl joinT_size rfl (joinCells_one _) ?_; intro w9 hb9 hw9))
    have HB9 := Lib.hid hb9
    have HF9 := Lib.hid (hw9.below (HB1.out.alloc HB1.out.size _) (Nat.le_refl _) (by have := HB1.out.size; simp; omega))
    refine bodyPost_ret (results_box_tmp (P := Tryd.prog) rfl rfl HB9.out huj rfl joinT_size) rfl ?_
    exact ⟨by rw [HRE.out]; rfl, HF9.out⟩
def eqN (s : ByteArray) (x : NodeD) : Bool := (x.name.toList == s.toList)
set_option maxRecDepth 100000 in
set_option maxHeartbeats 2000000 in
theorem n1_any (k : NodeD) (s : ByteArray) (g : Nat) (u : World) (hb : Blk u g 9 #[.string s]) :
    Calls Tryd.prog 36 #[.agg (nodeCells k), .pointer (some ⟨g, 0, none⟩)] u fun e w' => e = .returned (.bool (eqN s k)) ∧ Below u.heap.size u w' := by
  obtain ⟨W0, hW0⟩ : ∃ W0, W0 = u.alloc (.cells (nodeCells k) 40) := ⟨_, rfl⟩
  have HB0 := Lib.hid (show Below u.heap.size u W0 by rw [hW0]; exact (Below.refl _ u).alloc (Nat.le_refl _) _)
  have hk : Blk W0 u.heap.size 40 (nodeCells k) := by rw [hW0]; exact Blk.new _ _ _
  have hg : Blk W0 g 9 #[.string s] := hb.below HB0.out hb.lt
  have a0 : W0.cell? ⟨u.heap.size, 0, none⟩ = some (.string k.name) := hk.cell 0
  have a1 : W0.cell? ⟨g, 0, none⟩ = some (.string s) := hg.cell 0
  have HW0 := Lib.hid hW0
  obtain ⟨q, hq⟩ : ∃ q, q = eqN s k := ⟨_, rfl⟩
  have hqq : (k.name.toList == s.toList) = q := by rw [hq]; rfl
  rw [← hq]
  clear hk hg hb hW0 hq
  go_enter Tryd.func36, Tryd.ntmps36
  go_upto_region 1 with (fail)
  rw [← HW0.out]
  generalize Value.agg (nodeCells k) = AV
  cases q with
  | true =>
    go_wp2_with fail
    go_ret
    exact ⟨rfl, HB0.out⟩
  | false =>
    go_wp2_with fail
    go_ret
    exact ⟨rfl, HB0.out⟩
set_option maxRecDepth 100000 in
set_option maxHeartbeats 2000000 in
theorem nix_any (l : List NodeD) (s : ByteArray) (A : Option Addr) (c B g : Nat) (w : World) (hr : Rd w B A (rowsV nodeCells l)) (hB : B ≤ w.heap.size) (hl : l.length ≤ 1000) (hb : Blk w g 9 #[.string s]) :
    Calls Tryd.prog 32 #[.slice A l.length c, .func (.func 36) #[] #[.pointer (some ⟨g, 0, none⟩)]] w fun e w' => e = .returned (.int .i64 (ixZ (eqN s) l)) ∧ Below w.heap.size w w' := by
  have eg : ∀ args w, (callFunc 36 args).run Tryd.prog w = .ok (.enter 36 args) w := enters_of Tryd.func36 (by kernel_rfl) rfl
  have huj := Tryd.underlying40
  obtain ⟨n, hn⟩ : ∃ n, n = l.length := ⟨_, rfl⟩
  have HN := Lib.hid hn
  have HR := Lib.hid hr
  have HBK := Lib.hid hb
  have HBB := Lib.hid hB
  have HL := Lib.hid (show (n : Int) ≤ 1000 by omega)
  have HR0 := Lib.hid (Below.refl w.heap.size w)
  obtain ⟨z, hz⟩ : ∃ z, z = ixZ (eqN s) l := ⟨_, rfl⟩
  have HZ := Lib.hid hz
  rw [← hn, ← hz]
  clear hr hl hn hB hb hz
  go_enter Tryd.func32, Tryd.ntmps32
  go_wp2_with fail
  go_loopw [8] (fun x wr => ∃ i : Nat, i ≤ n ∧ x = .int .i64 (i : Int) ∧ (∀ k ∈ l.take i, eqN s k = false) ∧ Below w.heap.size w wr) (fun x _ => n - (intOf x).toNat)
  case atStart => exact ⟨0, Nat.zero_le _, rfl, by simp, HR0.out⟩
  case round =>
    obtain ⟨i, hi, rfl, hok, hbw⟩ := hrel
    have HOK := Lib.hid hok
    have HBW := Lib.hid hbw
    clear hok hbw
    have hns := HL.out
    by_cases hlt : i < n
    · have hil : i < l.length := by rw [← HN.out]; exact hlt
      have hlt' : (i : Int) < (n : Int) := by omega
      obtain ⟨ad, hA, hadb, hcell⟩ := rd_rows (f := nodeCells) (m := 5) (fun _ => rfl) (by decide) (HR.out.below (HBW.out.mono HBB.out)) hil
      subst hA
      obtain ⟨X, hX⟩ : ∃ X, X = l[i] := ⟨_, rfl⟩
      rw [← hX] at hcell
      have HCL := Lib.hid (show ∀ j u, (nodeCells X).toList[j]? = some u → wr.cell? ((ad.add (i * 5)).add j) = some u from fun j u hu => hcell j u (by simpa using hu))
      have HC := Lib.hid (n1_any X s g wr (HBK.out.below HBW.out HBK.out.lt))
      have HLT := Lib.hid hlt
      obtain ⟨q, hq⟩ : ∃ q, q = eqN s X := ⟨_, rfl⟩
      rw [← hq] at HC
      cases q with
      | true =>
        have HP := Lib.hid (show z = (i : Int) by rw [HZ.out, ixZ, ixP_eq _ HOK.out hil (by rw [← hX]; exact hq.symm), if_pos hil])
        clear hX hcell hadb hil hlt hq
        go_wp2_with (first
          | refine wpList_get_rd (r := (nodeCells X).toList) HCL.out rfl rfl rfl huj rfl nodeT_size ?_
          | (go_at_call 36; refine calls_then HC.out ?_; rintro e W' ⟨rfl, hb'⟩; have HB' := Lib.hid hb'; clear hb'))
        go_ret
        exact ⟨by rw [HP.out]; rfl, HBW.out.trans (HB'.out.mono HBW.out.size)⟩
      | false =>
        have HP := Lib.hid (show ∀ k ∈ l.take (i + 1), eqN s k = false from fun k hk => by
          rw [List.take_succ_eq_append_getElem hil, List.mem_append] at hk
          rcases hk with hk | hk
          · exact HOK.out k hk
          · have e : k = X := by rw [hX]; simpa using hk
            rw [e]
            exact hq.symm)
        clear hX hcell hadb hil hlt hq
        go_wp2_with (first
          | refine wpList_get_rd (r := (nodeCells X).toList) HCL.out rfl rfl rfl huj rfl nodeT_size ?_
          | (go_at_call 36; refine calls_then HC.out ?_; rintro e W' ⟨rfl, hb'⟩; have HB' := Lib.hid hb'; clear hb'))
        go_roundw
        case rel => exact ⟨i + 1, HLT.out, by go_num, HP.out, HBW.out.trans (HB'.out.mono HBW.out.size)⟩
        case measure => have := HLT.out; simp [intOf]; omega
    · obtain rfl : i = n := by omega
      have HP := Lib.hid (show z = -1 by
        have h0 : l.take i = l := List.take_of_length_le (by rw [← HN.out]; exact Nat.le_refl _)
        have h := HOK.out
        rw [h0] at h
        rw [HZ.out, ixZ, ixP_all _ h, if_neg (by omega)])
      clear hlt
      go_wp2_with fail
      go_ret
      exact ⟨by rw [HP.out]; rfl, HBW.out⟩
def zNd : NodeD := ⟨⟨#[]⟩, ⟨#[]⟩, 0, 0, ⟨#[]⟩⟩
def nfind (l : List NodeD) (s : ByteArray) : NodeD × Bool := match l.find? (eqN s) with
  | some k => (k, true)
  | none => (zNd, false)
set_option maxRecDepth 100000 in
set_option maxHeartbeats 2000000 in
theorem nfind_any (l : List NodeD) (s : ByteArray) (A : Option Addr) (c B g : Nat) (w : World) (hr : Rd w B A (rowsV nodeCells l)) (hB : B ≤ w.heap.size) (hl : l.length ≤ 1000) (hb : Blk w g 9 #[.string s]) :
    Calls Tryd.prog 20 #[.slice A l.length c, .func (.func 36) #[] #[.pointer (some ⟨g, 0, none⟩)]] w fun e w' => e = .returned (.tuple #[.agg (nodeCells (nfind l s).1), .bool (nfind l s).2]) ∧ Below w.heap.size w w' := by
  have huj := Tryd.underlying40
  obtain ⟨W0, hW0⟩ : ∃ W0, W0 = w.alloc (.cells (nodeCells zNd) 40) := ⟨_, rfl⟩
  have hb0 : Below w.heap.size w W0 := by rw [hW0]; exact (Below.refl _ w).alloc (Nat.le_refl _) _
  have HB0 := Lib.hid hb0
  have HK0 := Lib.hid (show Blk W0 w.heap.size 40 (nodeCells zNd) by rw [hW0]; exact Blk.new _ _ _)
  have HI := Lib.hid (nix_any l s A c B g W0 (hr.below (hb0.mono hB)) (Nat.le_trans hB hb0.size) hl (hb.below hb0 hb.lt))
  have HR := Lib.hid hr
  have HBB := Lib.hid hB
  have HW0 := Lib.hid hW0
  have HE := Lib.hid (show nfind l s = match l.find? (eqN s) with | some k => (k, true) | none => (zNd, false) from rfl)
  have HX := Lib.hid (ix_find (eqN s) l)
  obtain ⟨R, hR⟩ : ∃ R, R = nfind l s := ⟨_, rfl⟩
  rw [← hR] at HE ⊢
  obtain ⟨z, hz⟩ : ∃ z, z = ixZ (eqN s) l := ⟨_, rfl⟩
  rw [← hz] at HI
  have HZ := Lib.hid hz
  obtain ⟨n, hn⟩ : ∃ n, n = l.length := ⟨_, rfl⟩
  rw [← hn] at HI ⊢
  have HN := Lib.hid hn
  have hnl : (n : Int) ≤ 1000 := by omega
  clear hW0 hb0 hr hB hl hb hR hz hn
  go_enter Tryd.func20, Tryd.ntmps20
  go_upto_region 1 with (fail)
  rw [show w.alloc (.cells #[.string ⟨#[]⟩, .string ⟨#[]⟩, .int .i64 0, .int .i64 0, .string ⟨#[]⟩] 40) = W0 from HW0.out.symm]
  go_wp2_with fail
  refine calls_then HI.out ?_
  rintro e w1 ⟨rfl, hb1⟩
  have HB1 := Lib.hid (HB0.out.trans (hb1.mono HB0.out.size))
  have HK1 := Lib.hid (HK0.out.below hb1 HK0.out.lt)
  clear hb1
  rcases HX.out with ⟨hlt, h2, hf⟩ | ⟨hlt, hf⟩
  · obtain ⟨k, hk⟩ : ∃ k, k = ixP (eqN s) l := ⟨_, rfl⟩
    have hzk : z = (k : Int) := by rw [HZ.out, ixZ, if_pos hlt, hk]
    subst hzk
    have hk2 : k < l.length := by rw [hk]; exact hlt
    obtain ⟨X, hX⟩ : ∃ X, X = l[k] := ⟨_, rfl⟩
    have HRE := Lib.hid (show R = (X, true) by
      rw [HE.out, hf, hX]
      simp only [hk])
    obtain ⟨ad, hA, -, hcell⟩ := rd_rows (f := nodeCells) (m := 5) (fun _ => rfl) (by decide) (HR.out.below (HB1.out.mono HBB.out)) hk2
    subst hA
    rw [← hX] at hcell
    have HCL := Lib.hid (show ∀ j u, (nodeCells X).toList[j]? = some u → w1.cell? ((ad.add (k * 5)).add j) = some u from fun j u hu => hcell j u (by simpa using hu))
    have hk0 : (0 : Int) ≤ (k : Int) := by omega
    have hkn : (k : Int) < (n : Int) := by rw [HN.out]; omega
    clear hcell hX hk2 hk hf hlt h2
    go_wp2_with (first
      | refine wpList_get_rd (r := (nodeCells X).toList) HCL.out rfl rfl rfl huj rfl nodeT_size ?_
      | (refine wpList_put_box (x := .tmp 4) (cells := nodeCells X) HK1.out rfl rfl rfl rfl nodeT_size rfl (nodeCells_one X) ?_; intro w9 hb9 hw9))
    have HB9 := Lib.hid hb9
    have HF9 := Lib.hid (hw9.below HB1.out (Nat.le_refl _) HB1.out.size)
    refine bodyPost_ret (results_box_tmp (P := Tryd.prog) rfl rfl HB9.out huj rfl nodeT_size) rfl ?_
    exact ⟨by rw [HRE.out]; rfl, HF9.out⟩
  · have hzk : z = -1 := by rw [HZ.out, ixZ, if_neg hlt]
    subst hzk
    have HRE := Lib.hid (show R = (zNd, false) by rw [HE.out, hf])
    clear hf hlt
    go_wp2_with (first
      | refine wpList_get_box (x := .tmp 7) (cs := nodeCells zNd) (Blk.new _ _ _) rfl rfl rfl huj rfl nodeT_size ?_
      | (refine wpList_put_box (x := .tmp 4) (cells := nodeCells zNd) (HK1.out.alloc _) rfl rfl rfl rfl nodeT_size rfl (nodeCells_one _) ?_; intro w9 hb9 hw9))
    have HB9 := Lib.hid hb9
    have HF9 := Lib.hid (hw9.below (HB1.out.alloc HB1.out.size _) (Nat.le_refl _) (by have := HB1.out.size; simp; omega))
    refine bodyPost_ret (results_box_tmp (P := Tryd.prog) rfl rfl HB9.out huj rfl nodeT_size) rfl ?_
    exact ⟨by rw [HRE.out]; rfl, HF9.out⟩
end Go.Proofs.YtilhhigdegccgaaDoor
/-
  Walk: brevetref09.Has.
-/
namespace Go.Proofs.YtilhhigdegccgaaDoor
set_option linter.unusedSimpArgs false
set_option linter.unusedVariables false
open Go.RowKit
theorem beq_toList9 (a b : ByteArray) : (a.toList == b.toList) = decide (a = b) := by
  rw [Bool.eq_iff_iff, beq_iff_eq, decide_eq_true_iff, toList_eq, toList_eq]
  exact ⟨fun h => ByteArray.ext (Array.toList_inj.1 h), fun h => by rw [h]⟩
def hasB (l : List ByteArray) (s : ByteArray) : Bool := l.any fun x => decide (x = s)
theorem hasB_yes {l : List ByteArray} {s : ByteArray} (h : s ∈ l) : hasB l s = true := by rw [hasB, List.any_eq_true]; exact ⟨s, h, by simp⟩
theorem hasB_no {l : List ByteArray} {s : ByteArray} (h : s ∉ l) : hasB l s = false := by
  rw [hasB, List.any_eq_false]
  intro x hx
  simp
  rintro rfl
  exact h hx
set_option maxHeartbeats 1000000 in
theorem has9_any (l : List ByteArray) (hl : l.length ≤ 1000) (s : ByteArray) (A : Option Addr) (c B : Nat) (w : World) (hr : Rd w B A (l.map Value.string)) : Calls Tryd.prog 58 #[.slice A l.length c, .string s] w (fun e w' => e = .returned (.bool (hasB l s)) ∧ w = w') := by
  have hl' : (l.length : Int) ≤ 1000 := by omega
  obtain ⟨b, hb⟩ : ∃ b, b = hasB l s := ⟨_, rfl⟩
  have HB := Lib.hid hb
  rw [← hb]
  clear hb
  go_enter Tryd.func58, Tryd.ntmps58
  go_wp2_with fail
  go_loop [5] (fun i => ∃ k : Nat, k ≤ l.length ∧ i = .int .i64 (k : Int) ∧ s ∉ l.take k) (fun i => l.length - (intOf i).toNat)
  case atStart => exact ⟨0, by omega, rfl, by simp⟩
  case round =>
    obtain ⟨k, hk, rfl, hno⟩ := hrel
    have HNO := Lib.hid hno
    clear hno
    by_cases hlt : k < l.length
    · obtain ⟨ad, rfl, _, hc⟩ := hr.at_ (k := k) (by simpa using hlt)
      simp only [List.getElem_map] at hc
      have hk2 : (k : Int) < (l.length : Int) := by omega
      obtain ⟨x, hx⟩ : ∃ x, x = l[k] := ⟨_, rfl⟩
      rw [← hx] at hc
      have HX := Lib.hid hx
      clear hx
      by_cases he : x = s
      · have h1 : (x.toList == s.toList) = true := by rw [beq_toList9]; simpa using he
        have h2 : b = true := by rw [HB.out]; refine hasB_yes ?_; rw [← he, HX.out]; exact List.getElem_mem hlt
        subst h2
        clear he
        go_wp2_with fail
        go_ret
        exact ⟨rfl, rfl⟩
      · have h1 : (x.toList == s.toList) = false := by rw [beq_toList9]; simpa using he
        have HE := Lib.hid he
        clear he
        go_wp2_with fail
        go_round
        case rel => exact ⟨k + 1, by omega, by go_num, by
          rw [List.take_succ_eq_append_getElem hlt, ← HX.out]
          simp
          exact ⟨HNO.out, fun h => HE.out h.symm⟩⟩
        case measure => simp [intOf]; omega
    · have h2 : b = false := by
        rw [HB.out]
        have := HNO.out
        rw [List.take_of_length_le (by omega)] at this
        exact hasB_no this
      subst h2
      obtain rfl : k = l.length := by omega
      go_wp2_with fail
      go_ret
      exact ⟨rfl, rfl⟩
end Go.Proofs.YtilhhigdegccgaaDoor
/-
  Plain: JSON's texts: how they are read and written.
-/
namespace Go.Proofs.YtilhhigdegccgaaDoor.Js
set_option linter.unusedVariables false
abbrev Bs := List UInt8
def bs (l : Bs) : ByteArray := ⟨l.toArray⟩
inductive JT where
  | mk (kind num : Int) (text : Bs) (names : List Bs) (kids : List JT)
theorem JT.ind {p : JT → Prop} (h : ∀ k n t ns ks, (∀ x ∈ ks, p x) → p (.mk k n t ns ks)) : ∀ j, p j
  | .mk k n t ns ks => h k n t ns ks (fun x _ => JT.ind h x)
def isBl (c : UInt8) : Bool := c == 32 || c == 9 || c == 10 || c == 13
def skip : Bs → Bs
  | [] => []
  | c :: r => if isBl c then skip r else c :: r
def look : Bs → UInt8
  | [] => 0
  | c :: _ => c
def low (c : UInt8) : UInt8 := if 65 ≤ c ∧ c ≤ 70 then c + 32 else c
def jtext (s : Bs) : JT := .mk 3 0 s [] []
def dg (k : Nat) : UInt8 := UInt8.ofNat (48 + k)
def digB : Nat → Nat → Bs
  | 0, _ => []
  | f + 1, n => if n < 10 then [dg n] else digB f (n / 10) ++ [dg (n % 10)]
-- lengths
end Go.Proofs.YtilhhigdegccgaaDoor.Js
