/-
  PROVED: 'brevetlaw11.JwkFinds': the key that is found is the first one with that Kid. The listed variables are tied to the program's text by the card.
-/
import Derived.Maps.AppendAt
import Derived.Laws.IdiomStrings
import Derived.Deep.CutBlock
import Derived.Deep.Slices
import Derived.Test.YtlkikjeccamheaaDoorCards
import Derived.Test.YtlkikjeccamheaaDoorTie
import Derived.SevenTiedAt
import Derived.Lay
import Derived.ProofKit
import Derived.OpenShut
import Derived.Test.YtlkikjeccamheaaDoorN1
import Derived.Test.YtlkikjeccamheaaDoorN2
import Derived.Test.YtlkikjeccamheaaDoorN3
import Derived.Test.YtlkikjeccamheaaDoorF5
/-
  Walks: jwk.Find.
-/
namespace Go.Proofs.YtlkikjeccamheaaDoor.Js
set_option linter.unusedSimpArgs false
set_option linter.unusedVariables false
open Go.RowKit

def kCell (k : Bs × Bs) : Array Value := #[.string (bs k.1), .string (bs k.2)]
theorem kCell_one (k : Bs × Bs) : (kCell k).all (·.oneCell') = true := by simp [kCell, Value.oneCell']
theorem kCell_size (k : Bs × Bs) : (kCell k).size = 2 := rfl
theorem jk_size : (Tryd.prog.info? 37).map (·.size) = some 2 := by kernel_rfl
def idxN (ks : List (Bs × Bs)) (kid : Bs) : Nat := ks.findIdx (fun k => decide (k.1 = kid))
def findB (ks : List (Bs × Bs)) (kid : Bs) : Bs × Int := match ks.find? (fun k => decide (k.1 = kid)) with
  | some k => (k.2, 0)
  | none => ([], 11)
theorem findB_hit {ks : List (Bs × Bs)} {kid : Bs} {i : Nat} (h : i < ks.length) (h0 : ∀ k ∈ ks.take i, k.1 ≠ kid) (h1 : ks[i].1 = kid) : findB ks kid = (ks[i].2, 0) := by
  have e : ks = ks.take i ++ ks[i] :: ks.drop (i + 1) := by rw [← List.drop_eq_getElem_cons h, List.take_append_drop]
  have e2 : ks.find? (fun k => decide (k.1 = kid)) = some ks[i] := by
    conv => lhs; rw [e]
    rw [List.find?_append, List.find?_eq_none.2 (fun k hk => by simpa using h0 k hk), List.find?_cons_of_pos (by simpa using h1)]
    rfl
  unfold findB
  rw [e2]
theorem findB_no {ks : List (Bs × Bs)} {kid : Bs} (h0 : ∀ k ∈ ks, k.1 ≠ kid) : findB ks kid = ([], 11) := by
  unfold findB
  rw [List.find?_eq_none.2 (fun k hk => by simpa using h0 k hk)]
set_option maxHeartbeats 2000000 in
theorem find1_any (k : Bs × Bs) (kid : Bs) (g : Nat) (u : World) (hb : Blk u g 9 #[.string (bs kid)]) :
    Calls Tryd.prog 21 #[.agg (kCell k), .pointer (some ⟨g, 0, none⟩)] u fun e w' => e = .returned (.bool (decide (k.1 = kid))) ∧ Below u.heap.size u w' := by
  obtain ⟨W0, hW0⟩ : ∃ W0, W0 = u.alloc (.cells (kCell k) 37) := ⟨_, rfl⟩
  have HB0 := Lib.hid (show Below u.heap.size u W0 by rw [hW0]; exact (Below.refl _ u).alloc (Nat.le_refl _) _)
  have hk : Blk W0 u.heap.size 37 (kCell k) := by rw [hW0]; exact Blk.new _ _ _
  have hg : Blk W0 g 9 #[.string (bs kid)] := hb.below HB0.out hb.lt
  have a0 : W0.cell? ⟨u.heap.size, 0, none⟩ = some (.string (bs k.1)) := hk.cell 0
  have a1 : W0.cell? ⟨g, 0, none⟩ = some (.string (bs kid)) := hg.cell 0
  have HW0 := Lib.hid hW0
  clear hk hg hb hW0
  go_enter Tryd.func21, Tryd.ntmps21
  go_upto_region 1 with (fail)
  rw [← HW0.out]
  generalize Value.agg (kCell k) = AV
  by_cases hq : k.1 = kid
  · have hq' : ((bs k.1).toList == (bs kid).toList) = true := by rw [bs_toList, bs_toList]; simpa using hq
    go_wp2_with fail
    go_ret
    refine ⟨?_, HB0.out⟩
    rw [decide_eq_true hq]
    rfl
  · have hq' : ((bs k.1).toList == (bs kid).toList) = false := by rw [bs_toList, bs_toList]; simpa using hq
    go_wp2_with fail
    go_ret
    refine ⟨?_, HB0.out⟩
    rw [decide_eq_false hq]
    rfl
/-- what slices.IndexFunc gives -/
def idxP (ks : List (Bs × Bs)) (kid : Bs) (z : Int) : Prop := (z = -1 ∧ ∀ k ∈ ks, k.1 ≠ kid) ∨ ∃ i : Nat, z = (i : Int) ∧ ∃ h : i < ks.length, ks[i].1 = kid ∧ ∀ k ∈ ks.take i, k.1 ≠ kid
set_option maxHeartbeats 2000000 in
theorem idxf2_any (ks : List (Bs × Bs)) (kid : Bs) (A : Option Addr) (c B g : Nat) (w : World) (hr : Rd w B A (rowsV kCell ks)) (hB : B ≤ w.heap.size) (hl : ks.length ≤ 1099511627776) (hb : Blk w g 9 #[.string (bs kid)]) :
    Calls Tryd.prog 20 #[.slice A ks.length c, .func (.func 21) #[] #[.pointer (some ⟨g, 0, none⟩)]] w fun e w' => (∃ z, e = .returned (.int .i64 z) ∧ idxP ks kid z) ∧ Below w.heap.size w w' := by
  have eg : ∀ args w, (callFunc 21 args).run Tryd.prog w = .ok (.enter 21 args) w := enters_of Tryd.func21 (by kernel_rfl) rfl
  have huj := Tryd.underlying37
  obtain ⟨n, hn⟩ : ∃ n, n = ks.length := ⟨_, rfl⟩
  have HN := Lib.hid hn
  have HR := Lib.hid hr
  have HBK := Lib.hid hb
  have HBB := Lib.hid hB
  have HL := Lib.hid (show (n : Int) ≤ 1099511627776 by omega)
  have HR0 := Lib.hid (Below.refl w.heap.size w)
  rw [← hn]
  clear hr hl hn hB hb
  go_enter Tryd.func20, Tryd.ntmps20
  go_wp2_with fail
  go_loopw [8] (fun x wr => ∃ i : Nat, i ≤ n ∧ x = .int .i64 (i : Int) ∧ (∀ k ∈ ks.take i, k.1 ≠ kid) ∧ Below w.heap.size w wr) (fun x _ => n - (intOf x).toNat)
  case atStart => exact ⟨0, Nat.zero_le _, rfl, by simp, HR0.out⟩
  case round =>
    obtain ⟨i, hi, rfl, hok, hbw⟩ := hrel
    have HOK := Lib.hid hok
    have HBW := Lib.hid hbw
    clear hok hbw
    have hns := HL.out
    by_cases hlt : i < n
    · have hil : i < ks.length := by rw [← HN.out]; exact hlt
      have hlt' : (i : Int) < (n : Int) := by omega
      obtain ⟨ad, hA, hadb, hcell⟩ := rd_rows (f := kCell) (m := 2) (fun _ => rfl) (by decide) (HR.out.below (HBW.out.mono HBB.out)) hil
      subst hA
      obtain ⟨X, hX⟩ : ∃ X, X = ks[i] := ⟨_, rfl⟩
      rw [← hX] at hcell
      have HCL := Lib.hid (show ∀ j u, (kCell X).toList[j]? = some u → wr.cell? ((ad.add (i * 2)).add j) = some u from fun j u hu => hcell j u (by simpa using hu))
      have HC := Lib.hid (find1_any X kid g wr (HBK.out.below HBW.out HBK.out.lt))
      have HLT := Lib.hid hlt
      by_cases hq : X.1 = kid
      · rw [decide_eq_true hq] at HC
        have HP := Lib.hid (show idxP ks kid (i : Int) from .inr ⟨i, rfl, hil, by rw [← hX]; exact hq, HOK.out⟩)
        clear hX hcell hadb hil hlt hq
        go_wp2_with (first
          | refine wpList_get_rd (r := (kCell X).toList) HCL.out rfl rfl rfl huj rfl jk_size ?_
          | (go_at_call 21; refine calls_then HC.out ?_; rintro e W' ⟨rfl, hb'⟩; have HB' := Lib.hid hb'; clear hb'))
        go_ret
        exact ⟨⟨_, rfl, HP.out⟩, HBW.out.trans (HB'.out.mono HBW.out.size)⟩
      · rw [decide_eq_false hq] at HC
        have HP := Lib.hid (show ∀ k ∈ ks.take (i + 1), k.1 ≠ kid from fun k hk => by
          rw [List.take_succ_eq_append_getElem hil, List.mem_append] at hk
          rcases hk with hk | hk
          · exact HOK.out k hk
          · have e : k = X := by rw [hX]; simpa using hk
            rw [e]
            exact hq)
        clear hX hcell hadb hil hlt hq
        go_wp2_with (first
          | refine wpList_get_rd (r := (kCell X).toList) HCL.out rfl rfl rfl huj rfl jk_size ?_
          | (go_at_call 21; refine calls_then HC.out ?_; rintro e W' ⟨rfl, hb'⟩; have HB' := Lib.hid hb'; clear hb'))
        go_roundw
        case rel => exact ⟨i + 1, HLT.out, by go_num, HP.out, HBW.out.trans (HB'.out.mono HBW.out.size)⟩
        case measure => have := HLT.out; simp [intOf]; omega
    · obtain rfl : i = n := by omega
      have HP := Lib.hid (show idxP ks kid (-1) from .inl ⟨rfl, fun k hk => HOK.out k (by rw [HN.out, List.take_length]; exact hk)⟩)
      go_wp2_with fail
      go_ret
      exact ⟨⟨_, rfl, HP.out⟩, HBW.out⟩
theorem idx_hit {ks : List (Bs × Bs)} {kid : Bs} {z : Int} (h : idxP ks kid z) : (z = -1 ∧ findB ks kid = ([], 11)) ∨ ∃ i : Nat, z = (i : Int) ∧ ∃ h : i < ks.length, findB ks kid = (ks[i].2, 0) := by
  rcases h with ⟨rfl, h⟩ | ⟨i, rfl, h, h1, h2⟩
  · exact .inl ⟨rfl, findB_no h⟩
  · exact .inr ⟨i, rfl, h, findB_hit h h2 h1⟩
set_option maxHeartbeats 4000000 in
theorem jfind_any (dom : Bs) (num : Int) (ks : List (Bs × Bs)) (kid : Bs) (A : Option Addr) (c B : Nat) (w : World) (hr : Rd w B A (rowsV kCell ks)) (hB : B ≤ w.heap.size) (hl : ks.length ≤ 1099511627776) :
    Calls Tryd.prog 13 #[.agg #[.string (bs dom), .int .i64 num, .slice A ks.length c], .string (bs kid)] w fun e w' => e = .returned (.tuple #[.string (bs (findB ks kid).1), .int .i64 (findB ks kid).2]) ∧ Below w.heap.size w w' := by
  have hmf : ∀ (fn : Fn) (first cap : Array Value) (u : World), (Instr.makeFunc fn first cap).run Tryd.prog u = .ok (.func fn first cap) u := fun _ _ _ _ => rfl
  obtain ⟨W0, hW0⟩ : ∃ W0, W0 = (w.alloc (.cells #[.string (bs dom), .int .i64 num, .slice A ks.length c] 28)).alloc (.cells #[.string (bs kid)] 9) := ⟨_, rfl⟩
  have HB0 := Lib.hid (show Below w.heap.size w W0 by rw [hW0]; exact ((Below.refl _ w).alloc (Nat.le_refl _) _).alloc (by simp) _)
  have HK := Lib.hid (show Blk W0 w.heap.size 28 #[.string (bs dom), .int .i64 num, .slice A ks.length c] by rw [hW0]; exact (Blk.new _ _ _).alloc _)
  have HS := Lib.hid (show Blk W0 (w.heap.size + 1) 9 #[.string (bs kid)] by rw [hW0]; have := Blk.new (w.alloc (.cells #[.string (bs dom), .int .i64 num, .slice A ks.length c] 28)) 9 #[.string (bs kid)]; simpa using this)
  have HW0 := Lib.hid hW0
  have HR := Lib.hid (hr.below (HB0.out.mono hB))
  have HBB := Lib.hid hB
  have HL := Lib.hid hl
  have hbw : B ≤ W0.heap.size := Nat.le_trans hB HB0.out.size
  have HC := Lib.hid (idxf2_any ks kid A c B (w.heap.size + 1) W0 HR.out hbw hl HS.out)
  have a2 : W0.cell? ⟨w.heap.size, 2, none⟩ = some (.slice A ks.length c) := HK.out.cell 2
  have HWS := Lib.hid (show W0.heap.size = w.heap.size + 2 by rw [hW0]; simp)
  obtain ⟨n, hn⟩ : ∃ n, n = ks.length := ⟨_, rfl⟩
  rw [← hn] at HC a2 HK HW0 ⊢
  have HN := Lib.hid hn
  clear hW0 hr hB hl hbw hn
  go_enter Tryd.func13, Tryd.ntmps13
  go_upto_region 1 with (fail)
  rw [← HW0.out]
  go_wp2_with fail
  refine calls_then HC.out ?_
  rintro e u1 ⟨⟨z, rfl, hz⟩, hb1⟩
  have HB1 := Lib.hid (HB0.out.trans (hb1.mono HB0.out.size))
  have b2 : u1.cell? ⟨w.heap.size, 2, none⟩ = some (.slice A n c) := (HK.out.below hb1 HK.out.lt).cell 2
  have hr1 := HR.out.below (hb1.mono (Nat.le_trans HBB.out HB0.out.size))
  rcases idx_hit hz with ⟨rfl, hf⟩ | ⟨i, rfl, hil, hf⟩
  · have HF := Lib.hid hf
    clear a2 hb1 hz hr1 hf
    go_wp2_with fail
    go_ret2
    exact ⟨by rw [HF.out]; rfl, HB1.out⟩
  · obtain ⟨ad, hA, hadb, hcell⟩ := rd_rows (f := kCell) (m := 2) (fun _ => rfl) (by decide) hr1 hil
    subst hA
    have h0 : u1.cell? ⟨(ad.add (i * 2)).block, (ad.add (i * 2)).off + 1, none⟩ = some (.string (bs ks[i].2)) := hcell 1 _ rfl
    obtain ⟨X, hX⟩ : ∃ X, X = ks[i].2 := ⟨_, rfl⟩
    rw [← hX] at h0 hf
    have HF := Lib.hid hf
    have hilt : i < n := by rw [HN.out]; exact hil
    have hiltZ : (i : Int) < (n : Int) := by omega
    have hnm : (n : Int) ≤ 1099511627776 := by have := HN.out; have := HL.out; omega
    clear a2 hb1 hz hr1 hf hcell hadb hX hil
    go_wp2_with fail
    go_ret2
    exact ⟨by rw [HF.out]; rfl, HB1.out⟩
end Go.Proofs.YtlkikjeccamheaaDoor.Js
/-
  Laws of my own: rows of structs that the call owns and may write to.
-/
namespace Go.Proofs.YtlkikjeccamheaaDoor
set_option linter.unusedSimpArgs false
set_option linter.unusedVariables false
open Go.RowKit
def OwnR (w : World) (base : Nat) (e : TypeId) (size : Nat) (A : Option Addr) (c : Nat) (n : Nat) (xs : List Value) : Prop := w.ownsRow base e size (.slice A n c) n xs
section
variable {w w' : World} {base : Nat} {e : TypeId} {size : Nat} {A : Option Addr} {c n : Nat} {xs : List Value}
theorem OwnR.x (h : OwnR w base e size A c n xs) : OwnX w base e size (.slice A n c) n xs := .of h
theorem OwnR.nil (w : World) (base : Nat) (e : TypeId) (size : Nat) : OwnR w base e size none 0 0 [] := ⟨by simp, .inl ⟨rfl, rfl⟩⟩
theorem OwnR.cap (h : OwnR w base e size A c n xs) : n ≤ c := by
  rcases h.2 with ⟨h1, h2⟩ | ⟨g, cap, cur, h1, h2, h3, h4, h5, h6, h7⟩
  · omega
  · injection h1 with e1 e2 e3
    omega
theorem OwnR.capm (h : OwnR w base e size A c n xs) : c ≤ maxLen := by
  rcases h.2 with ⟨h1, h2⟩ | ⟨g, cap, cur, h1, h2, h3, h4, h5, h6, h7⟩
  · injection h1 with e1 e2 e3
    unfold maxLen
    omega
  · injection h1 with e1 e2 e3
    omega
theorem OwnR.lt (h : OwnR w base e size A c n xs) : ∀ k, (Value.slice A n c).ownBlock = some k → base ≤ k ∧ k < w.heap.size := h.x.lt
theorem OwnR.mono {base' : Nat} (h : OwnR w base e size A c n xs) (hb : base' ≤ base) : OwnR w base' e size A c n xs := by
  refine ⟨h.1, ?_⟩
  rcases h.2 with h0 | ⟨g, cap, cur, h1, h2, h3⟩
  · exact .inl h0
  · exact .inr ⟨g, cap, cur, h1, by omega, h3⟩
theorem OwnR.heap (h : OwnR w base e size A c n xs) (hk : ∀ k cs, w.heap[k]? = some (.cells cs e (0, 0)) → base ≤ k → w'.heap[k]? = some (.cells cs e (0, 0))) : OwnR w' base e size A c n xs := by
  refine ⟨h.1, ?_⟩
  rcases h.2 with h0 | ⟨g, cap, cur, h1, h2, h3, h4⟩
  · exact .inl h0
  · exact .inr ⟨g, cap, cur, h1, h2, hk _ _ h3 h2, h4⟩
theorem OwnR.keep {f : TypeId} (h : OwnR w base e size A c n xs) (hk : KeepBut f w w') (ht : e ≠ f) : OwnR w' base e size A c n xs := h.heap fun k cs h1 _ => heap_keep hk ht h1
theorem OwnR.alloc (h : OwnR w base e size A c n xs) (o : Obj) : OwnR (w.alloc o) base e size A c n xs := h.heap fun k cs h1 _ => (Below.heap_alloc w o k (Array.getElem?_eq_some_iff.1 h1).1).trans h1
theorem OwnR.below (h : OwnR w base e size A c n xs) (hb : Below w.heap.size w w') : OwnR w' base e size A c n xs := h.heap fun k cs h1 _ => (hb.block k (Array.getElem?_eq_some_iff.1 h1).1).trans h1
theorem OwnR.row (h : OwnR w base e size A c n xs) : Row w w.heap.size e A xs := .of_own h.x
end
theorem KeepBut.refl (e : TypeId) (w : World) : KeepBut e w w := ⟨Nat.le_refl _, fun _ _ _ _ _ h => h⟩
theorem KeepBut.trans {e : TypeId} {a b c : World} (h : KeepBut e a b) (h' : KeepBut e b c) : KeepBut e a c := ⟨Nat.le_trans h.1 h'.1, fun k cs t fz ht hk => h'.2 k cs t fz ht (h.2 k cs t fz ht hk)⟩
theorem KeepBut.of_below {e : TypeId} {a b : World} (h : Below a.heap.size a b) : KeepBut e a b := ⟨h.size, fun k cs t fz _ hk => (h.block k (Array.getElem?_eq_some_iff.1 hk).1).trans hk⟩
theorem KeepBut.of_wrote {e : TypeId} {a b : World} {g : Nat} {cs : Array Value} (h : Wrote g a b) (hb : Blk a g e cs) : KeepBut e a b := ⟨h.grown.size, fun k cs' t fz ht hk => by
  refine (h.grown.block k (Array.getElem?_eq_some_iff.1 hk).1 (fun hg => ?_)).trans hk
  injection hg with hg
  subst hg
  unfold Blk at hb
  rw [hb] at hk
  injection hk with hk
  injection hk with h1 h2
  exact ht h2.symm⟩
section
variable {P : Program}
theorem run_append_r {w : World} {t ty e : TypeId} {size bytes : Nat} (T : SlT P t e size bytes) {base n c : Nat} {A : Option Addr} {xs : List Value} (hown : OwnR w base e size A c n xs)
    {Ad : Option Addr} {m cx : Nat} {news : List Value} (hl : news.length = m * size) (hnews : ∀ j u, news[j]? = some u → ∃ ad, Ad = some ad ∧ w.cell? (ad.add j) = some u) (h1 : ∀ u ∈ news, u.oneCell' = true)
    (h63 : n + m ≤ maxLen) (hbytes : (n + m) * bytes ≤ 140737488355328) (hbase : base ≤ w.heap.size) :
    ∃ A' c' w', (Builtin.append_ #[t, t] ty #[.slice A n c, .slice Ad m cx]).run P w = .ok (.slice A' (n + m) c') w' ∧ OwnR w' base e size A' c' (n + m) (xs ++ news) ∧ w.grownBy w' (Value.slice A n c).ownBlock ∧ Next w (.slice A n c) (.slice A' (n + m) c') := by
  obtain ⟨i, z, hi, hz, hsz, hby, hzs⟩ := T.info
  by_cases hm : m = 0
  · subst hm
    have hnn : news = [] := List.eq_nil_of_length_eq_zero (by simpa using hl)
    subst hnn
    have hcap := hown.cap
    refine ⟨A, c, w, ?_, by simpa using hown, World.grownBy.refl _ _, .inl rfl⟩
    rcases hown.2 with ⟨h1, h2⟩ | ⟨g, cap, cur, h1, h2, h3, h4, h5, h6, h7⟩
    · injection h1 with e1 e2 e3
      subst e1 e2 e3
      cases Ad <;> simp [Builtin.append_, run_underlying T.und, sizeOf, typeInfo, hi, Builtin.lenOf, Builtin.firstCells, loadCells, loadCellsFrom]
    · injection h1 with e1 e2 e3
      subst e1 e3
      cases Ad <;> simp [Builtin.append_, run_underlying T.und, sizeOf, typeInfo, hi, Builtin.lenOf, Builtin.firstCells, loadCells, loadCellsFrom, hcap, storeCells]
  · have hpos : 0 < news.length := by rw [hl]; exact Nat.mul_pos (by omega) T.pos
    obtain ⟨ad, rfl, _⟩ := hnews 0 _ (List.getElem?_eq_getElem hpos)
    have hcells : ∀ j u, news[j]? = some u → w.cell? (ad.add j) = some u := fun j u hu => by
      obtain ⟨ad', he, hc⟩ := hnews j u hu
      injection he with he
      subst he
      exact hc
    obtain ⟨v', w', hr, h2, h3, _, h5⟩ := run_append_own_at (P := P) w base t ty e i z size bytes T.und hi hz hsz hby hzs T.pos (.slice A n c) n xs hown ad m cx news hl hcells h1 h63 hbytes hbase
    have hn : Next w (.slice A n c) v' := by
      rcases h5 with h5 | h5
      · exact .inl h5
      · exact .inr fun k hk => by rw [h5] at hk; simp at hk; omega
    have hv : ∃ A' c', v' = .slice A' (n + m) c' := by
      rcases h2.2 with ⟨_, h0⟩ | ⟨g, cap, cur, rfl, _⟩
      · omega
      · exact ⟨_, _, rfl⟩
    obtain ⟨A', c', rfl⟩ := hv
    exact ⟨A', c', w', hr, h2, h3, hn⟩
theorem wpList_append_r {w : World} {ops : Array Oper} {rest : List Oper} {o : Oper} {a : Act} {Q : Exit → Act → World → Prop} {sl x : Operand} {t e : TypeId} {size bytes : Nat} (T : SlT P t e size bytes)
    (hgd : o.guard = none) (ho : o.op = .call { callee := .builtin .append, args := #[sl, x], argTypes := #[t, t] })
    {base n c B : Nat} {A : Option Addr} {xs : List Value} {Ad : Option Addr} {m cx : Nat} {news : List Value} (hown : OwnR w base e size A c n xs) (hs : a.eval sl = .slice A n c) (hx : a.eval x = .slice Ad m cx)
    (hl : news.length = m * size) (hr : Rd w B Ad news) (h1 : ∀ u ∈ news, u.oneCell' = true)
    (h63 : n + m ≤ maxLen) (hbytes : (n + m) * bytes ≤ 140737488355328) (hbase : base ≤ w.heap.size)
    (h : ∀ A' c' w', OwnR w' base e size A' c' (n + m) (xs ++ news) → w.grownBy w' (Value.slice A n c).ownBlock → Next w (.slice A n c) (.slice A' (n + m) c') → wpList P ops Q rest (a.put o.dst (.slice A' (n + m) c')) w') :
    wpList P ops Q (o :: rest) a w := by
  obtain ⟨A', c', w', hrun, h2, h3, h4⟩ := run_append_r (ty := o.type) (cx := cx) T hown hl (fun j u hu => by
    obtain ⟨ad, h1, _, h3⟩ := hr j u hu
    exact ⟨ad, h1, h3⟩) h1 h63 hbytes hbase
  refine wpList_of_append (R := fun v' w1 => v' = .slice A' (n + m) c' ∧ w1 = w') hgd ho hs hx ⟨_, _, hrun, rfl, rfl⟩ ?_
  rintro v' w1 ⟨rfl, rfl⟩
  exact h _ _ _ h2 h3 h4
theorem wpList_append_r1 {w0 : World} {ys : List Value} {ops : Array Oper} {rest : List Oper} {o : Oper} {a : Act} {Q : Exit → Act → World → Prop} {s x : Operand} {t e : TypeId} {size bytes : Nat} (T : SlT P t e size bytes)
    (hgd : o.guard = none) (ho : o.op = .call { callee := .builtin .append, args := #[s, x], argTypes := #[t, t] })
    {base n c ad : Nat} {A : Option Addr} {xs : List Value} (hown : OwnR w0 base e size A c n xs) (hs : a.eval s = .slice A n c) (hx : a.eval x = .slice (some ⟨ad, 0, none⟩) 1 1) (had : ad = w0.heap.size) (hm : ys.length = size)
    (hy : ∀ u ∈ ys, u.oneCell' = true)
    (h63 : n + 1 ≤ maxLen) (hbytes : (n + 1) * bytes ≤ 140737488355328) (hbase : base ≤ w0.heap.size)
    (h : ∀ A' c' w', OwnR w' base e size A' c' (n + 1) (xs ++ ys) → w0.grownBy w' (Value.slice A n c).ownBlock → Next w0 (.slice A n c) (.slice A' (n + 1) c') → wpList P ops Q rest (a.put o.dst (.slice A' (n + 1) c')) w') :
    wpList P ops Q (o :: rest) a (w0.alloc (.cells ys.toArray e)) := by
  subst had
  obtain ⟨A', c', w', hrun, h2, h3, h4⟩ := run_append_r (ty := o.type) (cx := 1) (Ad := some ⟨w0.heap.size, 0, none⟩) T (hown.alloc (.cells ys.toArray e)) (news := ys) (m := 1) (by omega) (fun j u hu => ⟨_, rfl, by
    have hadd : (⟨w0.heap.size, 0, none⟩ : Addr).add j = ⟨w0.heap.size, j, none⟩ := by unfold Addr.add; split <;> simp_all
    rw [hadd, cell_of_row _ _ _ _ _ (0, 0) (heap_alloc_new w0 _)]
    simpa using hu⟩) hy h63 hbytes (by simp; omega)
  refine wpList_of_append (R := fun v' w1 => v' = .slice A' (n + 1) c' ∧ w1 = w') hgd ho hs hx ⟨_, _, hrun, rfl, rfl⟩ ?_
  rintro v' w1 ⟨rfl, rfl⟩
  exact h _ _ _ h2 ((World.grownBy_alloc w0 _ _).trans h3) (h4.back (by simp))
end
end Go.Proofs.YtlkikjeccamheaaDoor
/-
  The law JwkNames.
-/
namespace Go.Proofs.YtlkikjeccamheaaDoor.Js
set_option linter.unusedSimpArgs false
set_option linter.unusedVariables false
open Go.RowKit

theorem digS32_len2 (d : List UInt8) : (Sh.digS Sh.F32 d).length = 32 := by
  unfold Sh.digS
  generalize Sh.runS Sh.F32 (Sh.padS Sh.F32 d) ((Sh.padS Sh.F32 d).length / (2 * Sh.F32.bits)) = s
  simp [Sh.s8L, Sh.wordB_length, Sh.F32]
theorem rd_take {w : World} {B : Nat} {A : Option Addr} {l : List UInt8} (h : Rd w B A (bytesV l)) (n : Nat) : Rd w B A (bytesV (l.take n)) := fun i u hu => by
  have e : bytesV (l.take n) = (bytesV l).take n := by simp [bytesV, List.map_take]
  rw [e, List.getElem?_take] at hu
  split at hu
  · exact h i u hu
  · cases hu
theorem names_tail (l : List UInt8) (hl : l.length ≤ 100) (A : Option Addr) (c : Nat) (w : World) (hr : Rd w w.heap.size A (bytesV l)) (hc : l.length ≤ c) (hcm : c ≤ 9223372036854775807) (hG : Sh.TabG w) :
    Calls Tryd.prog 6 #[.slice A l.length c] w (fun e w' => e = .returned (.string (nameS l)) ∧ Below w.heap.size w w') ∧
    (∀ u, Below w.heap.size w u → Calls Tryd.prog 7 #[.slice A l.length c] u (fun e w' => e = .returned (.string (nameS l)) ∧ Below u.heap.size u w')) :=
  ⟨jname_any l (by omega) A c w hr hc hcm hG, fun u hu => rname_any l (by omega) A c u (rd_lift hr hu) hc (digS32_len2 l)⟩
set_option maxRecDepth 100000 in
set_option maxHeartbeats 4000000 in
theorem jwkNames_any (l : List UInt8) (A : Option Addr) (c : Nat) (w : World) (hr : Rd w w.heap.size A (bytesV l)) (hc : l.length ≤ c) (hcm : c ≤ 9223372036854775807) (hG : Sh.TabG w) :
    Calls Tryd.prog 3 #[.slice A l.length c] w fun e w' => e = .returned (.bool true) ∧ Below w.heap.size w w' := by
  have HL := Lib.hid jlives_any
  by_cases h100 : 100 < l.length
  · have hlt : (l.take 100).length = 100 := by simp; omega
    have CT := Lib.hid (names_tail (l.take 100) (by omega) A c w (rd_take hr 100) (by omega) hcm hG)
    rw [hlt] at CT
    obtain ⟨N, hN⟩ : ∃ N, N = nameS (l.take 100) := ⟨_, rfl⟩
    rw [← hN] at CT
    obtain ⟨n, hn⟩ : ∃ n, n = l.length := ⟨_, rfl⟩
    rw [← hn] at h100 hc ⊢
    have h1 : (100 : Int) < (n : Int) := by omega
    have h2 : (100 : Int) ≤ (c : Int) := by omega
    have HE := Lib.hid (show (N.toList == N.toList) = true by simp)
    clear hN hn hr hlt hG
    go_enter Tryd.func3, Tryd.ntmps3
    go_wp2_with fail
    refine calls_then CT.out.1 ?_
    rintro e u1 ⟨rfl, hb1⟩
    have HB1 := Lib.hid hb1
    go_wp2_with fail
    refine calls_then (CT.out.2 _ HB1.out) ?_
    rintro e u2 ⟨rfl, hb2⟩
    have HB2 := Lib.hid (HB1.out.trans (hb2.mono HB1.out.size))
    have he := HE.out
    clear hb1 hb2
    go_wp2_with fail
    refine calls_then (HL.out _) ?_
    rintro e u3 ⟨rfl, hb3⟩
    have HB3 := Lib.hid (HB2.out.trans (hb3.mono HB2.out.size))
    clear hb3
    go_wp2_with fail
    go_ret
    exact ⟨rfl, HB3.out⟩
  · have CT := Lib.hid (names_tail l (by omega) A c w hr hc hcm hG)
    obtain ⟨N, hN⟩ : ∃ N, N = nameS l := ⟨_, rfl⟩
    rw [← hN] at CT
    obtain ⟨n, hn⟩ : ∃ n, n = l.length := ⟨_, rfl⟩
    rw [← hn] at h100 hc CT ⊢
    have h1 : ¬ (100 : Int) < (n : Int) := by omega
    have HE := Lib.hid (show (N.toList == N.toList) = true by simp)
    clear hN hn hr hG
    go_enter Tryd.func3, Tryd.ntmps3
    go_wp2_with fail
    refine calls_then CT.out.1 ?_
    rintro e u1 ⟨rfl, hb1⟩
    have HB1 := Lib.hid hb1
    go_wp2_with fail
    refine calls_then (CT.out.2 _ HB1.out) ?_
    rintro e u2 ⟨rfl, hb2⟩
    have HB2 := Lib.hid (HB1.out.trans (hb2.mono HB1.out.size))
    have he := HE.out
    clear hb1 hb2
    go_wp2_with fail
    refine calls_then (HL.out _) ?_
    rintro e u3 ⟨rfl, hb3⟩
    have HB3 := Lib.hid (HB2.out.trans (hb3.mono HB2.out.size))
    clear hb3
    go_wp2_with fail
    go_ret
    exact ⟨rfl, HB3.out⟩
end Go.Proofs.YtlkikjeccamheaaDoor.Js
/-
  A law of my own: '[]byte(s)', s a string.
-/
namespace Go.Proofs.YtlkikjeccamheaaDoor
set_option linter.unusedSimpArgs false
set_option linter.unusedVariables false
open Go.RowKit
section
variable {P : Program}
theorem rd_bytesRow (w : World) (s : ByteArray) (cap : Nat) (e : TypeId) (f : Nat × Nat) (u : World) (hu : u = w.alloc (.cells (bytesRow s cap) e f)) : Rd u u.heap.size (some ⟨w.heap.size, 0, none⟩) (bytesV s.data.toList) := by
  subst hu
  intro i v hv
  have hlt : i < s.data.size := by
    have := (List.getElem?_eq_some_iff.1 hv).1
    simpa [bytesV] using this
  refine ⟨_, rfl, by simp, ?_⟩
  have hadd : (⟨w.heap.size, 0, none⟩ : Addr).add i = ⟨w.heap.size, i, none⟩ := by unfold Addr.add; split <;> simp_all
  have hg : (w.alloc (.cells (bytesRow s cap) e f)).heap[w.heap.size]? = some (.cells (bytesRow s cap) e f) := by
    show (w.heap.push _)[w.heap.size]? = _
    simp
  rw [hadd, cell_of_row _ _ _ _ _ f hg, bytesRow, Array.getElem?_append_left (by simpa using hlt)]
  rw [bytesV, List.getElem?_map, Array.getElem?_toList] at hv
  rw [Array.getElem?_map]
  exact hv
theorem wpList_bytes_of {w : World} {ops : Array Oper} {rest : List Oper} {o : Oper} {a : Act} {Q : Exit → Act → World → Prop} {src dst e : TypeId} {x : Operand} {s : ByteArray}
    (hs : P.underlying src = some .string) (hd : P.underlying dst = some (.slice e)) (he : P.underlying e = some (.int .u8))
    (hgd : o.guard = none) (ho : o.op = .convert src dst x) (hx : a.eval x = .string s)
    (h : ∀ A c w', Rd w' w'.heap.size A (bytesV s.data.toList) → s.size ≤ c → Below w.heap.size w w' → wpList P ops Q rest (a.put o.dst (.slice A s.size c)) w') : wpList P ops Q (o :: rest) a w := by
  refine wpList_plain hgd fun K hK => ?_
  have hrun := run_bytes_of_string (P := P) w src dst e s hs hd he
  unfold Oper.wp execOp
  simp only [ho, hx]
  simp only [Sem.run_bind, hrun, Result.andThen_ok, Sem.run_pure]
  refine hK _ _ (h _ _ _ (rd_bytesRow w.drew s _ e _ _ rfl) (grownCap_ge w s.size 0 e) ?_)
  exact (Below.refl _ _).drew.alloc (Nat.le_refl _) _
end
end Go.Proofs.YtlkikjeccamheaaDoor
/-
  Walks: the law's few and cut.
-/
namespace Go.Proofs.YtlkikjeccamheaaDoor.Js
set_option linter.unusedSimpArgs false
set_option linter.unusedVariables false
open Go.RowKit

theorem bs_takem (t : Bs) (m : Nat) : (bs t).extract 0 m = bs (t.take m) := by
  apply ByteArray.ext
  simp [bs, ByteArray.data_extract]
set_option maxHeartbeats 2000000 in
theorem few_any (s : Bs) (m : Nat) (hs : (s.length : Int) ≤ 9223372036854775807) (w : World) :
    Calls Tryd.prog 12 #[.string (bs s), .int .i64 (m : Int)] w fun e w' => e = .returned (.string (bs (s.take m))) ∧ w' = w := by
  have hsz : ((bs s).size : Int) = (s.length : Int) := by rw [bs_size]
  have HS := Lib.hid hsz
  go_enter Tryd.func12, Tryd.ntmps12
  by_cases hl : m < s.length
  · have hl' : (m : Int) < ((bs s).size : Int) := by omega
    have hl2 : m ≤ (bs s).size := by omega
    clear hsz
    go_wp2_with fail
    go_ret
    exact ⟨by rw [← bs_takem]; rfl, rfl⟩
  · have hl' : ¬ (m : Int) < ((bs s).size : Int) := by omega
    have HT := Lib.hid (show s.take m = s from List.take_of_length_le (by omega))
    clear hsz
    go_wp2_with fail
    go_ret
    exact ⟨by rw [HT.out]; rfl, rfl⟩
def nameL (x : Bs) : Bs := nameK (Sh.digS Sh.F32 x) 4
theorem nameS_bs (x : Bs) : nameS x = bs (nameL x) := rfl
def cutK (k : Bs × Bs) : Bs × Bs := (if k.1.take 20 = [] then nameL (k.2.take 40) else k.1.take 20, k.2.take 40)
def zB : Array Value := #[.string ⟨#[]⟩, .int .i64 0, .slice none 0 0]
def bC (d : Bs) (n : Int) (A : Option Addr) (l c : Nat) : Array Value := #[.string (bs d), .int .i64 n, .slice A l c]
/-- the memory of the law's cut -/
structure Cb (w0 : World) (V R : Array Value) (A1 : Option Addr) (c1 : Nat) (ks : List (Bs × Bs)) (u : World) : Prop where
  low : Below w0.heap.size w0 u
  vbox : Blk u w0.heap.size 28 V
  res : Blk u (w0.heap.size + 1) 28 zB
  out : Blk u (w0.heap.size + 2) 28 R
  keys : OwnR u (w0.heap.size + 3) 37 2 A1 c1 ks.length (rowsV kCell ks)
section
variable {w0 : World} {V R : Array Value} {A1 : Option Addr} {c1 : Nat} {ks : List (Bs × Bs)} {u u' : World}
theorem Cb.size (h : Cb w0 V R A1 c1 ks u) : w0.heap.size + 3 ≤ u.heap.size := h.out.lt
theorem Cb.new (h : Cb w0 V R A1 c1 ks u) (hb : Below u.heap.size u u') : Cb w0 V R A1 c1 ks u' :=
  ⟨h.low.trans (hb.mono (by have := h.size; omega)), h.vbox.below hb h.vbox.lt, h.res.below hb h.res.lt, h.out.below hb h.out.lt, h.keys.below hb⟩
theorem Cb.put {R' : Array Value} (h : Cb w0 V R A1 c1 ks u) (hw : Wrote (w0.heap.size + 2) u u') (ht : Blk u' (w0.heap.size + 2) 28 R') : Cb w0 V R' A1 c1 ks u' := by
  have hs := h.size
  have hk : ∀ b, b < u.heap.size → w0.heap.size + 3 ≤ b → u'.heap[b]? = u.heap[b]? := fun b hb hl => hw.grown.block b hb (by intro h; injection h with h; omega)
  have hlt : ∀ {k cs t}, u.heap[k]? = some (.cells cs t (0, 0)) → k < u.heap.size := fun hq => (Array.getElem?_eq_some_iff.1 hq).1
  exact ⟨hw.below h.low (by omega) (by omega), hw.blk h.vbox (by omega), hw.blk h.res (by omega), ht, h.keys.heap fun k cs hq hl => (hk k (hlt hq) hl).trans hq⟩
theorem ownR_put {w w' : World} {base : Nat} {e : TypeId} {size : Nat} {A : Option Addr} {c n g : Nat} {xs : List Value} (h : OwnR w base e size A c n xs) (hw : Wrote g w w') (hne : ∀ k, (Value.slice A n c).ownBlock = some k → k ≠ g) : OwnR w' base e size A c n xs := by
  refine ⟨h.1, ?_⟩
  rcases h.2 with h0 | ⟨g', cap, cur, h1, h2, h3, h4⟩
  · exact .inl h0
  · have hn : g' ≠ g := hne g' (by rw [h1]; rfl)
    exact .inr ⟨g', cap, cur, h1, h2, (hw.grown.block g' (Array.getElem?_eq_some_iff.1 h3).1 (by intro he; injection he with he; exact hn he)).trans h3, h4⟩
theorem Cb.wrote {g : Nat} (h : Cb w0 V R A1 c1 ks u) (hw : Wrote g u u') (hg : w0.heap.size + 3 ≤ g) (hne : ∀ k, (Value.slice A1 ks.length c1).ownBlock = some k → k ≠ g) : Cb w0 V R A1 c1 ks u' :=
  ⟨hw.below h.low (by omega) (by have := h.size; omega), hw.blk h.vbox (by omega), hw.blk h.res (by omega), hw.blk h.out (by omega), ownR_put h.keys hw hne⟩
theorem Cb.add {k : Bs × Bs} {A' : Option Addr} {c' : Nat} (h : Cb w0 V R A1 c1 ks u) (ho : OwnR u' (w0.heap.size + 3) 37 2 A' c' (ks.length + 1) (rowsV kCell ks ++ (kCell k).toList)) (hg : u.grownBy u' (Value.slice A1 ks.length c1).ownBlock) :
    Cb w0 V R A' c' (ks ++ [k]) u' := by
  have hs := h.size
  have hne : ∀ k, k < w0.heap.size + 3 → some k ≠ (Value.slice A1 ks.length c1).ownBlock := fun k hk he => by have := (h.keys.lt k he.symm).1; omega
  exact ⟨h.low.grown hg (by omega) (fun k hk => by have := (h.keys.lt k hk).1; omega), h.vbox.grown hg (hne _ (by omega)), h.res.grown hg (hne _ (by omega)), h.out.grown hg (hne _ (by omega)), by rw [rowsV_append, rowsV_one, List.length_append]; exact ho⟩
end
theorem jb_size : (Tryd.prog.info? 28).map (·.size) = some 3 := by kernel_rfl
theorem sl_jwks : SlT Tryd.prog 26 37 2 32 := SlT.mk1 (z := .agg #[.string ⟨#[]⟩, .string ⟨#[]⟩]) Tryd.underlying26 (by kernel_rfl) rfl (by decide)
theorem ownR_rds2 {w : World} {base : Nat} {e : TypeId} {size : Nat} {A : Option Addr} {c n : Nat} {xs : List Value} (h : OwnR w base e size A c n xs) : RdS w (fun b => base ≤ b) A xs := fun i u hu => by
  obtain ⟨ad, h1, h2, h3⟩ := Rd.of_own h.x (Nat.le_refl _) i u hu
  refine ⟨ad, h1, ?_, h3⟩
  exact (h.lt ad.block (by rw [h1]; rfl)).1
/-- what cut gives -/
def CutPost (D : Bs) (num : Int) (ks : List (Bs × Bs)) (w : World) (e : Ending) (w' : World) : Prop :=
  ∃ (A' : Option Addr) (c' : Nat), e = .returned (.agg (bC (D.take 30) num A' ((ks.take 10).map cutK).length c')) ∧ Below w.heap.size w w' ∧ RdS w' (fun b => w.heap.size ≤ b) A' (rowsV kCell ((ks.take 10).map cutK))
set_option maxRecDepth 100000 in
set_option maxHeartbeats 4000000 in
theorem jcut_any (D : Bs) (num : Int) (ks : List (Bs × Bs)) (A : Option Addr) (c B : Nat) (w : World) (hr : Rd w B A (rowsV kCell ks)) (hB : B ≤ w.heap.size) (hD : (D.length : Int) ≤ 9223372036854775807) (hl : (ks.length : Int) ≤ 9223372036854775807)
    (hk : ∀ k ∈ ks, (k.1.length : Int) ≤ 9223372036854775807 ∧ (k.2.length : Int) ≤ 9223372036854775807) :
    Calls Tryd.prog 9 #[.agg (bC D num A ks.length c)] w (CutPost D num ks w) := by
  have hub := Tryd.underlying28
  obtain ⟨G, hG⟩ : ∃ G, G = w.heap.size := ⟨_, rfl⟩
  obtain ⟨W1, hW1⟩ : ∃ W1, W1 = (w.alloc (.cells (bC D num A ks.length c) 28)).alloc (.cells zB 28) := ⟨_, rfl⟩
  have hb1 : Below w.heap.size w W1 := by rw [hW1]; exact ((Below.refl _ w).alloc (Nat.le_refl _) _).alloc (by simp) _
  have HB1 := Lib.hid hb1
  have HK1 := Lib.hid (show Blk W1 w.heap.size 28 (bC D num A ks.length c) by rw [hW1]; exact (Blk.new _ _ _).alloc _)
  have HZ1 := Lib.hid (show Blk W1 (w.heap.size + 1) 28 zB by rw [hW1]; have := Blk.new (w.alloc (.cells (bC D num A ks.length c) 28)) 28 zB; simpa using this)
  have HS1 := Lib.hid (show W1.heap.size = w.heap.size + 2 by rw [hW1]; simp)
  have HR := Lib.hid hr
  have HBB := Lib.hid hB
  have HKK := Lib.hid hk
  have HF := Lib.hid few_any
  have HW1 := Lib.hid hW1
  obtain ⟨n, hn⟩ : ∃ n, n = ks.length := ⟨_, rfl⟩
  rw [← hn] at HK1 HW1 hl ⊢
  have HN := Lib.hid hn
  clear hW1 hb1 hr hB hk hG hn
  go_enter Tryd.func9, Tryd.ntmps9
  go_upto_region 1 with (fail)
  rw [show ((w.alloc (.cells (bC D num A n c) 28)).alloc (.cells #[.string ⟨#[]⟩, .int .i64 0, .slice none 0 0] 28)) = W1 from HW1.out.symm]
  generalize Value.agg (bC D num A n c) = AV
  have HC0 : Below W1.heap.size W1 W1.drew := (Below.refl _ _).drew
  have HI0 : W1.drew.heap.size = w.heap.size + 2 := HS1.out
  refine wp_region_list (fun u => Below W1.heap.size W1 u) (fun | false => (fun u => u.heap.size = w.heap.size + 2) | true => (fun _ => True)) (fun | false, i => i == 6 || i == 7 | true, _ => false)
    [fun z _ => z 0 = .pointer (some ⟨w.heap.size, 0, none⟩),
     fun z _ => z 1 = .string (bs D),
     fun z _ => z 2 = .string (bs (D.take 30)),
     fun z _ => z 3 = .pointer (some ⟨w.heap.size, 1, none⟩),
     fun z _ => z 4 = .int .i64 num,
     fun z _ => z 5 = .agg (bC (D.take 30) num none 0 0),
     fun z u => z 6 = .pointer (some ⟨w.heap.size + 2, 0, none⟩) ∧ Blk u (w.heap.size + 2) 28 zB,
     fun z u => z 6 = .pointer (some ⟨w.heap.size + 2, 0, none⟩) ∧ Blk u (w.heap.size + 2) 28 (bC (D.take 30) num none 0 0)]
    [Eq, Eq, Eq, Eq, Eq, Eq, fun u u' => Below u.heap.size u u', fun _ _ => True]
    (fun i k => (i == 7 && k == 6)) [(0, some 6), (1, some 7), (2, some 8), (3, some 9), (4, some 10), (5, some 11), (6, some 3), (7, none)] (by kernel_rfl) (by kernel_rfl) rfl (fun _ => rfl) ?_ ?_ ?_ ?_ ?_ ?_
  · exact HC0
  · intro m; cases m; exact HI0; exact trivial
  · intro m; cases m
    · exact ⟨.inr (fun _ _ h h0 => h ▸ h0), .inr (fun _ _ h h0 => h ▸ h0), .inr (fun _ _ h h0 => h ▸ h0), .inr (fun _ _ h h0 => h ▸ h0), .inr (fun _ _ h h0 => h ▸ h0), .inr (fun _ _ h h0 => h ▸ h0), .inl rfl, .inl rfl, trivial⟩
    · exact ⟨.inr (fun _ _ h h0 => h ▸ h0), .inr (fun _ _ h h0 => h ▸ h0), .inr (fun _ _ h h0 => h ▸ h0), .inr (fun _ _ h h0 => h ▸ h0), .inr (fun _ _ h h0 => h ▸ h0), .inr (fun _ _ h h0 => h ▸ h0), .inr (fun _ _ _ h => h), .inr (fun _ _ _ h => h), trivial⟩
  · exact ⟨⟨.inl rfl, .inr (.inr (.inl rfl)), .inr (.inr (.inl rfl)), .inr (.inr (.inr (fun _ _ _ _ _ h => h))), .inr (.inr (.inr (fun _ _ _ _ _ h => h))), .inr (.inr (.inl rfl)), .inr (.inr (.inr (fun _ _ _ _ h h0 => by cases h; exact h0))), .inr (.inr (.inl rfl)), trivial⟩,
      ⟨.inr (.inr (.inr (fun _ _ _ _ _ h => h))), .inl rfl, .inr (.inr (.inl rfl)), .inr (.inr (.inr (fun _ _ _ _ _ h => h))), .inr (.inr (.inr (fun _ _ _ _ _ h => h))), .inr (.inr (.inl rfl)), .inr (.inr (.inr (fun _ _ _ _ h h0 => by cases h; exact h0))), .inr (.inr (.inl rfl)), trivial⟩,
      ⟨.inr (.inr (.inr (fun _ _ _ _ _ h => h))), .inr (.inr (.inr (fun _ _ _ _ _ h => h))), .inl rfl, .inr (.inr (.inr (fun _ _ _ _ _ h => h))), .inr (.inr (.inr (fun _ _ _ _ _ h => h))), .inr (.inr (.inl rfl)), .inr (.inr (.inr (fun _ _ _ _ h h0 => by cases h; exact h0))), .inr (.inr (.inl rfl)), trivial⟩,
      ⟨.inr (.inr (.inr (fun _ _ _ _ _ h => h))), .inr (.inr (.inr (fun _ _ _ _ _ h => h))), .inr (.inr (.inr (fun _ _ _ _ _ h => h))), .inl rfl, .inr (.inr (.inl rfl)), .inr (.inr (.inl rfl)), .inr (.inr (.inr (fun _ _ _ _ h h0 => by cases h; exact h0))), .inr (.inr (.inl rfl)), trivial⟩,
      ⟨.inr (.inr (.inr (fun _ _ _ _ _ h => h))), .inr (.inr (.inr (fun _ _ _ _ _ h => h))), .inr (.inr (.inr (fun _ _ _ _ _ h => h))), .inr (.inr (.inr (fun _ _ _ _ _ h => h))), .inl rfl, .inr (.inr (.inl rfl)), .inr (.inr (.inr (fun _ _ _ _ h h0 => by cases h; exact h0))), .inr (.inr (.inl rfl)), trivial⟩,
      ⟨.inr (.inr (.inr (fun _ _ _ _ _ h => h))), .inr (.inr (.inr (fun _ _ _ _ _ h => h))), .inr (.inr (.inr (fun _ _ _ _ _ h => h))), .inr (.inr (.inr (fun _ _ _ _ _ h => h))), .inr (.inr (.inr (fun _ _ _ _ _ h => h))), .inl rfl, .inr (.inr (.inr (fun _ _ _ _ h h0 => by cases h; exact h0))), .inr (.inr (.inl rfl)), trivial⟩,
      ⟨.inr (.inr (.inr (fun _ _ _ _ _ h => h))), .inr (.inr (.inr (fun _ _ _ _ _ h => h))), .inr (.inr (.inr (fun _ _ _ _ _ h => h))), .inr (.inr (.inr (fun _ _ _ _ _ h => h))), .inr (.inr (.inr (fun _ _ _ _ _ h => h))), .inr (.inr (.inr (fun _ _ _ _ _ h => h))), .inl rfl, .inr (.inr (.inl rfl)), trivial⟩,
      ⟨.inr (.inr (.inr (fun _ _ _ _ _ h => h))), .inr (.inr (.inr (fun _ _ _ _ _ h => h))), .inr (.inr (.inr (fun _ _ _ _ _ h => h))), .inr (.inr (.inr (fun _ _ _ _ _ h => h))), .inr (.inr (.inr (fun _ _ _ _ _ h => h))), .inr (.inr (.inr (fun _ _ _ _ _ h => h))), .inr (.inl rfl), .inl rfl, trivial⟩, trivial⟩
  · refine ⟨?_, ?_, ?_, ?_, ?_, ?_, ?_, ?_, trivial⟩
    · -- 0: Op.fieldAddr 28 (Operand.tmp 1) 0
      refine step_plain [] (fun _ => rfl) rfl ?_
      intro w1 vals hC1 hi0 hf E hE
      clear hi0
      clear hf
      simp only [puts, act_put, act_put_none, List.setIfInBounds_toArray, List.set_cons_zero, List.set_cons_succ] at hE ⊢
      go_wp2
      exact .mk (hE _ _ rfl hC1 rfl)
    · -- 1: Op.load 9 (Operand.tmp 6)
      refine step_plain [(0, some 6)] (fun _ => rfl) rfl ?_
      intro w1 vals hC1 hi0 hf E hE
      clear hi0
      have f0 : vals 0 = .pointer (some ⟨w.heap.size, 0, none⟩) := hf 0 rfl
      try dsimp only at f0
      clear hf
      simp only [puts, act_put, act_put_none, List.setIfInBounds_toArray, List.set_cons_zero, List.set_cons_succ, f0] at hE ⊢
      clear f0
      have d0 := (HK1.out.below hC1 HK1.out.lt).cell 0
      simp only [bC, List.getElem?_toArray, List.getElem?_cons_zero] at d0
      go_wp2
      exact .mk (hE _ _ rfl hC1 rfl)
    · -- 2: Op.call { callee := Callee.value (Operand.func 12), args := #[Operand.tmp 7, Operand.const (Value.int IntKind.
      refine step_plain [(1, some 7)] (fun _ => rfl) rfl ?_
      intro w1 vals hC1 hi0 hf E hE
      clear hi0
      have f1 : vals 1 = .string (bs D) := hf 1 rfl
      try dsimp only at f1
      clear hf
      simp only [puts, act_put, act_put_none, List.setIfInBounds_toArray, List.set_cons_zero, List.set_cons_succ, f1] at hE ⊢
      clear f1
      go_wp2_with fail
      refine calls_then (HF.out D 30 hD _) ?_
      rintro e w2 ⟨rfl, rfl⟩
      go_wp2_with fail
      exact .mk (hE _ _ rfl hC1 rfl)
    · -- 3: Op.fieldAddr 28 (Operand.tmp 1) 1
      refine step_plain [] (fun _ => rfl) rfl ?_
      intro w1 vals hC1 hi0 hf E hE
      clear hi0
      clear hf
      simp only [puts, act_put, act_put_none, List.setIfInBounds_toArray, List.set_cons_zero, List.set_cons_succ] at hE ⊢
      go_wp2
      exact .mk (hE _ _ rfl hC1 rfl)
    · -- 4: Op.load 3 (Operand.tmp 9)
      refine step_plain [(3, some 9)] (fun _ => rfl) rfl ?_
      intro w1 vals hC1 hi0 hf E hE
      clear hi0
      have f3 : vals 3 = .pointer (some ⟨w.heap.size, 1, none⟩) := hf 3 rfl
      try dsimp only at f3
      clear hf
      simp only [puts, act_put, act_put_none, List.setIfInBounds_toArray, List.set_cons_zero, List.set_cons_succ, f3] at hE ⊢
      clear f3
      have d0 := (HK1.out.below hC1 HK1.out.lt).cell 1
      simp only [bC, List.getElem?_toArray, List.getElem?_cons_zero, List.getElem?_cons_succ] at d0
      go_wp2
      exact .mk (hE _ _ rfl hC1 rfl)
    · -- 5: Op.build 28 #[(0, Operand.tmp 8), (1, Operand.tmp 10)]
      refine step_plain [(2, some 8), (4, some 10)] (fun _ => rfl) rfl ?_
      intro w1 vals hC1 hi0 hf E hE
      clear hi0
      have f2 : vals 2 = .string (bs (D.take 30)) := hf 2 rfl
      have f4 : vals 4 = .int .i64 num := hf 4 rfl
      try dsimp only at f2 f4
      clear hf
      simp only [puts, act_put, act_put_none, List.setIfInBounds_toArray, List.set_cons_zero, List.set_cons_succ, f2, f4] at hE ⊢
      clear f2 f4
      go_wp2
      exact .mk (hE _ _ rfl hC1 rfl)
    · -- 6: Op.alloc 28
      refine step_plain [] (fun _ => rfl) rfl ?_
      intro w1 vals hC1 hi0 hf E hE
      have hI1 : (fun u => u.heap.size = w.heap.size + 2) w1 := hi0 false rfl
      try dsimp only at hI1
      clear hi0
      clear hf
      simp only [puts, act_put, act_put_none, List.setIfInBounds_toArray, List.set_cons_zero, List.set_cons_succ] at hE ⊢
      go_wp2
      exact .mk (hE _ _ ⟨rfl, by rw [← hI1]; exact Blk.new _ _ _⟩ (hC1.alloc hC1.size _) ((Below.refl _ _).alloc (Nat.le_refl _) _))
    · -- 7: Op.store 28 (Operand.tmp 3) (Operand.tmp 11)
      refine step_plain [(6, some 3), (5, some 11), (2, some 8), (0, some 6), (1, some 7), (2, some 8), (3, some 9), (4, some 10), (5, some 11), (6, some 3)] (fun _ => rfl) rfl ?_
      intro w1 vals hC1 hi0 hf E hE
      clear hi0
      have f0 : vals 0 = .pointer (some ⟨w.heap.size, 0, none⟩) := hf 0 rfl
      have f1 : vals 1 = .string (bs D) := hf 1 rfl
      have f2 : vals 2 = .string (bs (D.take 30)) := hf 2 rfl
      have f3 : vals 3 = .pointer (some ⟨w.heap.size, 1, none⟩) := hf 3 rfl
      have f4 : vals 4 = .int .i64 num := hf 4 rfl
      have f5 : vals 5 = .agg (bC (D.take 30) num none 0 0) := hf 5 rfl
      have f6 : (fun z u => z 6 = .pointer (some ⟨w.heap.size + 2, 0, none⟩) ∧ Blk u (w.heap.size + 2) 28 zB) vals w1 := hf 6 rfl
      try dsimp only at f0 f1 f2 f3 f4 f5 f6
      clear hf
      obtain ⟨hx6, hg6⟩ := f6
      have HG6 := Lib.hid hg6
      have HX6 := Lib.hid hx6
      clear hg6
      simp only [puts, act_put, act_put_none, List.setIfInBounds_toArray, List.set_cons_zero, List.set_cons_succ, f0, f1, f2, f3, f4, f5, hx6] at hE ⊢
      clear f0 f1 f2 f3 f4 f5
      clear hx6
      go_wp2_with (refine wpList_put_box (cells := bC (D.take 30) num none 0 0) HG6.out rfl rfl rfl rfl jb_size rfl (by simp [bC, Value.oneCell']) ?_; intro w5 hb5 hw5)
      exact .mk (hE undef _ ⟨HX6.out, hb5⟩ (hw5.below hC1 (by have := HS1.out; omega) hC1.size) trivial)
  intro w1 vals hC1 hf
  have f0 : vals 0 = .pointer (some ⟨w.heap.size, 0, none⟩) := hf 0 (by decide) rfl
  have f1 : vals 1 = .string (bs D) := hf 1 (by decide) rfl
  have f2 : vals 2 = .string (bs (D.take 30)) := hf 2 (by decide) rfl
  have f3 : vals 3 = .pointer (some ⟨w.heap.size, 1, none⟩) := hf 3 (by decide) rfl
  have f4 : vals 4 = .int .i64 num := hf 4 (by decide) rfl
  have f5 : vals 5 = .agg (bC (D.take 30) num none 0 0) := hf 5 (by decide) rfl
  have f7 : (fun z u => z 6 = .pointer (some ⟨w.heap.size + 2, 0, none⟩) ∧ Blk u (w.heap.size + 2) 28 (bC (D.take 30) num none 0 0)) vals w1 := hf 7 (by decide) rfl
  try dsimp only at f0 f1 f2 f3 f4 f5 f7
  clear hf
  simp only [puts, act_put, act_put_none, List.setIfInBounds_toArray, List.set_cons_zero, List.set_cons_succ, f0, f1, f2, f3, f4, f5]
  clear f0 f1 f2 f3 f4 f5
  generalize vals 6 = x6 at *
  obtain ⟨hx6, hb7⟩ := f7
  rw [hx6]
  have HC1 := Lib.hid (show Cb w (bC D num A n c) (bC (D.take 30) num none 0 0) none 0 [] w1 from
    ⟨HB1.out.trans (hC1.mono HB1.out.size), HK1.out.below hC1 HK1.out.lt, HZ1.out.below hC1 HZ1.out.lt, hb7, OwnR.nil _ _ _ _⟩)
  obtain ⟨mn, hmn⟩ : ∃ mn, mn = min n 10 := ⟨_, rfl⟩
  have HMN := Lib.hid hmn
  have HRW := Lib.hid (show Rd W1 B A (rowsV kCell ks) from HR.out.below (HB1.out.mono HBB.out))
  have HBW := Lib.hid (show B ≤ W1.heap.size from Nat.le_trans HBB.out HB1.out.size)
  clear hmn hx6 hb7 hC1 HC0 HI0
  go_wp2_with fail
  go_loopw [4] (fun x wr => ∃ (i : Nat) (A1 : Option Addr) (c1 : Nat), i ≤ mn ∧ x = .int .i64 (i : Int) ∧
    Cb w (bC D num A n c) (bC (D.take 30) num A1 ((ks.take i).map cutK).length c1) A1 c1 ((ks.take i).map cutK) wr) (fun x _ => mn - (intOf x).toNat)
  case atStart => exact ⟨0, none, 0, Nat.zero_le _, rfl, HC1.out⟩
  case round =>
    obtain ⟨i, A1, c1, hi, rfl, hcs⟩ := hrel
    have HCS := Lib.hid hcs
    clear hcs
    have a2 : wr.cell? ⟨w.heap.size, 2, none⟩ = some (.slice A n c) := HCS.out.vbox.cell 2
    by_cases hlt : i < mn
    · have HLT := Lib.hid hlt
      have h1 : (i : Int) < (n : Int) := by have := HMN.out; omega
      have h2 : (i : Int) < 10 := by have := HMN.out; omega
      have hil : i < ks.length := by have := HMN.out; rw [← HN.out]; omega
      obtain ⟨ad, hA, hadb, hcell⟩ := rd_rows (f := kCell) (m := 2) (fun _ => rfl) (by decide) (HR.out.below (HCS.out.low.mono HBB.out)) hil
      subst hA
      obtain ⟨X, hX⟩ : ∃ X, X = ks[i] := ⟨_, rfl⟩
      rw [← hX] at hcell
      have c0 : wr.cell? (ad.add (i * 2)) = some (.string (bs X.1)) := hcell 0 _ rfl
      have c1' : wr.cell? ⟨(ad.add (i * 2)).block, (ad.add (i * 2)).off + 1, none⟩ = some (.string (bs X.2)) := hcell 1 _ rfl
      have HXS := Lib.hid (show (ks.take (i + 1)).map cutK = (ks.take i).map cutK ++ [cutK X] by rw [List.take_succ_eq_append_getElem hil, List.map_append, hX]; rfl)
      have HXM := Lib.hid (HKK.out X (by rw [hX]; exact List.getElem_mem hil))
      have HPB := Lib.hid (show (ad.add (i * 2)).block < wr.heap.size from World.block_lt_of_cell? _ _ c0)
      obtain ⟨N, hN⟩ : ∃ N, N = (ks.take i).map cutK := ⟨_, rfl⟩
      have HNL := Lib.hid (show N.length ≤ 10 by rw [hN]; simp; have := HMN.out; omega)
      rw [← hN] at HCS HXS
      have C0 := Lib.hid c0
      have C1' := Lib.hid c1'
      clear hX hcell hil hlt hadb hN c0 c1'
      go_upto_region 5 with (fail)
      obtain ⟨H, hH⟩ : ∃ H, H = wr.heap.size := ⟨_, rfl⟩
      have HHE := Lib.hid hH
      have HC0 : Below wr.heap.size wr wr.drew := (Below.refl _ _).drew
      have HI0 : wr.drew.heap.size = H := hH.symm
      have hnm : (n : Int) ≤ 9223372036854775807 := hl
      clear hH a2
      refine wp_region_list (fun u => Below wr.heap.size wr u) (fun | false => (fun u => u.heap.size = H) | true => (fun _ => True)) (fun | false, i => i == 15 || i == 16 | true, _ => false)
        [fun z _ => z 0 = .pointer (some ⟨w.heap.size, 2, none⟩),
         fun z _ => z 1 = .slice (some ad) n c,
         fun z _ => z 2 = .int .i64 (i : Int),
         fun z _ => z 3 = .pointer (some (ad.add (i * 2))),
         fun z _ => z 4 = .pointer (some (ad.add (i * 2))),
         fun z _ => z 5 = .string (bs X.1),
         fun z _ => z 6 = .string (bs (X.1.take 20)),
         fun z _ => z 7 = .pointer (some ⟨w.heap.size, 2, none⟩),
         fun z _ => z 8 = .slice (some ad) n c,
         fun z _ => z 9 = .int .i64 (i : Int),
         fun z _ => z 10 = .pointer (some (ad.add (i * 2))),
         fun z _ => z 11 = .pointer (some ⟨(ad.add (i * 2)).block, (ad.add (i * 2)).off + 1, none⟩),
         fun z _ => z 12 = .string (bs X.2),
         fun z _ => z 13 = .string (bs (X.2.take 40)),
         fun z _ => z 14 = .agg (kCell (X.1.take 20, X.2.take 40)),
         fun z u => z 15 = .pointer (some ⟨H, 0, none⟩) ∧ Blk u H 37 #[.string ⟨#[]⟩, .string ⟨#[]⟩],
         fun z u => z 15 = .pointer (some ⟨H, 0, none⟩) ∧ Blk u H 37 (kCell (X.1.take 20, X.2.take 40))]
        [Eq, Eq, Eq, Eq, Eq, Eq, Eq, Eq, Eq, Eq, Eq, Eq, Eq, Eq, Eq, fun u u' => Below u.heap.size u u', fun _ _ => True]
        (fun i k => (i == 16 && k == 15)) [(0, some 23), (1, some 24), (2, some 25), (3, some 26), (4, some 27), (5, some 28), (6, some 29), (7, some 30), (8, some 31), (9, some 32), (10, some 33), (11, some 34), (12, some 35), (13, some 36), (14, some 37), (15, some 5), (16, none)] (by kernel_rfl) (by kernel_rfl) rfl (fun _ => rfl) ?_ ?_ ?_ ?_ ?_ ?_
      · exact HC0
      · intro m; cases m; exact HI0; exact trivial
      · intro m; cases m
        · exact ⟨.inr (fun _ _ h h0 => h ▸ h0), .inr (fun _ _ h h0 => h ▸ h0), .inr (fun _ _ h h0 => h ▸ h0), .inr (fun _ _ h h0 => h ▸ h0), .inr (fun _ _ h h0 => h ▸ h0), .inr (fun _ _ h h0 => h ▸ h0), .inr (fun _ _ h h0 => h ▸ h0), .inr (fun _ _ h h0 => h ▸ h0), .inr (fun _ _ h h0 => h ▸ h0), .inr (fun _ _ h h0 => h ▸ h0), .inr (fun _ _ h h0 => h ▸ h0), .inr (fun _ _ h h0 => h ▸ h0), .inr (fun _ _ h h0 => h ▸ h0), .inr (fun _ _ h h0 => h ▸ h0), .inr (fun _ _ h h0 => h ▸ h0), .inl rfl, .inl rfl, trivial⟩
        · exact ⟨.inr (fun _ _ h h0 => h ▸ h0), .inr (fun _ _ h h0 => h ▸ h0), .inr (fun _ _ h h0 => h ▸ h0), .inr (fun _ _ h h0 => h ▸ h0), .inr (fun _ _ h h0 => h ▸ h0), .inr (fun _ _ h h0 => h ▸ h0), .inr (fun _ _ h h0 => h ▸ h0), .inr (fun _ _ h h0 => h ▸ h0), .inr (fun _ _ h h0 => h ▸ h0), .inr (fun _ _ h h0 => h ▸ h0), .inr (fun _ _ h h0 => h ▸ h0), .inr (fun _ _ h h0 => h ▸ h0), .inr (fun _ _ h h0 => h ▸ h0), .inr (fun _ _ h h0 => h ▸ h0), .inr (fun _ _ h h0 => h ▸ h0), .inr (fun _ _ _ h => h), .inr (fun _ _ _ h => h), trivial⟩
      · exact ⟨⟨.inl rfl, .inr (.inr (.inl rfl)), .inr (.inr (.inr (fun _ _ _ _ _ h => h))), .inr (.inr (.inl rfl)), .inr (.inr (.inl rfl)), .inr (.inr (.inr (fun _ _ _ _ _ h => h))), .inr (.inr (.inr (fun _ _ _ _ _ h => h))), .inr (.inr (.inr (fun _ _ _ _ _ h => h))), .inr (.inr (.inr (fun _ _ _ _ _ h => h))), .inr (.inr (.inr (fun _ _ _ _ _ h => h))), .inr (.inr (.inr (fun _ _ _ _ _ h => h))), .inr (.inr (.inr (fun _ _ _ _ _ h => h))), .inr (.inr (.inr (fun _ _ _ _ _ h => h))), .inr (.inr (.inr (fun _ _ _ _ _ h => h))), .inr (.inr (.inr (fun _ _ _ _ _ h => h))), .inr (.inr (.inr (fun _ _ _ _ h h0 => by cases h; exact h0))), .inr (.inr (.inl rfl)), trivial⟩,
          ⟨.inr (.inr (.inr (fun _ _ _ _ _ h => h))), .inl rfl, .inr (.inr (.inr (fun _ _ _ _ _ h => h))), .inr (.inr (.inl rfl)), .inr (.inr (.inl rfl)), .inr (.inr (.inl rfl)), .inr (.inr (.inr (fun _ _ _ _ _ h => h))), .inr (.inr (.inr (fun _ _ _ _ _ h => h))), .inr (.inr (.inr (fun _ _ _ _ _ h => h))), .inr (.inr (.inr (fun _ _ _ _ _ h => h))), .inr (.inr (.inr (fun _ _ _ _ _ h => h))), .inr (.inr (.inr (fun _ _ _ _ _ h => h))), .inr (.inr (.inr (fun _ _ _ _ _ h => h))), .inr (.inr (.inr (fun _ _ _ _ _ h => h))), .inr (.inr (.inr (fun _ _ _ _ _ h => h))), .inr (.inr (.inr (fun _ _ _ _ h h0 => by cases h; exact h0))), .inr (.inr (.inl rfl)), trivial⟩,
          ⟨.inr (.inr (.inr (fun _ _ _ _ _ h => h))), .inr (.inr (.inr (fun _ _ _ _ _ h => h))), .inl rfl, .inr (.inr (.inl rfl)), .inr (.inr (.inl rfl)), .inr (.inr (.inl rfl)), .inr (.inr (.inr (fun _ _ _ _ _ h => h))), .inr (.inr (.inr (fun _ _ _ _ _ h => h))), .inr (.inr (.inr (fun _ _ _ _ _ h => h))), .inr (.inr (.inr (fun _ _ _ _ _ h => h))), .inr (.inr (.inr (fun _ _ _ _ _ h => h))), .inr (.inr (.inr (fun _ _ _ _ _ h => h))), .inr (.inr (.inr (fun _ _ _ _ _ h => h))), .inr (.inr (.inr (fun _ _ _ _ _ h => h))), .inr (.inr (.inr (fun _ _ _ _ _ h => h))), .inr (.inr (.inr (fun _ _ _ _ h h0 => by cases h; exact h0))), .inr (.inr (.inl rfl)), trivial⟩,
          ⟨.inr (.inr (.inr (fun _ _ _ _ _ h => h))), .inr (.inr (.inr (fun _ _ _ _ _ h => h))), .inr (.inr (.inr (fun _ _ _ _ _ h => h))), .inl rfl, .inr (.inr (.inl rfl)), .inr (.inr (.inl rfl)), .inr (.inr (.inl rfl)), .inr (.inr (.inr (fun _ _ _ _ _ h => h))), .inr (.inr (.inr (fun _ _ _ _ _ h => h))), .inr (.inr (.inr (fun _ _ _ _ _ h => h))), .inr (.inr (.inr (fun _ _ _ _ _ h => h))), .inr (.inr (.inr (fun _ _ _ _ _ h => h))), .inr (.inr (.inr (fun _ _ _ _ _ h => h))), .inr (.inr (.inr (fun _ _ _ _ _ h => h))), .inr (.inr (.inr (fun _ _ _ _ _ h => h))), .inr (.inr (.inr (fun _ _ _ _ h h0 => by cases h; exact h0))), .inr (.inr (.inl rfl)), trivial⟩,
          ⟨.inr (.inr (.inr (fun _ _ _ _ _ h => h))), .inr (.inr (.inr (fun _ _ _ _ _ h => h))), .inr (.inr (.inr (fun _ _ _ _ _ h => h))), .inr (.inr (.inr (fun _ _ _ _ _ h => h))), .inl rfl, .inr (.inr (.inl rfl)), .inr (.inr (.inl rfl)), .inr (.inr (.inr (fun _ _ _ _ _ h => h))), .inr (.inr (.inr (fun _ _ _ _ _ h => h))), .inr (.inr (.inr (fun _ _ _ _ _ h => h))), .inr (.inr (.inr (fun _ _ _ _ _ h => h))), .inr (.inr (.inr (fun _ _ _ _ _ h => h))), .inr (.inr (.inr (fun _ _ _ _ _ h => h))), .inr (.inr (.inl rfl)), .inr (.inr (.inl rfl)), .inr (.inr (.inr (fun _ _ _ _ h h0 => by cases h; exact h0))), .inr (.inr (.inl rfl)), trivial⟩,
          ⟨.inr (.inr (.inr (fun _ _ _ _ _ h => h))), .inr (.inr (.inr (fun _ _ _ _ _ h => h))), .inr (.inr (.inr (fun _ _ _ _ _ h => h))), .inr (.inr (.inr (fun _ _ _ _ _ h => h))), .inr (.inr (.inr (fun _ _ _ _ _ h => h))), .inl rfl, .inr (.inr (.inl rfl)), .inr (.inr (.inr (fun _ _ _ _ _ h => h))), .inr (.inr (.inr (fun _ _ _ _ _ h => h))), .inr (.inr (.inr (fun _ _ _ _ _ h => h))), .inr (.inr (.inr (fun _ _ _ _ _ h => h))), .inr (.inr (.inr (fun _ _ _ _ _ h => h))), .inr (.inr (.inr (fun _ _ _ _ _ h => h))), .inr (.inr (.inl rfl)), .inr (.inr (.inl rfl)), .inr (.inr (.inr (fun _ _ _ _ h h0 => by cases h; exact h0))), .inr (.inr (.inl rfl)), trivial⟩,
          ⟨.inr (.inr (.inr (fun _ _ _ _ _ h => h))), .inr (.inr (.inr (fun _ _ _ _ _ h => h))), .inr (.inr (.inr (fun _ _ _ _ _ h => h))), .inr (.inr (.inr (fun _ _ _ _ _ h => h))), .inr (.inr (.inr (fun _ _ _ _ _ h => h))), .inr (.inr (.inr (fun _ _ _ _ _ h => h))), .inl rfl, .inr (.inr (.inr (fun _ _ _ _ _ h => h))), .inr (.inr (.inr (fun _ _ _ _ _ h => h))), .inr (.inr (.inr (fun _ _ _ _ _ h => h))), .inr (.inr (.inr (fun _ _ _ _ _ h => h))), .inr (.inr (.inr (fun _ _ _ _ _ h => h))), .inr (.inr (.inr (fun _ _ _ _ _ h => h))), .inr (.inr (.inl rfl)), .inr (.inr (.inl rfl)), .inr (.inr (.inr (fun _ _ _ _ h h0 => by cases h; exact h0))), .inr (.inr (.inl rfl)), trivial⟩,
          ⟨.inr (.inr (.inr (fun _ _ _ _ _ h => h))), .inr (.inr (.inr (fun _ _ _ _ _ h => h))), .inr (.inr (.inr (fun _ _ _ _ _ h => h))), .inr (.inr (.inr (fun _ _ _ _ _ h => h))), .inr (.inr (.inr (fun _ _ _ _ _ h => h))), .inr (.inr (.inr (fun _ _ _ _ _ h => h))), .inr (.inr (.inr (fun _ _ _ _ _ h => h))), .inl rfl, .inr (.inr (.inl rfl)), .inr (.inr (.inr (fun _ _ _ _ _ h => h))), .inr (.inr (.inl rfl)), .inr (.inr (.inl rfl)), .inr (.inr (.inr (fun _ _ _ _ _ h => h))), .inr (.inr (.inr (fun _ _ _ _ _ h => h))), .inr (.inr (.inr (fun _ _ _ _ _ h => h))), .inr (.inr (.inr (fun _ _ _ _ h h0 => by cases h; exact h0))), .inr (.inr (.inl rfl)), trivial⟩,
          ⟨.inr (.inr (.inr (fun _ _ _ _ _ h => h))), .inr (.inr (.inr (fun _ _ _ _ _ h => h))), .inr (.inr (.inr (fun _ _ _ _ _ h => h))), .inr (.inr (.inr (fun _ _ _ _ _ h => h))), .inr (.inr (.inr (fun _ _ _ _ _ h => h))), .inr (.inr (.inr (fun _ _ _ _ _ h => h))), .inr (.inr (.inr (fun _ _ _ _ _ h => h))), .inr (.inr (.inr (fun _ _ _ _ _ h => h))), .inl rfl, .inr (.inr (.inr (fun _ _ _ _ _ h => h))), .inr (.inr (.inl rfl)), .inr (.inr (.inl rfl)), .inr (.inr (.inl rfl)), .inr (.inr (.inr (fun _ _ _ _ _ h => h))), .inr (.inr (.inr (fun _ _ _ _ _ h => h))), .inr (.inr (.inr (fun _ _ _ _ h h0 => by cases h; exact h0))), .inr (.inr (.inl rfl)), trivial⟩,
          ⟨.inr (.inr (.inr (fun _ _ _ _ _ h => h))), .inr (.inr (.inr (fun _ _ _ _ _ h => h))), .inr (.inr (.inr (fun _ _ _ _ _ h => h))), .inr (.inr (.inr (fun _ _ _ _ _ h => h))), .inr (.inr (.inr (fun _ _ _ _ _ h => h))), .inr (.inr (.inr (fun _ _ _ _ _ h => h))), .inr (.inr (.inr (fun _ _ _ _ _ h => h))), .inr (.inr (.inr (fun _ _ _ _ _ h => h))), .inr (.inr (.inr (fun _ _ _ _ _ h => h))), .inl rfl, .inr (.inr (.inl rfl)), .inr (.inr (.inl rfl)), .inr (.inr (.inl rfl)), .inr (.inr (.inr (fun _ _ _ _ _ h => h))), .inr (.inr (.inr (fun _ _ _ _ _ h => h))), .inr (.inr (.inr (fun _ _ _ _ h h0 => by cases h; exact h0))), .inr (.inr (.inl rfl)), trivial⟩,
          ⟨.inr (.inr (.inr (fun _ _ _ _ _ h => h))), .inr (.inr (.inr (fun _ _ _ _ _ h => h))), .inr (.inr (.inr (fun _ _ _ _ _ h => h))), .inr (.inr (.inr (fun _ _ _ _ _ h => h))), .inr (.inr (.inr (fun _ _ _ _ _ h => h))), .inr (.inr (.inr (fun _ _ _ _ _ h => h))), .inr (.inr (.inr (fun _ _ _ _ _ h => h))), .inr (.inr (.inr (fun _ _ _ _ _ h => h))), .inr (.inr (.inr (fun _ _ _ _ _ h => h))), .inr (.inr (.inr (fun _ _ _ _ _ h => h))), .inl rfl, .inr (.inr (.inl rfl)), .inr (.inr (.inl rfl)), .inr (.inr (.inl rfl)), .inr (.inr (.inr (fun _ _ _ _ _ h => h))), .inr (.inr (.inr (fun _ _ _ _ h h0 => by cases h; exact h0))), .inr (.inr (.inl rfl)), trivial⟩,
          ⟨.inr (.inr (.inr (fun _ _ _ _ _ h => h))), .inr (.inr (.inr (fun _ _ _ _ _ h => h))), .inr (.inr (.inr (fun _ _ _ _ _ h => h))), .inr (.inr (.inr (fun _ _ _ _ _ h => h))), .inr (.inr (.inr (fun _ _ _ _ _ h => h))), .inr (.inr (.inr (fun _ _ _ _ _ h => h))), .inr (.inr (.inr (fun _ _ _ _ _ h => h))), .inr (.inr (.inr (fun _ _ _ _ _ h => h))), .inr (.inr (.inr (fun _ _ _ _ _ h => h))), .inr (.inr (.inr (fun _ _ _ _ _ h => h))), .inr (.inr (.inr (fun _ _ _ _ _ h => h))), .inl rfl, .inr (.inr (.inl rfl)), .inr (.inr (.inl rfl)), .inr (.inr (.inl rfl)), .inr (.inr (.inr (fun _ _ _ _ h h0 => by cases h; exact h0))), .inr (.inr (.inl rfl)), trivial⟩,
          ⟨.inr (.inr (.inr (fun _ _ _ _ _ h => h))), .inr (.inr (.inr (fun _ _ _ _ _ h => h))), .inr (.inr (.inr (fun _ _ _ _ _ h => h))), .inr (.inr (.inr (fun _ _ _ _ _ h => h))), .inr (.inr (.inr (fun _ _ _ _ _ h => h))), .inr (.inr (.inr (fun _ _ _ _ _ h => h))), .inr (.inr (.inr (fun _ _ _ _ _ h => h))), .inr (.inr (.inr (fun _ _ _ _ _ h => h))), .inr (.inr (.inr (fun _ _ _ _ _ h => h))), .inr (.inr (.inr (fun _ _ _ _ _ h => h))), .inr (.inr (.inr (fun _ _ _ _ _ h => h))), .inr (.inr (.inr (fun _ _ _ _ _ h => h))), .inl rfl, .inr (.inr (.inl rfl)), .inr (.inr (.inl rfl)), .inr (.inr (.inr (fun _ _ _ _ h h0 => by cases h; exact h0))), .inr (.inr (.inl rfl)), trivial⟩,
          ⟨.inr (.inr (.inr (fun _ _ _ _ _ h => h))), .inr (.inr (.inr (fun _ _ _ _ _ h => h))), .inr (.inr (.inr (fun _ _ _ _ _ h => h))), .inr (.inr (.inr (fun _ _ _ _ _ h => h))), .inr (.inr (.inr (fun _ _ _ _ _ h => h))), .inr (.inr (.inr (fun _ _ _ _ _ h => h))), .inr (.inr (.inr (fun _ _ _ _ _ h => h))), .inr (.inr (.inr (fun _ _ _ _ _ h => h))), .inr (.inr (.inr (fun _ _ _ _ _ h => h))), .inr (.inr (.inr (fun _ _ _ _ _ h => h))), .inr (.inr (.inr (fun _ _ _ _ _ h => h))), .inr (.inr (.inr (fun _ _ _ _ _ h => h))), .inr (.inr (.inr (fun _ _ _ _ _ h => h))), .inl rfl, .inr (.inr (.inl rfl)), .inr (.inr (.inr (fun _ _ _ _ h h0 => by cases h; exact h0))), .inr (.inr (.inl rfl)), trivial⟩,
          ⟨.inr (.inr (.inr (fun _ _ _ _ _ h => h))), .inr (.inr (.inr (fun _ _ _ _ _ h => h))), .inr (.inr (.inr (fun _ _ _ _ _ h => h))), .inr (.inr (.inr (fun _ _ _ _ _ h => h))), .inr (.inr (.inr (fun _ _ _ _ _ h => h))), .inr (.inr (.inr (fun _ _ _ _ _ h => h))), .inr (.inr (.inr (fun _ _ _ _ _ h => h))), .inr (.inr (.inr (fun _ _ _ _ _ h => h))), .inr (.inr (.inr (fun _ _ _ _ _ h => h))), .inr (.inr (.inr (fun _ _ _ _ _ h => h))), .inr (.inr (.inr (fun _ _ _ _ _ h => h))), .inr (.inr (.inr (fun _ _ _ _ _ h => h))), .inr (.inr (.inr (fun _ _ _ _ _ h => h))), .inr (.inr (.inr (fun _ _ _ _ _ h => h))), .inl rfl, .inr (.inr (.inr (fun _ _ _ _ h h0 => by cases h; exact h0))), .inr (.inr (.inl rfl)), trivial⟩,
          ⟨.inr (.inr (.inr (fun _ _ _ _ _ h => h))), .inr (.inr (.inr (fun _ _ _ _ _ h => h))), .inr (.inr (.inr (fun _ _ _ _ _ h => h))), .inr (.inr (.inr (fun _ _ _ _ _ h => h))), .inr (.inr (.inr (fun _ _ _ _ _ h => h))), .inr (.inr (.inr (fun _ _ _ _ _ h => h))), .inr (.inr (.inr (fun _ _ _ _ _ h => h))), .inr (.inr (.inr (fun _ _ _ _ _ h => h))), .inr (.inr (.inr (fun _ _ _ _ _ h => h))), .inr (.inr (.inr (fun _ _ _ _ _ h => h))), .inr (.inr (.inr (fun _ _ _ _ _ h => h))), .inr (.inr (.inr (fun _ _ _ _ _ h => h))), .inr (.inr (.inr (fun _ _ _ _ _ h => h))), .inr (.inr (.inr (fun _ _ _ _ _ h => h))), .inr (.inr (.inr (fun _ _ _ _ _ h => h))), .inl rfl, .inr (.inr (.inl rfl)), trivial⟩,
          ⟨.inr (.inr (.inr (fun _ _ _ _ _ h => h))), .inr (.inr (.inr (fun _ _ _ _ _ h => h))), .inr (.inr (.inr (fun _ _ _ _ _ h => h))), .inr (.inr (.inr (fun _ _ _ _ _ h => h))), .inr (.inr (.inr (fun _ _ _ _ _ h => h))), .inr (.inr (.inr (fun _ _ _ _ _ h => h))), .inr (.inr (.inr (fun _ _ _ _ _ h => h))), .inr (.inr (.inr (fun _ _ _ _ _ h => h))), .inr (.inr (.inr (fun _ _ _ _ _ h => h))), .inr (.inr (.inr (fun _ _ _ _ _ h => h))), .inr (.inr (.inr (fun _ _ _ _ _ h => h))), .inr (.inr (.inr (fun _ _ _ _ _ h => h))), .inr (.inr (.inr (fun _ _ _ _ _ h => h))), .inr (.inr (.inr (fun _ _ _ _ _ h => h))), .inr (.inr (.inr (fun _ _ _ _ _ h => h))), .inr (.inl rfl), .inl rfl, trivial⟩, trivial⟩
      · refine ⟨?_, ?_, ?_, ?_, ?_, ?_, ?_, ?_, ?_, ?_, ?_, ?_, ?_, ?_, ?_, ?_, ?_, trivial⟩
        · -- 0: Op.fieldAddr 28 (Operand.tmp 1) 2
          refine step_plain [] (fun _ => rfl) rfl ?_
          intro w1 vals hC1 hi0 hf E hE
          clear hi0
          clear hf
          simp only [puts, act_put, act_put_none, List.setIfInBounds_toArray, List.set_cons_zero, List.set_cons_succ] at hE ⊢
          go_wp2
          exact .mk (hE _ _ rfl hC1 rfl)
        · -- 1: Op.load 26 (Operand.tmp 23)
          refine step_plain [(0, some 23)] (fun _ => rfl) rfl ?_
          intro w1 vals hC1 hi0 hf E hE
          clear hi0
          have f0 : vals 0 = .pointer (some ⟨w.heap.size, 2, none⟩) := hf 0 rfl
          try dsimp only at f0
          clear hf
          simp only [puts, act_put, act_put_none, List.setIfInBounds_toArray, List.set_cons_zero, List.set_cons_succ, f0] at hE ⊢
          clear f0
          have d0 := (HCS.out.vbox.below hC1 HCS.out.vbox.lt).cell 2
          simp only [bC, List.getElem?_toArray, List.getElem?_cons_zero, List.getElem?_cons_succ] at d0
          go_wp2
          exact .mk (hE _ _ rfl hC1 rfl)
        · -- 2: Op.move (Operand.tmp 4)
          refine step_plain [] (fun _ => rfl) rfl ?_
          intro w1 vals hC1 hi0 hf E hE
          clear hi0
          clear hf
          simp only [puts, act_put, act_put_none, List.setIfInBounds_toArray, List.set_cons_zero, List.set_cons_succ] at hE ⊢
          go_wp2
          exact .mk (hE _ _ rfl hC1 rfl)
        · -- 3: Op.indexAddr 26 (Operand.tmp 24) (Operand.tmp 25)
          refine step_plain [(1, some 24), (2, some 25)] (fun _ => rfl) rfl ?_
          intro w1 vals hC1 hi0 hf E hE
          clear hi0
          have f1 : vals 1 = .slice (some ad) n c := hf 1 rfl
          have f2 : vals 2 = .int .i64 (i : Int) := hf 2 rfl
          try dsimp only at f1 f2
          clear hf
          simp only [puts, act_put, act_put_none, List.setIfInBounds_toArray, List.set_cons_zero, List.set_cons_succ, f1, f2] at hE ⊢
          clear f1 f2
          go_wp2
          exact .mk (hE _ _ rfl hC1 rfl)
        · -- 4: Op.fieldAddr 37 (Operand.tmp 26) 0
          refine step_plain [(3, some 26)] (fun _ => rfl) rfl ?_
          intro w1 vals hC1 hi0 hf E hE
          clear hi0
          have f3 : vals 3 = .pointer (some (ad.add (i * 2))) := hf 3 rfl
          try dsimp only at f3
          clear hf
          simp only [puts, act_put, act_put_none, List.setIfInBounds_toArray, List.set_cons_zero, List.set_cons_succ, f3] at hE ⊢
          clear f3
          go_wp2
          exact .mk (hE _ _ rfl hC1 rfl)
        · -- 5: Op.load 9 (Operand.tmp 27)
          refine step_plain [(4, some 27)] (fun _ => rfl) rfl ?_
          intro w1 vals hC1 hi0 hf E hE
          clear hi0
          have f4 : vals 4 = .pointer (some (ad.add (i * 2))) := hf 4 rfl
          try dsimp only at f4
          clear hf
          simp only [puts, act_put, act_put_none, List.setIfInBounds_toArray, List.set_cons_zero, List.set_cons_succ, f4] at hE ⊢
          clear f4
          have d0 := (hC1.cell (p := ad.add (i * 2)) HPB.out).trans C0.out
          go_wp2
          exact .mk (hE _ _ rfl hC1 rfl)
        · -- 6: Op.call { callee := Callee.value (Operand.func 12), args := #[Operand.tmp 28, Operand.const (Value.int IntKind
          refine step_plain [(5, some 28)] (fun _ => rfl) rfl ?_
          intro w1 vals hC1 hi0 hf E hE
          clear hi0
          have f5 : vals 5 = .string (bs X.1) := hf 5 rfl
          try dsimp only at f5
          clear hf
          simp only [puts, act_put, act_put_none, List.setIfInBounds_toArray, List.set_cons_zero, List.set_cons_succ, f5] at hE ⊢
          clear f5
          go_wp2_with fail
          refine calls_then (HF.out X.1 20 HXM.out.1 _) ?_
          rintro e w2 ⟨rfl, rfl⟩
          go_wp2_with fail
          exact .mk (hE _ _ rfl hC1 rfl)
        · -- 7: Op.fieldAddr 28 (Operand.tmp 1) 2
          refine step_plain [] (fun _ => rfl) rfl ?_
          intro w1 vals hC1 hi0 hf E hE
          clear hi0
          clear hf
          simp only [puts, act_put, act_put_none, List.setIfInBounds_toArray, List.set_cons_zero, List.set_cons_succ] at hE ⊢
          go_wp2
          exact .mk (hE _ _ rfl hC1 rfl)
        · -- 8: Op.load 26 (Operand.tmp 30)
          refine step_plain [(7, some 30)] (fun _ => rfl) rfl ?_
          intro w1 vals hC1 hi0 hf E hE
          clear hi0
          have f7 : vals 7 = .pointer (some ⟨w.heap.size, 2, none⟩) := hf 7 rfl
          try dsimp only at f7
          clear hf
          simp only [puts, act_put, act_put_none, List.setIfInBounds_toArray, List.set_cons_zero, List.set_cons_succ, f7] at hE ⊢
          clear f7
          have d0 := (HCS.out.vbox.below hC1 HCS.out.vbox.lt).cell 2
          simp only [bC, List.getElem?_toArray, List.getElem?_cons_zero, List.getElem?_cons_succ] at d0
          go_wp2
          exact .mk (hE _ _ rfl hC1 rfl)
        · -- 9: Op.move (Operand.tmp 4)
          refine step_plain [] (fun _ => rfl) rfl ?_
          intro w1 vals hC1 hi0 hf E hE
          clear hi0
          clear hf
          simp only [puts, act_put, act_put_none, List.setIfInBounds_toArray, List.set_cons_zero, List.set_cons_succ] at hE ⊢
          go_wp2
          exact .mk (hE _ _ rfl hC1 rfl)
        · -- 10: Op.indexAddr 26 (Operand.tmp 31) (Operand.tmp 32)
          refine step_plain [(8, some 31), (9, some 32)] (fun _ => rfl) rfl ?_
          intro w1 vals hC1 hi0 hf E hE
          clear hi0
          have f8 : vals 8 = .slice (some ad) n c := hf 8 rfl
          have f9 : vals 9 = .int .i64 (i : Int) := hf 9 rfl
          try dsimp only at f8 f9
          clear hf
          simp only [puts, act_put, act_put_none, List.setIfInBounds_toArray, List.set_cons_zero, List.set_cons_succ, f8, f9] at hE ⊢
          clear f8 f9
          go_wp2
          exact .mk (hE _ _ rfl hC1 rfl)
        · -- 11: Op.fieldAddr 37 (Operand.tmp 33) 1
          refine step_plain [(10, some 33)] (fun _ => rfl) rfl ?_
          intro w1 vals hC1 hi0 hf E hE
          clear hi0
          have f10 : vals 10 = .pointer (some (ad.add (i * 2))) := hf 10 rfl
          try dsimp only at f10
          clear hf
          simp only [puts, act_put, act_put_none, List.setIfInBounds_toArray, List.set_cons_zero, List.set_cons_succ, f10] at hE ⊢
          clear f10
          go_wp2
          exact .mk (hE _ _ rfl hC1 rfl)
        · -- 12: Op.load 9 (Operand.tmp 34)
          refine step_plain [(11, some 34)] (fun _ => rfl) rfl ?_
          intro w1 vals hC1 hi0 hf E hE
          clear hi0
          have f11 : vals 11 = .pointer (some ⟨(ad.add (i * 2)).block, (ad.add (i * 2)).off + 1, none⟩) := hf 11 rfl
          try dsimp only at f11
          clear hf
          simp only [puts, act_put, act_put_none, List.setIfInBounds_toArray, List.set_cons_zero, List.set_cons_succ, f11] at hE ⊢
          clear f11
          have d0 := (hC1.cell (p := ⟨(ad.add (i * 2)).block, (ad.add (i * 2)).off + 1, none⟩) HPB.out).trans C1'.out
          go_wp2
          exact .mk (hE _ _ rfl hC1 rfl)
        · -- 13: Op.call { callee := Callee.value (Operand.func 12), args := #[Operand.tmp 35, Operand.const (Value.int IntKind
          refine step_plain [(12, some 35), (6, some 29)] (fun _ => rfl) rfl ?_
          intro w1 vals hC1 hi0 hf E hE
          clear hi0
          have f6 : vals 6 = .string (bs (X.1.take 20)) := hf 6 rfl
          have f12 : vals 12 = .string (bs X.2) := hf 12 rfl
          try dsimp only at f6 f12
          clear hf
          simp only [puts, act_put, act_put_none, List.setIfInBounds_toArray, List.set_cons_zero, List.set_cons_succ, f6, f12] at hE ⊢
          clear f6 f12
          go_wp2_with fail
          refine calls_then (HF.out X.2 40 HXM.out.2 _) ?_
          rintro e w2 ⟨rfl, rfl⟩
          go_wp2_with fail
          exact .mk (hE _ _ rfl hC1 rfl)
        · -- 14: Op.build 37 #[(0, Operand.tmp 29), (1, Operand.tmp 36)]
          refine step_plain [(6, some 29), (13, some 36)] (fun _ => rfl) rfl ?_
          intro w1 vals hC1 hi0 hf E hE
          clear hi0
          have f6 : vals 6 = .string (bs (X.1.take 20)) := hf 6 rfl
          have f13 : vals 13 = .string (bs (X.2.take 40)) := hf 13 rfl
          try dsimp only at f6 f13
          clear hf
          simp only [puts, act_put, act_put_none, List.setIfInBounds_toArray, List.set_cons_zero, List.set_cons_succ, f6, f13] at hE ⊢
          clear f6 f13
          go_wp2
          exact .mk (hE _ _ rfl hC1 rfl)
        · -- 15: Op.alloc 37
          refine step_plain [] (fun _ => rfl) rfl ?_
          intro w1 vals hC1 hi0 hf E hE
          have hI1 : (fun u => u.heap.size = H) w1 := hi0 false rfl
          try dsimp only at hI1
          clear hi0
          clear hf
          simp only [puts, act_put, act_put_none, List.setIfInBounds_toArray, List.set_cons_zero, List.set_cons_succ] at hE ⊢
          go_wp2
          exact .mk (hE _ _ ⟨rfl, by rw [← hI1]; exact Blk.new _ _ _⟩ (hC1.alloc hC1.size _) ((Below.refl _ _).alloc (Nat.le_refl _) _))
        · -- 16: Op.store 37 (Operand.tmp 5) (Operand.tmp 37)
          refine step_plain [(15, some 5), (14, some 37), (13, some 36), (0, some 23), (1, some 24), (2, some 25), (3, some 26), (4, some 27), (5, some 28), (6, some 29), (7, some 30), (8, some 31), (9, some 32), (10, some 33), (11, some 34), (12, some 35), (13, some 36), (14, some 37), (15, some 5)] (fun _ => rfl) rfl ?_
          intro w1 vals hC1 hi0 hf E hE
          clear hi0
          have f0 : vals 0 = .pointer (some ⟨w.heap.size, 2, none⟩) := hf 0 rfl
          have f1 : vals 1 = .slice (some ad) n c := hf 1 rfl
          have f2 : vals 2 = .int .i64 (i : Int) := hf 2 rfl
          have f3 : vals 3 = .pointer (some (ad.add (i * 2))) := hf 3 rfl
          have f4 : vals 4 = .pointer (some (ad.add (i * 2))) := hf 4 rfl
          have f5 : vals 5 = .string (bs X.1) := hf 5 rfl
          have f6 : vals 6 = .string (bs (X.1.take 20)) := hf 6 rfl
          have f7 : vals 7 = .pointer (some ⟨w.heap.size, 2, none⟩) := hf 7 rfl
          have f8 : vals 8 = .slice (some ad) n c := hf 8 rfl
          have f9 : vals 9 = .int .i64 (i : Int) := hf 9 rfl
          have f10 : vals 10 = .pointer (some (ad.add (i * 2))) := hf 10 rfl
          have f11 : vals 11 = .pointer (some ⟨(ad.add (i * 2)).block, (ad.add (i * 2)).off + 1, none⟩) := hf 11 rfl
          have f12 : vals 12 = .string (bs X.2) := hf 12 rfl
          have f13 : vals 13 = .string (bs (X.2.take 40)) := hf 13 rfl
          have f14 : vals 14 = .agg (kCell (X.1.take 20, X.2.take 40)) := hf 14 rfl
          have f15 : (fun z u => z 15 = .pointer (some ⟨H, 0, none⟩) ∧ Blk u H 37 #[.string ⟨#[]⟩, .string ⟨#[]⟩]) vals w1 := hf 15 rfl
          try dsimp only at f0 f1 f2 f3 f4 f5 f6 f7 f8 f9 f10 f11 f12 f13 f14 f15
          clear hf
          obtain ⟨hx6, hg6⟩ := f15
          have HG6 := Lib.hid hg6
          have HX6 := Lib.hid hx6
          clear hg6
          simp only [puts, act_put, act_put_none, List.setIfInBounds_toArray, List.set_cons_zero, List.set_cons_succ, f0, f1, f2, f3, f4, f5, f6, f7, f8, f9, f10, f11, f12, f13, f14, hx6] at hE ⊢
          clear f0 f1 f2 f3 f4 f5 f6 f7 f8 f9 f10 f11 f12 f13 f14
          clear hx6
          go_wp2_with (refine wpList_put_box (cells := kCell (X.1.take 20, X.2.take 40)) HG6.out rfl rfl rfl rfl jk_size rfl (by simp [kCell, Value.oneCell']) ?_; intro w5 hb5 hw5)
          exact .mk (hE undef _ ⟨HX6.out, hb5⟩ (hw5.below hC1 (by have := HHE.out; omega) hC1.size) trivial)
      intro w1 vals hC1 hf
      have f0 : vals 0 = .pointer (some ⟨w.heap.size, 2, none⟩) := hf 0 (by decide) rfl
      have f1 : vals 1 = .slice (some ad) n c := hf 1 (by decide) rfl
      have f2 : vals 2 = .int .i64 (i : Int) := hf 2 (by decide) rfl
      have f3 : vals 3 = .pointer (some (ad.add (i * 2))) := hf 3 (by decide) rfl
      have f4 : vals 4 = .pointer (some (ad.add (i * 2))) := hf 4 (by decide) rfl
      have f5 : vals 5 = .string (bs X.1) := hf 5 (by decide) rfl
      have f6 : vals 6 = .string (bs (X.1.take 20)) := hf 6 (by decide) rfl
      have f7 : vals 7 = .pointer (some ⟨w.heap.size, 2, none⟩) := hf 7 (by decide) rfl
      have f8 : vals 8 = .slice (some ad) n c := hf 8 (by decide) rfl
      have f9 : vals 9 = .int .i64 (i : Int) := hf 9 (by decide) rfl
      have f10 : vals 10 = .pointer (some (ad.add (i * 2))) := hf 10 (by decide) rfl
      have f11 : vals 11 = .pointer (some ⟨(ad.add (i * 2)).block, (ad.add (i * 2)).off + 1, none⟩) := hf 11 (by decide) rfl
      have f12 : vals 12 = .string (bs X.2) := hf 12 (by decide) rfl
      have f13 : vals 13 = .string (bs (X.2.take 40)) := hf 13 (by decide) rfl
      have f14 : vals 14 = .agg (kCell (X.1.take 20, X.2.take 40)) := hf 14 (by decide) rfl
      have f16 : (fun z u => z 15 = .pointer (some ⟨H, 0, none⟩) ∧ Blk u H 37 (kCell (X.1.take 20, X.2.take 40))) vals w1 := hf 16 (by decide) rfl
      try dsimp only at f0 f1 f2 f3 f4 f5 f6 f7 f8 f9 f10 f11 f12 f13 f14 f16
      clear hf
      simp only [puts, act_put, act_put_none, List.setIfInBounds_toArray, List.set_cons_zero, List.set_cons_succ, f0, f1, f2, f3, f4, f5, f6, f7, f8, f9, f10, f11, f12, f13, f14]
      clear f0 f1 f2 f3 f4 f5 f6 f7 f8 f9 f10 f11 f12 f13 f14
      generalize vals 15 = x15 at *
      obtain ⟨hx15, hb16⟩ := f16
      rw [hx15]
      have HC5 := Lib.hid (HCS.out.new hC1)
      have HNE := Lib.hid (show ∀ k, (Value.slice A1 N.length c1).ownBlock = some k → k ≠ H from fun k hk he => by have h1 := (HCS.out.keys.lt k hk).2; have h2 := HHE.out; omega)
      have HK5 := Lib.hid hb16
      have HHL := Lib.hid (show w.heap.size + 3 ≤ H by rw [HHE.out]; exact HCS.out.size)
      have a0 : w1.cell? ⟨H, 0, none⟩ = some (.string (bs (X.1.take 20))) := hb16.cell 0
      have a1 : w1.cell? ⟨H, 1, none⟩ = some (.string (bs (X.2.take 40))) := hb16.cell 1
      clear hx15 hb16 hC1 HC0 HI0 C0 C1' HCS HPB hnm h1 h2
      obtain ⟨kd, hkd⟩ : ∃ kd, kd = X.1.take 20 := ⟨_, rfl⟩
      obtain ⟨kx, hkx⟩ : ∃ kx, kx = X.2.take 40 := ⟨_, rfl⟩
      rw [← hkd] at HK5 a0 ⊢
      rw [← hkx] at HK5 a1 ⊢
      have HKD := Lib.hid hkd
      have HKX := Lib.hid hkx
      have HKL := Lib.hid (show kx.length ≤ 40 by rw [hkx]; simp; omega)
      clear hkd hkx
      generalize Value.agg (kCell (kd, kx)) = AK
      go_upto_if 40 with (fail)
      go_cut [] (fun wx => Cb w (bC D num (some ad) n c) (bC (D.take 30) num A1 N.length c1) A1 c1 N wx ∧ Blk wx H 37 (kCell (cutK X)))
      case first =>
        by_cases h0 : kd = []
        · have he : (bs kd).toList.isEmpty = true := by rw [bs_toList, h0]; rfl
          have HCK := Lib.hid (show cutK X = (nameL kx, kx) by rw [cutK, ← HKD.out, ← HKX.out, if_pos h0])
          have hus := Tryd.underlying9
          have hub8 := Tryd.underlying22
          have hu8 := Tryd.underlying5
          have hkl := bs_size kx
          have HKS := Lib.hid hkl
          clear h0 hkl
          go_wp2_with (refine wpList_bytes_of (s := bs kx) hus hub8 hu8 rfl rfl rfl ?_; intro A7 c7 w7 hr7 hc7 hb7; have HR7 := Lib.hid hr7; have HC7 := Lib.hid hc7; have HB7 := Lib.hid hb7; clear hr7 hc7 hb7)
          rw [HKS.out]
          have HCN := Lib.hid (rname_any kx (by have := HKL.out; omega) A7 c7 w7 HR7.out (by have := HC7.out; have := HKS.out; omega) (digS32_len2 kx))
          refine calls_then HCN.out ?_
          rintro e w8 ⟨rfl, hb8⟩
          rw [nameS_bs]
          have HC8 := Lib.hid (HC5.out.new (HB7.out.trans (hb8.mono HB7.out.size)))
          have HK8 := Lib.hid ((HK5.out.below HB7.out HK5.out.lt).below hb8 (Nat.lt_of_lt_of_le HK5.out.lt HB7.out.size))
          clear hb8 a0 a1 HCN
          go_wp2_with (refine wpList_put_cell (i := 0) HK8.out rfl rfl rfl rfl (by kernel_rfl) (by simp [kCell]) rfl ?_; intro w9 hb9 hw9)
          go_meet
          rw [HCK.out]
          exact ⟨HC8.out.wrote hw9 HHL.out HNE.out, hb9⟩
          rename_i hx
          exact absurd (he.symm.trans hx) (by decide)
        · have he : (bs kd).toList.isEmpty = false := by rw [bs_toList]; simpa using h0
          have HCK := Lib.hid (show cutK X = (kd, kx) by rw [cutK, ← HKD.out, ← HKX.out, if_neg h0])
          go_wp2_with fail
          · have hx : (bs kd).toList.isEmpty = true := by assumption
            exact absurd (hx.symm.trans he) (by decide)
          go_meet
          rw [HCK.out]
          exact ⟨HC5.out, HK5.out⟩
      case rest =>
      obtain ⟨hcb, hbk⟩ := hcut
      have HC6 := Lib.hid hcb
      have HK6 := Lib.hid hbk
      have huj := Tryd.underlying37
      have b2 : wc.cell? ⟨w.heap.size + 2, 2, none⟩ = some (.slice A1 N.length c1) := hcb.out.cell 2
      have hNL : (N.length : Int) ≤ 10 := by have := HNL.out; omega
      have hi10 : (i : Int) < 10 := by have := HLT.out; have := HMN.out; omega
      obtain ⟨Y, hY⟩ : ∃ Y, Y = cutK X := ⟨_, rfl⟩
      rw [← hY] at HK6 HXS
      clear hcb hbk hY a0 a1
      go_wp2_with (first
        | refine wpList_get_box (cs := #[.string (bs Y.1), .string (bs Y.2)]) HK6.out rfl rfl rfl huj rfl jk_size ?_
        | (refine wpList_append_r1 (ys := [.string (bs Y.1), .string (bs Y.2)]) sl_jwks rfl rfl HC6.out.keys rfl rfl rfl rfl (by simp [Value.oneCell']) (by unfold maxLen; omega) (by omega) HC6.out.size ?_; intro A5 c5 w5 hown5 hgr5 hn5; have HC7 := Lib.hid (HC6.out.add hown5 hgr5); clear hown5 hgr5 hn5)
        | (refine wpList_put_cell (x := .tmp 51) (i := 2) HC7.out.out rfl rfl rfl rfl (by kernel_rfl) (by simp [bC]) rfl ?_; intro w6 hb6 hw6))
      have HC8 := Lib.hid (HC7.out.put (R' := bC (D.take 30) num A5 (N ++ [Y]).length c5) hw6 (by rw [List.length_append]; exact hb6))
      clear hb6 hw6
      go_roundw
      case rel => exact ⟨i + 1, A5, c5, HLT.out, by go_num, by rw [HXS.out]; exact HC8.out⟩
      case measure => have := HLT.out; simp [intOf]; omega
    · obtain rfl : i = mn := by omega
      have hor : ¬ ((i : Int) < (n : Int)) ∨ ((i : Int) < (n : Int) ∧ ¬ (i : Int) < 10) := by have := HMN.out; omega
      have HNS := Lib.hid (show (ks.take i).map cutK = (ks.take 10).map cutK by
        have h1 := HMN.out
        have h2 := HN.out
        by_cases h5 : n ≤ 10
        · have e1 : i = ks.length := by omega
          rw [e1, List.take_of_length_le (Nat.le_refl _), List.take_of_length_le (by omega)]
        · have e1 : i = 10 := by omega
          rw [e1])
      rw [HNS.out] at HCS
      obtain ⟨N, hN⟩ : ∃ N, N = (ks.take 10).map cutK := ⟨_, rfl⟩
      rw [← hN] at HCS
      have HNX := Lib.hid hN
      have HF9 := Lib.hid (fun (u : World) (hw : Wrote (w.heap.size + 1) wr u) => show Below w.heap.size w u ∧ RdS u (fun b => w.heap.size ≤ b) A1 (rowsV kCell N) from
        ⟨hw.below HCS.out.low (by omega) (by have := HCS.out.size; omega), (ownR_rds2 (HCS.out.keys.heap fun k cs hq hl => (hw.grown.block k (Array.getElem?_eq_some_iff.1 hq).1 (by intro h; injection h with h; omega)).trans hq)).imp fun b _ hb => by omega⟩)
      clear hN
      have HFE := Lib.hid (fun (u : World) (hw : Wrote (w.heap.size + 1) wr u) => show CutPost D num ks w (.returned (.agg (bC (D.take 30) num A1 N.length c1))) u by
        unfold CutPost
        rw [← HNX.out]
        exact ⟨A1, c1, rfl, (HF9.out u hw).1, (HF9.out u hw).2⟩)
      rcases hor with hor | ⟨hor, hor2⟩
      · go_wp2_with (first
          | refine wpList_get_box (x := .tmp 3) (cs := bC (D.take 30) num A1 N.length c1) HCS.out.out rfl rfl rfl hub rfl jb_size ?_
          | (refine wpList_put_box (x := .tmp 2) (cells := bC (D.take 30) num A1 N.length c1) HCS.out.res rfl rfl rfl rfl jb_size rfl (by simp [bC, Value.oneCell']) ?_; intro w9 hb9 hw9))
        have HB9 := Lib.hid hb9
        refine bodyPost_ret (results_box (P := Tryd.prog) rfl rfl HB9.out hub rfl jb_size) rfl ?_
        exact HFE.out w9 hw9
      · go_wp2_with (first
          | refine wpList_get_box (x := .tmp 3) (cs := bC (D.take 30) num A1 N.length c1) HCS.out.out rfl rfl rfl hub rfl jb_size ?_
          | (refine wpList_put_box (x := .tmp 2) (cells := bC (D.take 30) num A1 N.length c1) HCS.out.res rfl rfl rfl rfl jb_size rfl (by simp [bC, Value.oneCell']) ?_; intro w9 hb9 hw9))
        have HB9 := Lib.hid hb9
        refine bodyPost_ret (results_box (P := Tryd.prog) rfl rfl HB9.out hub rfl jb_size) rfl ?_
        exact HFE.out w9 hw9
end Go.Proofs.YtlkikjeccamheaaDoor.Js
/-
  The law JwkFinds.
-/
namespace Go.Proofs.YtlkikjeccamheaaDoor.Js
set_option linter.unusedSimpArgs false
set_option linter.unusedVariables false
open Go.RowKit

set_option maxRecDepth 100000 in
set_option maxHeartbeats 1000000 in
theorem jwkFinds_any (D : Bs) (num : Int) (ks : List (Bs × Bs)) (kid : Bs) (A : Option Addr) (c : Nat) (w : World) (hr : Rd w w.heap.size A (rowsV kCell ks)) (hD : (D.length : Int) ≤ 9223372036854775807) (hl : (ks.length : Int) ≤ 9223372036854775807)
    (hk : ∀ k ∈ ks, (k.1.length : Int) ≤ 9223372036854775807 ∧ (k.2.length : Int) ≤ 9223372036854775807) (hkid : (kid.length : Int) ≤ 9223372036854775807) :
    Calls Tryd.prog 5 #[.agg (bC D num A ks.length c), .string (bs kid)] w fun e w' => e = .returned (.bool true) ∧ Below w.heap.size w w' := by
  have hub := Tryd.underlying28
  obtain ⟨W0, hW0⟩ : ∃ W0, W0 = w.alloc (.cells (bC D num A ks.length c) 28) := ⟨_, rfl⟩
  have hb0 : Below w.heap.size w W0 := by rw [hW0]; exact (Below.refl _ w).alloc (Nat.le_refl _) _
  have HB0 := Lib.hid hb0
  have HK0 := Lib.hid (show Blk W0 w.heap.size 28 (bC D num A ks.length c) by rw [hW0]; exact Blk.new _ _ _)
  have HCU := Lib.hid (jcut_any D num ks A c w.heap.size W0 (hr.below hb0) hb0.size hD hl hk)
  have HFW := Lib.hid (few_any kid 20 hkid)
  have HLV := Lib.hid jlives_any
  have HW0 := Lib.hid hW0
  obtain ⟨n0, hn0⟩ : ∃ n, n = ks.length := ⟨_, rfl⟩
  rw [← hn0] at HK0 HCU HW0 ⊢
  clear hW0 hb0 hr hD hl hk hkid hn0
  go_enter Tryd.func5, Tryd.ntmps5
  go_upto_region 1 with (fail)
  rw [show w.alloc (.cells (bC D num A n0 c) 28) = W0 from HW0.out.symm]
  generalize hAV : Value.agg (bC D num A n0 c) = AV
  rw [hAV] at HCU
  go_wp2_with (refine wpList_get_box (x := .tmp 2) (cs := bC D num A n0 c) HK0.out rfl rfl rfl hub rfl jb_size ?_)
  refine calls_then HCU.out ?_
  intro e u1 hp
  unfold CutPost at hp
  generalize hK : (ks.take 10).map cutK = K at hp
  generalize hD' : D.take 30 = D' at hp
  have hKL : K.length ≤ 10 := by rw [← hK]; simp; omega
  obtain ⟨A', c', rfl, hb1, hr1⟩ := hp
  obtain ⟨n, hn⟩ : ∃ n, n = K.length := ⟨_, rfl⟩
  rw [← hn]
  have HN := Lib.hid hn
  have HKL := Lib.hid hKL
  have HR1 := Lib.hid hr1
  have HB1 := Lib.hid (HB0.out.trans (hb1.mono HB0.out.size))
  have HK1 := Lib.hid (HK0.out.below hb1 HK0.out.lt)
  have HU1 := Lib.hid (Nat.le_refl u1.heap.size)
  clear hK hD' hn hKL hr1 hb1 hAV HCU
  go_upto_region 2 with (refine wpList_put_box (x := .tmp 2) (cells := bC D' num A' n c') HK1.out rfl rfl rfl rfl jb_size rfl (by simp [bC, Value.oneCell']) ?_; intro w2 hb2 hw2)
  have HK2 := Lib.hid hb2
  have HB2 := Lib.hid (hw2.below HB1.out (Nat.le_refl _) HB1.out.size)
  have HR2 := Lib.hid (show Rd w2 w2.heap.size A' (rowsV kCell K) from (HR1.out.heap fun b hb hs => hw2.grown.block b hb (by intro h; injection h with h; have := HK0.out.lt; omega)).rd fun b hb _ => hb)
  clear hb2 hw2
  have h10 : (n : Int) ≤ 10 := by have := HN.out; have := HKL.out; omega
  have HFI := Lib.hid (fun (kd : Bs) => jfind_any D' num K kd A' c' w2.heap.size w2 HR2.out (Nat.le_refl _) (by have := HKL.out; omega))
  rw [← HN.out] at HFI
  go_wp2_with (first
    | (refine wpList_get_box (x := .tmp 2) (cs := bC D' num A' n c') HK2.out rfl rfl rfl hub rfl jb_size ?_)
    | (go_at_call 12; refine calls_then (HFW.out _) ?_; rintro e w' ⟨rfl, rfl⟩))
  obtain ⟨kd, hkd⟩ : ∃ kd, kd = kid.take 20 := ⟨_, rfl⟩
  rw [← hkd]
  obtain ⟨fx, fe, hf⟩ : ∃ fx fe, findB K kd = (fx, fe) := ⟨_, _, rfl⟩
  have HFK := Lib.hid (HFI.out kd)
  rw [hf] at HFK
  have HFD := Lib.hid hf
  refine calls_then HFK.out ?_
  rintro e u3 ⟨rfl, hb3⟩
  have HB3 := Lib.hid (HB2.out.trans (hb3.mono HB2.out.size))
  have HK3 := Lib.hid (HK2.out.below hb3 HK2.out.lt)
  have HR3 := Lib.hid (HR2.out.below hb3)
  clear hb3 hkd hf HFI HFK
  dsimp only
  go_wp2_with fail
  go_loopw [7] (fun x wr => ∃ i : Nat, i ≤ n ∧ x = .int .i64 (i : Int) ∧ (∀ k ∈ K.take i, k.1 ≠ kd) ∧ wr = u3) (fun x _ => n - (intOf x).toNat)
  case atStart => exact ⟨0, Nat.zero_le _, rfl, by simp, rfl⟩
  case round =>
    obtain ⟨i, hi, rfl, hok, rfl⟩ := hrel
    have HOK := Lib.hid hok
    clear hok
    have a2 : wr.cell? ⟨w.heap.size, 2, none⟩ = some (.slice A' n c') := HK3.out.cell 2
    by_cases hlt : i < n
    · have hil : i < K.length := by rw [← HN.out]; exact hlt
      have hlt' : (i : Int) < (n : Int) := by omega
      obtain ⟨ad, hA, hadb, hcell⟩ := rd_rows (f := kCell) (m := 2) (fun _ => rfl) (by decide) HR3.out hil
      subst hA
      obtain ⟨X, hX⟩ : ∃ X, X = K[i] := ⟨_, rfl⟩
      rw [← hX] at hcell
      have c0 : wr.cell? (ad.add (i * 2)) = some (.string (bs X.1)) := hcell 0 _ rfl
      have c1 : wr.cell? ⟨(ad.add (i * 2)).block, (ad.add (i * 2)).off + 1, none⟩ = some (.string (bs X.2)) := hcell 1 _ rfl
      have HLT := Lib.hid hlt
      by_cases hq : X.1 = kd
      · have hq' : ((bs X.1).toList == (bs kd).toList) = true := by rw [bs_toList, bs_toList]; simpa using hq
        have hfx := findB_hit hil HOK.out (by rw [← hX]; exact hq)
        rw [HFD.out, ← hX] at hfx
        injection hfx with hfx hfe
        subst hfx hfe
        have he : ((bs X.2).toList == (bs X.2).toList) = true := by simp
        clear hX hcell hadb hil hlt hq HFD
        go_wp2_with (go_at_call 8; refine calls_then (HLV.out _) ?_; rintro e W' ⟨rfl, hb'⟩; have HB' := Lib.hid (HB3.out.trans (hb'.mono HB3.out.size)); clear hb')
        go_ret
        exact ⟨rfl, HB'.out⟩
      · have hq' : ((bs X.1).toList == (bs kd).toList) = false := by rw [bs_toList, bs_toList]; simpa using hq
        have HP := Lib.hid (show ∀ k ∈ K.take (i + 1), k.1 ≠ kd from fun k hk => by
          rw [List.take_succ_eq_append_getElem hil, List.mem_append] at hk
          rcases hk with hk | hk
          · exact HOK.out k hk
          · have e : k = X := by rw [hX]; simpa using hk
            rw [e]
            exact hq)
        clear hX hcell hadb hil hlt hq
        go_wp2_with fail
        go_roundw
        case rel => exact ⟨i + 1, HLT.out, by go_num, HP.out, by first | rfl | trivial⟩
        case measure => have := HLT.out; simp [intOf]; omega
    · obtain rfl : i = n := by omega
      have hfx := findB_no (ks := K) (kid := kd) (fun k hk => HOK.out k (by rw [HN.out, List.take_length]; exact hk))
      rw [HFD.out] at hfx
      injection hfx with hfx hfe
      subst hfx hfe
      rw [show bs [] = ⟨#[]⟩ from rfl]
      clear HFD
      go_wp2_with (go_at_call 8; refine calls_then (HLV.out _) ?_; rintro e W' ⟨rfl, hb'⟩; have HB' := Lib.hid (HB3.out.trans (hb'.mono HB3.out.size)); clear hb')
      go_ret
      exact ⟨rfl, HB'.out⟩
end Go.Proofs.YtlkikjeccamheaaDoor.Js
/-
  Opening an argument that is a bundle of keys.
-/
namespace Go.Proofs.YtlkikjeccamheaaDoor.Js
set_option linter.unusedSimpArgs false
set_option linter.unusedVariables false
open Go.ChangeShapes Go.WideShapes Go.ChangeAt Go.RowKit Go.Joins
/-- what keys that came in are like -/
def FitK (ks : List (Bs × Bs)) : Prop := ks.length ≤ maxLen ∧ ∀ k ∈ ks, k.1.length ≤ maxLen ∧ k.2.length ≤ maxLen
section
variable {H : Type} {enc : TypeId × Value → H} {w : World} {base : Nat} {spare : Nat → Bool} {held : Bool}
set_option maxRecDepth 100000 in
theorem open_jwk {fuel : Nat} {cs : List Value} {x : DataW H × List MemPlace} (h : DataW.trod enc Tryd.prog w base spare held fuel 37 cs = some x) (hl : cs.length = 2) :
    ∃ k : Bs × Bs, cs = (kCell k).toList ∧ k.1.length ≤ maxLen ∧ k.2.length ≤ maxLen := by
  obtain ⟨xs, n, _, hx, _, hlen, hf⟩ := DataW.trod_struct Tryd.underlying37 h
  match xs, hlen, cs, hl with
  | [y0, y1], _, [v0, v1], _ =>
    have c0 : Tryd.prog.cellsOf 9 = 1 := by kernel_rfl
    have g0 := hf 0 _ rfl
    have g1 := hf 1 _ rfl
    simp [c0] at g0 g1
    obtain ⟨s0, e0, -, w0⟩ := DataW.trod_string Tryd.underlying9 g0
    obtain ⟨s1, e1, -, w1⟩ := DataW.trod_string Tryd.underlying9 g1
    injection e0 with e0
    injection e1 with e1
    subst e0 e1
    exact ⟨(s0.data.toList, s1.data.toList), by simp [kCell, bs_self], by simpa using w0, by simpa using w1⟩
set_option maxRecDepth 100000 in
theorem open_jwks {fuel : Nat} {cs : List Value} {x : DataW H × List MemPlace} (h : DataW.trod enc Tryd.prog w base spare held fuel 26 cs = some x) :
    ∃ (A : Option Addr) (c : Nat) (l : List (Bs × Bs)), cs = [.slice A l.length c] ∧ Rd w w.heap.size A (rowsV kCell l) ∧ FitK l := by
  have c4 : Tryd.prog.cellsOf 37 = 2 := by kernel_rfl
  rcases Deep.open_slice Tryd.underlying26 h with ⟨rfl, _⟩ | ⟨a, len, cap, m, n, D, Pl, rfl, hb, hl, hm, hmm, rfl, hx⟩
  · exact ⟨none, 0, [], rfl, Rd.nil _ _ _, Nat.zero_le _, fun k hk => by cases hk⟩
  · have hlm : len ≤ m := by rw [hmm]; split <;> omega
    rw [c4] at hx
    obtain ⟨f, hf⟩ := Deep.choose_lt (α := Bs × Bs) (n := m) (p := fun i q => w.cells? base (a.add (i * 2)) 2 = some (kCell q).toList ∧ q.1.length ≤ maxLen ∧ q.2.length ≤ maxLen) (fun i hi => by
      obtain ⟨cs', h1, h2⟩ := hx i hi
      obtain ⟨_, hlen, _⟩ := World.cells?_some h1
      obtain ⟨k, rfl, hk, hk2⟩ := open_jwk h2 hlen
      exact ⟨k, h1, hk, hk2⟩)
    refine ⟨some a, cap, (List.range len).map f, by simp, fun i u hu => ?_, by simp; omega, fun k hk => ?_⟩
    · have hl5 : (rowsV kCell ((List.range len).map f)).length = len * 2 := by rw [rowsV_len (m := 2) (fun _ => rfl)]; simp
      have hi : i < len * 2 := by
        have := (List.getElem?_eq_some_iff.1 hu).1
        rwa [hl5] at this
      have hq : i / 2 < len := by omega
      obtain ⟨_, hlen, hcell⟩ := World.cells?_some (hf (i / 2) (by omega)).1
      have hc := hcell (i % 2) (by omega)
      obtain ⟨v, hv⟩ : ∃ v, (kCell (f (i / 2)))[i % 2]? = some v := ⟨_, Array.getElem?_eq_getElem (by rw [show (kCell (f (i / 2))).size = 2 from rfl]; omega)⟩
      have hkv := rowsV_at (f := kCell) (m := 2) (fun _ => rfl) ((List.range len).map f) (i / 2) (by simpa using hq) (i % 2) v (by rw [List.getElem_map, List.getElem_range]; exact hv)
      rw [show i / 2 * 2 + i % 2 = i by omega] at hkv
      rw [hkv] at hu
      injection hu with hu
      subst hu
      rw [Deep.add_add, show i / 2 * 2 + i % 2 = i by omega] at hc
      have hc' : w.cell? (a.add i) = some v := by
        rw [hc, Array.getElem?_toList]
        exact hv
      refine ⟨a, rfl, ?_, hc'⟩
      have := World.block_lt_of_cell? w _ hc'
      rwa [block_of_add] at this
    · obtain ⟨i, hi, rfl⟩ := List.mem_map.1 hk
      exact (hf i (by have := List.mem_range.1 hi; omega)).2
set_option maxRecDepth 100000 in
theorem open_bundle_arg {r : Reach} {b0 : Nat} {v : Value} {d : DataW H} {p : List MemPlace} (hv : Value.okWide Tryd.prog w r b0 28 v) (h : DataW.Trod enc Tryd.prog w base spare held 28 v d p) :
    ∃ (D : Bs) (num : Int) (ks : List (Bs × Bs)) (A : Option Addr) (c : Nat), v = .agg #[.string (bs D), .int .i64 num, .slice A ks.length c] ∧ Rd w w.heap.size A (rowsV kCell ks) ∧ FitK ks ∧ D.length ≤ maxLen := by
  have c5 : Tryd.prog.cellsOf 28 = 3 := by kernel_rfl
  obtain ⟨cs, rfl, hsz⟩ := okWide_struct Tryd.underlying28 hv
  obtain ⟨fuel, hf⟩ := h
  have hl : cs.toList.length = 3 := by rw [← c5]; exact hsz
  obtain ⟨xs, n, _, hx, _, hlen, hf⟩ := DataW.trod_struct Tryd.underlying28 (show DataW.trod enc Tryd.prog w base spare held fuel 28 cs.toList = some (d, p) from hf)
  generalize hcs : cs.toList = l at hl hf
  match xs, hlen, l, hl with
  | [y0, y1, y2], _, [v0, v1, v2], _ =>
    have c0 : Tryd.prog.cellsOf 9 = 1 := by kernel_rfl
    have c1 : Tryd.prog.cellsOf 3 = 1 := by kernel_rfl
    have c2 : Tryd.prog.cellsOf 26 = 1 := by kernel_rfl
    have g0 := hf 0 _ rfl
    have g1 := hf 1 _ rfl
    have g2 := hf 2 _ rfl
    simp [c0, c1, c2] at g0 g1 g2
    obtain ⟨s0, e0, -, w0⟩ := DataW.trod_string Tryd.underlying9 g0
    obtain ⟨n1, e1, -, w1⟩ := DataW.trod_int Tryd.underlying3 g1
    obtain ⟨A, c, l, e2, hr, hfit⟩ := open_jwks g2
    injection e0 with e0
    injection e1 with e1
    injection e2 with e2
    subst e0 e1 e2
    have e' : cs = #[.string s0, .int .i64 n1, .slice A l.length c] := Array.ext' hcs
    subst e'
    exact ⟨s0.data.toList, n1, l, A, c, by rw [bs_self], hr, hfit, by simpa using w0⟩
end
end Go.Proofs.YtlkikjeccamheaaDoor.Js
namespace Go.Proofs.YtlkikjeccamheaaDoor.jwkFinds
set_option linter.unusedSimpArgs false
set_option linter.unusedVariables false
open Go.ChangeShapes Go.WideShapes Go.ChangeAt Go.RowKit Go.Joins Sh Js

set_option maxRecDepth 100000 in
theorem lifted (os : Os) (started : os.Started) (H : Type) (enc : TypeId × Value → H) :
    ReturnsInHanded {} Tryd.checked os 5 .any (fun w args => (Rows.jwkFindsSpec.pre enc Tryd.prog Tryd.f5 [] false w args ∧ laidMetH Tryd.prog laidL3 w) ∧ sizedMet enc Tryd.prog Tryd.f5 (OpenSpec.ofChange Rows.jwkFindsSpec) false w args)
      (Rows.jwkFindsSpec.post enc Tryd.prog Tryd.f5 false true false false) := by
  refine returnsInHanded_of_change_and (C := Tryd.checked) (X := fun w _ => laidMetH Tryd.prog laidL3 w) (fun _ _ _ hh h => h.of_heap hh) own started (by kernel_rfl) Tryd.func5
    (ChangeSpec.witness_shaped (enc := enc) (C := Tryd.checked) (os := os) (X := fun w _ => laidMetH Tryd.prog laidL3 w) false (World.laidAll Tryd.prog os laidL3) #[.agg #[.string ⟨#[]⟩, .int .i64 0, .slice none 0 0], .string ⟨#[]⟩] 8 (World.laidAll_os _ _ _) (World.shaped_of_ZipB (by kernel_rfl) (by kernel_rfl)) (by kernel_rfl) (by kernel_rfl) (by kernel_rfl) (door_met3 os _)) ?_
  intro W base args ds gs before hval0 hW _ _ hL _
  have hval : ∀ (j : Nat) t v, Tryd.f5.params[j]? = some t → args[j]? = some v → Value.okWide Tryd.prog W .any base t v := hval0
  have hW' := hW
  obtain ⟨p, q, hA0, hV, rfl, hfz, hnd⟩ := hW
  have hA : DataW.TrodAll enc Tryd.prog W 0 (fun _ => true) true Tryd.f5.params.toList args.toList ds p := hA0
  rw [Tryd.params5] at hA hval
  obtain ⟨v0, v1, y0, y1, p0, p1, rfl, rfl, rfl, h0, h1⟩ := trodAll_two hA
  obtain ⟨rfl, rfl⟩ := trodVars_none hV
  have h0k := h0
  have h1k := h1
  obtain ⟨D, num, ks, A, c, rfl, hr, hfit, hD⟩ := open_bundle_arg (hval 0 28 v0 rfl rfl) h0
  obtain ⟨s, rfl, _, rfl, m1⟩ := ChangeMaps.open_string Tryd.underlying9 (hval 1 9 v1 rfl rfl) h1
  clear hA0 hval0
  try simp only [List.append_nil, List.nil_append] at hW'
  have hc := jwkFinds_any D num ks s.data.toList A c W hr (by unfold maxLen at hD; omega) (by have := hfit.1; unfold maxLen at this; omega) (fun k hk => by have := hfit.2 k hk; unfold maxLen at this; omega) (by have h := m1; unfold maxLen at h; have h2 : s.data.toList.length = s.size := rfl; omega)
  rw [bs_self] at hc
  refine (show Calls _ _ #[.agg #[.string (bs D), .int .i64 num, .slice A ks.length c], .string s] W _ from hc).mono fun e W' ⟨he, hb⟩ => ?_
  subst he
  have hlt : ∀ x ∈ (p0 : List MemPlace), x.block < W.heap.size := fun x hx => hW'.lt x (by first | (simp at hx; done) | simpa using hx)
  exact ⟨_, rfl, post_of_below (pa := p0) (pv := []) (by simpa using hW') (fun _ _ _ => trodAll_mk1 (shut_bool Tryd.underlying4 _))
    (fun sp hsp => by
      have h := trodAll_mk2 (stays laidOut (by kernel_rfl) (of_decide_eq_true (by kernel_rfl)) h0k hb (fun x hx => hlt x (by simpa using hx)) (fun x hx => hsp x (by simp [hx])))
        (stays laidOut (by kernel_rfl) (of_decide_eq_true (by kernel_rfl)) h1k hb (fun x hx => by simp at hx) (fun x hx => by simp at hx))
      try simp only [List.append_nil] at h
      exact h)
    (fun _ _ => by rfl) (by simp) hb (ok_one (by kernel_rfl) rfl (okWide_bool_mk Tryd.underlying4 _))⟩

theorem row_holds : Rows.JwkFindsSaid :=
  OpenClaim.holds_of_wide 5 Tryd.f5 rfl rfl rfl rfl rfl rfl rfl ⟨rfl, rfl, rfl, rfl, rfl⟩ rfl rfl rfl rfl rfl (by kernel_rfl) Tryd.func5 (by kernel_rfl)
    (of_decide_eq_true (by kernel_rfl)) (by unfold Func.isWrapper; first | (rw [if_pos (by decide +kernel)]; kernel_rfl) | (rw [if_neg (by decide +kernel)]; exact ⟨rfl, rfl⟩))
    (fun os started H enc _ => lifted os started H enc)

theorem holds : Rows.JwkFindsCardSaid :=
  Claim7.holds_tied_plain_at .later [] [.data, .data, .pinned] true (true, "3cb4439a1eac194b7635d0755f5ac32a19826cfc4084b41c9075a3c4c6c73b8c") false
    row_holds (fun _ h => by cases h) (by kernel_rfl) (fun _ h => by cases h) jwkFinds_row_tie rfl ⟨rfl, rfl⟩ (by kernel_rfl) rfl
    (fun f fn hf hfn => by
      obtain rfl : f = 5 := Option.some.inj ((show Tryd.prog.funcNamed "brevet/brevetlaw11.JwkFinds" = some 5 by kernel_rfl).symm.trans hf) |>.symm
      obtain rfl : fn = Tryd.f5 := (Option.some.inj (Tryd.func5.symm.trans hfn)).symm
      exact ⟨by kernel_rfl, fun j t ht => by
        rw [Tryd.params5] at ht
        have hm : t ∈ [28, 9] := by simpa using Array.mem_of_getElem? ht
        have hall : ([28, 9].all fun u => !Tryd.prog.wantsStandIn u) = true := by kernel_rfl
        exact (show Tryd.prog.wantsStandIn t = false by simpa using List.all_eq_true.1 hall t hm)⟩)
    (by kernel_rfl)
#print axioms holds
end Go.Proofs.YtlkikjeccamheaaDoor.jwkFinds
