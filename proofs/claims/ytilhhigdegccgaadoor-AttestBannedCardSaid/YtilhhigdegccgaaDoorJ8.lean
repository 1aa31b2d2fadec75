/-
  Joined texts: Jsr Jod Clc Rcl So3 Guard Det.
-/
import Derived.Test.YtilhhigdegccgaaDoorProg
import Derived.Lib.OthersKept
import Derived.Lib.DecodeN
import Derived.Lib.Strings
import Derived.Shelf.Abstract
import Derived.Lib.RuneCount
import Derived.Deep.LoopGhost
import Derived.Deep.QuietTactic
import Derived.BigQuiet
import Derived.Deep.DeepCutAuto
import Derived.Laws.StructEq
import Derived.Great.Walk
import Derived.Test.YtilhhigdegccgaaDoorJ3
import Derived.Test.YtilhhigdegccgaaDoorJ7
import Derived.Test.YtilhhigdegccgaaDoorJ1
import Derived.Test.YtilhhigdegccgaaDoorJ2
import Derived.Test.YtilhhigdegccgaaDoorJ5
import Derived.Test.YtilhhigdegccgaaDoorJ4
/-
  Plain: a JSON value, as it lies in memory.
-/
namespace Go.Proofs.YtilhhigdegccgaaDoor.Js
set_option linter.unusedVariables false
open Go.RowKit
structure JV where
  k : Int
  n : Int
  t : Bs
  nA : Option Addr
  nn : Nat
  nc : Nat
  kA : Option Addr
  kn : Nat
  kc : Nat
def jvCells (v : JV) : Array Value := #[.int .i64 v.k, .int .i64 v.n, .string (bs v.t), .slice v.nA v.nn v.nc, .slice v.kA v.kn v.kc]
def sCell (s : Bs) : Array Value := #[.string (bs s)]
theorem bs_size (s : Bs) : (bs s).size = s.length := by simp [bs, ByteArray.size]
def RdS (w : World) (S : Nat → Prop) (A : Option Addr) (xs : List Value) : Prop := ∀ i u, xs[i]? = some u → ∃ ad, A = some ad ∧ S ad.block ∧ w.cell? (ad.add i) = some u
section
variable {w w' : World} {S S' : Nat → Prop} {A : Option Addr} {xs : List Value} {B : Nat}
theorem RdS.nil (w : World) (S : Nat → Prop) (A : Option Addr) : RdS w S A [] := fun i u hu => by simp at hu
theorem RdS.lt (h : RdS w S A xs) {i : Nat} {u : Value} (hu : xs[i]? = some u) : ∃ ad, A = some ad ∧ S ad.block ∧ ad.block < w.heap.size ∧ w.cell? (ad.add i) = some u := by
  obtain ⟨ad, h1, h2, h3⟩ := h i u hu
  refine ⟨ad, h1, h2, ?_, h3⟩
  have := World.block_lt_of_cell? w _ h3
  rwa [block_of_add] at this
theorem RdS.rd (h : RdS w S A xs) (hS : ∀ b, b < w.heap.size → S b → b < B) : Rd w B A xs := fun i u hu => by
  obtain ⟨ad, h1, h2, h3, h4⟩ := h.lt hu
  exact ⟨ad, h1, hS _ h3 h2, h4⟩
theorem RdS.imp (h : RdS w S A xs) (hS : ∀ b, b < w.heap.size → S b → S' b) : RdS w S' A xs := fun i u hu => by
  obtain ⟨ad, h1, h2, h3, h4⟩ := h.lt hu
  exact ⟨ad, h1, hS _ h3 h2, h4⟩
theorem RdS.heap (h : RdS w S A xs) (hk : ∀ b, b < w.heap.size → S b → w'.heap[b]? = w.heap[b]?) : RdS w' S A xs := fun i u hu => by
  obtain ⟨ad, h1, h2, h3, h4⟩ := h.lt hu
  refine ⟨ad, h1, h2, ?_⟩
  rw [← h4]
  exact World.cell?_of_block (w := w) (w' := w') (by rw [block_of_add]; exact hk _ h3 h2)
end
inductive JRep (w : World) (S : Nat → Prop) : JT → JV → Prop
  | mk (v : JV) (ns : List Bs) (ks : List JT) (kv : List JV) (hn : v.nn = ns.length) (hnc : v.nn ≤ v.nc) (hnr : RdS w S v.nA (rowsV sCell ns)) (hk : v.kn = ks.length) (hkc : v.kn ≤ v.kc) (hkv : kv.length = ks.length)
      (hkr : RdS w S v.kA (rowsV jvCells kv)) (hkids : ∀ i (h : i < ks.length) (h' : i < kv.length), JRep w S ks[i] kv[i]) : JRep w S (.mk v.k v.n v.t ns ks) v
section
variable {w w' : World} {S S' : Nat → Prop} {j : JT} {v : JV}
theorem JRep.imp (h : JRep w S j v) (hS : ∀ b, b < w.heap.size → S b → S' b) : JRep w S' j v := by
  induction h with
  | mk v ns ks kv hn hnc hnr hk hkc hkv hkr hkids ih => exact .mk v ns ks kv hn hnc (hnr.imp hS) hk hkc hkv (hkr.imp hS) ih
theorem JRep.heap (h : JRep w S j v) (hk : ∀ b, b < w.heap.size → S b → w'.heap[b]? = w.heap[b]?) : JRep w' S j v := by
  induction h with
  | mk v ns ks kv hn hnc hnr hk' hkc hkv hkr hkids ih => exact .mk v ns ks kv hn hnc (hnr.heap hk) hk' hkc hkv (hkr.heap hk) ih
theorem JRep.grown {g : Option Nat} (h : JRep w S j v) (hg : w.grownBy w' g) (hS : ∀ b, S b → some b ≠ g) : JRep w' S j v := h.heap fun b hlt hs => hg.block b hlt (hS b hs)
theorem JRep.inv (h : JRep w S j v) : ∃ ns ks kv, j = .mk v.k v.n v.t ns ks ∧ v.nn = ns.length ∧ v.nn ≤ v.nc ∧ RdS w S v.nA (rowsV sCell ns) ∧ v.kn = ks.length ∧ v.kn ≤ v.kc ∧ kv.length = ks.length ∧
    RdS w S v.kA (rowsV jvCells kv) ∧ ∀ i (h : i < ks.length) (h' : i < kv.length), JRep w S ks[i] kv[i] := by
  cases h with
  | mk v ns ks kv hn hnc hnr hk hkc hkv hkr hkids => exact ⟨ns, ks, kv, rfl, hn, hnc, hnr, hk, hkc, hkv, hkr, hkids⟩
end
end Go.Proofs.YtilhhigdegccgaaDoor.Js
/-
  Walks: json's texts: which bytes may be; whether a text is in a list.
-/
namespace Go.Proofs.YtilhhigdegccgaaDoor.Js
set_option linter.unusedSimpArgs false
set_option linter.unusedVariables false
open Go.RowKit
theorem bs_toList (a : Bs) : (bs a).toList = a := by
  rw [Lib.toList_data]
  rfl
theorem idx_any (l : List Bs) (s : Bs) (A : Option Addr) (c B : Nat) (w : World) (hr : Rd w B A (rowsV sCell l)) (hl : l.length ≤ 1099511627776) :
    Calls Tryd.prog 30 #[.slice A l.length c, .string (bs s)] w fun e w' => (∃ k : Int, e = .returned (.int .i64 k) ∧ decide (0 ≤ k) = decide (s ∈ l)) ∧ w' = w := by
  obtain ⟨n, hn⟩ : ∃ n, n = l.length := ⟨_, rfl⟩
  have HN := Lib.hid hn
  have HR := Lib.hid hr
  have HL := Lib.hid (show (n : Int) ≤ 1099511627776 by omega)
  rw [← hn]
  clear hr hl hn
  go_enter Tryd.func30, Tryd.ntmps30
  go_wp2_with fail
  go_loop [8] (fun x => ∃ i : Nat, i ≤ n ∧ x = .int .i64 (i : Int) ∧ s ∉ l.take i) (fun x => n - (intOf x).toNat)
  case atStart => exact ⟨0, by omega, rfl, by simp⟩
  case round =>
    obtain ⟨i, hi, rfl, hok⟩ := hrel
    have HOK := Lib.hid hok
    clear hok
    by_cases hlt : i < n
    · have hil : i < l.length := by rw [← HN.out]; exact hlt
      have hlt' : (i : Int) < (n : Int) := by omega
      obtain ⟨ad, hA, hadb, hcell⟩ := rd_rows (f := sCell) (m := 1) (fun _ => rfl) (by decide) HR.out hil
      subst hA
      obtain ⟨X, hX⟩ : ∃ X, X = l[i] := ⟨_, rfl⟩
      rw [← hX] at hcell
      have hc0 : w.cell? (ad.add i) = some (.string (bs X)) := by
        have h := hcell 0 _ rfl
        rw [Nat.mul_one] at h
        exact h
      have HST := Lib.hid (show s ≠ X → s ∉ l.take (i + 1) from fun h => by
        rw [List.take_succ_eq_append_getElem hil, ← hX, List.mem_append]
        rintro (h1 | h1)
        · exact HOK.out h1
        · exact h (by simpa using h1))
      have HMEM := Lib.hid (show X ∈ l by rw [hX]; exact List.getElem_mem hil)
      have HLT := Lib.hid hlt
      clear hX hcell hadb hil
      have hns := HL.out
      by_cases hq : s = X
      · subst hq
        clear HST
        go_wp2_with fail
        go_ret
        exact ⟨⟨_, rfl, by simp [HMEM.out]⟩, rfl⟩
      · have hq' : ((bs s).toList == (bs X).toList) = false := by rw [bs_toList, bs_toList]; simpa using hq
        have HQ := Lib.hid hq
        clear hq
        go_wp2_with fail
        exact ⟨⟨i + 1, HLT.out, by go_num, HST.out HQ.out⟩, by have := HLT.out; simp [intOf]; omega⟩
    · obtain rfl : i = n := by omega
      have HALL := Lib.hid (show s ∉ l by
        have := HOK.out
        rwa [HN.out, List.take_length] at this)
      go_wp2_with fail
      go_ret
      exact ⟨⟨_, rfl, by simp [HALL.out]⟩, rfl⟩
theorem has_any (l : List Bs) (s : Bs) (A : Option Addr) (c B : Nat) (w : World) (hr : Rd w B A (rowsV sCell l)) (hl : l.length ≤ 1099511627776) :
    Calls Tryd.prog 18 #[.slice A l.length c, .string (bs s)] w fun e w' => e = .returned (.bool (decide (s ∈ l))) ∧ w' = w := by
  have C := Lib.hid (idx_any l s A c B w hr hl)
  clear hr
  obtain ⟨b, hb⟩ : ∃ b, b = decide (s ∈ l) := ⟨_, rfl⟩
  rw [← hb] at C ⊢
  clear hl hb
  generalize l.length = n at *
  generalize bs s = t at *
  go_enter Tryd.func18, Tryd.ntmps18
  go_wp2_with fail
  refine calls_then C.out ?_
  rintro e w1 ⟨⟨k, rfl, hk⟩, rfl⟩
  have HK := Lib.hid hk
  clear hk
  go_wp2_with fail
  go_ret
  exact ⟨by rw [← HK.out]; rfl, rfl⟩
end Go.Proofs.YtilhhigdegccgaaDoor.Js
/-
  Walks: clock's Add, within, Until, Over.
-/
namespace Go.Proofs.YtilhhigdegccgaaDoor
set_option linter.unusedSimpArgs false
set_option linter.unusedVariables false
open Go.RowKit
def satA (a b : Int) : Int := if a + b > 9223372036854775807 then 9223372036854775807 else if a + b < -9223372036854775808 then -9223372036854775808 else a + b
def timeT (t : Int) : Int := if t < 0 then 0 else if t > 1099511627776 then 1099511627776 else t
theorem wrap64_sum (a b : Int) (ha : -9223372036854775808 ≤ a ∧ a ≤ 9223372036854775807) (hb : -9223372036854775808 ≤ b ∧ b ≤ 9223372036854775807) :
    (wrap64 (a + b) = a + b - 18446744073709551616 ∧ a + b > 9223372036854775807) ∨ (wrap64 (a + b) = a + b + 18446744073709551616 ∧ a + b < -9223372036854775808) ∨ (wrap64 (a + b) = a + b ∧ -9223372036854775808 ≤ a + b ∧ a + b ≤ 9223372036854775807) := by
  unfold wrap64
  omega
theorem satA_zero {a : Int} (ha : -9223372036854775808 ≤ a ∧ a ≤ 9223372036854775807) : satA 0 a = a := by unfold satA; repeat' split <;> omega
def addC (a b : Int) : Int := if 0 < a ∧ 0 < b ∧ wrap64 (a + b) < a then 9223372036854775807 else if a < 0 ∧ b < 0 ∧ 0 ≤ wrap64 (a + b) then -9223372036854775808 else wrap64 (a + b)
theorem addC_eq (a b : Int) (ha : -9223372036854775808 ≤ a ∧ a ≤ 9223372036854775807) (hb : -9223372036854775808 ≤ b ∧ b ≤ 9223372036854775807) : addC a b = satA a b := by
  unfold addC satA
  have hw := wrap64_sum a b ha hb
  generalize wrap64 (a + b) = x at *
  repeat' split
  all_goals omega
def timeC (a b : Int) : Int := timeT (addC (addC 0 a) b)
theorem timeC_eq (a b : Int) (ha : -9223372036854775808 ≤ a ∧ a ≤ 9223372036854775807) (hb : -9223372036854775808 ≤ b ∧ b ≤ 9223372036854775807) : timeC a b = timeT (satA a b) := by
  rw [timeC, addC_eq 0 a (by omega) ha, satA_zero ha, addC_eq a b ha hb]
set_option maxRecDepth 100000 in
set_option maxHeartbeats 1000000 in
theorem cadd_any (a b : Int) (w : World) :
    Calls Tryd.prog 45 #[.int .i64 a, .int .i64 b] w (fun e w' => e = .returned (.int .i64 (addC a b)) ∧ w' = w) := by
  obtain ⟨r, hr⟩ : ∃ r, r = addC a b := ⟨_, rfl⟩
  rw [← hr]
  have HR := Lib.hid hr
  clear hr
  go_enter Tryd.func45, Tryd.ntmps45
  go_wp2_with fail
  all_goals go_ret
  all_goals refine ⟨?_, rfl⟩
  all_goals rw [HR.out]
  all_goals refine congrArg (fun x => Ending.returned (.int .i64 x)) ?_
  all_goals unfold addC
  all_goals generalize wrap64 (a + b) = x at *
  all_goals (repeat' split)
  all_goals omega
set_option maxRecDepth 100000 in
set_option maxHeartbeats 1000000 in
theorem cwithin_any (a b : Int) (g : Nat) (w : World) (hk : Blk w g 3 #[.int .i64 a, .int .i64 b]) :
    Calls Tryd.prog 31 #[.slice (some ⟨g, 0, none⟩) 2 2] w (fun e w' => e = .returned (.int .i64 (timeC a b)) ∧ w' = w) := by
  have d0 : w.cell? ⟨g, 0, none⟩ = some (.int .i64 a) := hk.cell 0
  have d1 : w.cell? ⟨g, 1, none⟩ = some (.int .i64 b) := hk.cell 1
  obtain ⟨a0, ha0⟩ : ∃ s, s = addC 0 a := ⟨_, rfl⟩
  have CA := Lib.hid (show ∀ u, Calls Tryd.prog 45 #[.int .i64 0, .int .i64 a] u (fun e w' => e = .returned (.int .i64 a0) ∧ w' = u) from fun u => by rw [ha0]; exact cadd_any 0 a u)
  obtain ⟨s, hs⟩ : ∃ s, s = addC a0 b := ⟨_, rfl⟩
  have CB := Lib.hid (show ∀ u, Calls Tryd.prog 45 #[.int .i64 a0, .int .i64 b] u (fun e w' => e = .returned (.int .i64 s) ∧ w' = u) from fun u => by rw [hs]; exact cadd_any a0 b u)
  rw [timeC, ← ha0, ← hs]
  obtain ⟨r, hr⟩ : ∃ r, r = timeT s := ⟨_, rfl⟩
  rw [← hr]
  have HR := Lib.hid hr
  clear hs hr hk ha0
  go_enter Tryd.func31, Tryd.ntmps31
  go_wp2_with fail
  go_loopw [3, 8] (fun t i wr => ∃ k : Nat, k ≤ 2 ∧ i = .int .i64 (k : Int) ∧ wr = w ∧ t = .int .i64 (if k = 0 then 0 else if k = 1 then a0 else s)) (fun _ i _ => 2 - (intOf i).toNat)
  case atStart => exact ⟨0, by omega, rfl, rfl, rfl⟩
  case round =>
    obtain ⟨k, hk, rfl, rfl, rfl⟩ := hrel
    have hk3 : k = 0 ∨ k = 1 ∨ k = 2 := by omega
    rcases hk3 with rfl | rfl | rfl
    · simp only [if_true]
      go_wp2_with fail
      refine calls_then (CA.out _) ?_
      rintro e w2 ⟨rfl, rfl⟩
      go_wp2_with fail
      go_roundw
      case rel => exact ⟨1, by omega, by simp, by simp, by simp⟩
      case measure => simp [intOf]
    · simp only [if_neg (show ¬ (1 : Nat) = 0 by decide), if_true]
      go_wp2_with fail
      refine calls_then (CB.out _) ?_
      rintro e w2 ⟨rfl, rfl⟩
      go_wp2_with fail
      go_roundw
      case rel => exact ⟨2, by omega, by simp, by simp, by simp⟩
      case measure => simp [intOf]
    · simp only [if_neg (show ¬ (2 : Nat) = 0 by decide), if_neg (show ¬ (2 : Nat) = 1 by decide)]
      go_wp2_with fail
      all_goals go_ret
      all_goals refine ⟨?_, rfl⟩
      all_goals rw [HR.out]
      all_goals refine congrArg (fun x => Ending.returned (.int .i64 x)) ?_
      all_goals unfold timeT
      all_goals (repeat' split)
      all_goals omega
theorem cuntil_any (a b : Int) (w : World) :
    Calls Tryd.prog 19 #[.int .i64 a, .int .i64 b] w (fun e w' => e = .returned (.int .i64 (timeC a b)) ∧ Below w.heap.size w w') := by
  have hk := Blk.new w 3 #[.int .i64 a, .int .i64 b]
  have CW := Lib.hid (cwithin_any a b w.heap.size _ hk)
  have HB := Lib.hid (show Below w.heap.size w (w.alloc (.cells #[.int .i64 a, .int .i64 b] 3)) from (Below.refl _ _).alloc (Nat.le_refl _) _)
  clear hk
  go_enter Tryd.func19, Tryd.ntmps19
  go_wp2_with fail
  refine calls_then CW.out ?_
  rintro e w2 ⟨rfl, rfl⟩
  go_wp2_with fail
  go_ret
  exact ⟨rfl, HB.out⟩
theorem cover_any (a b : Int) (w : World) : Calls Tryd.prog 16 #[.int .i64 a, .int .i64 b] w (fun e w' => e = .returned (.bool (decide (b ≤ a))) ∧ w' = w) := by
  go_enter Tryd.func16, Tryd.ntmps16
  go_wp2_with fail
  all_goals go_ret
  all_goals first | exact ⟨rfl, rfl⟩ | (refine ⟨?_, rfl⟩; simp; try omega)
end Go.Proofs.YtilhhigdegccgaaDoor
/-
  Walks: the reference's clock.
-/
namespace Go.Proofs.YtilhhigdegccgaaDoor
set_option linter.unusedSimpArgs false
set_option linter.unusedVariables false
open Go.RowKit
def InR (n : Int) : Prop := -9223372036854775808 ≤ n ∧ n ≤ 9223372036854775807
end Go.Proofs.YtilhhigdegccgaaDoor
/-
  Walk: the reference's SameOp, of an operation with a node and itself.
-/
namespace Go.Proofs.YtilhhigdegccgaaDoor
set_option linter.unusedSimpArgs false
set_option linter.unusedVariables false
open Go.RowKit
def opN (kind n : Int) (name : ByteArray) (k : NodeD) : Array Value := #[.int .i64 kind, .int .i64 n, .string name, .int .i64 0, .string ⟨#[]⟩, .string ⟨#[]⟩, .int .i64 0, .slice none 0 0, .string ⟨#[]⟩, .string ⟨#[]⟩, .int .i64 0, .bool false, .string k.name, .string k.key, .int .i64 k.exp, .int .i64 k.seq, .string k.doc, .string ⟨#[]⟩, .string ⟨#[]⟩, .int .i64 0, .int .i64 0, .string ⟨#[]⟩, .int .i64 0, .slice none 0 0]
theorem opN_one (kind n : Int) (name : ByteArray) (k : NodeD) : (opN kind n name k).all (·.oneCell') = true := by simp [opN, Value.oneCell']
end Go.Proofs.YtilhhigdegccgaaDoor
/-
  A guarded operation whose guard holds.
-/
namespace Go.Proofs.YtilhhigdegccgaaDoor
set_option linter.unusedSimpArgs false
set_option linter.unusedVariables false
open Go.RowKit
section
variable {P : Program}
theorem wpList_open {w : World} {ops : Array Oper} {rest : List Oper} {o : Oper} {a : Act} {Q : Exit → Act → World → Prop}
    (hw : Region.wanted o (yielded ops a.tmps) = true) (h : wpList P ops Q ({ o with guard := none } :: rest) a w) : wpList P ops Q (o :: rest) a w := by
  have hw' : ∀ (O : Array Oper) (t : Array Value), Region.wanted { o with guard := none } (yielded O t) = true := fun O t => by simp [Region.wanted]
  simp only [wpList, hw, hw', if_true] at h ⊢
  have ha : ∀ a w, Oper.asks P { o with guard := none } a w = Oper.asks P o a w := fun a w => rfl
  rw [ha] at h
  exact h
end
end Go.Proofs.YtilhhigdegccgaaDoor
/-
  Regions that draw their order and whose operations give one value each, whatever the order: one step for each operation, in the order of the text; the last one may write.
-/
namespace Go.Proofs.YtilhhigdegccgaaDoor
set_option linter.unusedSimpArgs false
set_option linter.unusedVariables false
section
variable {P : Program}
theorem putAll_congr (ops : Array Oper) (v1 v2 : Nat → Value) : ∀ (l : List Nat) (a : Act), (∀ j ∈ l, v1 j = v2 j) → putAll ops v1 l a = putAll ops v2 l a
  | [], _, _ => rfl
  | j :: r, a, h => by
    rw [putAll, putAll, h j (List.mem_cons_self ..)]
    exact putAll_congr ops v1 v2 r _ fun k hk => h k (List.mem_cons_of_mem _ hk)
def DetStep (P : Program) (ops : Array Oper) (C D : World → Prop) (Φ : (Nat → Value) → Prop) (i : Nat) (a0 : Act) (o : Oper) (v : Value) : Prop :=
  ∀ vals, Φ vals → ∀ w, C w → ∀ E : Act → World → Prop, (∀ w', D w' → E ((putAll ops vals (waitsOf ops i) a0).put o.dst v) w') → wpList P ops (EndOf E) [o] (putAll ops vals (waitsOf ops i) a0) w
def DetL (P : Program) (ops : Array Oper) (C D : World → Prop) (a0 : Act) (K : ((Nat → Value) → Prop) → Prop) : Nat → List Oper → ((Nat → Value) → Prop) → Prop
  | _, [], Φ => K Φ
  | i, [o], Φ => ∃ v, DetStep P ops C D Φ i a0 o v ∧ K fun vals => Φ vals ∧ vals i = v
  | i, o :: r :: rest, Φ => ∃ v, DetStep P ops C C Φ i a0 o v ∧ DetL P ops C D a0 K (i + 1) (r :: rest) fun vals => Φ vals ∧ vals i = v
theorem detL_all {ops : Array Oper} {C D : World → Prop} {a0 : Act} {K : ((Nat → Value) → Prop) → Prop} : ∀ (rest : List Oper) (i : Nat) (Φ : (Nat → Value) → Prop),
    (∀ v1 v2 : Nat → Value, (∀ j, j < i → v1 j = v2 j) → Φ v1 → Φ v2) → (∃ vals, Φ vals) → DetL P ops C D a0 K i rest Φ →
    ∃ (vs : Nat → Value) (Ψ : (Nat → Value) → Prop), K Ψ ∧ Φ vs ∧ (∀ vals, (∀ j, j < i + rest.length → vals j = vs j) → Ψ vals) ∧
      ∀ j o, rest[j]? = some o → ∀ vals w, C w → (∀ k, k < i + j → vals k = vs k) → ∀ E : Act → World → Prop, (∀ w', (if j + 1 = rest.length then D w' else C w') → E ((putAll ops vals (waitsOf ops (i + j)) a0).put o.dst (vs (i + j))) w') → wpList P ops (EndOf E) [o] (putAll ops vals (waitsOf ops (i + j)) a0) w
  | [], i, Φ, hΦ, ⟨v0, h0⟩, h => ⟨v0, Φ, h, h0, fun vals hv => hΦ _ _ (fun j hj => (hv j (by simpa using hj)).symm) h0, fun j o ho => by simp at ho⟩
  | [o], i, Φ, hΦ, ⟨v0, h0⟩, ⟨v, h1, h2⟩ => by
    refine ⟨upd v0 i v, _, h2, hΦ v0 _ (fun j hj => by simp [upd, Nat.ne_of_lt hj]) h0, fun vals hv => ⟨hΦ v0 _ (fun j hj => ?_) h0, ?_⟩, fun j o' ho w => ?_⟩
    · have := hv j (by simp; omega)
      rw [this]; simp [upd, Nat.ne_of_lt hj]
    · have := hv i (by simp)
      rw [this]; simp [upd]
    · cases j with
      | zero =>
        simp at ho
        subst ho
        intro w' hc hv
        have hΦv : Φ w := hΦ v0 _ (fun j hj => by rw [hv j (by omega)]; simp [upd, Nat.ne_of_lt hj]) h0
        intro E hE
        refine h1 w hΦv w' hc E fun w'' hd => ?_
        have := hE w'' (by simpa using hd)
        simpa [upd] using this
      | succ j => simp at ho
  | o :: r :: rest, i, Φ, hΦ, ⟨v0, h0⟩, ⟨v, h1, h2⟩ => by
    obtain ⟨vs, Ψ, k1, k2, k3, k4⟩ := detL_all (r :: rest) (i + 1) (fun vals => Φ vals ∧ vals i = v)
      (fun v1 v2 hv hp => ⟨hΦ v1 v2 (fun j hj => hv j (by omega)) hp.1, by rw [← hv i (by omega)]; exact hp.2⟩)
      ⟨upd v0 i v, hΦ v0 _ (fun j hj => by simp [upd, Nat.ne_of_lt hj]) h0, by simp [upd]⟩ h2
    refine ⟨vs, Ψ, k1, k2.1, fun vals hv => k3 vals fun j hj => hv j (by simp only [List.length_cons] at hj ⊢; omega), fun j o' ho vals w hc hv => ?_⟩
    cases j with
    | zero =>
      simp at ho
      subst ho
      have hΦv : Φ vals := hΦ vs _ (fun j hj => (hv j (by omega)).symm) k2.1
      intro E hE
      refine h1 vals hΦv w hc E fun w'' hd => ?_
      have : ¬ 0 + 1 = (o :: r :: rest).length := by simp
      have h4 := hE w'' (by rw [if_neg this]; exact hd)
      rw [Nat.add_zero, k2.2] at h4
      exact h4
    | succ j =>
      have h3 := k4 j o' (by simpa using ho) vals w hc (fun k hk => hv k (by omega))
      intro E hE
      rw [show i + (j + 1) = i + 1 + j by omega] at hE ⊢
      refine h3 E fun w'' hd => hE w'' ?_
      have e : (j + 1 + 1 = (o :: r :: rest).length) = (j + 1 = (r :: rest).length) := by simp
      simp only [e]
      exact hd
theorem wp_region_det {id : Nat} {l : List Oper} {a0 : Act} {w0 : World} {Q : Exit → Act → World → Prop} (C D : World → Prop) (ps : List (Nat × Option Tmp))
    (hm : P.follows .mixedOrders = true) (hok : regionOk l.toArray = true) (hpos : 0 < l.length)
    (hlast : ((List.range (l.length - 1)).all fun i => (deepWaits l.toArray 5 (l.length - 1)).contains i) = true)
    (hps : ∀ vals, putAll l.toArray vals (List.range l.toArray.size) a0 = puts vals ps a0) (hC : C w0.drew)
    (h : DetL P l.toArray C D a0 (fun Φ => ∀ vals, Φ vals → ∀ w, D w → Q .normal (puts vals ps a0) w) 0 l (fun _ => True)) :
    (Code.region id l.toArray true).wp P Q a0 w0 := by
  obtain ⟨vs, Ψ, k1, _, k3, k4⟩ := detL_all (P := P) l 0 (fun _ => True) (fun _ _ _ h => h) ⟨fun _ => undef, trivial⟩ h
  have hafter : ∀ i, i < l.length → i ≠ l.length - 1 → (deepWaits l.toArray 5 (l.length - 1)).contains i = true := fun i hi hne =>
    (List.all_eq_true.1 hlast) i (List.mem_range.2 (by omega))
  refine wp_region_rel (fun _ => True) (fun _ => C) (fun _ i => i == l.length - 1) (fun i vals w => vals i = vs i ∧ (i = l.length - 1 → D w)) (fun i w w' => if i = l.length - 1 then True else (C w → C w')) (fun _ _ => false) hm hok trivial (fun _ => hC) ?_ ?_ ?_ ?_
  · intro _ i hi w w' hS hc
    have hne : ¬ i = l.length - 1 := by simpa using hi
    rw [if_neg hne] at hS
    exact hS hc
  · intro i k hi hik _ hdk vals v w w' _ hF
    refine ⟨by simp [upd, Ne.symm hik, hF.1], fun hk => ?_⟩
    subst hk
    have := hafter i (by simpa using hi) hik
    rw [this] at hdk
    cases hdk
  · intro i o ho w vals _ hini hav
    have hil : i < l.length := by have := (Array.getElem?_eq_some_iff.1 ho).1; simpa using this
    have hok1 := okAt hok ho
    have hcw : C w := hini false (by
      unfold availIni
      rw [List.all_eq_true]
      intro k hk
      have hk' : k < l.length := by simpa using hk
      by_cases hki : k = i
      · simp [hki]
      · by_cases hkl : k = l.length - 1
        · have := hafter i hil (by omega)
          subst hkl
          simp only [this, Bool.or_true]
        · simp [hkl])
    have hvals : ∀ j ∈ waitsOf l.toArray i, vals j = vs j := fun j hj => by
      have h1 : availAt l.toArray (fun _ _ => false) j i = true := by
        unfold availAt
        simp [hj]
      exact (hav j h1).1
    have hcon : putAll l.toArray vals (waitsOf l.toArray i) a0 = putAll l.toArray vs (waitsOf l.toArray i) a0 := putAll_congr _ _ _ _ _ hvals
    have h3 := k4 i o (by simpa using ho) vs w hcw (fun _ _ => rfl)
    rw [Nat.zero_add] at h3
    rw [hcon]
    refine h3 (fun a' w' => ∃ v, a' = (putAll l.toArray vs (waitsOf l.toArray i) a0).put o.dst v ∧ (upd vals i v i = vs i ∧ (i = l.length - 1 → D w')) ∧ True ∧ (if i = l.length - 1 then True else (C w → C w'))) fun w' hd => ?_
    refine ⟨vs i, rfl, ⟨by simp [upd], fun hi => ?_⟩, trivial, ?_⟩
    · rw [if_pos (by omega)] at hd; exact hd
    · by_cases hi : i = l.length - 1
      · rw [if_pos hi]; trivial
      · rw [if_neg hi]
        intro _
        rw [if_neg (by omega)] at hd; exact hd
  · intro w vals _ hF
    rw [hps]
    have hal : ∀ j, aliveAt l.toArray (fun _ _ => false) j = true := fun j => by simp [aliveAt]
    have hD : D w := (hF (l.length - 1) (by simp; omega) (hal _)).2 rfl
    exact k1 vals (k3 vals fun j hj => (hF j (by simpa using hj) (hal _)).1) w hD
def tailP (P : Program) (ops : Array Oper) (a0 : Act) (Kf : (Nat → Value) → World → Prop) : Nat → List Oper → (Nat → Value) → World → Prop
  | _, [], vals, w => Kf vals w
  | i, o :: r, vals, w => ∀ E : Act → World → Prop, (∀ v w', tailP P ops a0 Kf (i + 1) r (upd vals i v) w' → E ((putAll ops vals (waitsOf ops i) a0).put o.dst v) w') → wpList P ops (EndOf E) [o] (putAll ops vals (waitsOf ops i) a0) w
def mergeV (d : Nat) (vs vals : Nat → Value) : Nat → Value := fun j => if j < d then vs j else vals j
theorem mergeV_upd {d i : Nat} (vs vals : Nat → Value) (v : Value) (h : d ≤ i) : mergeV d vs (upd vals i v) = upd (mergeV d vs vals) i v := by
  funext j
  unfold mergeV upd
  by_cases h1 : j = i
  · subst h1
    have : ¬ j < d := by omega
    simp [this]
  · simp [h1]
section
variable {ops : Array Oper} {C D : World → Prop} {a0 : Act} {K : ((Nat → Value) → Prop) → Prop} {i : Nat} {Φ : (Nat → Value) → Prop} {o : Oper}
theorem detStep_plain {v : Value} (ps : List (Nat × Option Tmp)) (hps : ∀ vals, putAll ops vals (waitsOf ops i) a0 = puts vals ps a0) (hg : o.guard = none)
    (h : ∀ vals, Φ vals → ∀ w, C w → ∀ E : Act → World → Prop, (∀ w', D w' → E ((puts vals ps a0).put o.dst v) w') → wpList P #[] (EndOf E) [o] (puts vals ps a0) w) : DetStep P ops C D Φ i a0 o v := by
  intro vals hp w hc E hE
  rw [hps] at hE ⊢
  have h1 := h vals hp w hc E hE
  have hw : ∀ (O : Array Oper) (t : Array Value), Region.wanted o (yielded O t) = true := fun O t => by simp [Region.wanted, hg]
  simp only [wpList, hw, if_true] at h1 ⊢
  exact h1
theorem detStep_yes {v : Value} (ps : List (Nat × Option Tmp)) (hps : ∀ vals, putAll ops vals (waitsOf ops i) a0 = puts vals ps a0) (g : Nat) (t : Tmp) (want : Bool) (hg : o.guard = some (g, want)) (hd : dstAt ops g = some t)
    (hy : ∀ vals, Φ vals → (puts vals ps a0).tmps[t]? = some (.bool want))
    (h : ∀ vals, Φ vals → ∀ w, C w → ∀ E : Act → World → Prop, (∀ w', D w' → E ((puts vals ps a0).put o.dst v) w') → wpList P #[] (EndOf E) [{ o with guard := none }] (puts vals ps a0) w) : DetStep P ops C D Φ i a0 o v := by
  intro vals hp w hc E hE
  rw [hps] at hE ⊢
  have h1 := h vals hp w hc E hE
  have hd' : (ops[g]?).bind (·.dst) = some t := hd
  have hw : Region.wanted o (yielded ops (puts vals ps a0).tmps) = true := by simp [Region.wanted, hg, yielded, hd', hy vals hp]
  have hw' : ∀ (O : Array Oper) (t : Array Value), Region.wanted { o with guard := none } (yielded O t) = true := fun O t => by simp [Region.wanted]
  simp only [wpList, hw, hw', if_true] at h1 ⊢
  have ha : ∀ a w, Oper.asks P { o with guard := none } a w = Oper.asks P o a w := fun a w => rfl
  rw [ha] at h1
  exact h1
theorem detStep_no (ps : List (Nat × Option Tmp)) (hps : ∀ vals, putAll ops vals (waitsOf ops i) a0 = puts vals ps a0) (g : Nat) (t : Tmp) (want : Bool) (hg : o.guard = some (g, want)) (hd : dstAt ops g = some t)
    (hy : ∀ vals, Φ vals → (puts vals ps a0).tmps[t]? = some (.bool !want)) (hCD : ∀ w, C w → D w) : DetStep P ops C D Φ i a0 o undef := by
  intro vals hp w hc E hE
  rw [hps] at hE ⊢
  have hd' : (ops[g]?).bind (·.dst) = some t := hd
  have hw : ¬ Region.wanted o (yielded ops (puts vals ps a0).tmps) = true := by
    simp [Region.wanted, hg, yielded, hd', hy vals hp]
  simp only [wpList, if_neg hw]
  exact ⟨rfl, hE w (hCD w hc)⟩
theorem tail_step {Kf : (Nat → Value) → World → Prop} {r : List Oper} {vals : Nat → Value} {w : World} (ps : List (Nat × Option Tmp)) (hps : ∀ vals, putAll ops vals (waitsOf ops i) a0 = puts vals ps a0) (hg : o.guard = none)
    (h : ∀ E : Act → World → Prop, (∀ v w', tailP P ops a0 Kf (i + 1) r (upd vals i v) w' → E ((puts vals ps a0).put o.dst v) w') → wpList P #[] (EndOf E) [o] (puts vals ps a0) w) : tailP P ops a0 Kf i (o :: r) vals w := by
  intro E hE
  rw [hps] at hE ⊢
  have h1 := h E hE
  have hw : ∀ (O : Array Oper) (t : Array Value), Region.wanted o (yielded O t) = true := fun O t => by simp [Region.wanted, hg]
  simp only [wpList, hw, if_true] at h1 ⊢
  exact h1
theorem tail_end {Kf : (Nat → Value) → World → Prop} {vals : Nat → Value} {w : World} (h : Kf vals w) : tailP P ops a0 Kf i [] vals w := h
theorem upd_self (vals : Nat → Value) (i : Nat) (v : Value) : upd vals i v i = v := if_pos rfl
theorem upd_ne {vals : Nat → Value} {i j : Nat} {v : Value} (h : j ≠ i) : upd vals i v j = vals j := if_neg h
theorem DetL.next {v : Value} {r : Oper} {rest : List Oper} (hs : DetStep P ops C C Φ i a0 o v) (h : DetL P ops C D a0 K (i + 1) (r :: rest) fun vals => Φ vals ∧ vals i = v) : DetL P ops C D a0 K i (o :: r :: rest) Φ := ⟨v, hs, h⟩
theorem DetL.last {v : Value} (hs : DetStep P ops C D Φ i a0 o v) (h : K fun vals => Φ vals ∧ vals i = v) : DetL P ops C D a0 K i [o] Φ := ⟨v, hs, h⟩
end
end
end Go.Proofs.YtilhhigdegccgaaDoor
