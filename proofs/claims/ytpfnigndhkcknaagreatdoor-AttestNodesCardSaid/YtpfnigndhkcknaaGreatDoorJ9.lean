/-
  Joined texts: Jsr Jod Clc Rcl Sop.
-/
import Derived.Test.YtpfnigndhkcknaaGreatDoorProg
import Derived.Lib.OthersKept
import Derived.Lib.DecodeN
import Derived.Lib.Strings
import Derived.Shelf.Abstract
import Derived.Lib.RuneCount
import Derived.Deep.LoopGhost
import Derived.Deep.QuietTactic
import Derived.BigQuiet
import Derived.Deep.DeepCutAuto
import Derived.Test.YtpfnigndhkcknaaGreatDoorJ4
import Derived.Test.YtpfnigndhkcknaaGreatDoorJ8
import Derived.Test.YtpfnigndhkcknaaGreatDoorJ2
import Derived.Test.YtpfnigndhkcknaaGreatDoorJ3
import Derived.Test.YtpfnigndhkcknaaGreatDoorJ6
/-
  Plain: a JSON value, as it lies in memory.
-/
namespace Go.Proofs.YtpfnigndhkcknaaGreatDoor.Js
set_option linter.unusedVariables false
open Go.RowKit
structure JV where
  k : Int
  n : Int
  t : Bs
  nA : Option Addr
  nn : Nat
  nc : Nat
  kA : Option Addr
  kn : Nat
  kc : Nat
def jvCells (v : JV) : Array Value := #[.int .i64 v.k, .int .i64 v.n, .string (bs v.t), .slice v.nA v.nn v.nc, .slice v.kA v.kn v.kc]
def sCell (s : Bs) : Array Value := #[.string (bs s)]
theorem bs_size (s : Bs) : (bs s).size = s.length := by simp [bs, ByteArray.size]
def RdS (w : World) (S : Nat → Prop) (A : Option Addr) (xs : List Value) : Prop := ∀ i u, xs[i]? = some u → ∃ ad, A = some ad ∧ S ad.block ∧ w.cell? (ad.add i) = some u
section
variable {w w' : World} {S S' : Nat → Prop} {A : Option Addr} {xs : List Value} {B : Nat}
theorem RdS.nil (w : World) (S : Nat → Prop) (A : Option Addr) : RdS w S A [] := fun i u hu => by simp at hu
theorem RdS.lt (h : RdS w S A xs) {i : Nat} {u : Value} (hu : xs[i]? = some u) : ∃ ad, A = some ad ∧ S ad.block ∧ ad.block < w.heap.size ∧ w.cell? (ad.add i) = some u := by
  obtain ⟨ad, h1, h2, h3⟩ := h i u hu
  refine ⟨ad, h1, h2, ?_, h3⟩
  have := World.block_lt_of_cell? w _ h3
  rwa [block_of_add] at this
theorem RdS.rd (h : RdS w S A xs) (hS : ∀ b, b < w.heap.size → S b → b < B) : Rd w B A xs := fun i u hu => by
  obtain ⟨ad, h1, h2, h3, h4⟩ := h.lt hu
  exact ⟨ad, h1, hS _ h3 h2, h4⟩
theorem RdS.imp (h : RdS w S A xs) (hS : ∀ b, b < w.heap.size → S b → S' b) : RdS w S' A xs := fun i u hu => by
  obtain ⟨ad, h1, h2, h3, h4⟩ := h.lt hu
  exact ⟨ad, h1, hS _ h3 h2, h4⟩
theorem RdS.heap (h : RdS w S A xs) (hk : ∀ b, b < w.heap.size → S b → w'.heap[b]? = w.heap[b]?) : RdS w' S A xs := fun i u hu => by
  obtain ⟨ad, h1, h2, h3, h4⟩ := h.lt hu
  refine ⟨ad, h1, h2, ?_⟩
  rw [← h4]
  exact World.cell?_of_block (w := w) (w' := w') (by rw [block_of_add]; exact hk _ h3 h2)
end
inductive JRep (w : World) (S : Nat → Prop) : JT → JV → Prop
  | mk (v : JV) (ns : List Bs) (ks : List JT) (kv : List JV) (hn : v.nn = ns.length) (hnc : v.nn ≤ v.nc) (hnr : RdS w S v.nA (rowsV sCell ns)) (hk : v.kn = ks.length) (hkc : v.kn ≤ v.kc) (hkv : kv.length = ks.length)
      (hkr : RdS w S v.kA (rowsV jvCells kv)) (hkids : ∀ i (h : i < ks.length) (h' : i < kv.length), JRep w S ks[i] kv[i]) : JRep w S (.mk v.k v.n v.t ns ks) v
section
variable {w w' : World} {S S' : Nat → Prop} {j : JT} {v : JV}
theorem JRep.imp (h : JRep w S j v) (hS : ∀ b, b < w.heap.size → S b → S' b) : JRep w S' j v := by
  induction h with
  | mk v ns ks kv hn hnc hnr hk hkc hkv hkr hkids ih => exact .mk v ns ks kv hn hnc (hnr.imp hS) hk hkc hkv (hkr.imp hS) ih
theorem JRep.heap (h : JRep w S j v) (hk : ∀ b, b < w.heap.size → S b → w'.heap[b]? = w.heap[b]?) : JRep w' S j v := by
  induction h with
  | mk v ns ks kv hn hnc hnr hk' hkc hkv hkr hkids ih => exact .mk v ns ks kv hn hnc (hnr.heap hk) hk' hkc hkv (hkr.heap hk) ih
theorem JRep.grown {g : Option Nat} (h : JRep w S j v) (hg : w.grownBy w' g) (hS : ∀ b, S b → some b ≠ g) : JRep w' S j v := h.heap fun b hlt hs => hg.block b hlt (hS b hs)
end
end Go.Proofs.YtpfnigndhkcknaaGreatDoor.Js
/-
  Walks: json's texts: which bytes may be; whether a text is in a list.
-/
namespace Go.Proofs.YtpfnigndhkcknaaGreatDoor.Js
set_option linter.unusedSimpArgs false
set_option linter.unusedVariables false
open Go.RowKit
theorem decodeN_big (n b0 b1 b2 b3 : Nat) (h : 128 ≤ b0) : 126 < (Lib.decodeN n b0 b1 b2 b3).1 := by
  unfold Lib.decodeN
  rw [if_neg (by omega)]
  repeat' split
  all_goals first | (show 126 < 65533; decide) | (show 126 < _; omega)
theorem decode_big {s : ByteArray} {pos : Nat} (h : pos < s.size) (hb : 126 < (s[pos]'h).toNat) : 126 < (Utf8.decode s pos).1 := by
  by_cases h8 : (s[pos]'h).toNat < 128
  · rw [decode_ascii s pos h h8]
    exact hb
  · rw [Lib.decode_at]
    have : (s.get! pos).toNat = (s[pos]'h).toNat := by
      cases s with
      | mk d => exact congrArg UInt8.toNat (getElem!_pos d pos h)
    have h2 := decodeN_big (s.size - pos) (s.get! pos).toNat (s.get! (pos + 1)).toNat (s.get! (pos + 2)).toNat (s.get! (pos + 3)).toNat (by rw [this]; omega)
    exact h2
theorem bs_toList (a : Bs) : (bs a).toList = a := by
  rw [Lib.toList_data]
  rfl
theorem idx_any (l : List Bs) (s : Bs) (A : Option Addr) (c B : Nat) (w : World) (hr : Rd w B A (rowsV sCell l)) (hl : l.length ≤ 1099511627776) :
    Calls Tryz.prog 38 #[.slice A l.length c, .string (bs s)] w fun e w' => (∃ k : Int, e = .returned (.int .i64 k) ∧ decide (0 ≤ k) = decide (s ∈ l)) ∧ w' = w := by
  obtain ⟨n, hn⟩ : ∃ n, n = l.length := ⟨_, rfl⟩
  have HN := Lib.hid hn
  have HR := Lib.hid hr
  have HL := Lib.hid (show (n : Int) ≤ 1099511627776 by omega)
  rw [← hn]
  clear hr hl hn
  go_enter Tryz.func38, Tryz.ntmps38
  go_wp2_with fail
  go_loop [8] (fun x => ∃ i : Nat, i ≤ n ∧ x = .int .i64 (i : Int) ∧ s ∉ l.take i) (fun x => n - (intOf x).toNat)
  case atStart => exact ⟨0, by omega, rfl, by simp⟩
  case round =>
    obtain ⟨i, hi, rfl, hok⟩ := hrel
    have HOK := Lib.hid hok
    clear hok
    by_cases hlt : i < n
    · have hil : i < l.length := by rw [← HN.out]; exact hlt
      have hlt' : (i : Int) < (n : Int) := by omega
      obtain ⟨ad, hA, hadb, hcell⟩ := rd_rows (f := sCell) (m := 1) (fun _ => rfl) (by decide) HR.out hil
      subst hA
      obtain ⟨X, hX⟩ : ∃ X, X = l[i] := ⟨_, rfl⟩
      rw [← hX] at hcell
      have hc0 : w.cell? (ad.add i) = some (.string (bs X)) := by
        have h := hcell 0 _ rfl
        rw [Nat.mul_one] at h
        exact h
      have HST := Lib.hid (show s ≠ X → s ∉ l.take (i + 1) from fun h => by
        rw [List.take_succ_eq_append_getElem hil, ← hX, List.mem_append]
        rintro (h1 | h1)
        · exact HOK.out h1
        · exact h (by simpa using h1))
      have HMEM := Lib.hid (show X ∈ l by rw [hX]; exact List.getElem_mem hil)
      have HLT := Lib.hid hlt
      clear hX hcell hadb hil
      have hns := HL.out
      by_cases hq : s = X
      · subst hq
        clear HST
        go_wp2_with fail
        go_ret
        exact ⟨⟨_, rfl, by simp [HMEM.out]⟩, rfl⟩
      · have hq' : ((bs s).toList == (bs X).toList) = false := by rw [bs_toList, bs_toList]; simpa using hq
        have HQ := Lib.hid hq
        clear hq
        go_wp2_with fail
        exact ⟨⟨i + 1, HLT.out, by go_num, HST.out HQ.out⟩, by have := HLT.out; simp [intOf]; omega⟩
    · obtain rfl : i = n := by omega
      have HALL := Lib.hid (show s ∉ l by
        have := HOK.out
        rwa [HN.out, List.take_length] at this)
      go_wp2_with fail
      go_ret
      exact ⟨⟨_, rfl, by simp [HALL.out]⟩, rfl⟩
theorem has_any (l : List Bs) (s : Bs) (A : Option Addr) (c B : Nat) (w : World) (hr : Rd w B A (rowsV sCell l)) (hl : l.length ≤ 1099511627776) :
    Calls Tryz.prog 18 #[.slice A l.length c, .string (bs s)] w fun e w' => e = .returned (.bool (decide (s ∈ l))) ∧ w' = w := by
  have C := Lib.hid (idx_any l s A c B w hr hl)
  clear hr
  obtain ⟨b, hb⟩ : ∃ b, b = decide (s ∈ l) := ⟨_, rfl⟩
  rw [← hb] at C ⊢
  clear hl hb
  generalize l.length = n at *
  generalize bs s = t at *
  go_enter Tryz.func18, Tryz.ntmps18
  go_wp2_with fail
  refine calls_then C.out ?_
  rintro e w1 ⟨⟨k, rfl, hk⟩, rfl⟩
  have HK := Lib.hid hk
  clear hk
  go_wp2_with fail
  go_ret
  exact ⟨by rw [← HK.out]; rfl, rfl⟩
end Go.Proofs.YtpfnigndhkcknaaGreatDoor.Js
/-
  Walks: clock's Add, within, Until, Over.
-/
namespace Go.Proofs.YtpfnigndhkcknaaGreatDoor
set_option linter.unusedSimpArgs false
set_option linter.unusedVariables false
open Go.RowKit
def satA (a b : Int) : Int := if a + b > 9223372036854775807 then 9223372036854775807 else if a + b < -9223372036854775808 then -9223372036854775808 else a + b
def timeT (t : Int) : Int := if t < 0 then 0 else if t > 1099511627776 then 1099511627776 else t
theorem wrap64_sum (a b : Int) (ha : -9223372036854775808 ≤ a ∧ a ≤ 9223372036854775807) (hb : -9223372036854775808 ≤ b ∧ b ≤ 9223372036854775807) :
    (wrap64 (a + b) = a + b - 18446744073709551616 ∧ a + b > 9223372036854775807) ∨ (wrap64 (a + b) = a + b + 18446744073709551616 ∧ a + b < -9223372036854775808) ∨ (wrap64 (a + b) = a + b ∧ -9223372036854775808 ≤ a + b ∧ a + b ≤ 9223372036854775807) := by
  unfold wrap64
  omega
theorem satA_range (a b : Int) : -9223372036854775808 ≤ satA a b ∧ satA a b ≤ 9223372036854775807 := by unfold satA; repeat' split <;> omega
theorem satA_zero {a : Int} (ha : -9223372036854775808 ≤ a ∧ a ≤ 9223372036854775807) : satA 0 a = a := by unfold satA; repeat' split <;> omega
def addC (a b : Int) : Int := if 0 < a ∧ 0 < b ∧ wrap64 (a + b) < a then 9223372036854775807 else if a < 0 ∧ b < 0 ∧ 0 ≤ wrap64 (a + b) then -9223372036854775808 else wrap64 (a + b)
theorem addC_eq (a b : Int) (ha : -9223372036854775808 ≤ a ∧ a ≤ 9223372036854775807) (hb : -9223372036854775808 ≤ b ∧ b ≤ 9223372036854775807) : addC a b = satA a b := by
  unfold addC satA
  have hw := wrap64_sum a b ha hb
  generalize wrap64 (a + b) = x at *
  repeat' split
  all_goals omega
def timeC (a b : Int) : Int := timeT (addC (addC 0 a) b)
theorem timeC_eq (a b : Int) (ha : -9223372036854775808 ≤ a ∧ a ≤ 9223372036854775807) (hb : -9223372036854775808 ≤ b ∧ b ≤ 9223372036854775807) : timeC a b = timeT (satA a b) := by
  rw [timeC, addC_eq 0 a (by omega) ha, satA_zero ha, addC_eq a b ha hb]
set_option maxRecDepth 100000 in
set_option maxHeartbeats 1000000 in
theorem cadd_any (a b : Int) (w : World) :
    Calls Tryz.prog 63 #[.int .i64 a, .int .i64 b] w (fun e w' => e = .returned (.int .i64 (addC a b)) ∧ w' = w) := by
  obtain ⟨r, hr⟩ : ∃ r, r = addC a b := ⟨_, rfl⟩
  rw [← hr]
  have HR := Lib.hid hr
  clear hr
  go_enter Tryz.func63, Tryz.ntmps63
  go_wp2_with fail
  all_goals go_ret
  all_goals refine ⟨?_, rfl⟩
  all_goals rw [HR.out]
  all_goals refine congrArg (fun x => Ending.returned (.int .i64 x)) ?_
  all_goals unfold addC
  all_goals generalize wrap64 (a + b) = x at *
  all_goals (repeat' split)
  all_goals omega
set_option maxRecDepth 100000 in
set_option maxHeartbeats 1000000 in
theorem cwithin_any (a b : Int) (g : Nat) (w : World) (hk : Blk w g 3 #[.int .i64 a, .int .i64 b]) :
    Calls Tryz.prog 39 #[.slice (some ⟨g, 0, none⟩) 2 2] w (fun e w' => e = .returned (.int .i64 (timeC a b)) ∧ w' = w) := by
  have d0 : w.cell? ⟨g, 0, none⟩ = some (.int .i64 a) := hk.cell 0
  have d1 : w.cell? ⟨g, 1, none⟩ = some (.int .i64 b) := hk.cell 1
  obtain ⟨a0, ha0⟩ : ∃ s, s = addC 0 a := ⟨_, rfl⟩
  have CA := Lib.hid (show ∀ u, Calls Tryz.prog 63 #[.int .i64 0, .int .i64 a] u (fun e w' => e = .returned (.int .i64 a0) ∧ w' = u) from fun u => by rw [ha0]; exact cadd_any 0 a u)
  obtain ⟨s, hs⟩ : ∃ s, s = addC a0 b := ⟨_, rfl⟩
  have CB := Lib.hid (show ∀ u, Calls Tryz.prog 63 #[.int .i64 a0, .int .i64 b] u (fun e w' => e = .returned (.int .i64 s) ∧ w' = u) from fun u => by rw [hs]; exact cadd_any a0 b u)
  rw [timeC, ← ha0, ← hs]
  obtain ⟨r, hr⟩ : ∃ r, r = timeT s := ⟨_, rfl⟩
  rw [← hr]
  have HR := Lib.hid hr
  clear hs hr hk ha0
  go_enter Tryz.func39, Tryz.ntmps39
  go_wp2_with fail
  go_loopw [3, 8] (fun t i wr => ∃ k : Nat, k ≤ 2 ∧ i = .int .i64 (k : Int) ∧ wr = w ∧ t = .int .i64 (if k = 0 then 0 else if k = 1 then a0 else s)) (fun _ i _ => 2 - (intOf i).toNat)
  case atStart => exact ⟨0, by omega, rfl, rfl, rfl⟩
  case round =>
    obtain ⟨k, hk, rfl, rfl, rfl⟩ := hrel
    have hk3 : k = 0 ∨ k = 1 ∨ k = 2 := by omega
    rcases hk3 with rfl | rfl | rfl
    · simp only [if_true]
      go_wp2_with fail
      refine calls_then (CA.out _) ?_
      rintro e w2 ⟨rfl, rfl⟩
      go_wp2_with fail
      go_roundw
      case rel => exact ⟨1, by omega, by simp, by simp, by simp⟩
      case measure => simp [intOf]
    · simp only [if_neg (show ¬ (1 : Nat) = 0 by decide), if_true]
      go_wp2_with fail
      refine calls_then (CB.out _) ?_
      rintro e w2 ⟨rfl, rfl⟩
      go_wp2_with fail
      go_roundw
      case rel => exact ⟨2, by omega, by simp, by simp, by simp⟩
      case measure => simp [intOf]
    · simp only [if_neg (show ¬ (2 : Nat) = 0 by decide), if_neg (show ¬ (2 : Nat) = 1 by decide)]
      go_wp2_with fail
      all_goals go_ret
      all_goals refine ⟨?_, rfl⟩
      all_goals rw [HR.out]
      all_goals refine congrArg (fun x => Ending.returned (.int .i64 x)) ?_
      all_goals unfold timeT
      all_goals (repeat' split)
      all_goals omega
theorem cuntil_any (a b : Int) (w : World) :
    Calls Tryz.prog 19 #[.int .i64 a, .int .i64 b] w (fun e w' => e = .returned (.int .i64 (timeC a b)) ∧ Below w.heap.size w w') := by
  have hk := Blk.new w 3 #[.int .i64 a, .int .i64 b]
  have CW := Lib.hid (cwithin_any a b w.heap.size _ hk)
  have HB := Lib.hid (show Below w.heap.size w (w.alloc (.cells #[.int .i64 a, .int .i64 b] 3)) from (Below.refl _ _).alloc (Nat.le_refl _) _)
  clear hk
  go_enter Tryz.func19, Tryz.ntmps19
  go_wp2_with fail
  refine calls_then CW.out ?_
  rintro e w2 ⟨rfl, rfl⟩
  go_wp2_with fail
  go_ret
  exact ⟨rfl, HB.out⟩
theorem cover_any (a b : Int) (w : World) : Calls Tryz.prog 48 #[.int .i64 a, .int .i64 b] w (fun e w' => e = .returned (.bool (decide (b ≤ a))) ∧ w' = w) := by
  go_enter Tryz.func48, Tryz.ntmps48
  go_wp2_with fail
  all_goals go_ret
  all_goals first | exact ⟨rfl, rfl⟩ | (refine ⟨?_, rfl⟩; simp; try omega)
end Go.Proofs.YtpfnigndhkcknaaGreatDoor
/-
  Walks: the reference's clock.
-/
namespace Go.Proofs.YtpfnigndhkcknaaGreatDoor
set_option linter.unusedSimpArgs false
set_option linter.unusedVariables false
open Go.RowKit
set_option maxRecDepth 100000 in
set_option maxHeartbeats 1000000 in
theorem radd17_any (a b : Int) (ha : -9223372036854775808 ≤ a ∧ a ≤ 9223372036854775807) (hb : -9223372036854775808 ≤ b ∧ b ≤ 9223372036854775807) (w : World) :
    Calls Tryz.prog 44 #[.int .i64 a, .int .i64 b] w (fun e w' => e = .returned (.int .i64 (satA a b)) ∧ w' = w) := by
  obtain ⟨r, hr⟩ : ∃ r, r = satA a b := ⟨_, rfl⟩
  rw [← hr]
  have HR := Lib.hid hr
  have HA := Lib.hid ha
  have HB := Lib.hid hb
  clear hr ha hb
  go_enter Tryz.func44, Tryz.ntmps44
  go_wp2_with fail
  all_goals go_ret
  all_goals refine ⟨?_, rfl⟩
  all_goals rw [HR.out]
  all_goals refine congrArg (fun x => Ending.returned (.int .i64 x)) ?_
  all_goals have ha := HA.out
  all_goals have hb := HB.out
  all_goals unfold satA
  all_goals unfold wrap64 at *
  all_goals (repeat' split)
  all_goals omega
theorem rtime_any (t : Int) (w : World) : Calls Tryz.prog 43 #[.int .i64 t] w (fun e w' => e = .returned (.int .i64 (timeT t)) ∧ w' = w) := by
  obtain ⟨r, hr⟩ : ∃ r, r = timeT t := ⟨_, rfl⟩
  rw [← hr]
  have HR := Lib.hid hr
  clear hr
  go_enter Tryz.func43, Tryz.ntmps43
  go_wp2_with fail
  all_goals go_ret
  all_goals refine ⟨?_, rfl⟩
  all_goals rw [HR.out]
  all_goals refine congrArg (fun x => Ending.returned (.int .i64 x)) ?_
  all_goals unfold timeT
  all_goals (repeat' split)
  all_goals omega
def InR (n : Int) : Prop := -9223372036854775808 ≤ n ∧ n ≤ 9223372036854775807
end Go.Proofs.YtpfnigndhkcknaaGreatDoor
/-
  Walk: the reference's SameOp, of an operation and itself.
-/
namespace Go.Proofs.YtpfnigndhkcknaaGreatDoor
set_option linter.unusedSimpArgs false
set_option linter.unusedVariables false
open Go.RowKit
theorem same9_nil (w : World) : Calls Tryz.prog 45 #[.slice none 0 0, .slice none 0 0] w (fun e w' => e = .returned (.bool true) ∧ w' = w) := by
  go_enter Tryz.func45, Tryz.ntmps45
  go_wp2_with fail
  refine wp_loop_rounds 1 ?_
  rw [rounds_succ]
  go_wp2_with fail
  go_ret
  exact ⟨rfl, rfl⟩
def zBun : Array Value := #[.string ⟨#[]⟩, .int .i64 0, .slice none 0 0]
set_option maxRecDepth 100000 in
set_option maxHeartbeats 1000000 in
theorem bsame_nil (w : World) : Calls Tryz.prog 27 #[.agg zBun, .agg zBun] w (fun e w' => e = .returned (.bool true) ∧ Below w.heap.size w w') := by
  obtain ⟨W0, hW0⟩ : ∃ W0, W0 = (w.alloc (.cells zBun 45)).alloc (.cells zBun 45) := ⟨_, rfl⟩
  have hb0 : Below w.heap.size w W0 := by rw [hW0]; exact ((Below.refl _ w).alloc (Nat.le_refl _) _).alloc (by simp) _
  have hk1 : Blk W0 w.heap.size 45 zBun := by rw [hW0]; exact (Blk.new _ _ _).alloc _
  have hk2 : Blk W0 (w.heap.size + 1) 45 zBun := by
    have := Blk.new (w.alloc (.cells zBun 45)) 45 zBun
    rw [hW0]; simpa using this
  have a0 : W0.cell? ⟨w.heap.size, 0, none⟩ = some (.string ⟨#[]⟩) := hk1.cell 0
  have a1 : W0.cell? ⟨w.heap.size, 1, none⟩ = some (.int .i64 0) := hk1.cell 1
  have a2 : W0.cell? ⟨w.heap.size, 2, none⟩ = some (.slice none 0 0) := hk1.cell 2
  have b0 : W0.cell? ⟨w.heap.size + 1, 0, none⟩ = some (.string ⟨#[]⟩) := hk2.cell 0
  have b1 : W0.cell? ⟨w.heap.size + 1, 1, none⟩ = some (.int .i64 0) := hk2.cell 1
  have b2 : W0.cell? ⟨w.heap.size + 1, 2, none⟩ = some (.slice none 0 0) := hk2.cell 2
  have HW0 := Lib.hid hW0
  have HB0 := Lib.hid hb0
  clear hb0 hk1 hk2 hW0
  go_enter Tryz.func27, Tryz.ntmps27
  go_upto_region 1 with (fail)
  rw [← HW0.out]
  go_wp2_with fail
  refine wp_loop_rounds 1 ?_
  rw [rounds_succ]
  go_wp2_with fail
  go_ret
  exact ⟨rfl, HB0.out⟩
def zEnt : Array Value := #[.int .i64 0, .string ⟨#[]⟩, .string ⟨#[]⟩, .int .i64 0, .slice none 0 0]
def ledV (g : Nat) : Array Value := #[.slice (some ⟨g, 0, none⟩) 1 1, .slice none 0 0, .slice none 0 0, .slice none 0 0, .slice none 0 0, .slice none 0 0]
theorem ent_size : (Tryz.prog.info? 36).map (·.size) = some 5 := by kernel_rfl
set_option maxRecDepth 100000 in
set_option maxHeartbeats 2000000 in
theorem lsame_one (g1 g2 : Nat) (w : World) (h1 : Blk w g1 36 zEnt) (h2 : Blk w g2 36 zEnt) : Calls Tryz.prog 26 #[.agg (ledV g1), .agg (ledV g2)] w (fun e w' => e = .returned (.bool true) ∧ Below w.heap.size w w') := by
  have hue := Tryz.underlying36
  obtain ⟨W0, hW0⟩ : ∃ W0, W0 = (w.alloc (.cells (ledV g1) 33)).alloc (.cells (ledV g2) 33) := ⟨_, rfl⟩
  have hb0 : Below w.heap.size w W0 := by rw [hW0]; exact ((Below.refl _ w).alloc (Nat.le_refl _) _).alloc (by simp) _
  have hk1 : Blk W0 w.heap.size 33 (ledV g1) := by rw [hW0]; exact (Blk.new _ _ _).alloc _
  have hk2 : Blk W0 (w.heap.size + 1) 33 (ledV g2) := by
    have := Blk.new (w.alloc (.cells (ledV g1) 33)) 33 (ledV g2)
    rw [hW0]; simpa using this
  have he1 := h1.below hb0 h1.lt
  have he2 := h2.below hb0 h2.lt
  have LA := Lib.hid (show ∀ u, Below W0.heap.size W0 u → (u.cell? ⟨w.heap.size, 0, none⟩ = some (.slice (some ⟨g1, 0, none⟩) 1 1) ∧ u.cell? ⟨w.heap.size, 1, none⟩ = some (.slice none 0 0) ∧ u.cell? ⟨w.heap.size, 2, none⟩ = some (.slice none 0 0) ∧ u.cell? ⟨w.heap.size, 3, none⟩ = some (.slice none 0 0) ∧ u.cell? ⟨w.heap.size, 4, none⟩ = some (.slice none 0 0) ∧ u.cell? ⟨w.heap.size, 5, none⟩ = some (.slice none 0 0)) from fun u h => by
    have hk := hk1.below h hk1.lt
    exact ⟨hk.cell 0, hk.cell 1, hk.cell 2, hk.cell 3, hk.cell 4, hk.cell 5⟩)
  have LB := Lib.hid (show ∀ u, Below W0.heap.size W0 u → (u.cell? ⟨w.heap.size + 1, 0, none⟩ = some (.slice (some ⟨g2, 0, none⟩) 1 1) ∧ u.cell? ⟨w.heap.size + 1, 1, none⟩ = some (.slice none 0 0) ∧ u.cell? ⟨w.heap.size + 1, 2, none⟩ = some (.slice none 0 0) ∧ u.cell? ⟨w.heap.size + 1, 3, none⟩ = some (.slice none 0 0) ∧ u.cell? ⟨w.heap.size + 1, 4, none⟩ = some (.slice none 0 0) ∧ u.cell? ⟨w.heap.size + 1, 5, none⟩ = some (.slice none 0 0)) from fun u h => by
    have hk := hk2.below h hk2.lt
    exact ⟨hk.cell 0, hk.cell 1, hk.cell 2, hk.cell 3, hk.cell 4, hk.cell 5⟩)
  have HE1 := Lib.hid he1
  have HE2 := Lib.hid he2
  have HW0 := Lib.hid hW0
  have HB0 := Lib.hid hb0
  obtain ⟨a0, a1, a2, a3, a4, a5⟩ := LA.out W0 (Below.refl _ _)
  obtain ⟨b0, b1, b2, b3, b4, b5⟩ := LB.out W0 (Below.refl _ _)
  clear hb0 hk1 hk2 hW0 he1 he2 h1 h2
  go_enter Tryz.func26, Tryz.ntmps26
  go_upto_region 1 with (fail)
  rw [← HW0.out]
  go_wp2_with fail
  refine calls_then (same9_nil _) ?_
  rintro e w1 ⟨rfl, rfl⟩
  go_wp2_with fail
  refine wp_loop_rounds 2 ?_
  rw [rounds_succ]
  have hn1 := Blk.new w1 36 zEnt
  have he1 := HE1.out
  have he2 := HE2.out
  go_wp2_with (first
    | (refine wpList_get_box he1 rfl rfl rfl hue rfl ent_size ?_)
    | (refine wpList_put_box (x := .tmp 7) (cells := zEnt) hn1 rfl rfl rfl rfl ent_size rfl (by simp [zEnt, Value.oneCell']) ?_; intro w2 hb2 hw2; have hbel2 : Below w1.heap.size w1 w2 := hw2.below ((Below.refl _ _).alloc (Nat.le_refl _) _) (Nat.le_refl _) (by simp); obtain ⟨b0, b1, b2, b3, b4, b5⟩ := LB.out w2 hbel2; have hf2 := HE2.out.below hbel2 HE2.out.lt; have hn2 := Blk.new w2 36 zEnt; have HB2 := Lib.hid hb2; have HL2 := Lib.hid hbel2; clear hb2 hw2 hbel2)
    | (refine wpList_get_box hf2 rfl rfl rfl hue rfl ent_size ?_)
    | (refine wpList_put_box (x := .tmp 8) (cells := zEnt) hn2 rfl rfl rfl rfl ent_size rfl (by simp [zEnt, Value.oneCell']) ?_; intro w3 hb3 hw3; have hbel3 : Below w2.heap.size w2 w3 := hw3.below ((Below.refl _ _).alloc (Nat.le_refl _) _) (Nat.le_refl _) (by simp); have hx7 := HB2.out.below hbel3 HB2.out.lt; have c0 : w3.cell? ⟨w1.heap.size, 0, none⟩ = some (.int .i64 0) := hx7.cell 0; have c1 : w3.cell? ⟨w1.heap.size, 1, none⟩ = some (.string ⟨#[]⟩) := hx7.cell 1; have c2 : w3.cell? ⟨w1.heap.size, 2, none⟩ = some (.string ⟨#[]⟩) := hx7.cell 2; have c3 : w3.cell? ⟨w1.heap.size, 3, none⟩ = some (.int .i64 0) := hx7.cell 3; have c4 : w3.cell? ⟨w1.heap.size, 4, none⟩ = some (.slice none 0 0) := hx7.cell 4; have e0 : w3.cell? ⟨w2.heap.size, 0, none⟩ = some (.int .i64 0) := hb3.cell 0; have e1 : w3.cell? ⟨w2.heap.size, 1, none⟩ = some (.string ⟨#[]⟩) := hb3.cell 1; have e2 : w3.cell? ⟨w2.heap.size, 2, none⟩ = some (.string ⟨#[]⟩) := hb3.cell 2; have e3 : w3.cell? ⟨w2.heap.size, 3, none⟩ = some (.int .i64 0) := hb3.cell 3; have e4 : w3.cell? ⟨w2.heap.size, 4, none⟩ = some (.slice none 0 0) := hb3.cell 4; have HL3 := Lib.hid (HL2.out.trans (hbel3.mono HL2.out.size)); clear hb3 hw3 hbel3 hx7))
  obtain ⟨a0, a1, a2, a3, a4, a5⟩ := LA.out w3 HL3.out
  obtain ⟨b0, b1, b2, b3, b4, b5⟩ := LB.out w3 HL3.out
  refine calls_then (same9_nil _) ?_
  rintro e w4 ⟨rfl, rfl⟩
  go_wp2_with fail
  rw [rounds_succ]
  go_wp2_with fail
  refine wp_loop_rounds 1 ?_
  rw [rounds_succ]
  go_wp2_with fail
  refine wp_loop_rounds 1 ?_
  rw [rounds_succ]
  go_wp2_with fail
  refine wp_loop_rounds 1 ?_
  rw [rounds_succ]
  go_wp2_with fail
  refine wp_loop_rounds 1 ?_
  rw [rounds_succ]
  go_wp2_with fail
  go_ret
  exact ⟨rfl, HB0.out.trans (HL3.out.mono HB0.out.size)⟩
end Go.Proofs.YtpfnigndhkcknaaGreatDoor
