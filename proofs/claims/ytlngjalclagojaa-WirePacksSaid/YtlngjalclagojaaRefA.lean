/-
  Walks: brevetref12.few, brevetref09.Same, brevetref12.Same.
-/
import Derived.Test.YtlngjalclagojaaProg
import Derived.Test.YtlngjalclagojaaLaws
import Derived.Test.YtlngjalclagojaaMsg
import Derived.BigQuiet
import Derived.Deep.QuietTactic
namespace Go.Proofs.Ytlngjalclagojaa
open Go.RowKit

def fewS (s : ByteArray) : ByteArray := if 1010 < s.size then s.extract 0 1010 else if 80 < s.size ∧ s.size < 900 then s.extract 0 80 else s

set_option maxHeartbeats 400000 in
theorem few_any (s : ByteArray) (w : World) (hs : s.size ≤ 9223372036854775807) :
    Calls Try.prog 16 #[.string s] w fun e w' => e = .returned (.string (fewS s)) ∧ w = w' := by
  by_cases h1 : (1010 : Int) < (s.size : Int)
  · go_enter Try.func16, Try.ntmps16
    go_wp2
    go_ret
    exact ⟨ret_str (by rw [fewS, if_pos (by omega)]), rfl⟩
  · by_cases h2 : (80 : Int) < (s.size : Int)
    · by_cases h3 : (s.size : Int) < (900 : Int)
      · go_enter Try.func16, Try.ntmps16
        go_wp2
        go_ret
        exact ⟨ret_str (by rw [fewS, if_neg (by omega), if_pos ⟨by omega, by omega⟩]), rfl⟩
      · go_enter Try.func16, Try.ntmps16
        go_wp2
        go_ret
        exact ⟨ret_str (by rw [fewS, if_neg (by omega), if_neg (by omega)]), rfl⟩
    · go_enter Try.func16, Try.ntmps16
      go_wp2
      go_ret
      exact ⟨ret_str (by rw [fewS, if_neg (by omega), if_neg (by omega)]), rfl⟩

def sameB (a b : List ByteArray) : Bool := decide (a = b)

set_option maxHeartbeats 1000000 in
theorem same9_any (A1 A2 : Option Addr) (c1 c2 B : Nat) (a b : List ByteArray) (w : World) (h1 : Rd w B A1 (strsV a)) (h2 : Rd w B A2 (strsV b)) (hm1 : a.length ≤ 9223372036854775807) (hm2 : b.length ≤ 9223372036854775807) :
    Calls Try.prog 19 #[.slice A1 a.length c1, .slice A2 b.length c2] w fun e w' => e = .returned (.bool (sameB a b)) ∧ ∃ n, w' = w.drewN n := by
  by_cases hl : a.length = b.length
  · have hlb : ((a.length : Int) != (b.length : Int)) = false := by simp [hl]
    have HL := Lib.hid hl
    clear hl
    go_enter Try.func19, Try.ntmps19
    go_wp2_with fail
    go_loopw [5] (fun i wr => ∃ k : Nat, k ≤ a.length ∧ i = .int .i64 k ∧ a.take k = b.take k ∧ ∃ n, wr = w.drewN n) (fun i _ => a.length - (intOf i).toNat)
    case atStart => exact ⟨0, Nat.zero_le _, rfl, rfl, 0, rfl⟩
    case round =>
      obtain ⟨k, hk, rfl, htk, n, rfl⟩ := hrel
      have HT := Lib.hid htk
      clear htk
      by_cases hlt : k < a.length
      · have hltb : k < b.length := by have := HL.out; omega
        obtain ⟨ad1, rfl, _, hc1⟩ := h1.at_ (k := k) (by simp [strsV]; omega)
        obtain ⟨ad2, rfl, _, hc2⟩ := h2.at_ (k := k) (by simp [strsV]; omega)
        simp only [strsV, List.getElem_map] at hc1 hc2
        have hk1 : (0 : Int) ≤ (k : Int) := by omega
        have hk2 : (k : Int) < (a.length : Int) := by omega
        have hk3 : (k : Int) < (b.length : Int) := by omega
        go_wp2_with fail
        go_quiet (fail)
        go_wp2_with fail
        · go_ret
          have hne : (!a[k].toList == b[k].toList) = true := by assumption
          have hne' : a[k] ≠ b[k] := fun e => by rw [e] at hne; simp at hne
          refine ⟨ret_bool ?_, _, World.drewN_drewN _ _ _⟩
          simp only [sameB]
          rw [Eq.comm, decide_eq_false_iff_not]
          intro e
          subst e
          exact hne' rfl
        · go_roundw
          case rel =>
            have he : (!a[k].toList == b[k].toList) = false := by assumption
            have he' : a[k] = b[k] := by
              have : a[k].toList = b[k].toList := by simpa using he
              rw [toList_eq, toList_eq] at this
              exact ByteArray.ext (Array.toList_inj.1 this)
            refine ⟨k + 1, hlt, by go_num, ?_, _, rfl⟩
            rw [List.take_succ_eq_append_getElem hlt, List.take_succ_eq_append_getElem hltb, HT.out, he']
          case measure => simp [intOf]; omega
      · go_wp2_with fail
        go_ret
        refine ⟨ret_bool ?_, _, rfl⟩
        have h := HT.out
        rw [List.take_of_length_le (by omega), List.take_of_length_le (by have := HL.out; omega)] at h
        simp [sameB, h]
  · have hlb : ((a.length : Int) != (b.length : Int)) = true := by simp; omega
    have HL := Lib.hid hl
    clear hl
    go_enter Try.func19, Try.ntmps19
    go_wp2_with fail
    go_ret
    exact ⟨ret_bool (by simp only [sameB]; rw [Eq.comm, decide_eq_false_iff_not]; intro e; exact HL.out (by rw [e])), 0, rfl⟩

def sameM (a b : MsgD) : Bool := sameB a.fields b.fields && decide (a.kind = b.kind) && decide (a.src = b.src) && decide (a.dst = b.dst) && decide (a.seq = b.seq) && decide (a.sig = b.sig)
theorem toList_inj' (a b : ByteArray) : a.toList = b.toList ↔ a = b := by
  rw [toList_eq, toList_eq]
  exact ⟨fun h => ByteArray.ext (Array.toList_inj.1 h), fun h => by rw [h]⟩
theorem below_drewN' {B : Nat} {a w : World} (h : Below B a w) (n : Nat) : Below B a (w.drewN n) := ⟨h.os, h.tape, h.output, h.size, h.block⟩
theorem beq_toList (a b : ByteArray) : (a.toList == b.toList) = decide (a = b) := by
  rw [Bool.eq_iff_iff, beq_iff_eq, decide_eq_true_iff, toList_eq, toList_eq]
  exact ⟨fun h => ByteArray.ext (Array.toList_inj.1 h), fun h => by rw [h]⟩

set_option maxHeartbeats 1000000 in
theorem same12_any (a b : MsgD) (A1 A2 : Option Addr) (c1 c2 B : Nat) (w : World) (h1 : Rd w B A1 (strsV a.fields)) (h2 : Rd w B A2 (strsV b.fields)) (hB : B ≤ w.heap.size) (hm1 : a.fields.length ≤ 9223372036854775807) (hm2 : b.fields.length ≤ 9223372036854775807) :
    Calls Try.prog 9 #[.agg (msgCells a A1 c1), .agg (msgCells b A2 c2)] w fun e w' => e = .returned (.bool (sameM a b)) ∧ Below w.heap.size w w' := by
  have hb : Below w.heap.size w ((w.alloc (.cells (msgCells a A1 c1) 24)).alloc (.cells (msgCells b A2 c2) 24)) := ((Below.refl _ _).alloc (Nat.le_refl _) _).alloc (by simp) _
  have hs := same9_any A1 A2 c1 c2 B a.fields b.fields _ (h1.below (hb.mono hB)) (h2.below (hb.mono hB)) hm1 hm2
  obtain ⟨S, hS⟩ : ∃ S, S = sameB a.fields b.fields := ⟨_, rfl⟩
  rw [← hS] at hs
  obtain ⟨M, hM⟩ : ∃ M, M = sameM a b := ⟨_, rfl⟩
  rw [← hM]
  have HM := Lib.hid hM
  have HSS := Lib.hid hS
  have HS := Lib.hid hs
  have HB := Lib.hid hb
  clear hs hb h1 h2 hS hM
  obtain ⟨kind, src, dst, seq, fields, sig⟩ := a
  obtain ⟨kind', src', dst', seq', fields', sig'⟩ := b
  dsimp only [msgCells] at *
  go_enter Try.func9, Try.ntmps9
  go_wp2_with fail
  refine HS.out.mono ?_
  rintro e w1 ⟨rfl, n, rfl⟩
  go_wp2_with fail
  all_goals go_ret
  all_goals refine ⟨ret_bool ?_, below_drewN' (((Below.refl _ _).alloc (Nat.le_refl _) _).alloc (by simp) _) _⟩
  all_goals rw [HM.out]
  all_goals simp only [sameM, ← HSS.out]
  all_goals try simp only [toList_inj'] at *
  all_goals simp [*, beq_toList]
end Go.Proofs.Ytlngjalclagojaa
