/-
  Walks: wire.may's parts.
-/
import Derived.Test.YtlngjalclagojaaProg
import Derived.Test.YtlngjalclagojaaLaws
import Derived.Test.YtlngjalclagojaaMsg
namespace Go.Proofs.Ytlngjalclagojaa
open Go.RowKit

set_option maxHeartbeats 400000 in
theorem long_any (s : ByteArray) (w : World) (hs : s.size ≤ 9223372036854775807) :
    Calls Try.prog 27 #[.string s] w fun e w' => e = .returned (.bool (decide (1000 < s.size))) ∧ w = w' := by
  go_enter Try.func27, Try.ntmps27
  go_wp2
  go_ret
  exact ⟨by simp; omega, rfl⟩

set_option maxHeartbeats 400000 in
theorem indexLong_any (A : Option Addr) (c B : Nat) (l : List ByteArray) (w : World) (hr : Rd w B A (strsV l)) (hc : l.length ≤ c) (hm : l.length ≤ 9223372036854775807) (hs : ∀ s ∈ l, s.size ≤ 9223372036854775807) :
    Calls Try.prog 30 #[.slice A l.length c, .func (.func 27) #[] #[]] w fun e w' => e = .returned (.int .i64 (firstLong l)) ∧ w = w' := by
  go_enter Try.func30, Try.ntmps30
  go_wp2_with fail
  go_loop [8] (fun i => ∃ k : Nat, k ≤ l.length ∧ i = .int .i64 k ∧ ∀ j, (h : j < l.length) → j < k → ¬ 1000 < (l[j]).size) (fun i => l.length - (intOf i).toNat)
  case atStart => exact ⟨0, Nat.zero_le _, rfl, fun j _ h => absurd h (by omega)⟩
  case round =>
    obtain ⟨k, hk, rfl, hno⟩ := hrel
    by_cases hlt : k < l.length
    · obtain ⟨ad, rfl, _, hcell⟩ := hr.at_ (k := k) (by rw [strsV_length]; exact hlt)
      simp only [strsV, List.getElem_map] at hcell
      have HN := Lib.hid hno
      clear hno
      have hsz := hs l[k] (List.getElem_mem hlt)
      go_wp2_with (go_at_call 27; refine (long_any _ _ hsz).mono ?_; rintro e w' ⟨rfl, rfl⟩)
      · go_ret
        have h1 : 1000 < l[k].size := by omega
        exact ⟨ret_int (firstLong_some hlt h1 (fun j h hj => HN.out j h hj)).symm, rfl⟩
      · go_round
        case rel =>
          refine ⟨k + 1, hlt, by go_num, fun j h hj => ?_⟩
          by_cases e : j = k
          · subst e; omega
          · exact HN.out j h (by omega)
        case measure => simp [intOf]; omega
    · go_wp2_with fail
      go_ret
      exact ⟨ret_int (firstLong_none (fun j h => hno j h (by omega))).symm, rfl⟩

set_option maxHeartbeats 400000 in
theorem containsLong_any (A : Option Addr) (c B : Nat) (l : List ByteArray) (w : World) (hr : Rd w B A (strsV l)) (hc : l.length ≤ c) (hm : l.length ≤ 9223372036854775807) (hs : ∀ s ∈ l, s.size ≤ 9223372036854775807) :
    Calls Try.prog 28 #[.slice A l.length c, .func (.func 27) #[] #[]] w fun e w' => e = .returned (.bool (anyLong l)) ∧ w = w' := by
  go_enter Try.func28, Try.ntmps28
  go_wp2_with fail
  refine (indexLong_any A c B l _ hr hc hm hs).mono ?_
  rintro e w' ⟨rfl, rfl⟩
  go_wp2_with fail
  go_ret
  exact ⟨ret_bool (by rw [Bool.eq_iff_iff, decide_eq_true_iff]; exact firstLong_neg l), rfl⟩

set_option maxHeartbeats 1000000 in
theorem may_any (m : MsgD) (A : Option Addr) (c B : Nat) (w : World) (hr : Rd w B A (strsV m.fields)) (hB : B ≤ w.heap.size) (hc : m.fields.length ≤ c) (ok : MsgOk m) :
    Calls Try.prog 17 #[.agg (msgCells m A c)] w fun e w' => e = .returned (.bool (mayB m)) ∧ w' = w.alloc (.cells (msgCells m A c) 24) := by
  obtain ⟨kind, src, dst, seq, fields, sig⟩ := m
  obtain ⟨ok1, ok2, ok3, ok4, ok5⟩ := ok
  dsimp only [msgCells] at *
  have hr2 : Rd (w.alloc (.cells #[.int .i64 kind, .string src, .string dst, .int .i64 seq, .slice A fields.length c, .string sig] 24)) B A (strsV fields) := hr.below ((Below.refl _ _).alloc hB _)
  go_enter Try.func17, Try.ntmps17
  go_wp2_with (first
    | (go_at_call 27; refine (long_any _ _ (by assumption)).mono ?_; rintro e w' ⟨rfl, rfl⟩)
    | (go_at_call 28; refine (containsLong_any A c B fields _ hr2 hc ok4 ok5).mono ?_; rintro e w' ⟨rfl, rfl⟩))
  all_goals go_ret
  all_goals refine ⟨ret_bool ?_, rfl⟩
  all_goals first
    | exact may_end _ _ _ _ _ _ ‹_› ‹_› ‹_› ‹_› ‹_› ‹_› ‹_› ‹_› ‹_›
    | exact may_end0 _ _ _ _ _ _ ‹_› ‹_› ‹_› ‹_› ‹_› ‹_› ‹_› ‹_› ‹_›
    | (simp only [mayB]; simp [*]; done) | (simp only [mayB]; simp [*]; omega)
end Go.Proofs.Ytlngjalclagojaa
