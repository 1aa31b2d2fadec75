/-
  The walk of the reference's May.
-/
import Derived.Test.YtlngjalclagojaaRefB
import Derived.Test.YtlngjalclagojaaMsg
namespace Go.Proofs.Ytlngjalclagojaa
open Go.RowKit

/-- no field is long -/
theorem anyLong_yes {l : List ByteArray} {k : Nat} (hk : k < l.length) (h : 1000 < (l[k]).size) : anyLong l = true :=
  List.any_eq_true.2 ⟨l[k], List.getElem_mem hk, by simpa using h⟩
theorem anyLong_no {l : List ByteArray} (h : ∀ j, (h : j < l.length) → ¬ 1000 < (l[j]).size) : anyLong l = false := by
  rw [Bool.eq_false_iff]
  intro e
  obtain ⟨x, hx, hl⟩ := List.any_eq_true.1 e
  obtain ⟨j, hj, rfl⟩ := List.getElem_of_mem hx
  exact h j hj (by simpa using hl)

set_option maxHeartbeats 2000000 in
theorem rmay_any (m : MsgD) (A : Option Addr) (c B : Nat) (w : World) (hr : Rd w B A (strsV m.fields)) (hB : B ≤ w.heap.size) (hc : m.fields.length ≤ c) (ok : MsgOk m) :
    Calls Try.prog 13 #[.agg (msgCells m A c)] w fun e w' => e = .returned (.bool (mayB m)) ∧ w' = w.alloc (.cells (msgCells m A c) 24) := by
  obtain ⟨kind, src, dst, seq, fields, sig⟩ := m
  obtain ⟨ok1, ok2, ok3, ok4, ok5⟩ := ok
  dsimp only [msgCells] at *
  have hr2 : Rd (w.alloc (.cells #[.int .i64 kind, .string src, .string dst, .int .i64 seq, .slice A fields.length c, .string sig] 24)) B A (strsV fields) := hr.below ((Below.refl _ _).alloc hB _)
  have HR := Lib.hid hr2
  have H5 := Lib.hid ok5
  clear hr hr2 ok5
  go_enter Try.func13, Try.ntmps13
  go_wp2_with fail
  all_goals try (go_ret; refine ⟨ret_bool ?_, rfl⟩; simp only [mayB]; simp [*]; done)
  all_goals try (go_ret; refine ⟨ret_bool ?_, rfl⟩; simp only [mayB]; simp [*]; omega)
  go_loop [3] (fun i => ∃ k : Nat, k ≤ fields.length ∧ i = .int .i64 k ∧ ∀ j, (h : j < fields.length) → j < k → ¬ 1000 < (fields[j]).size) (fun i => fields.length - (intOf i).toNat)
  case atStart => exact ⟨0, Nat.zero_le _, rfl, fun j _ h => absurd h (by omega)⟩
  case round =>
    obtain ⟨k, hk, rfl, hno⟩ := hrel
    have HN := Lib.hid hno
    clear hno
    by_cases hlt : k < fields.length
    · obtain ⟨ad, rfl, _, hcell⟩ := HR.out.at_ (k := k) (by rw [strsV_length]; exact hlt)
      simp only [strsV, List.getElem_map] at hcell
      have hsz := H5.out fields[k] (List.getElem_mem hlt)
      go_wp2_with fail
      · go_ret
        have h1 : 1000 < fields[k].size := by omega
        refine ⟨ret_bool ?_, rfl⟩
        simp only [mayB, anyLong_yes hlt h1]
        simp
      · go_round
        case rel =>
          refine ⟨k + 1, hlt, by go_num, fun j h hj => ?_⟩
          by_cases e : j = k
          · subst e; omega
          · exact HN.out j h (by omega)
        case measure => simp [intOf]; omega
    · have hal : anyLong fields = false := anyLong_no (fun j h => HN.out j h (by omega))
      go_wp2_with fail
      · go_ret
        refine ⟨ret_bool ?_, rfl⟩
        have e1 : 1 ≤ kind := by omega
        have e2 : kind ≤ 255 := by omega
        have e3 : 0 ≤ seq := by omega
        have e4 : seq ≤ 1099511627776 := by omega
        have e5 : fields.length ≤ 8 := by omega
        have e6 : ¬ 1000 < src.size := by omega
        have e7 : ¬ 1000 < dst.size := by omega
        simp [mayB, hal, e1, e2, e3, e4, e5, e6, e7]
      · go_ret
        refine ⟨ret_bool ?_, rfl⟩
        have e1 : 1 ≤ kind := by omega
        have e2 : kind ≤ 255 := by omega
        have e3 : 0 ≤ seq := by omega
        have e4 : seq ≤ 1099511627776 := by omega
        have e5 : fields.length ≤ 8 := by omega
        have e6 : ¬ 1000 < src.size := by omega
        have e7 : ¬ 1000 < dst.size := by omega
        simp only [mayB, hal, e1, e2, e3, e4, e5, e6, e7]
        have e8 : ((sig.size : Int) == 0) = decide (sig.size = 0) := by rw [Bool.eq_iff_iff]; simp
        have e9 : ((sig.size : Int) == 64) = decide (sig.size = 64) := by rw [Bool.eq_iff_iff]; simp; omega
        rw [e8, e9]
        simp
end Go.Proofs.Ytlngjalclagojaa
