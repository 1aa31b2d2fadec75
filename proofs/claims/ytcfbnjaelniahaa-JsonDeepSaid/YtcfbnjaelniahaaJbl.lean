/-
  Walk: the law JsonBlanks.
-/
import Derived.Test.YtcfbnjaelniahaaJlv
import Derived.Test.YtcfbnjaelniahaaJq1
import Derived.Test.YtcfbnjaelniahaaJsg
namespace Go.Proofs.Ytcfbnjaelniahaa.Js
set_option linter.unusedSimpArgs false
set_option linter.unusedVariables false
open Go.RowKit

/-- so many blanks -/
def blkC (i : Nat) : UInt8 := if i % 4 = 0 then 32 else if i % 4 = 1 then 9 else if i % 4 = 2 then 10 else 13
def gapL : Nat → Bs
  | 0 => []
  | i + 1 => gapL i ++ [blkC i]
theorem gapL_bl : ∀ i, allBl (gapL i)
  | 0 => fun c h => by cases h
  | i + 1 => fun c h => by
    rcases List.mem_append.1 h with h | h
    · exact gapL_bl i c h
    · rw [List.mem_singleton] at h
      subst h
      unfold blkC
      split
      · decide
      split
      · decide
      split <;> decide
theorem gapL_len : ∀ i, (gapL i).length = i
  | 0 => rfl
  | i + 1 => by rw [gapL, List.length_append, gapL_len i]; rfl
theorem bs_app (a b : Bs) : bs a ++ bs b = bs (a ++ b) := by
  apply ByteArray.ext
  simp [bs]
theorem blk_slice (i : Nat) : (⟨#[32, 9, 10, 13]⟩ : ByteArray).extract (i % 4) (i % 4 + 1) = bs [blkC i] := by
  have h : i % 4 < 4 := Nat.mod_lt _ (by decide)
  have h4 : i % 4 = 0 ∨ i % 4 = 1 ∨ i % 4 = 2 ∨ i % 4 = 3 := by omega
  unfold blkC
  rcases h4 with h4 | h4 | h4 | h4 <;> rw [h4] <;> rfl
set_option maxRecDepth 100000 in
set_option maxHeartbeats 4000000 in
theorem jsonBlanks_any (s : ByteArray) (n : Int) (w : World) (hwf : (Lit.int .i64 n).wf = true) :
    Calls Try.prog 5 #[.string s, .int .i64 n] w fun x w' => x = .returned (.bool true) ∧ Below w.heap.size w w' := by
  have hu := Try.underlying25
  rw [Lit.wf, Bool.and_eq_true, decide_eq_true_iff, decide_eq_true_iff, show IntKind.i64.min = -9223372036854775808 by decide, show IntKind.i64.max = 9223372036854775807 by decide] at hwf
  obtain ⟨hn1, hn2⟩ := hwf
  obtain ⟨t, ht⟩ : ∃ t, t = if 300 < s.size then s.extract 0 300 else s := ⟨_, rfl⟩
  obtain ⟨N, hN⟩ : ∃ N : Nat, (N : Int) = if n < 0 then -(n + 1) else n := ⟨(if n < 0 then -(n + 1) else n).toNat, by split <;> omega⟩
  have HT := Lib.hid (show t.size ≤ 300 by
    rw [ht]
    split
    · rw [ByteArray.size_extract]; omega
    · omega)
  have HTE := Lib.hid ht
  have HNE := Lib.hid hN
  clear ht hN
  go_enter Try.func5, Try.ntmps5
  go_upto_if 15 with (fail)
  go_cut [0] (fun x wx => x = .string t ∧ wx = w)
  case first =>
    have hte := HTE.out
    by_cases hl : 300 < s.size
    · have hl' : (300 : Int) < (s.size : Int) := by omega
      rw [if_pos hl] at hte
      subst hte
      go_wp2_with fail
      go_meet
      exact ⟨rfl, rfl⟩
    · have hl' : ¬ (300 : Int) < (s.size : Int) := by omega
      rw [if_neg hl] at hte
      subst hte
      go_wp2_with fail
      go_meet
      exact ⟨rfl, rfl⟩
  case rest =>
  obtain ⟨rfl, rfl⟩ := hcut
  go_upto_if 19 with (fail)
  go_cut [1] (fun x wx => x = .int .i64 (N : Int) ∧ wx = wc)
  case first =>
    have hne := HNE.out
    by_cases hl : n < 0
    · rw [if_pos hl] at hne
      go_wp2_with fail
      go_meet
      exact ⟨by rw [hne], rfl⟩
    · rw [if_neg hl] at hne
      go_wp2_with fail
      go_meet
      exact ⟨by rw [hne], rfl⟩
  case rest =>
  obtain ⟨rfl, rfl⟩ := hcut
  obtain ⟨M, hM⟩ : ∃ M, M = N % 21 := ⟨_, rfl⟩
  have hm21 : (N : Int).tmod 21 = (M : Int) := by rw [Int.tmod_eq_emod_of_nonneg (by omega), hM]; omega
  have hm0 : (M : Int) ≤ 20 := by omega
  have HM0 := Lib.hid hm0
  have hN9 : (N : Int) ≤ 9223372036854775807 := by have := HNE.out; split at this <;> omega
  clear hM
  go_wp2_with fail
  go_loopw [5, 6] (fun g x wr => ∃ i : Nat, i ≤ M ∧ g = .string (bs (gapL i)) ∧ x = .int .i64 (i : Int) ∧ wr = wc) (fun _ x _ => M - (intOf x).toNat)
  case atStart => exact ⟨0, Nat.zero_le _, rfl, rfl, rfl⟩
  case round =>
    obtain ⟨i, hi, rfl, rfl, rfl⟩ := hrel
    by_cases hlt : i < M
    · have hlt' : (i : Int) < (M : Int) := by omega
      have HLT := Lib.hid hlt
      obtain ⟨k, hk⟩ : ∃ k, k = i % 4 := ⟨_, rfl⟩
      have hk4 : (i : Int).tmod 4 = (k : Int) := by rw [Int.tmod_eq_emod_of_nonneg (by omega), hk]; omega
      have hk0 : (k : Int) ≤ 3 := by omega
      have HK := Lib.hid (show (⟨#[32, 9, 10, 13]⟩ : ByteArray).extract k (k + 1) = bs [blkC i] by rw [hk]; exact blk_slice i)
      have HGL := Lib.hid (show bs (gapL i) ++ bs [blkC i] = bs (gapL (i + 1)) from bs_app _ _)
      have hsz : ¬ 9223372036854775807 < (bs (gapL i)).size + (min (k + 1) 4 - k) := by rw [bs_size, gapL_len]; omega
      clear hk hlt
      go_wp2_with fail
      go_roundw
      case rel => exact ⟨i + 1, HLT.out, by rw [HK.out, HGL.out], by go_num, by first | rfl | trivial⟩
      case measure => have := HLT.out; simp [intOf]; omega
    · obtain rfl : i = M := by omega
      have CR1 := Lib.hid (jread_rep t wr)
      obtain ⟨g, hg⟩ : ∃ g, g = bs (gapL i) := ⟨_, rfl⟩
      have HG := Lib.hid hg
      have hgs : (g.size : Int) ≤ 20 := by rw [hg, bs_size, gapL_len]; exact HM0.out
      have hts : (t.size : Int) ≤ 300 := by have := HT.out; omega
      have hs1 : ¬ 9223372036854775807 < g.size + t.size := by omega
      have hs2 : ¬ 9223372036854775807 < g.size + t.size + g.size := by omega
      obtain ⟨E, hE⟩ : ∃ E, E = readP t.data.toList := ⟨_, rfl⟩
      have HSM := Lib.hid (show smallJ (valJ E) = true by rw [hE]; exact valJ_small _)
      have CR2 := Lib.hid (fun (u : World) => show Calls Try.prog 12 #[.string (g ++ t ++ g)] u fun x w' => ∃ v : JV, x = .returned (.tuple #[.agg (jvCells v), .int .i64 (errE E)]) ∧ Below u.heap.size u w' ∧ JRep w' (fun b => b < w'.heap.size) (valJ E) v from by
        have e1 : (g ++ t ++ g).data.toList = gapL i ++ t.data.toList ++ gapL i := by rw [hg]; simp [bs]
        have e2 : readP (g ++ t ++ g).data.toList = E := by
          rw [e1, hE]
          refine readP_gap (gapL_bl i) (gapL_bl i) ?_
          have h5 : t.data.toList.length = t.size := rfl
          have := HT.out
          rw [List.length_append, List.length_append, gapL_len, h5]
          have := HM0.out
          omega
        have := jread_rep (g ++ t ++ g) u
        rw [e2] at this
        exact this)
      rw [← hE] at CR1
      rw [← hg]
      clear hg hE
      go_wp2_with fail
      refine calls_then CR1.out ?_
      rintro e w1 ⟨va, rfl, hb1, hj1⟩
      have HB1 := Lib.hid hb1
      have HJ1 := Lib.hid hj1
      have HB5 := Lib.hid (show Blk (w1.alloc (.cells #[.int .i64 0, .int .i64 0, .string ⟨#[]⟩, .slice none 0 0, .slice none 0 0] 25)) w1.heap.size 25 (jvCells zJV) from Blk.new _ _ _)
      clear hb1 hj1 CR1
      go_upto_region 12 with (refine wpList_put_box (x := .tmp 8) (cells := jvCells va) HB5.out rfl rfl rfl rfl jT_size3 rfl (jvCells_one _) ?_; intro w2 hb2 hw2)
      have hb5 := (Below.refl w1.heap.size w1).alloc (Nat.le_refl _) (.cells #[.int .i64 0, .int .i64 0, .string ⟨#[]⟩, .slice none 0 0, .slice none 0 0] 25)
      have hbl : Below w1.heap.size w1 w2 := hw2.below hb5 (Nat.le_refl _) (by simp)
      have HB2 := Lib.hid (HB1.out.trans (hbl.mono HB1.out.size))
      have HK2 := Lib.hid hb2
      have HJ2 := Lib.hid (show JRep w2 (fun b => b < w2.heap.size) (valJ E) va from (HJ1.out.under hbl).imp fun b hb _ => hb)
      clear hb5 hbl hb2 hw2 HB5
      have CR3 := Lib.hid (CR2.out w2)
      go_wp2_with fail
      refine calls_then CR3.out ?_
      rintro e w3 ⟨vb, rfl, hb3, hj3⟩
      have HB3 := Lib.hid (HB2.out.trans (hb3.mono HB2.out.size))
      have HK3 := Lib.hid (HK2.out.below hb3 HK2.out.lt)
      have HJ3 := Lib.hid (show JRep w3 (fun b => b < w3.heap.size) (valJ E) va from (HJ2.out.under hb3).imp fun b hb _ => hb)
      have HL3 := Lib.hid hj3
      have HB5 := Lib.hid (show Blk (w3.alloc (.cells #[.int .i64 0, .int .i64 0, .string ⟨#[]⟩, .slice none 0 0, .slice none 0 0] 25)) w3.heap.size 25 (jvCells zJV) from Blk.new _ _ _)
      clear hb3 hj3 CR3 CR2
      go_upto_region 13 with (refine wpList_put_box (x := .tmp 10) (cells := jvCells vb) HB5.out rfl rfl rfl rfl jT_size3 rfl (jvCells_one _) ?_; intro w4 hb4 hw4)
      have hb5 := (Below.refl w3.heap.size w3).alloc (Nat.le_refl _) (.cells #[.int .i64 0, .int .i64 0, .string ⟨#[]⟩, .slice none 0 0, .slice none 0 0] 25)
      have hbl : Below w3.heap.size w3 w4 := hw4.below hb5 (Nat.le_refl _) (by simp)
      have HB4 := Lib.hid (HB3.out.trans (hbl.mono HB3.out.size))
      have HK4 := Lib.hid (HK3.out.below hbl HK3.out.lt)
      have HM4 := Lib.hid hb4
      have HJ4 := Lib.hid (show JRep w4 (fun b => b < w4.heap.size) (valJ E) va from (HJ3.out.under hbl).imp fun b hb _ => hb)
      have HL4 := Lib.hid (show JRep w4 (fun b => b < w4.heap.size) (valJ E) vb from (HL3.out.under hbl).imp fun b hb _ => hb)
      clear hb5 hbl hb4 hw4 HB5
      have CS := Lib.hid (same_any (valJ E) va vb w4.heap.size w4 HSM.out HJ4.out HL4.out (Nat.le_refl _))
      go_wp2_with (first
        | refine wpList_get_box (x := .tmp 8) HK4.out rfl rfl rfl hu rfl jT_size3 ?_
        | refine wpList_get_box (x := .tmp 10) HM4.out rfl rfl rfl hu rfl jT_size3 ?_)
      refine calls_then CS.out ?_
      rintro e w5 ⟨rfl, hb5⟩
      have HB5 := Lib.hid (HB4.out.trans (hb5.mono HB4.out.size))
      have CL := Lib.hid (lives_any w5)
      clear hb5 CS
      generalize errE E = ee
      go_wp2_with fail
      refine calls_then CL.out ?_
      rintro e w6 ⟨rfl, hb6⟩
      have HB6 := Lib.hid (HB5.out.trans (hb6.mono HB5.out.size))
      clear hb6
      go_wp2_with fail
      go_ret
      exact ⟨rfl, HB6.out⟩
end Go.Proofs.Ytcfbnjaelniahaa.Js
