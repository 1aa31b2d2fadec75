/-
  Walk: the reference's Primes, the first 80.
-/
import Derived.Test.YtfpbcihpjcocmaaDoorLess
import Derived.Test.YtfpbcihpjcocmaaDoorShaH
import Derived.Test.YtfpbcihpjcocmaaDoorRoots
namespace Go.Proofs.YtfpbcihpjcocmaaDoor
set_option linter.unusedSimpArgs false
set_option linter.unusedVariables false
open Go.RowKit

theorem sl_int : SlT Tryd.prog 35 3 1 8 := SlT.mk1 (z := .int .i64 0) Tryd.underlying35 (by kernel_rfl) rfl (by decide)
def prB (k : Nat) (l : List Nat) : Bool := l.all fun q => k % q != 0
theorem primesTo_step (k : Nat) (h : k < 410) (h2 : 2 ≤ k) : primesTo (k + 1) = if prB k (primesTo k) = true then primesTo k ++ [k] else primesTo k := by
  have := (List.all_eq_true.1 primes_step) k (List.mem_range.2 h)
  rw [decide_eq_true_eq] at this
  rw [this]
  simp only [h2, true_and]
  rfl
theorem primesTo_len (k : Nat) (h : k < 410) : (primesTo k).length < 80 := by
  have := (List.all_eq_true.1 primes_len) k (List.mem_range.2 h)
  rwa [decide_eq_true_eq] at this
theorem primesTo_mem (k : Nat) : ∀ q ∈ primesTo k, 2 ≤ q ∧ q < 65536 := fun q hq => by
  have h1 := (List.mem_filter.1 hq).1
  have := (List.all_eq_true.1 primes_lt) q h1
  rwa [decide_eq_true_eq] at this
theorem prB_snoc (k : Nat) (l : List Nat) (q : Nat) : prB k (l ++ [q]) = (prB k l && (k % q != 0)) := by simp [prB]
def PrimesPost (w : World) (e : Ending) (w' : World) : Prop :=
  ∃ A c, e = .returned (.slice A 80 c) ∧ OwnX w' w.heap.size 3 1 (.slice A 80 c) 80 (wordsV .i64 primes80) ∧ Below w.heap.size w w'
structure PrSt (w0 : World) (gf : Nat) (v : Value) (n : Nat) (l : List Nat) (u : World) : Prop where
  bel : Below gf w0 u
  own : OwnX u gf 3 1 v n (wordsV .i64 l)
  le : gf ≤ u.heap.size
set_option maxRecDepth 100000 in
set_option maxHeartbeats 2000000 in
theorem primes_any (w : World) : Calls Tryd.prog 23 #[.int .i64 80] w (PrimesPost w) := by
  obtain ⟨gf, hgf⟩ : ∃ x, x = w.heap.size := ⟨_, rfl⟩
  have hst0 : PrSt w gf (.slice none 0 0) 0 (primesTo 2) w := ⟨Below.refl _ _, OwnX.nil _ _ _ _, by omega⟩
  have HST0 := Lib.hid hst0
  have HGF := Lib.hid hgf
  clear hst0 hgf
  go_enter Tryd.func23, Tryd.ntmps23
  go_wp2
  have hst0 := HST0.out
  clear HST0
  go_loopw [3, 4] (fun v i wr => ∃ (k n : Nat) (A : Option Addr) (c : Nat), 2 ≤ k ∧ k ≤ 410 ∧ i = .int .i64 k ∧ n = (primesTo k).length ∧ v = .slice A n c ∧ PrSt w gf (.slice A n c) n (primesTo k) wr) (fun _ i _ => 410 - (intOf i).toNat)
  case atStart => exact ⟨2, 0, none, 0, by omega, by omega, rfl, by decide +kernel, rfl, hst0⟩
  case round =>
    obtain ⟨k, n, A, c, hk2, hk, rfl, hn, rfl, hst⟩ := hrel
    clear hst0
    by_cases hlt : k < 410
    · have hn80 : n < 80 := by rw [hn]; exact primesTo_len k hlt
      have hn80' : (n : Int) < 80 := by omega
      obtain ⟨L, hL⟩ : ∃ L, L = primesTo k := ⟨_, rfl⟩
      have hstep := primesTo_step k hlt hk2
      have hmem : ∀ q ∈ L, 2 ≤ q ∧ q < 65536 := by rw [hL]; exact primesTo_mem k
      rw [← hL] at hn hst hstep
      have HL := Lib.hid hL
      have HN := Lib.hid hn
      have HST := Lib.hid hst
      have HSTEP := Lib.hid hstep
      have HMEM := Lib.hid hmem
      have hk0 : (0 : Int) ≤ (k : Int) := by omega
      clear hL hn hst hstep hmem
      go_wp2_with fail
      obtain ⟨wo, rfl⟩ : ∃ wo : World, wo = wr := ⟨_, rfl⟩
      go_loop [5, 6] (fun b i => ∃ (j : Nat) (bb : Bool), j ≤ n ∧ i = .int .i64 j ∧ bb = prB k (L.take j) ∧ b = .bool bb) (fun _ i => n - (intOf i).toNat)
      case atStart => exact ⟨0, true, by omega, rfl, rfl, rfl⟩
      case round =>
        obtain ⟨j, bb, hj, rfl, hbb, rfl⟩ := hrel
        by_cases hjn : j < n
        · have hjL : j < L.length := by rw [← HN.out]; exact hjn
          obtain ⟨q, hq⟩ : ∃ q, q = L[j] := ⟨_, rfl⟩
          obtain ⟨hq2, hq3⟩ := HMEM.out q (by rw [hq]; exact List.getElem_mem hjL)
          obtain ⟨g, rfl, hgb, hgl⟩ := HST.out.own.ptr (by omega)
          have dq := HST.out.own.atN (i := j) (v := .int .i64 (q : Int)) (by rw [wordsV, List.getElem?_map, List.getElem?_eq_getElem hjL, hq]; rfl)
          have hnc := HST.out.own.le_cap
          have hsn : prB k (L.take (j + 1)) = (bb && (k % q != 0)) := by rw [List.take_succ_eq_append_getElem hjL, prB_snoc, ← hbb, hq]
          have HSN := Lib.hid hsn
          have hq0 : (0 : Int) < (q : Int) := by omega
          clear hbb hsn hq
          by_cases hd : k % q = 0
          · have hb1 : (((k : Int) % (q : Int)) == 0) = true := by rw [beq_iff_eq]; omega
            have hfin : false = prB k (L.take (j + 1)) := by rw [HSN.out, hd]; simp
            have HFIN := Lib.hid hfin
            clear hfin hd
            go_wp2_with fail
            exact ⟨⟨j + 1, false, by omega, by go_num, HFIN.out, rfl⟩, by simp [intOf]; omega⟩
          · have hb1 : (((k : Int) % (q : Int)) == 0) = false := by rw [beq_eq_false_iff_ne]; omega
            have hfin : bb = prB k (L.take (j + 1)) := by rw [HSN.out]; simp [hd]
            have HFIN := Lib.hid hfin
            clear hfin hd
            go_wp2_with fail
            exact ⟨⟨j + 1, bb, by omega, by go_num, HFIN.out, rfl⟩, by simp [intOf]; omega⟩
        · obtain rfl : j = n := by omega
          have hst2 := HSTEP.out
          rw [List.take_of_length_le (by rw [HN.out]; exact Nat.le_refl _)] at hbb
          rw [← hbb] at hst2
          cases bb
          · rw [if_neg (by decide)] at hst2
            have HS2 := Lib.hid hst2
            clear hst2 hbb
            go_wp2_with fail
            exact ⟨⟨k + 1, j, A, c, by omega, by omega, by go_num, by rw [HS2.out]; exact HN.out, rfl, by rw [HS2.out]; exact HST.out⟩, by simp [intOf]; omega⟩
          · rw [if_pos rfl] at hst2
            have HS2 := Lib.hid hst2
            clear hst2 hbb
            go_wp2_with (refine wpList_append_one sl_int rfl rfl HST.out.own rfl rfl rfl rfl (by unfold maxLen; omega) (by omega) HST.out.le ?_; intro A3 c3 w3 hown3 hg3 hn3; have HOWN3 := Lib.hid hown3; have HG3 := Lib.hid hg3; clear hown3 hg3 hn3)
            refine ⟨⟨k + 1, j + 1, A3, c3, by omega, by omega, by go_num, by rw [HS2.out, List.length_append, ← HN.out]; rfl, rfl, ?_⟩, by simp [intOf]; omega⟩
            rw [HS2.out]
            refine ⟨HST.out.bel.grown HG3.out HST.out.le (fun k hk => (HST.out.own.lt k hk).1), ?_, by have := HG3.out.size; have := HST.out.le; omega⟩
            rw [wordsV_snoc]; exact HOWN3.out
    · obtain rfl : k = 410 := by omega
      rw [primes_end] at hn hst
      obtain rfl : n = 80 := hn
      have HST := Lib.hid hst
      clear hst
      go_wp2_with fail
      go_ret
      exact ⟨A, c, rfl, by rw [← HGF.out]; exact HST.out.own, by rw [← HGF.out]; exact HST.out.bel⟩
end Go.Proofs.YtfpbcihpjcocmaaDoor
