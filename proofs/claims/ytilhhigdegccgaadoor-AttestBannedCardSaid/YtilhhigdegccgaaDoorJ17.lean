/-
  Joined texts: Less Roots Primes.
-/
import Derived.Test.YtilhhigdegccgaaDoorJ15
import Derived.Test.YtilhhigdegccgaaDoorJ16
/-
  Walk: the reference's Less.
-/
namespace Go.Proofs.YtilhhigdegccgaaDoor.Sh
set_option linter.unusedSimpArgs false
set_option linter.unusedVariables false
open Go.RowKit
def LessPost (a b : List Nat) (w : World) (e : Ending) (w' : World) : Prop := e = .returned (.bool (decide (dval a < dval b))) ∧ w = w'
theorem wordsV_at {K : IntKind} {l : List Nat} {i : Nat} (h : i < l.length) : (wordsV K l)[i]? = some (.int K ((l.getD i 0 : Nat) : Int)) := by simp [wordsV, h]
theorem hi_step {A B D : Nat} (i : Nat) (h : A / D ^ (i + 1) = B / D ^ (i + 1)) (hd : A / D ^ i % D = B / D ^ i % D) : A / D ^ i = B / D ^ i := by
  rw [Nat.pow_succ, ← Nat.div_div_eq_div_mul, ← Nat.div_div_eq_div_mul] at h
  rw [← Nat.div_add_mod (A / D ^ i) D, ← Nat.div_add_mod (B / D ^ i) D, h, hd]
theorem hi_lt {A B D : Nat} (hD : 0 < D) (i : Nat) (h : A / D ^ (i + 1) = B / D ^ (i + 1)) (hd : A / D ^ i % D < B / D ^ i % D) : A < B := by
  rw [Nat.pow_succ, ← Nat.div_div_eq_div_mul, ← Nat.div_div_eq_div_mul] at h
  have h1 : A / D ^ i < B / D ^ i := by
    rw [← Nat.div_add_mod (A / D ^ i) D, ← Nat.div_add_mod (B / D ^ i) D, h]; omega
  rcases Nat.lt_or_ge A B with h2 | h2
  · exact h2
  · have := Nat.div_le_div_right (c := D ^ i) h2; omega
theorem less_dec {A B x y : Nat} (q : Nat) (h : A / 65536 ^ (q + 1) = B / 65536 ^ (q + 1)) (hx : x = A / 65536 ^ q % 65536) (hy : y = B / 65536 ^ q % 65536) (hne : x ≠ y) : decide (x < y) = decide (A < B) := by
  rcases Nat.lt_or_gt_of_ne hne with h1 | h1
  · have := hi_lt (by decide) q h (by rw [← hx, ← hy]; exact h1)
    rw [decide_eq_true this, decide_eq_true (by omega)]
  · have := hi_lt (by decide) q h.symm (by rw [← hx, ← hy]; exact h1)
    rw [decide_eq_false (by omega), decide_eq_false (by omega)]
set_option maxRecDepth 100000 in
set_option maxHeartbeats 2000000 in
theorem less_any (a b : List Nat) (ha : ∀ d ∈ a, d < 65536) (hb : ∀ d ∈ b, d < 65536) (A1 A2 : Option Addr) (c1 c2 B1 B2 la lb : Nat) (w : World) (h1 : Rd w B1 A1 (wordsV .i64 a)) (h2 : Rd w B2 A2 (wordsV .i64 b)) (hla : a.length = la) (hlb : b.length = lb) (la1 : la ≤ 1000) (lb1 : lb ≤ 1000) (hc1 : la ≤ c1) (hc2 : lb ≤ c2) :
    Calls Tryd.prog 89 #[.slice A1 la c1, .slice A2 lb c2] w (LessPost a b w) := by
  obtain ⟨m, hm⟩ : ∃ m, m = max la lb := ⟨_, rfl⟩
  have hml : la ≤ m := by omega
  have hmr : lb ≤ m := by omega
  have hm1 : m ≤ 1000 := by omega
  have HM : Hid (if la < lb then m = lb else m = la) := Lib.hid (by split <;> omega)
  have hda : ∀ i, (if i < la then a.getD i 0 else 0) = dval a / 65536 ^ i % 65536 := fun i => by
    split
    · exact getD_dig a i ha
    · rw [← getD_dig a i ha, List.getD_eq_getElem?_getD, List.getElem?_eq_none (by omega)]; rfl
  have hdb : ∀ i, (if i < lb then b.getD i 0 else 0) = dval b / 65536 ^ i % 65536 := fun i => by
    split
    · exact getD_dig b i hb
    · rw [← getD_dig b i hb, List.getD_eq_getElem?_getD, List.getElem?_eq_none (by omega)]; rfl
  have hA : dval a / 65536 ^ m = 0 := Nat.div_eq_of_lt (Nat.lt_of_lt_of_le (dval_lt a ha) (Nat.pow_le_pow_right (by decide) (by omega)))
  have hB : dval b / 65536 ^ m = 0 := Nat.div_eq_of_lt (Nat.lt_of_lt_of_le (dval_lt b hb) (Nat.pow_le_pow_right (by decide) (by omega)))
  obtain ⟨NA, hNA⟩ : ∃ x, x = dval a := ⟨_, rfl⟩
  obtain ⟨NB, hNB⟩ : ∃ x, x = dval b := ⟨_, rfl⟩
  rw [← hNA] at hda hA
  rw [← hNB] at hdb hB
  have HNA := Lib.hid hNA
  have HNB := Lib.hid hNB
  have HDA := Lib.hid hda
  have HDB := Lib.hid hdb
  have HAB : Hid (NA / 65536 ^ m = NB / 65536 ^ m) := Lib.hid (hA.trans hB.symm)
  have H1 := Lib.hid h1
  have H2 := Lib.hid h2
  have HLA := Lib.hid hla
  have HLB := Lib.hid hlb
  clear hNA hNB hda hdb hA hB h1 h2 hla hlb ha hb hm
  by_cases hlt : la < lb
  all_goals
    first
      | (have hge : (la : Int) < (lb : Int) := by omega)
      | (have hge : ¬ (la : Int) < (lb : Int) := by omega)
    have hmm := HM.out
    first
      | (rw [if_pos hlt] at hmm)
      | (rw [if_neg hlt] at hmm)
    have HMM := Lib.hid hmm
    clear HM hmm
    go_enter Tryd.func89, Tryd.ntmps89
    go_wp2
    have hab := HAB.out
    go_loop [6] (fun v => ∃ i : Nat, i ≤ m ∧ v = .int .i64 ((i : Int) - 1) ∧ NA / 65536 ^ i = NB / 65536 ^ i) (fun v => (intOf v + 1).toNat)
    case atStart => exact ⟨m, Nat.le_refl _, by rw [HMM.out], hab⟩
    case round =>
      clear hab
      obtain ⟨i, hi, rfl, hh⟩ := hrel
      cases i with
      | zero =>
        have HH := Lib.hid hh
        clear hh
        go_wp2
        go_ret
        refine ⟨?_, rfl⟩
        have := HH.out
        simp at this
        rw [decide_eq_false (by rw [← HNA.out, ← HNB.out]; omega)]
        rfl
      | succ q =>
        rw [show (((q + 1 : Nat) : Int) - 1) = (q : Int) by omega]
        have hq0 : (0 : Int) ≤ (q : Int) := by omega
        obtain ⟨x, hx⟩ : ∃ x, x = NA / 65536 ^ q % 65536 := ⟨_, rfl⟩
        obtain ⟨y, hy⟩ : ∃ y, y = NB / 65536 ^ q % 65536 := ⟨_, rfl⟩
        have hxa := HDA.out q
        have hyb := HDB.out q
        rw [← hx] at hxa
        rw [← hy] at hyb
        have HX := Lib.hid hx
        have HY := Lib.hid hy
        have HH := Lib.hid hh
        clear hx hy hh
        by_cases hxy : x = y
        all_goals
          by_cases hqa : q < la <;> by_cases hqb : q < lb
        all_goals
          first | (rw [if_pos hqa] at hxa) | (rw [if_neg hqa] at hxa)
          first | (rw [if_pos hqb] at hyb) | (rw [if_neg hqb] at hyb)
        · obtain ⟨ad1, rfl, hz1, hz2⟩ := H1.out.at_ (k := q) (by rw [wordsV_length, HLA.out]; exact hqa)
          have d1 := H1.out.val (wordsV_at (K := .i64) (by rw [HLA.out]; exact hqa : q < a.length))
          rw [hxa] at d1
          clear hz1 hz2
          obtain ⟨ad2, rfl, hz3, hz4⟩ := H2.out.at_ (k := q) (by rw [wordsV_length, HLB.out]; exact hqb)
          have d2 := H2.out.val (wordsV_at (K := .i64) (by rw [HLB.out]; exact hqb : q < b.length))
          rw [hyb] at d2
          clear hz3 hz4
          have hfin := hi_step q HH.out (by rw [← HX.out, ← HY.out]; exact hxy)
          have HFIN := Lib.hid hfin
          clear hfin
          subst hxy
          clear hxa hyb
          go_wp2
          exact ⟨⟨q, by omega, rfl, HFIN.out⟩, by simp [intOf] <;> omega⟩
        · obtain ⟨ad1, rfl, hz1, hz2⟩ := H1.out.at_ (k := q) (by rw [wordsV_length, HLA.out]; exact hqa)
          have d1 := H1.out.val (wordsV_at (K := .i64) (by rw [HLA.out]; exact hqa : q < a.length))
          rw [hxa] at d1
          clear hz1 hz2
          have hfin := hi_step q HH.out (by rw [← HX.out, ← HY.out]; exact hxy)
          have HFIN := Lib.hid hfin
          clear hfin
          obtain rfl : x = 0 := by omega
          clear hxa hyb
          clear hxy
          go_wp2
          exact ⟨⟨q, by omega, rfl, HFIN.out⟩, by simp [intOf] <;> omega⟩
        · obtain ⟨ad2, rfl, hz3, hz4⟩ := H2.out.at_ (k := q) (by rw [wordsV_length, HLB.out]; exact hqb)
          have d2 := H2.out.val (wordsV_at (K := .i64) (by rw [HLB.out]; exact hqb : q < b.length))
          rw [hyb] at d2
          clear hz3 hz4
          have hfin := hi_step q HH.out (by rw [← HX.out, ← HY.out]; exact hxy)
          have HFIN := Lib.hid hfin
          clear hfin
          obtain rfl : y = 0 := by omega
          clear hxa hyb
          clear hxy
          go_wp2
          exact ⟨⟨q, by omega, rfl, HFIN.out⟩, by simp [intOf] <;> omega⟩
        · have hfin := hi_step q HH.out (by rw [← HX.out, ← HY.out]; exact hxy)
          have HFIN := Lib.hid hfin
          clear hfin
          clear hxa hyb
          clear hxy
          go_wp2
          exact ⟨⟨q, by omega, rfl, HFIN.out⟩, by simp [intOf] <;> omega⟩
        · obtain ⟨ad1, rfl, hz1, hz2⟩ := H1.out.at_ (k := q) (by rw [wordsV_length, HLA.out]; exact hqa)
          have d1 := H1.out.val (wordsV_at (K := .i64) (by rw [HLA.out]; exact hqa : q < a.length))
          rw [hxa] at d1
          clear hz1 hz2
          obtain ⟨ad2, rfl, hz3, hz4⟩ := H2.out.at_ (k := q) (by rw [wordsV_length, HLB.out]; exact hqb)
          have d2 := H2.out.val (wordsV_at (K := .i64) (by rw [HLB.out]; exact hqb : q < b.length))
          rw [hyb] at d2
          clear hz3 hz4
          have hd := less_dec q HH.out HX.out HY.out hxy
          rw [HNA.out, HNB.out] at hd
          have HD := Lib.hid hd
          have hb1 : ((x : Int) != (y : Int)) = true := by rw [bne_iff_ne]; omega
          have hb2 : ¬ x = y := hxy
          clear hxa hyb hd hxy
          go_wp2
          go_ret
          exact ⟨ret_bool (by rw [← HD.out]; first | done | rfl | exact decide_eq_decide.2 (by omega)), rfl⟩
        · obtain ⟨ad1, rfl, hz1, hz2⟩ := H1.out.at_ (k := q) (by rw [wordsV_length, HLA.out]; exact hqa)
          have d1 := H1.out.val (wordsV_at (K := .i64) (by rw [HLA.out]; exact hqa : q < a.length))
          rw [hxa] at d1
          clear hz1 hz2
          have hd := less_dec q HH.out HX.out HY.out hxy
          rw [HNA.out, HNB.out] at hd
          rw [show y = 0 by omega] at hd
          have HD := Lib.hid hd
          have hb1 : ((x : Int) != 0) = true := by rw [bne_iff_ne]; omega
          have hb2 : ¬ x = y := hxy
          clear hxa hyb hd hxy
          go_wp2
          go_ret
          exact ⟨ret_bool (by rw [← HD.out]; first | done | rfl | exact decide_eq_decide.2 (by omega)), rfl⟩
        · obtain ⟨ad2, rfl, hz3, hz4⟩ := H2.out.at_ (k := q) (by rw [wordsV_length, HLB.out]; exact hqb)
          have d2 := H2.out.val (wordsV_at (K := .i64) (by rw [HLB.out]; exact hqb : q < b.length))
          rw [hyb] at d2
          clear hz3 hz4
          have hd := less_dec q HH.out HX.out HY.out hxy
          rw [HNA.out, HNB.out] at hd
          rw [show x = 0 by omega] at hd
          have HD := Lib.hid hd
          have hb1 : ((0 : Int) != (y : Int)) = true := by rw [bne_iff_ne]; omega
          have hb2 : ¬ x = y := hxy
          clear hxa hyb hd hxy
          go_wp2
          go_ret
          exact ⟨ret_bool (by rw [← HD.out]; first | done | rfl | exact decide_eq_decide.2 (by omega)), rfl⟩
        · have hd := less_dec q HH.out HX.out HY.out hxy
          rw [HNA.out, HNB.out] at hd
          rw [show x = 0 by omega] at hd
          rw [show y = 0 by omega] at hd
          have HD := Lib.hid hd
          omega
end Go.Proofs.YtilhhigdegccgaaDoor.Sh
/-
  Plain: the roots of the first primes are the words that the program names.
-/
namespace Go.Proofs.YtilhhigdegccgaaDoor.Sh
set_option linter.unusedSimpArgs false
set_option linter.unusedVariables false
open Go.RowKit
def rootA (p k : Nat) : Nat → Nat → Nat
  | 0, X => X
  | n + 1, X => if p * 65536 ^ (4 * k) < (X + 2 ^ n) ^ k then rootA p k n X else rootA p k n (X + 2 ^ n)
theorem rootA_eq (p k : Nat) : ∀ n, n ≤ 69 → rootA p k (69 - n) (rootX p k n) = rootA p k 69 0
  | 0, _ => rfl
  | n + 1, h => by
    rw [← rootA_eq p k n (by omega)]
    obtain ⟨m, hm⟩ : ∃ m, m = 68 - n := ⟨_, rfl⟩
    rw [show 69 - n = m + 1 by omega, show 69 - (n + 1) = m by omega, rootA, rootX, ← hm]
    split <;> rfl
theorem rootN_eq (p k : Nat) : rootN p k = rootA p k 69 0 % 2 ^ 64 := by
  have := rootA_eq p k 69 (Nat.le_refl _)
  rw [rootN, ← this]
  rfl
def primes80 : List Nat := [2, 3, 5, 7, 11, 13, 17, 19, 23, 29, 31, 37, 41, 43, 47, 53, 59, 61, 67, 71, 73, 79, 83, 89, 97, 101, 103, 107, 109, 113, 127, 131, 137, 139, 149, 151, 157, 163, 167, 173, 179, 181, 191, 193, 197, 199, 211, 223, 227, 229, 233, 239, 241, 251, 257, 263, 269, 271, 277, 281, 283, 293, 307, 311, 313, 317, 331, 337, 347, 349, 353, 359, 367, 373, 379, 383, 389, 397, 401, 409]
theorem roots3 : (primes80.map fun p => rootA p 3 69 0 % 2 ^ 64) = stepsN := by decide +kernel
theorem roots2 : ((primes80.take 8).map fun p => rootA p 2 69 0 % 2 ^ 64) = firstN := by decide +kernel
def primesTo (k : Nat) : List Nat := primes80.filter fun q => decide (q < k)
theorem primes_step : ((List.range 410).all fun k => decide (primesTo (k + 1) = if 2 ≤ k ∧ (primesTo k).all (fun q => k % q != 0) = true then primesTo k ++ [k] else primesTo k)) = true := by decide +kernel
theorem primes_len : ((List.range 410).all fun k => decide ((primesTo k).length < 80)) = true := by decide +kernel
theorem primes_end : primesTo 410 = primes80 := by decide +kernel
theorem primes_lt : (primes80.all fun p => decide (2 ≤ p ∧ p < 65536)) = true := by decide +kernel
theorem map_getD (l : List Nat) (f : Nat → Nat) (i : Nat) (h : i < l.length) : (l.map f).getD i 0 = f (l.getD i 0) := by
  simp [List.getD_eq_getElem?_getD, h]
theorem rootN3 (i : Nat) (h : i < 80) : rootN (primes80.getD i 0) 3 = stepsN.getD i 0 := by
  rw [← roots3, map_getD primes80 _ i h, rootN_eq]
theorem rootN2 (i : Nat) (h : i < 8) : rootN (primes80.getD i 0) 2 = firstN.getD i 0 := by
  have e : primes80.getD i 0 = (primes80.take 8).getD i 0 := by
    rw [List.getD_eq_getElem?_getD, List.getD_eq_getElem?_getD, List.getElem?_take, if_pos h]
  rw [← roots2, map_getD (primes80.take 8) _ i h, rootN_eq, e]
end Go.Proofs.YtilhhigdegccgaaDoor.Sh
/-
  Walk: the reference's Primes, the first 80.
-/
namespace Go.Proofs.YtilhhigdegccgaaDoor.Sh
set_option linter.unusedSimpArgs false
set_option linter.unusedVariables false
open Go.RowKit
theorem sl_int : SlT Tryd.prog 91 3 1 8 := SlT.mk1 (z := .int .i64 0) Tryd.underlying91 (by kernel_rfl) rfl (by decide)
def prB (k : Nat) (l : List Nat) : Bool := l.all fun q => k % q != 0
theorem primesTo_step (k : Nat) (h : k < 410) (h2 : 2 ≤ k) : primesTo (k + 1) = if prB k (primesTo k) = true then primesTo k ++ [k] else primesTo k := by
  have := (List.all_eq_true.1 primes_step) k (List.mem_range.2 h)
  rw [decide_eq_true_eq] at this
  rw [this]
  simp only [h2, true_and]
  rfl
theorem primesTo_len (k : Nat) (h : k < 410) : (primesTo k).length < 80 := by
  have := (List.all_eq_true.1 primes_len) k (List.mem_range.2 h)
  rwa [decide_eq_true_eq] at this
theorem primesTo_mem (k : Nat) : ∀ q ∈ primesTo k, 2 ≤ q ∧ q < 65536 := fun q hq => by
  have h1 := (List.mem_filter.1 hq).1
  have := (List.all_eq_true.1 primes_lt) q h1
  rwa [decide_eq_true_eq] at this
theorem prB_snoc (k : Nat) (l : List Nat) (q : Nat) : prB k (l ++ [q]) = (prB k l && (k % q != 0)) := by simp [prB]
def PrimesPost (w : World) (e : Ending) (w' : World) : Prop :=
  ∃ A c, e = .returned (.slice A 80 c) ∧ OwnX w' w.heap.size 3 1 (.slice A 80 c) 80 (wordsV .i64 primes80) ∧ Below w.heap.size w w'
structure PrSt (w0 : World) (gf : Nat) (v : Value) (n : Nat) (l : List Nat) (u : World) : Prop where
  bel : Below gf w0 u
  own : OwnX u gf 3 1 v n (wordsV .i64 l)
  le : gf ≤ u.heap.size
set_option maxRecDepth 100000 in
set_option maxHeartbeats 2000000 in
theorem primes_any (w : World) : Calls Tryd.prog 76 #[.int .i64 80] w (PrimesPost w) := by
  obtain ⟨gf, hgf⟩ : ∃ x, x = w.heap.size := ⟨_, rfl⟩
  have hst0 : PrSt w gf (.slice none 0 0) 0 (primesTo 2) w := ⟨Below.refl _ _, OwnX.nil _ _ _ _, by omega⟩
  have HST0 := Lib.hid hst0
  have HGF := Lib.hid hgf
  clear hst0 hgf
  go_enter Tryd.func76, Tryd.ntmps76
  go_wp2
  have hst0 := HST0.out
  clear HST0
  go_loopw [3, 4] (fun v i wr => ∃ (k n : Nat) (A : Option Addr) (c : Nat), 2 ≤ k ∧ k ≤ 410 ∧ i = .int .i64 k ∧ n = (primesTo k).length ∧ v = .slice A n c ∧ PrSt w gf (.slice A n c) n (primesTo k) wr) (fun _ i _ => 410 - (intOf i).toNat)
  case atStart => exact ⟨2, 0, none, 0, by omega, by omega, rfl, by decide +kernel, rfl, hst0⟩
  case round =>
    obtain ⟨k, n, A, c, hk2, hk, rfl, hn, rfl, hst⟩ := hrel
    clear hst0
    by_cases hlt : k < 410
    · have hn80 : n < 80 := by rw [hn]; exact primesTo_len k hlt
      have hn80' : (n : Int) < 80 := by omega
      obtain ⟨L, hL⟩ : ∃ L, L = primesTo k := ⟨_, rfl⟩
      have hstep := primesTo_step k hlt hk2
      have hmem : ∀ q ∈ L, 2 ≤ q ∧ q < 65536 := by rw [hL]; exact primesTo_mem k
      rw [← hL] at hn hst hstep
      have HL := Lib.hid hL
      have HN := Lib.hid hn
      have HST := Lib.hid hst
      have HSTEP := Lib.hid hstep
      have HMEM := Lib.hid hmem
      have hk0 : (0 : Int) ≤ (k : Int) := by omega
      clear hL hn hst hstep hmem
      go_wp2_with fail
      obtain ⟨wo, rfl⟩ : ∃ wo : World, wo = wr := ⟨_, rfl⟩
      go_loop [5, 6] (fun b i => ∃ (j : Nat) (bb : Bool), j ≤ n ∧ i = .int .i64 j ∧ bb = prB k (L.take j) ∧ b = .bool bb) (fun _ i => n - (intOf i).toNat)
      case atStart => exact ⟨0, true, by omega, rfl, rfl, rfl⟩
      case round =>
        obtain ⟨j, bb, hj, rfl, hbb, rfl⟩ := hrel
        by_cases hjn : j < n
        · have hjL : j < L.length := by rw [← HN.out]; exact hjn
          obtain ⟨q, hq⟩ : ∃ q, q = L[j] := ⟨_, rfl⟩
          obtain ⟨hq2, hq3⟩ := HMEM.out q (by rw [hq]; exact List.getElem_mem hjL)
          obtain ⟨g, rfl, hgb, hgl⟩ := HST.out.own.ptr (by omega)
          have dq := HST.out.own.atN (i := j) (v := .int .i64 (q : Int)) (by rw [wordsV, List.getElem?_map, List.getElem?_eq_getElem hjL, hq]; rfl)
          have hnc := HST.out.own.le_cap
          have hsn : prB k (L.take (j + 1)) = (bb && (k % q != 0)) := by rw [List.take_succ_eq_append_getElem hjL, prB_snoc, ← hbb, hq]
          have HSN := Lib.hid hsn
          have hq0 : (0 : Int) < (q : Int) := by omega
          clear hbb hsn hq
          by_cases hd : k % q = 0
          · have hb1 : (((k : Int) % (q : Int)) == 0) = true := by rw [beq_iff_eq]; omega
            have hfin : false = prB k (L.take (j + 1)) := by rw [HSN.out, hd]; simp
            have HFIN := Lib.hid hfin
            clear hfin hd
            go_wp2_with fail
            exact ⟨⟨j + 1, false, by omega, by go_num, HFIN.out, rfl⟩, by simp [intOf]; omega⟩
          · have hb1 : (((k : Int) % (q : Int)) == 0) = false := by rw [beq_eq_false_iff_ne]; omega
            have hfin : bb = prB k (L.take (j + 1)) := by rw [HSN.out]; simp [hd]
            have HFIN := Lib.hid hfin
            clear hfin hd
            go_wp2_with fail
            exact ⟨⟨j + 1, bb, by omega, by go_num, HFIN.out, rfl⟩, by simp [intOf]; omega⟩
        · obtain rfl : j = n := by omega
          have hst2 := HSTEP.out
          rw [List.take_of_length_le (by rw [HN.out]; exact Nat.le_refl _)] at hbb
          rw [← hbb] at hst2
          cases bb
          · rw [if_neg (by decide)] at hst2
            have HS2 := Lib.hid hst2
            clear hst2 hbb
            go_wp2_with fail
            exact ⟨⟨k + 1, j, A, c, by omega, by omega, by go_num, by rw [HS2.out]; exact HN.out, rfl, by rw [HS2.out]; exact HST.out⟩, by simp [intOf]; omega⟩
          · rw [if_pos rfl] at hst2
            have HS2 := Lib.hid hst2
            clear hst2 hbb
            go_wp2_with (refine wpList_append_one sl_int rfl rfl HST.out.own rfl rfl rfl rfl (by unfold maxLen; omega) (by omega) HST.out.le ?_; intro A3 c3 w3 hown3 hg3 hn3; have HOWN3 := Lib.hid hown3; have HG3 := Lib.hid hg3; clear hown3 hg3 hn3)
            refine ⟨⟨k + 1, j + 1, A3, c3, by omega, by omega, by go_num, by rw [HS2.out, List.length_append, ← HN.out]; rfl, rfl, ?_⟩, by simp [intOf]; omega⟩
            rw [HS2.out]
            refine ⟨HST.out.bel.grown HG3.out HST.out.le (fun k hk => (HST.out.own.lt k hk).1), ?_, by have := HG3.out.size; have := HST.out.le; omega⟩
            rw [wordsV_snoc]; exact HOWN3.out
    · obtain rfl : k = 410 := by omega
      rw [primes_end] at hn hst
      obtain rfl : n = 80 := hn
      have HST := Lib.hid hst
      clear hst
      go_wp2_with fail
      go_ret
      exact ⟨A, c, rfl, by rw [← HGF.out]; exact HST.out.own, by rw [← HGF.out]; exact HST.out.bel⟩
end Go.Proofs.YtilhhigdegccgaaDoor.Sh
