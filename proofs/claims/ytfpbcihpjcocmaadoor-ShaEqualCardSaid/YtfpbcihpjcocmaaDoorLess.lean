/-
  Walk: the reference's Less.
-/
import Derived.Test.YtfpbcihpjcocmaaDoorRefX
import Derived.Test.YtfpbcihpjcocmaaDoorDig
namespace Go.Proofs.YtfpbcihpjcocmaaDoor
set_option linter.unusedSimpArgs false
set_option linter.unusedVariables false
open Go.RowKit

def LessPost (a b : List Nat) (w : World) (e : Ending) (w' : World) : Prop := e = .returned (.bool (decide (dval a < dval b))) ∧ w = w'
theorem wordsV_at {K : IntKind} {l : List Nat} {i : Nat} (h : i < l.length) : (wordsV K l)[i]? = some (.int K ((l.getD i 0 : Nat) : Int)) := by simp [wordsV, h]
/-- one digit more -/
theorem hi_step {A B D : Nat} (i : Nat) (h : A / D ^ (i + 1) = B / D ^ (i + 1)) (hd : A / D ^ i % D = B / D ^ i % D) : A / D ^ i = B / D ^ i := by
  rw [Nat.pow_succ, ← Nat.div_div_eq_div_mul, ← Nat.div_div_eq_div_mul] at h
  rw [← Nat.div_add_mod (A / D ^ i) D, ← Nat.div_add_mod (B / D ^ i) D, h, hd]
theorem hi_lt {A B D : Nat} (hD : 0 < D) (i : Nat) (h : A / D ^ (i + 1) = B / D ^ (i + 1)) (hd : A / D ^ i % D < B / D ^ i % D) : A < B := by
  rw [Nat.pow_succ, ← Nat.div_div_eq_div_mul, ← Nat.div_div_eq_div_mul] at h
  have h1 : A / D ^ i < B / D ^ i := by
    rw [← Nat.div_add_mod (A / D ^ i) D, ← Nat.div_add_mod (B / D ^ i) D, h]; omega
  rcases Nat.lt_or_ge A B with h2 | h2
  · exact h2
  · have := Nat.div_le_div_right (c := D ^ i) h2; omega
theorem less_dec {A B x y : Nat} (q : Nat) (h : A / 65536 ^ (q + 1) = B / 65536 ^ (q + 1)) (hx : x = A / 65536 ^ q % 65536) (hy : y = B / 65536 ^ q % 65536) (hne : x ≠ y) : decide (x < y) = decide (A < B) := by
  rcases Nat.lt_or_gt_of_ne hne with h1 | h1
  · have := hi_lt (by decide) q h (by rw [← hx, ← hy]; exact h1)
    rw [decide_eq_true this, decide_eq_true (by omega)]
  · have := hi_lt (by decide) q h.symm (by rw [← hx, ← hy]; exact h1)
    rw [decide_eq_false (by omega), decide_eq_false (by omega)]
set_option maxRecDepth 100000 in
set_option maxHeartbeats 2000000 in
theorem less_any (a b : List Nat) (ha : ∀ d ∈ a, d < 65536) (hb : ∀ d ∈ b, d < 65536) (A1 A2 : Option Addr) (c1 c2 B1 B2 la lb : Nat) (w : World) (h1 : Rd w B1 A1 (wordsV .i64 a)) (h2 : Rd w B2 A2 (wordsV .i64 b)) (hla : a.length = la) (hlb : b.length = lb) (la1 : la ≤ 1000) (lb1 : lb ≤ 1000) (hc1 : la ≤ c1) (hc2 : lb ≤ c2) :
    Calls Tryd.prog 33 #[.slice A1 la c1, .slice A2 lb c2] w (LessPost a b w) := by
  obtain ⟨m, hm⟩ : ∃ m, m = max la lb := ⟨_, rfl⟩
  have hml : la ≤ m := by omega
  have hmr : lb ≤ m := by omega
  have hm1 : m ≤ 1000 := by omega
  have HM : Hid (if la < lb then m = lb else m = la) := Lib.hid (by split <;> omega)
  have hda : ∀ i, (if i < la then a.getD i 0 else 0) = dval a / 65536 ^ i % 65536 := fun i => by
    split
    · exact getD_dig a i ha
    · rw [← getD_dig a i ha, List.getD_eq_getElem?_getD, List.getElem?_eq_none (by omega)]; rfl
  have hdb : ∀ i, (if i < lb then b.getD i 0 else 0) = dval b / 65536 ^ i % 65536 := fun i => by
    split
    · exact getD_dig b i hb
    · rw [← getD_dig b i hb, List.getD_eq_getElem?_getD, List.getElem?_eq_none (by omega)]; rfl
  have hA : dval a / 65536 ^ m = 0 := Nat.div_eq_of_lt (Nat.lt_of_lt_of_le (dval_lt a ha) (Nat.pow_le_pow_right (by decide) (by omega)))
  have hB : dval b / 65536 ^ m = 0 := Nat.div_eq_of_lt (Nat.lt_of_lt_of_le (dval_lt b hb) (Nat.pow_le_pow_right (by decide) (by omega)))
  obtain ⟨NA, hNA⟩ : ∃ x, x = dval a := ⟨_, rfl⟩
  obtain ⟨NB, hNB⟩ : ∃ x, x = dval b := ⟨_, rfl⟩
  rw [← hNA] at hda hA
  rw [← hNB] at hdb hB
  have HNA := Lib.hid hNA
  have HNB := Lib.hid hNB
  have HDA := Lib.hid hda
  have HDB := Lib.hid hdb
  have HAB : Hid (NA / 65536 ^ m = NB / 65536 ^ m) := Lib.hid (hA.trans hB.symm)
  have H1 := Lib.hid h1
  have H2 := Lib.hid h2
  have HLA := Lib.hid hla
  have HLB := Lib.hid hlb
  clear hNA hNB hda hdb hA hB h1 h2 hla hlb ha hb hm
  by_cases hlt : la < lb
  all_goals
    first
      | (have hge : (la : Int) < (lb : Int) := by omega)
      | (have hge : ¬ (la : Int) < (lb : Int) := by omega)
    have hmm := HM.out
    first
      | (rw [if_pos hlt] at hmm)
      | (rw [if_neg hlt] at hmm)
    have HMM := Lib.hid hmm
    clear HM hmm
    go_enter Tryd.func33, Tryd.ntmps33
    go_wp2
    have hab := HAB.out
    go_loop [6] (fun v => ∃ i : Nat, i ≤ m ∧ v = .int .i64 ((i : Int) - 1) ∧ NA / 65536 ^ i = NB / 65536 ^ i) (fun v => (intOf v + 1).toNat)
    case atStart => exact ⟨m, Nat.le_refl _, by rw [HMM.out], hab⟩
    case round =>
      clear hab
      obtain ⟨i, hi, rfl, hh⟩ := hrel
      cases i with
      | zero =>
        have HH := Lib.hid hh
        clear hh
        go_wp2
        go_ret
        refine ⟨?_, rfl⟩
        have := HH.out
        simp at this
        rw [decide_eq_false (by rw [← HNA.out, ← HNB.out]; omega)]
        rfl
      | succ q =>
        rw [show (((q + 1 : Nat) : Int) - 1) = (q : Int) by omega]
        have hq0 : (0 : Int) ≤ (q : Int) := by omega
        obtain ⟨x, hx⟩ : ∃ x, x = NA / 65536 ^ q % 65536 := ⟨_, rfl⟩
        obtain ⟨y, hy⟩ : ∃ y, y = NB / 65536 ^ q % 65536 := ⟨_, rfl⟩
        have hxa := HDA.out q
        have hyb := HDB.out q
        rw [← hx] at hxa
        rw [← hy] at hyb
        have HX := Lib.hid hx
        have HY := Lib.hid hy
        have HH := Lib.hid hh
        clear hx hy hh
        by_cases hxy : x = y
        all_goals
          by_cases hqa : q < la <;> by_cases hqb : q < lb
        all_goals
          first | (rw [if_pos hqa] at hxa) | (rw [if_neg hqa] at hxa)
          first | (rw [if_pos hqb] at hyb) | (rw [if_neg hqb] at hyb)
        · obtain ⟨ad1, rfl, hz1, hz2⟩ := H1.out.at_ (k := q) (by rw [wordsV_length, HLA.out]; exact hqa)
          have d1 := H1.out.val (wordsV_at (K := .i64) (by rw [HLA.out]; exact hqa : q < a.length))
          rw [hxa] at d1
          clear hz1 hz2
          obtain ⟨ad2, rfl, hz3, hz4⟩ := H2.out.at_ (k := q) (by rw [wordsV_length, HLB.out]; exact hqb)
          have d2 := H2.out.val (wordsV_at (K := .i64) (by rw [HLB.out]; exact hqb : q < b.length))
          rw [hyb] at d2
          clear hz3 hz4
          have hfin := hi_step q HH.out (by rw [← HX.out, ← HY.out]; exact hxy)
          have HFIN := Lib.hid hfin
          clear hfin
          subst hxy
          clear hxa hyb
          go_wp2
          exact ⟨⟨q, by omega, rfl, HFIN.out⟩, by simp [intOf] <;> omega⟩
        · obtain ⟨ad1, rfl, hz1, hz2⟩ := H1.out.at_ (k := q) (by rw [wordsV_length, HLA.out]; exact hqa)
          have d1 := H1.out.val (wordsV_at (K := .i64) (by rw [HLA.out]; exact hqa : q < a.length))
          rw [hxa] at d1
          clear hz1 hz2
          have hfin := hi_step q HH.out (by rw [← HX.out, ← HY.out]; exact hxy)
          have HFIN := Lib.hid hfin
          clear hfin
          obtain rfl : x = 0 := by omega
          clear hxa hyb
          clear hxy
          go_wp2
          exact ⟨⟨q, by omega, rfl, HFIN.out⟩, by simp [intOf] <;> omega⟩
        · obtain ⟨ad2, rfl, hz3, hz4⟩ := H2.out.at_ (k := q) (by rw [wordsV_length, HLB.out]; exact hqb)
          have d2 := H2.out.val (wordsV_at (K := .i64) (by rw [HLB.out]; exact hqb : q < b.length))
          rw [hyb] at d2
          clear hz3 hz4
          have hfin := hi_step q HH.out (by rw [← HX.out, ← HY.out]; exact hxy)
          have HFIN := Lib.hid hfin
          clear hfin
          obtain rfl : y = 0 := by omega
          clear hxa hyb
          clear hxy
          go_wp2
          exact ⟨⟨q, by omega, rfl, HFIN.out⟩, by simp [intOf] <;> omega⟩
        · have hfin := hi_step q HH.out (by rw [← HX.out, ← HY.out]; exact hxy)
          have HFIN := Lib.hid hfin
          clear hfin
          clear hxa hyb
          clear hxy
          go_wp2
          exact ⟨⟨q, by omega, rfl, HFIN.out⟩, by simp [intOf] <;> omega⟩
        · obtain ⟨ad1, rfl, hz1, hz2⟩ := H1.out.at_ (k := q) (by rw [wordsV_length, HLA.out]; exact hqa)
          have d1 := H1.out.val (wordsV_at (K := .i64) (by rw [HLA.out]; exact hqa : q < a.length))
          rw [hxa] at d1
          clear hz1 hz2
          obtain ⟨ad2, rfl, hz3, hz4⟩ := H2.out.at_ (k := q) (by rw [wordsV_length, HLB.out]; exact hqb)
          have d2 := H2.out.val (wordsV_at (K := .i64) (by rw [HLB.out]; exact hqb : q < b.length))
          rw [hyb] at d2
          clear hz3 hz4
          have hd := less_dec q HH.out HX.out HY.out hxy
          rw [HNA.out, HNB.out] at hd
          have HD := Lib.hid hd
          have hb1 : ((x : Int) != (y : Int)) = true := by rw [bne_iff_ne]; omega
          have hb2 : ¬ x = y := hxy
          clear hxa hyb hd hxy
          go_wp2
          go_ret
          exact ⟨ret_bool (by rw [← HD.out]; first | done | rfl | exact decide_eq_decide.2 (by omega)), rfl⟩
        · obtain ⟨ad1, rfl, hz1, hz2⟩ := H1.out.at_ (k := q) (by rw [wordsV_length, HLA.out]; exact hqa)
          have d1 := H1.out.val (wordsV_at (K := .i64) (by rw [HLA.out]; exact hqa : q < a.length))
          rw [hxa] at d1
          clear hz1 hz2
          have hd := less_dec q HH.out HX.out HY.out hxy
          rw [HNA.out, HNB.out] at hd
          rw [show y = 0 by omega] at hd
          have HD := Lib.hid hd
          have hb1 : ((x : Int) != 0) = true := by rw [bne_iff_ne]; omega
          have hb2 : ¬ x = y := hxy
          clear hxa hyb hd hxy
          go_wp2
          go_ret
          exact ⟨ret_bool (by rw [← HD.out]; first | done | rfl | exact decide_eq_decide.2 (by omega)), rfl⟩
        · obtain ⟨ad2, rfl, hz3, hz4⟩ := H2.out.at_ (k := q) (by rw [wordsV_length, HLB.out]; exact hqb)
          have d2 := H2.out.val (wordsV_at (K := .i64) (by rw [HLB.out]; exact hqb : q < b.length))
          rw [hyb] at d2
          clear hz3 hz4
          have hd := less_dec q HH.out HX.out HY.out hxy
          rw [HNA.out, HNB.out] at hd
          rw [show x = 0 by omega] at hd
          have HD := Lib.hid hd
          have hb1 : ((0 : Int) != (y : Int)) = true := by rw [bne_iff_ne]; omega
          have hb2 : ¬ x = y := hxy
          clear hxa hyb hd hxy
          go_wp2
          go_ret
          exact ⟨ret_bool (by rw [← HD.out]; first | done | rfl | exact decide_eq_decide.2 (by omega)), rfl⟩
        · have hd := less_dec q HH.out HX.out HY.out hxy
          rw [HNA.out, HNB.out] at hd
          rw [show x = 0 by omega] at hd
          rw [show y = 0 by omega] at hd
          have HD := Lib.hid hd
          omega
end Go.Proofs.YtfpbcihpjcocmaaDoor
