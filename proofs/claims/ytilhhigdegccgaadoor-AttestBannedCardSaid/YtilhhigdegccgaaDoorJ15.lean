/-
  Joined texts: RefX ShaH.
-/
import Derived.Test.YtilhhigdegccgaaDoorJ14
import Derived.Test.YtilhhigdegccgaaDoorJ5
import Derived.Test.YtilhhigdegccgaaDoorJ10
/-
  Walk: the reference's mixed.
-/
namespace Go.Proofs.YtilhhigdegccgaaDoor.Sh
set_option linter.unusedSimpArgs false
set_option linter.unusedVariables false
open Go.RowKit
theorem h_size : (Tryd.prog.info? 108).map (·.size) = some 8 := by kernel_rfl
def triV (p q c : Nat) : List Value := [.int .i64 p, .int .i64 q, .int .i64 c]
structure MxSt (w0 : World) (g : Nat) (cs : Array Value) (A : Option Addr) (xs : List Value) (u : World) : Prop where
  bel : Below g w0 u
  h : Blk u g 108 cs
  rd : Rd u g A xs
theorem MxSt.next {w0 u u' : World} {g : Nat} {cs : Array Value} {A : Option Addr} {xs : List Value} (h : MxSt w0 g cs A xs u) (hb : Below u.heap.size u u') : MxSt w0 g cs A xs u' :=
  ⟨h.bel.trans (hb.mono (by have := h.h.lt; omega)), h.h.below hb h.h.lt, h.rd.below (hb.mono (by have := h.h.lt; omega))⟩
theorem MxSt.drew {w0 u : World} {g : Nat} {cs : Array Value} {A : Option Addr} {xs : List Value} (h : MxSt w0 g cs A xs u) : MxSt w0 g cs A xs u.drew :=
  ⟨h.bel.drew, h.h, h.rd.below (Below.refl _ _).drew⟩
def halves (x : Nat) : Nat → Nat
  | 0 => x
  | n + 1 => halves x n / 2
theorem halves_eq (x : Nat) : ∀ n, halves x n = x / 2 ^ n
  | 0 => by simp [halves]
  | n + 1 => by rw [halves, halves_eq x n, Nat.div_div_eq_div_mul, Nat.pow_succ]
theorem halves_le (x : Nat) (n : Nat) : halves x n ≤ x := by rw [halves_eq]; exact Nat.div_le_self _ _
set_option maxRecDepth 100000 in
set_option maxHeartbeats 2000000 in
theorem mixed_any (bits steps : Nat) (a b c d k f : Value) (w : World) (hb : bits = 32 ∨ bits = 64) (x p q r : Nat) (shift : Bool) (hx : x < 2 ^ bits) (hp : p ≤ bits) (hq : q ≤ bits) (hr : r ≤ bits)
    (A : Option Addr) (cp B : Nat) (hrd : Rd w B A (triV p q r)) (hB : B ≤ w.heap.size) (hcp : 3 ≤ cp) :
    Calls Tryd.prog 90 #[.agg (hC bits steps a b c d k f), .int .u64 x, .slice A 3 cp, .bool shift] w fun e w' => e = .returned (.int .u64 (allN bits x p q r shift : Nat)) ∧ Below w.heap.size w w' := by
  obtain ⟨ad, rfl, _, _⟩ := hrd.at_ (k := 0) (by simp [triV])
  obtain ⟨W0, hW0⟩ : ∃ W0, W0 = w.alloc (.cells (hC bits steps a b c d k f) 108) := ⟨_, rfl⟩
  obtain ⟨cs, hcs⟩ : ∃ cs, cs = hC bits steps a b c d k f := ⟨_, rfl⟩
  have hst : MxSt w w.heap.size cs (some ad) (triV p q r) W0 := by
    rw [hW0, hcs]; exact ⟨below_new _ _, Blk.new _ _ _, (hrd.mono hB).below (below_new _ _)⟩
  have hb64 : bits ≤ 64 := by omega
  have hx64 : x < 2 ^ 64 := Nat.lt_of_lt_of_le hx (Nat.pow_le_pow_right (by omega) hb64)
  have hst0 := hst
  rw [hW0, ← hcs] at hst0
  have hr64 : r ≤ 64 := by omega
  have HST := Lib.hid hst0
  have HX := Lib.hid hx
  have HXL := Lib.hid hx64
  have HB := Lib.hid hb
  have HP := Lib.hid hp
  have HQ := Lib.hid hq
  have HR := Lib.hid hr
  have HCS := Lib.hid hcs
  have hu := Tryd.underlying108
  have hcs8 : cs.size = 8 := by rw [hcs]; rfl
  have HCS8 := Lib.hid hcs8
  rw [← hcs]
  have hx1 : (x : Int) < 18446744073709551616 := by omega
  have hAN : allN bits x p q r shift = (turnedN bits x p ^^^ turnedN bits x q) ^^^ lastN bits x r shift := rfl
  have HAN := Lib.hid hAN
  obtain ⟨tp, htp⟩ : ∃ z, z = turnedN bits x p := ⟨_, rfl⟩
  obtain ⟨tq, htq⟩ : ∃ z, z = turnedN bits x q := ⟨_, rfl⟩
  obtain ⟨tr, htr⟩ : ∃ z, z = turnedN bits x r := ⟨_, rfl⟩
  obtain ⟨la, hla⟩ : ∃ z, z = lastN bits x r shift := ⟨_, rfl⟩
  obtain ⟨pq, hpq⟩ : ∃ z, z = tp ^^^ tq := ⟨_, rfl⟩
  obtain ⟨re, hre⟩ : ∃ z, z = pq ^^^ la := ⟨_, rfl⟩
  have HTP := Lib.hid htp
  have HTQ := Lib.hid htq
  have HTR := Lib.hid htr
  have HLA := Lib.hid hla
  have HPQ := Lib.hid hpq
  have HRE := Lib.hid hre
  have LTP : Hid (tp < 2 ^ 64) := Lib.hid (by rw [htp]; exact turnedN_lt hx64)
  have LTQ : Hid (tq < 2 ^ 64) := Lib.hid (by rw [htq]; exact turnedN_lt hx64)
  have LLA : Hid (la < 2 ^ 64) := Lib.hid (by rw [hla]; exact lastN_lt hx64)
  have LPQ : Hid (pq < 2 ^ 64) := Lib.hid (by rw [hpq]; exact Nat.xor_lt_two_pow LTP.out LTQ.out)
  clear hrd hst hx hx64 hb hp hq hr hcs hcs8 hW0 hst0 hAN htp htq htr hla hpq hre W0
  cases shift
  all_goals
    go_enter Tryd.func90, Tryd.ntmps90
    go_wp2_with fail
    have HC0 := HST.out.drew
    refine wp_region_seq (fun u => MxSt w w.heap.size cs (some ad) (triV p q r) u) (by kernel_rfl) (by kernel_rfl) HC0 ?_
    apply SeqL.next
    · rfl
    · rfl
    · simp only [act_put, act_put_none, List.setIfInBounds_toArray, List.set_cons_zero, List.set_cons_succ]
      rfl
    · intro w1 hC1 E hE
      refine wpList_get_box hC1.h rfl rfl rfl hu rfl (by rw [HCS8.out]; exact h_size) ?_
      go_wp2_with fail
      exact .mk (hE _ hC1)
    iterate 3
      ((first | (apply SeqL.next; rfl; rfl)); (simp only [act_put, act_put_none, List.setIfInBounds_toArray, List.set_cons_zero, List.set_cons_succ]; rfl); (intro w1 hC1 E hE; go_wp2; exact .mk (hE _ hC1)))
    apply SeqL.next
    · rfl
    · rfl
    · simp only [act_put, act_put_none, List.setIfInBounds_toArray, List.set_cons_zero, List.set_cons_succ]
      rfl
    · intro w1 hC1 E hE
      have d0 := hC1.rd.lit (k := 2) rfl (by decide)
      go_wp2
      exact .mk (hE _ hC1)
    apply SeqL.next
    · rfl
    · rfl
    · simp only [act_put, act_put_none, List.setIfInBounds_toArray, List.set_cons_zero, List.set_cons_succ]
      rfl
    · intro w1 hC1 E hE
      go_wp2_with fail
      have hct := turn_any bits steps a b c d k f w1 HB.out x r HX.out HR.out
      rw [← HCS.out] at hct
      refine calls_then hct ?_
      rintro e w2 ⟨rfl, hb2⟩
      rw [← HTR.out]
      go_wp2_with fail
      exact .mk (hE _ (hC1.next hb2))
    iterate 1
      ((first | (apply SeqL.next; rfl; rfl)); (simp only [act_put, act_put_none, List.setIfInBounds_toArray, List.set_cons_zero, List.set_cons_succ]; rfl); (intro w1 hC1 E hE; go_wp2; exact .mk (hE _ hC1)))
    refine SeqL.nil ?_
    intro w1 hC1
    clear HC0
    have HC1 := Lib.hid hC1
    have d2 := hC1.rd.lit (k := 2) rfl (by decide)
    clear hC1
    go_wp2_with fail
  · obtain rfl : tr = la := by rw [HLA.out, HTR.out]; rfl
    have HC0 := HC1.out.drew
    refine wp_region_seq (fun u => MxSt w w.heap.size cs (some ad) (triV p q r) u) (by kernel_rfl) (by kernel_rfl) HC0 ?_
    apply SeqL.next
    · rfl
    · rfl
    · simp only [act_put, act_put_none, List.setIfInBounds_toArray, List.set_cons_zero, List.set_cons_succ]
      rfl
    · intro w1 hC1 E hE
      refine wpList_get_box hC1.h rfl rfl rfl hu rfl (by rw [HCS8.out]; exact h_size) ?_
      go_wp2_with fail
      exact .mk (hE _ hC1)
    iterate 3
      ((first | (apply SeqL.next; rfl; rfl)); (simp only [act_put, act_put_none, List.setIfInBounds_toArray, List.set_cons_zero, List.set_cons_succ]; rfl); (intro w1 hC1 E hE; go_wp2; exact .mk (hE _ hC1)))
    apply SeqL.next
    · rfl
    · rfl
    · simp only [act_put, act_put_none, List.setIfInBounds_toArray, List.set_cons_zero, List.set_cons_succ]
      rfl
    · intro w1 hC1 E hE
      have d0 := hC1.rd.val0 rfl
      go_wp2
      exact .mk (hE _ hC1)
    apply SeqL.next
    · rfl
    · rfl
    · simp only [act_put, act_put_none, List.setIfInBounds_toArray, List.set_cons_zero, List.set_cons_succ]
      rfl
    · intro w1 hC1 E hE
      go_wp2_with fail
      have hct := turn_any bits steps a b c d k f w1 HB.out x p HX.out HP.out
      rw [← HCS.out] at hct
      refine calls_then hct ?_
      rintro e w2 ⟨rfl, hb2⟩
      rw [← HTP.out]
      go_wp2_with fail
      exact .mk (hE _ (hC1.next hb2))
    apply SeqL.next
    · rfl
    · rfl
    · simp only [act_put, act_put_none, List.setIfInBounds_toArray, List.set_cons_zero, List.set_cons_succ]
      rfl
    · intro w1 hC1 E hE
      refine wpList_get_box hC1.h rfl rfl rfl hu rfl (by rw [HCS8.out]; exact h_size) ?_
      go_wp2_with fail
      exact .mk (hE _ hC1)
    iterate 3
      ((first | (apply SeqL.next; rfl; rfl)); (simp only [act_put, act_put_none, List.setIfInBounds_toArray, List.set_cons_zero, List.set_cons_succ]; rfl); (intro w1 hC1 E hE; go_wp2; exact .mk (hE _ hC1)))
    apply SeqL.next
    · rfl
    · rfl
    · simp only [act_put, act_put_none, List.setIfInBounds_toArray, List.set_cons_zero, List.set_cons_succ]
      rfl
    · intro w1 hC1 E hE
      have d0 := hC1.rd.lit (k := 1) rfl (by decide)
      go_wp2
      exact .mk (hE _ hC1)
    apply SeqL.next
    · rfl
    · rfl
    · simp only [act_put, act_put_none, List.setIfInBounds_toArray, List.set_cons_zero, List.set_cons_succ]
      rfl
    · intro w1 hC1 E hE
      go_wp2_with fail
      have hct := turn_any bits steps a b c d k f w1 HB.out x q HX.out HQ.out
      rw [← HCS.out] at hct
      refine calls_then hct ?_
      rintro e w2 ⟨rfl, hb2⟩
      rw [← HTQ.out]
      go_wp2_with fail
      exact .mk (hE _ (hC1.next hb2))
    apply SeqL.next
    · rfl
    · rfl
    · simp only [act_put, act_put_none, List.setIfInBounds_toArray, List.set_cons_zero, List.set_cons_succ]
      rfl
    · intro w1 hC1 E hE
      go_wp2
      rw [xor64 tp tq LTP.out LTQ.out, ← HPQ.out]
      exact .mk (hE _ hC1)
    iterate 1
      ((first | (apply SeqL.next; rfl; rfl)); (simp only [act_put, act_put_none, List.setIfInBounds_toArray, List.set_cons_zero, List.set_cons_succ]; rfl); (intro w1 hC1 E hE; go_wp2; exact .mk (hE _ hC1)))
    apply SeqL.next
    · rfl
    · rfl
    · simp only [act_put, act_put_none, List.setIfInBounds_toArray, List.set_cons_zero, List.set_cons_succ]
      rfl
    · intro w1 hC1 E hE
      go_wp2
      rw [xor64 pq tr LPQ.out LLA.out, ← HRE.out]
      exact .mk (hE _ hC1)
    iterate 1
      ((first | (apply SeqL.next; rfl; rfl)); (simp only [act_put, act_put_none, List.setIfInBounds_toArray, List.set_cons_zero, List.set_cons_succ]; rfl); (intro w1 hC1 E hE; go_wp2; exact .mk (hE _ hC1)))
    refine SeqL.nil ?_
    intro w1 hC1
    clear HC0
    go_wp2_with fail
    go_ret
    exact ⟨ret_int' (by rw [HAN.out, HRE.out, HPQ.out, HTP.out, HTQ.out, HLA.out]), hC1.bel⟩
  · go_loop [9, 10] (fun v i => ∃ j : Nat, j ≤ r ∧ i = .int .i64 j ∧ v = .int .u64 (halves x j)) (fun _ i => r - (intOf i).toNat)
    case atStart => exact ⟨0, by omega, rfl, rfl⟩
    case round =>
      obtain ⟨j, hj, rfl, rfl⟩ := hrel
      have hh := halves_le x j
      have hhs : halves x (j + 1) = halves x j / 2 := rfl
      obtain ⟨y, hy⟩ : ∃ y, y = halves x j := ⟨_, rfl⟩
      rw [← hy] at hh hhs ⊢
      have HY := Lib.hid hy
      have HHS := Lib.hid hhs
      have hy1 : (y : Int) < 18446744073709551616 := by omega
      clear hy hhs
      by_cases hlt : j < r
      · have hlt' : (j : Int) < (r : Int) := by omega
        go_wp2
        exact ⟨⟨j + 1, by omega, by go_num, by rw [HHS.out]; go_num⟩, by simp [intOf]; omega⟩
      · obtain rfl : j = r := by omega
        obtain rfl : y = la := by rw [HLA.out, HY.out, halves_eq]; rfl
        go_wp2_with fail
        have HC0 := HC1.out.drew
        refine wp_region_seq (fun u => MxSt w w.heap.size cs (some ad) (triV p q j) u) (by kernel_rfl) (by kernel_rfl) HC0 ?_
        apply SeqL.next
        · rfl
        · rfl
        · simp only [act_put, act_put_none, List.setIfInBounds_toArray, List.set_cons_zero, List.set_cons_succ]
          rfl
        · intro w1 hC1 E hE
          refine wpList_get_box hC1.h rfl rfl rfl hu rfl (by rw [HCS8.out]; exact h_size) ?_
          go_wp2_with fail
          exact .mk (hE _ hC1)
        iterate 3
          ((first | (apply SeqL.next; rfl; rfl)); (simp only [act_put, act_put_none, List.setIfInBounds_toArray, List.set_cons_zero, List.set_cons_succ]; rfl); (intro w1 hC1 E hE; go_wp2; exact .mk (hE _ hC1)))
        apply SeqL.next
        · rfl
        · rfl
        · simp only [act_put, act_put_none, List.setIfInBounds_toArray, List.set_cons_zero, List.set_cons_succ]
          rfl
        · intro w1 hC1 E hE
          have d0 := hC1.rd.val0 rfl
          go_wp2
          exact .mk (hE _ hC1)
        apply SeqL.next
        · rfl
        · rfl
        · simp only [act_put, act_put_none, List.setIfInBounds_toArray, List.set_cons_zero, List.set_cons_succ]
          rfl
        · intro w1 hC1 E hE
          go_wp2_with fail
          have hct := turn_any bits steps a b c d k f w1 HB.out x p HX.out HP.out
          rw [← HCS.out] at hct
          refine calls_then hct ?_
          rintro e w2 ⟨rfl, hb2⟩
          rw [← HTP.out]
          go_wp2_with fail
          exact .mk (hE _ (hC1.next hb2))
        apply SeqL.next
        · rfl
        · rfl
        · simp only [act_put, act_put_none, List.setIfInBounds_toArray, List.set_cons_zero, List.set_cons_succ]
          rfl
        · intro w1 hC1 E hE
          refine wpList_get_box hC1.h rfl rfl rfl hu rfl (by rw [HCS8.out]; exact h_size) ?_
          go_wp2_with fail
          exact .mk (hE _ hC1)
        iterate 3
          ((first | (apply SeqL.next; rfl; rfl)); (simp only [act_put, act_put_none, List.setIfInBounds_toArray, List.set_cons_zero, List.set_cons_succ]; rfl); (intro w1 hC1 E hE; go_wp2; exact .mk (hE _ hC1)))
        apply SeqL.next
        · rfl
        · rfl
        · simp only [act_put, act_put_none, List.setIfInBounds_toArray, List.set_cons_zero, List.set_cons_succ]
          rfl
        · intro w1 hC1 E hE
          have d0 := hC1.rd.lit (k := 1) rfl (by decide)
          go_wp2
          exact .mk (hE _ hC1)
        apply SeqL.next
        · rfl
        · rfl
        · simp only [act_put, act_put_none, List.setIfInBounds_toArray, List.set_cons_zero, List.set_cons_succ]
          rfl
        · intro w1 hC1 E hE
          go_wp2_with fail
          have hct := turn_any bits steps a b c d k f w1 HB.out x q HX.out HQ.out
          rw [← HCS.out] at hct
          refine calls_then hct ?_
          rintro e w2 ⟨rfl, hb2⟩
          rw [← HTQ.out]
          go_wp2_with fail
          exact .mk (hE _ (hC1.next hb2))
        apply SeqL.next
        · rfl
        · rfl
        · simp only [act_put, act_put_none, List.setIfInBounds_toArray, List.set_cons_zero, List.set_cons_succ]
          rfl
        · intro w1 hC1 E hE
          go_wp2
          rw [xor64 tp tq LTP.out LTQ.out, ← HPQ.out]
          exact .mk (hE _ hC1)
        iterate 1
          ((first | (apply SeqL.next; rfl; rfl)); (simp only [act_put, act_put_none, List.setIfInBounds_toArray, List.set_cons_zero, List.set_cons_succ]; rfl); (intro w1 hC1 E hE; go_wp2; exact .mk (hE _ hC1)))
        apply SeqL.next
        · rfl
        · rfl
        · simp only [act_put, act_put_none, List.setIfInBounds_toArray, List.set_cons_zero, List.set_cons_succ]
          rfl
        · intro w1 hC1 E hE
          go_wp2
          rw [xor64 pq y LPQ.out LLA.out, ← HRE.out]
          exact .mk (hE _ hC1)
        iterate 1
          ((first | (apply SeqL.next; rfl; rfl)); (simp only [act_put, act_put_none, List.setIfInBounds_toArray, List.set_cons_zero, List.set_cons_succ]; rfl); (intro w1 hC1 E hE; go_wp2; exact .mk (hE _ hC1)))
        refine SeqL.nil ?_
        intro w1 hC1
        clear HC0
        go_wp2_with fail
        go_ret
        exact ⟨ret_int' (by rw [HAN.out, HRE.out, HPQ.out, HTP.out, HTQ.out, HLA.out]), hC1.bel⟩
end Go.Proofs.YtilhhigdegccgaaDoor.Sh
/-
  The reference's H as it lies: a struct of slices.
-/
namespace Go.Proofs.YtilhhigdegccgaaDoor.Sh
set_option linter.unusedSimpArgs false
set_option linter.unusedVariables false
open Go.RowKit
theorem wordsV_snoc (K : IntKind) (l : List Nat) (x : Nat) : wordsV K (l ++ [x]) = wordsV K l ++ [.int K (x : Int)] := by simp [wordsV]
theorem wordsV_get (K : IntKind) (l : List Nat) (i : Nat) (h : i < l.length) : (wordsV K l)[i]? = some (.int K ((l.getD i 0 : Nat) : Int)) := by
  simp [wordsV, h]
structure HP where
  a : Addr
  b : Addr
  c : Addr
  d : Addr
  k : Addr
  f : Addr
  ca : Nat
  cb : Nat
  cc : Nat
  cd : Nat
  ck : Nat
  cf : Nat
def tri (t : Nat × Nat × Nat) : List Value := triV t.1 t.2.1 t.2.2
def kL (F : ShaF) : List Nat := (List.range F.many).map (kN F)
theorem kL_get (F : ShaF) (t : Nat) (h : t < F.many) : (kL F)[t]? = some (kN F t) := by simp [kL, h]
theorem kL_length (F : ShaF) : (kL F).length = F.many := by simp [kL]
def hv (F : ShaF) (p : HP) : Array Value := hC F.bits F.many (.slice (some p.a) 3 p.ca) (.slice (some p.b) 3 p.cb) (.slice (some p.c) 3 p.cc) (.slice (some p.d) 3 p.cd) (.slice (some p.k) F.many p.ck) (.slice (some p.f) 8 p.cf)
structure HOk (F : ShaF) (p : HP) (w : World) (B : Nat) : Prop where
  a : Rd w B (some p.a) (tri F.s0)
  b : Rd w B (some p.b) (tri F.s1)
  c : Rd w B (some p.c) (tri F.t0)
  d : Rd w B (some p.d) (tri F.t1)
  k : Rd w B (some p.k) (wordsV .u64 (kL F))
  f : Rd w B (some p.f) (wordsV .u64 (s8L (startS F)))
  ca : 3 ≤ p.ca
  cb : 3 ≤ p.cb
  cc : 3 ≤ p.cc
  cd : 3 ≤ p.cd
  ck : F.many ≤ p.ck
  cf : 8 ≤ p.cf
theorem HOk.below {F : ShaF} {p : HP} {w w' : World} {B : Nat} (h : HOk F p w B) (hb : Below B w w') : HOk F p w' B :=
  ⟨h.a.below hb, h.b.below hb, h.c.below hb, h.d.below hb, h.k.below hb, h.f.below hb, h.ca, h.cb, h.cc, h.cd, h.ck, h.cf⟩
theorem HOk.mono {F : ShaF} {p : HP} {w : World} {B B' : Nat} (h : HOk F p w B) (hb : B ≤ B') : HOk F p w B' :=
  ⟨h.a.mono hb, h.b.mono hb, h.c.mono hb, h.d.mono hb, h.k.mono hb, h.f.mono hb, h.ca, h.cb, h.cc, h.cd, h.ck, h.cf⟩
structure BkSt (w0 : World) (gf : Nat) (F : ShaF) (p : HP) (bA : Option Addr) (blk : List UInt8) (sA : Option Addr) (S : S8) (u : World) : Prop where
  bel : Below gf w0 u
  h : Blk u gf 108 (hv F p)
  ok : HOk F p u gf
  rb : Rd u gf bA (bytesV blk)
  rs : Rd u gf sA (wordsV .u64 (s8L S))
section
variable {w0 u u' : World} {gf : Nat} {F : ShaF} {p : HP} {bA sA : Option Addr} {blk : List UInt8} {S : S8}
theorem BkSt.keep (h : BkSt w0 gf F p bA blk sA S u) (hb : Below (gf + 1) u u') : BkSt w0 gf F p bA blk sA S u' :=
  ⟨h.bel.trans (hb.mono (by omega)), h.h.below hb (by omega), h.ok.below (hb.mono (by omega)), h.rb.below (hb.mono (by omega)), h.rs.below (hb.mono (by omega))⟩
theorem BkSt.next (h : BkSt w0 gf F p bA blk sA S u) (hb : Below u.heap.size u u') : BkSt w0 gf F p bA blk sA S u' :=
  h.keep (hb.mono (by have := h.h.lt; omega))
theorem BkSt.drew (h : BkSt w0 gf F p bA blk sA S u) : BkSt w0 gf F p bA blk sA S u.drew := h.keep (Below.refl _ _).drew
theorem BkSt.grow {e : TypeId} {s n : Nat} {v : Value} {xs : List Value} (h : BkSt w0 gf F p bA blk sA S u) (ho : OwnX u (gf + 1) e s v n xs) (hg : u.grownBy u' v.ownBlock) : BkSt w0 gf F p bA blk sA S u' :=
  h.keep (below_of_grown hg (by have := h.h.lt; omega) (fun k hk => (ho.lt k hk).1))
end
structure BkW (w0 : World) (gf : Nat) (F : ShaF) (p : HP) (bA : Option Addr) (blk : List UInt8) (sA : Option Addr) (S : S8) (v : Value) (l : List Nat) (u : World) : Prop where
  st : BkSt w0 gf F p bA blk sA S u
  own : OwnX u (gf + 1) 114 1 v l.length (wordsV .u64 l)
section
variable {w0 u u' : World} {gf : Nat} {F : ShaF} {p : HP} {bA sA : Option Addr} {blk : List UInt8} {S : S8} {v : Value} {l : List Nat}
theorem BkW.next (h : BkW w0 gf F p bA blk sA S v l u) (hb : Below u.heap.size u u') : BkW w0 gf F p bA blk sA S v l u' :=
  ⟨h.st.next hb, h.own.below hb (Nat.le_refl _)⟩
theorem BkW.drew (h : BkW w0 gf F p bA blk sA S v l u) : BkW w0 gf F p bA blk sA S v l u.drew := h.next (Below.refl _ _).drew
theorem BkW.app {v' : Value} {x : Nat} (h : BkW w0 gf F p bA blk sA S v l u) (ho : OwnX u' (gf + 1) 114 1 v' (l.length + 1) (wordsV .u64 l ++ [.int .u64 (x : Int)])) (hg : u.grownBy u' v.ownBlock) : BkW w0 gf F p bA blk sA S v' (l ++ [x]) u' :=
  ⟨h.st.grow h.own hg, by rw [List.length_append, wordsV_snoc]; exact ho⟩
theorem BkW.at_ {g n c i : Nat} (h : BkW w0 gf F p bA blk sA S (.slice (some ⟨g, 0, none⟩) n c) l u) (hn : l.length = n) (hi : i < n) : u.cell? ⟨g, i, none⟩ = some (.int .u64 ((l.getD i 0 : Nat) : Int)) := by
  subst hn
  exact h.own.atN (wordsV_get .u64 l i hi)
end
structure BkR (w0 : World) (gf : Nat) (F : ShaF) (p : HP) (bA : Option Addr) (blk : List UInt8) (sA : Option Addr) (S : S8) (v : Value) (l : List Nat) (g2 c2 : Nat) (V : S8) (u : World) : Prop where
  w : BkW w0 gf F p bA blk sA S v l u
  r : OwnX u (gf + 1) 114 1 (.slice (some ⟨g2, 0, none⟩) 8 c2) 8 (wordsV .u64 (s8L V))
section
variable {w0 u u' : World} {gf : Nat} {F : ShaF} {p : HP} {bA sA : Option Addr} {blk : List UInt8} {S V : S8} {v : Value} {l : List Nat} {g2 c2 : Nat}
theorem BkR.next (h : BkR w0 gf F p bA blk sA S v l g2 c2 V u) (hb : Below u.heap.size u u') : BkR w0 gf F p bA blk sA S v l g2 c2 V u' :=
  ⟨h.w.next hb, h.r.below hb (Nat.le_refl _)⟩
theorem BkR.drew (h : BkR w0 gf F p bA blk sA S v l g2 c2 V u) : BkR w0 gf F p bA blk sA S v l g2 c2 V u.drew := h.next (Below.refl _ _).drew
theorem BkR.turn {V' : S8} {fz : Nat × Nat} (h : BkR w0 gf F p bA blk sA S v l g2 c2 V u) : BkR w0 gf F p bA blk sA S v l u.heap.size 8 V' (u.alloc (.cells (wordsV .u64 (s8L V')).toArray 114 fz)) :=
  ⟨h.w.next ((Below.refl _ _).alloc (Nat.le_refl _) _), own_const (C := (wordsV .u64 (s8L V')).toArray) rfl rfl (by unfold maxLen; omega) (by have := h.w.st.h.lt; omega)⟩
theorem BkR.le (h : BkR w0 gf F p bA blk sA S v l g2 c2 V u) : 8 ≤ c2 := h.r.le_cap
end
structure BkO (w0 : World) (gf : Nat) (F : ShaF) (p : HP) (bA : Option Addr) (blk : List UInt8) (sA : Option Addr) (S : S8) (v : Value) (l : List Nat) (g2 c2 : Nat) (V : S8) (ov : Value) (x : List Nat) (u : World) : Prop where
  r : BkR w0 gf F p bA blk sA S v l g2 c2 V u
  o : OwnX u (gf + 1) 114 1 ov x.length (wordsV .u64 x)
  ne : ov.ownBlock = none ∨ (ov.ownBlock ≠ v.ownBlock ∧ ov.ownBlock ≠ some g2)
section
variable {w0 u u' : World} {gf : Nat} {F : ShaF} {p : HP} {bA sA : Option Addr} {blk : List UInt8} {S V : S8} {v o o' : Value} {l x : List Nat} {g2 c2 : Nat}
theorem BkO.next (h : BkO w0 gf F p bA blk sA S v l g2 c2 V o x u) (hb : Below u.heap.size u u') : BkO w0 gf F p bA blk sA S v l g2 c2 V o x u' :=
  ⟨h.r.next hb, h.o.below hb (Nat.le_refl _), h.ne⟩
theorem BkO.drew (h : BkO w0 gf F p bA blk sA S v l g2 c2 V o x u) : BkO w0 gf F p bA blk sA S v l g2 c2 V o x u.drew := h.next (Below.refl _ _).drew
theorem BkO.app {y : Nat} (h : BkO w0 gf F p bA blk sA S v l g2 c2 V o x u) (ho : OwnX u' (gf + 1) 114 1 o' (x.length + 1) (wordsV .u64 x ++ [.int .u64 (y : Int)])) (hg : u.grownBy u' o.ownBlock) (hn : Next u o o') : BkO w0 gf F p bA blk sA S v l g2 c2 V o' (x ++ [y]) u' := by
  have hk : ∀ (v2 : Value), (o.ownBlock = none ∨ o.ownBlock ≠ v2.ownBlock) → v2.ownBlock = none ∨ v2.ownBlock ≠ o.ownBlock := fun v2 h2 => by
    rcases h2 with h2 | h2
    · rw [h2]
      cases v2.ownBlock with
      | none => exact .inl rfl
      | some k => exact .inr (by simp)
    · exact .inr (Ne.symm h2)
  refine ⟨⟨⟨h.r.w.st.grow h.o hg, h.r.w.own.kept hg (hk v (h.ne.imp id And.left))⟩, h.r.r.kept hg (hk (.slice (some ⟨g2, 0, none⟩) 8 c2) (h.ne.imp id And.right))⟩, by rw [List.length_append, wordsV_snoc]; exact ho, ?_⟩
  rcases hn with hn | hn
  · rw [hn]; exact h.ne
  · cases ho2 : o'.ownBlock with
    | none => exact .inl rfl
    | some k =>
      have hk2 := hn k ho2
      refine .inr ⟨fun e => ?_, fun e => ?_⟩
      · have := (h.r.w.own.lt k e.symm).2; omega
      · have := (h.r.r.lt k (by rw [e]; rfl)).2; omega
end
theorem ones_xor (n e : Nat) (he : e < 2 ^ n) : (2 ^ n - 1) ^^^ e = 2 ^ n - 1 - e := by
  have h : ((2 ^ n - 1) ^^^ e) = (~~~ (BitVec.ofNat n e)).toNat := by
    rw [← BitVec.allOnes_xor, BitVec.toNat_xor, BitVec.toNat_allOnes, BitVec.toNat_ofNat, Nat.mod_eq_of_lt he]
  rw [h, BitVec.toNat_not, BitVec.toNat_ofNat, Nat.mod_eq_of_lt he]
theorem mixX_r32 (h al ch k w : Nat) : (h + al + ch + k + w) % 2 ^ 32 = ((((h + al) % 2 ^ 64 + ch) % 2 ^ 64 + k) % 2 ^ 64 + w) % 2 ^ 64 % 2 ^ 32 := by omega
theorem mod_r32 (a b : Nat) : (a + b) % 2 ^ 32 = (a + b) % 2 ^ 64 % 2 ^ 32 := by omega
theorem addS_get (F : ShaF) (s v : S8) (i : Nat) (h : i < 8) : (s8L (addS F s v)).getD i 0 = ((s8L v).getD i 0 + (s8L s).getD i 0) % 2 ^ F.bits := by
  match i, h with
  | 0, _ => rfl
  | 1, _ => rfl
  | 2, _ => rfl
  | 3, _ => rfl
  | 4, _ => rfl
  | 5, _ => rfl
  | 6, _ => rfl
  | 7, _ => rfl
theorem s8_take (s : S8) (i : Nat) (h : i < 8) : (s8L s).take (i + 1) = (s8L s).take i ++ [(s8L s).getD i 0] := by
  match i, h with
  | 0, _ => rfl
  | 1, _ => rfl
  | 2, _ => rfl
  | 3, _ => rfl
  | 4, _ => rfl
  | 5, _ => rfl
  | 6, _ => rfl
  | 7, _ => rfl
theorem s8_take_len (s : S8) (i : Nat) (h : i ≤ 8) : ((s8L s).take i).length = i := by
  rw [List.length_take]; show min i 8 = i; omega
theorem next_32 (a b c d : Nat) : (a + c + (b + d)) % 2 ^ 32 = (((a + b) % 2 ^ 64 + c) % 2 ^ 64 + d) % 2 ^ 64 % 2 ^ 32 := by omega
def BlockPost (F : ShaF) (S : S8) (blk : List UInt8) (w : World) (e : Ending) (w' : World) : Prop :=
  ∃ A c, e = .returned (.slice A 8 c) ∧ OwnX w' w.heap.size 114 1 (.slice A 8 c) 8 (wordsV .u64 (s8L (mixS F S blk))) ∧ Below w.heap.size w w'
theorem sl_u64 : SlT Tryd.prog 106 114 1 8 := SlT.mk1 (z := .int .u64 0) Tryd.underlying106 (by kernel_rfl) rfl (by decide)
end Go.Proofs.YtilhhigdegccgaaDoor.Sh
