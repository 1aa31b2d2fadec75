/-
  Joined texts: MulA MulB.
-/
import Derived.Test.YtilhhigdegccgaaDoorJ17
import Derived.Test.YtilhhigdegccgaaDoorJ9
import Derived.Test.YtilhhigdegccgaaDoorJ10
/-
  Walk: the reference's Mul, of 5 and 5 digits.
-/
namespace Go.Proofs.YtilhhigdegccgaaDoor.Sh
set_option linter.unusedSimpArgs false
set_option linter.unusedVariables false
open Go.RowKit
structure MulStA (w0 : World) (gf gw : Nat) (A1 A2 : Option Addr) (a b : List Nat) (m : List Nat) (u : World) : Prop where
  bel : Below gf w0 u
  r1 : Rd u gf A1 (wordsV .i64 a)
  r2 : Rd u gf A2 (wordsV .i64 b)
  row : Blk u gw 3 (wordsV .i64 m).toArray
  le : gf ≤ gw
theorem MulStA.put {w0 u u' : World} {gf gw : Nat} {A1 A2 : Option Addr} {a b m m' : List Nat} (h : MulStA w0 gf gw A1 A2 a b m u) (hw : Wrote gw u u') (hb : Blk u' gw 3 (wordsV .i64 m').toArray) : MulStA w0 gf gw A1 A2 a b m' u' :=
  have hx := hw.below (Below.refl gf u) h.le (by have := h.row.lt; have := h.le; omega)
  ⟨h.bel.trans hx, h.r1.below hx, h.r2.below hx, hb, h.le⟩
theorem MulStA.drew {w0 u : World} {gf gw : Nat} {A1 A2 : Option Addr} {a b m : List Nat} (h : MulStA w0 gf gw A1 A2 a b m u) : MulStA w0 gf gw A1 A2 a b m u.drew :=
  have hx := (Below.refl gf u).drew
  ⟨h.bel.drew, h.r1.below hx, h.r2.below hx, h.row, h.le⟩
def MulPostA (a b : List Nat) (w : World) (e : Ending) (w' : World) : Prop :=
  ∃ g, e = .returned (.slice (some ⟨g, 0, none⟩) 10 10) ∧ w.heap.size ≤ g ∧ Blk w' g 3 (wordsV .i64 (digs 10 (dval a * dval b))).toArray ∧ Below w.heap.size w w'
set_option maxRecDepth 100000 in
set_option maxHeartbeats 2000000 in
theorem mulA_any (a b : List Nat) (ha : ∀ d ∈ a, d < 65536) (hb : ∀ d ∈ b, d < 65536) (A1 A2 : Option Addr) (c1 c2 B1 B2 : Nat) (w : World) (h1 : Rd w B1 A1 (wordsV .i64 a)) (h2 : Rd w B2 A2 (wordsV .i64 b)) (hla : a.length = 5) (hlb : b.length = 5) (hc1 : 5 ≤ c1) (hc2 : 5 ≤ c2) (hB1 : B1 ≤ w.heap.size) (hB2 : B2 ≤ w.heap.size) :
    Calls Tryd.prog 88 #[.slice A1 5 c1, .slice A2 5 c2] w (MulPostA a b w) := by
  obtain ⟨ad1, rfl, hz1, hz2⟩ := h1.at_ (k := 0) (by rw [wordsV_length, hla]; decide)
  obtain ⟨ad2, rfl, hz3, hz4⟩ := h2.at_ (k := 0) (by rw [wordsV_length, hlb]; decide)
  clear hz1 hz2 hz3 hz4
  have hmk : ∀ u : World, (Instr.makeSlice 91 (.int .i64 10) (.int .i64 10)).run Tryd.prog u = .ok (.slice (some ⟨u.heap.size, 0, none⟩) 10 10) (u.alloc (.cells (wordsV .i64 (digs 10 0)).toArray 3)) := fun _ => by kernel_rfl
  have H1 := Lib.hid (h1.mono hB1)
  have H2 := Lib.hid (h2.mono hB2)
  have HALN := Lib.hid hla
  have HBLN := Lib.hid hlb
  have HA := Lib.hid ha
  have HB := Lib.hid hb
  clear h1 h2 hla hlb ha hb hB1 hB2
  go_enter Tryd.func88, Tryd.ntmps88
  go_wp2_with fail
  obtain ⟨gw, hgw⟩ : ∃ x, x = w.heap.size := ⟨_, rfl⟩
  have hst0 : MulStA w gw gw (some ad1) (some ad2) a b (digs 10 (dval (a.take 0) * dval b)) (w.alloc (.cells (wordsV .i64 (digs 10 0)).toArray 3)) := by
    have hb0 := below_new w (.cells (wordsV .i64 (digs 10 0)).toArray 3)
    rw [← hgw] at hb0
    refine ⟨hb0, ?_, ?_, ?_, Nat.le_refl _⟩
    · have := H1.out; rw [← hgw] at this; exact this.below hb0
    · have := H2.out; rw [← hgw] at this; exact this.below hb0
    · rw [hgw]; simp only [List.take_zero, dval, Nat.zero_mul]; exact Blk.new _ _ _
  rw [← hgw]
  have HGW := Lib.hid hgw
  clear hgw hmk H1 H2
  go_loopw [6] (fun i wr => ∃ k : Nat, k ≤ 5 ∧ i = .int .i64 k ∧ MulStA w gw gw (some ad1) (some ad2) a b (digs 10 (dval (a.take k) * dval b)) wr) (fun i _ => 5 - (intOf i).toNat)
  case atStart => exact ⟨0, by omega, rfl, hst0⟩
  case round =>
    obtain ⟨i, hi, rfl, hst⟩ := hrel
    clear hst0
    by_cases hlt : i < 5
    · have hlt' : (i : Int) < 5 := by omega
      obtain ⟨ai, hai⟩ : ∃ x, x = a.getD i 0 := ⟨_, rfl⟩
      have hail : ai < 65536 := by rw [hai]; exact dig_lt HA.out i
      obtain ⟨P, hP⟩ : ∃ x, x = dval (a.take i) * dval b := ⟨_, rfl⟩
      have hPl : P < 65536 ^ (i + 5) := by
        rw [hP, Nat.pow_add]
        have e1 := dval_lt (a.take i) fun x hx => HA.out x (List.mem_of_mem_take hx)
        have e2 := dval_lt b HB.out
        rw [List.length_take, Nat.min_eq_left (by rw [HALN.out]; exact hi)] at e1
        rw [HBLN.out] at e2
        exact Nat.mul_lt_mul'' e1 e2
      rw [← hP] at hst
      have HAI := Lib.hid hai
      have HAIL := Lib.hid hail
      have HP := Lib.hid hP
      have HPL := Lib.hid hPl
      have HST := Lib.hid hst
      clear hai hail hP hPl hst
      go_wp2_with fail
      obtain ⟨wo, rfl⟩ : ∃ wo : World, wo = wr := ⟨_, rfl⟩
      have hPN : P < 65536 ^ 10 := Nat.lt_of_lt_of_le HPL.out (Nat.pow_le_pow_right (by decide) (by omega))
      have hr0 : ∃ m : List Nat, m.length = 10 ∧ (∀ d ∈ m, d < 65536) ∧ m.getD (i + 5) 0 = 0 ∧ dval m + 0 * 65536 ^ (i + 0) = P + ai * dval (b.take 0) * 65536 ^ i ∧ MulStA w gw gw (some ad1) (some ad2) a b m wo := by
        refine ⟨digs 10 P, digs_length _ _, digs_lt _ _, ?_, ?_, HST.out⟩
        · rw [getD_dig _ _ (digs_lt _ _), dval_digs _ _ hPN, Nat.div_eq_of_lt HPL.out]
        · rw [dval_digs _ _ hPN]; simp [dval]
      have HR0 := Lib.hid hr0
      clear hr0 hPN HST
      go_loopw [7, 8] (fun c j wr => ∃ (k cn : Nat) (m : List Nat), k ≤ 5 ∧ j = .int .i64 k ∧ c = .int .i64 cn ∧ cn < 65536 ∧ m.length = 10 ∧ (∀ d ∈ m, d < 65536) ∧ m.getD (i + 5) 0 = 0 ∧ dval m + cn * 65536 ^ (i + k) = P + ai * dval (b.take k) * 65536 ^ i ∧ MulStA w gw gw (some ad1) (some ad2) a b m wr) (fun _ j _ => 5 - (intOf j).toNat)
      case atStart =>
        obtain ⟨m, q1, q2, q3, q4, q5⟩ := HR0.out
        exact ⟨0, 0, m, by omega, rfl, rfl, by omega, q1, q2, q3, q4, q5⟩
      case round =>
        clear HR0
        obtain ⟨j, c, m, hj, rfl, rfl, hcl, hml, hmd, hm0, hmv, hsm⟩ := hrel
        by_cases hjl : j < 5
        · have hjl' : (j : Int) < 5 := by omega
          obtain ⟨bj, hbj⟩ : ∃ x, x = b.getD j 0 := ⟨_, rfl⟩
          have hbjl : bj < 65536 := by rw [hbj]; exact dig_lt HB.out j
          obtain ⟨mk, hmk⟩ : ∃ x, x = m.getD (i + j) 0 := ⟨_, rfl⟩
          have hmkl : mk < 65536 := by rw [hmk]; exact dig_lt hmd _
          obtain ⟨pr, hpr⟩ : ∃ x, x = ai * bj := ⟨_, rfl⟩
          have hprl : pr ≤ 4294836225 := by rw [hpr]; exact Nat.mul_le_mul (show ai ≤ 65535 by have := HAIL.out; omega) (show bj ≤ 65535 by omega)
          obtain ⟨v, hv⟩ : ∃ x, x = mk + pr + c := ⟨_, rfl⟩
          obtain ⟨mp, hmp⟩ : ∃ x, x = mk + pr := ⟨_, rfl⟩
          have hv2 : v = mp + c := by rw [hv, hmp]
          have hnv := mul_step (n := dval (m.set (i + j) (v % 65536))) (k := mk) (a := ai) (b := bj) hmv (by rw [← hpr, ← hv, hmk]; exact dval_set m (i + j) (v % 65536) (by omega))
          rw [← hpr, ← hv] at hnv
          have hbt : dval (b.take (j + 1)) = dval (b.take j) + bj * 65536 ^ j := by rw [dval_take_succ b j (by rw [HBLN.out]; exact hjl), hbj]
          rw [← hbt] at hnv
          have hset := wordsV_set .i64 m (i + j) (v % 65536)
          have hvd : v / 65536 < 65536 := by omega
          have hml2 : (m.set (i + j) (v % 65536)).length = 10 := by rw [List.length_set]; exact hml
          have hmd2 : ∀ d ∈ m.set (i + j) (v % 65536), d < 65536 := set_lt hmd (Nat.mod_lt _ (by decide))
          have hm02 : (m.set (i + j) (v % 65536)).getD (i + 5) 0 = 0 := by rw [getD_set_ne _ _ _ _ (by omega)]; exact hm0
          have e1 : (wordsV .i64 a)[i]? = some (.int .i64 (ai : Int)) := by rw [HAI.out]; exact wordsV_at (by rw [HALN.out]; exact hlt)
          have e2 : (wordsV .i64 b)[j]? = some (.int .i64 (bj : Int)) := by rw [hbj]; exact wordsV_at (by rw [HBLN.out]; exact hjl)
          have e3 : (wordsV .i64 m)[i + j]? = some (.int .i64 (mk : Int)) := by rw [hmk]; exact wordsV_at (by rw [hml]; omega)
          have E1 := Lib.hid e1
          have E2 := Lib.hid e2
          have E3 := Lib.hid e3
          have HMK := Lib.hid hmk
          have HBJ := Lib.hid hbj
          have HPR := Lib.hid hpr
          have HV := Lib.hid hv
          have HV2 := Lib.hid hv2
          have HMP := Lib.hid hmp
          have HNV := Lib.hid hnv
          have HSET := Lib.hid hset
          have HVD := Lib.hid hvd
          have HML2 := Lib.hid hml2
          have HMD2 := Lib.hid hmd2
          have HM02 := Lib.hid hm02
          have HML := Lib.hid hml
          have HC0 := hsm.drew
          have hil : i + j < 10 := by omega
          have PRL := Lib.hid hprl
          have MKL := Lib.hid hmkl
          have CL := Lib.hid hcl
          clear hmk hbj hpr hv hv2 hmp hnv hset hvd hml2 hmd2 hm02 hml hmd hm0 hmv hsm hbt e1 e2 e3 hprl hmkl hcl hbjl
          go_wp2_with fail
          refine wp_region_seq (fun u => MulStA w gw gw (some ad1) (some ad2) a b m u) (by kernel_rfl) (by kernel_rfl) HC0 ?_
          iterate 5
            ((first | (apply SeqL.next; rfl; rfl)); (simp only [act_put, act_put_none, List.setIfInBounds_toArray, List.set_cons_zero, List.set_cons_succ]; rfl); (intro w1 hC1 E hE; go_wp2; exact .mk (hE _ hC1)))
          apply SeqL.next
          · rfl
          · rfl
          · simp only [act_put, act_put_none, List.setIfInBounds_toArray, List.set_cons_zero, List.set_cons_succ]
            rfl
          · intro w1 hC1 E hE
            have d0 := hC1.row.cell (i + j)
            rw [List.getElem?_toArray, E3.out] at d0
            go_wp2
            exact .mk (hE _ hC1)
          iterate 3
            ((first | (apply SeqL.next; rfl; rfl)); (simp only [act_put, act_put_none, List.setIfInBounds_toArray, List.set_cons_zero, List.set_cons_succ]; rfl); (intro w1 hC1 E hE; go_wp2; exact .mk (hE _ hC1)))
          apply SeqL.next
          · rfl
          · rfl
          · simp only [act_put, act_put_none, List.setIfInBounds_toArray, List.set_cons_zero, List.set_cons_succ]
            rfl
          · intro w1 hC1 E hE
            have d0 := hC1.r1.val E1.out
            go_wp2
            exact .mk (hE _ hC1)
          iterate 3
            ((first | (apply SeqL.next; rfl; rfl)); (simp only [act_put, act_put_none, List.setIfInBounds_toArray, List.set_cons_zero, List.set_cons_succ]; rfl); (intro w1 hC1 E hE; go_wp2; exact .mk (hE _ hC1)))
          apply SeqL.next
          · rfl
          · rfl
          · simp only [act_put, act_put_none, List.setIfInBounds_toArray, List.set_cons_zero, List.set_cons_succ]
            rfl
          · intro w1 hC1 E hE
            have d0 := hC1.r2.val E2.out
            go_wp2
            exact .mk (hE _ hC1)
          apply SeqL.next
          · rfl
          · rfl
          · simp only [act_put, act_put_none, List.setIfInBounds_toArray, List.set_cons_zero, List.set_cons_succ]
            rfl
          · intro w1 hC1 E hE
            go_wp2
            rw [mul_w64 ai bj (by rw [← HPR.out]; have := PRL.out; omega), ← HPR.out]
            exact .mk (hE _ hC1)
          apply SeqL.next
          · rfl
          · rfl
          · simp only [act_put, act_put_none, List.setIfInBounds_toArray, List.set_cons_zero, List.set_cons_succ]
            rfl
          · intro w1 hC1 E hE
            go_wp2
            rw [add_w64 mk pr (by have := PRL.out; have := MKL.out; omega), ← HMP.out]
            exact .mk (hE _ hC1)
          iterate 1
            ((first | (apply SeqL.next; rfl; rfl)); (simp only [act_put, act_put_none, List.setIfInBounds_toArray, List.set_cons_zero, List.set_cons_succ]; rfl); (intro w1 hC1 E hE; go_wp2; exact .mk (hE _ hC1)))
          apply SeqL.next
          · rfl
          · rfl
          · simp only [act_put, act_put_none, List.setIfInBounds_toArray, List.set_cons_zero, List.set_cons_succ]
            rfl
          · intro w1 hC1 E hE
            go_wp2
            rw [add_w64 mp c (by have := HMP.out; have := PRL.out; have := MKL.out; have := CL.out; omega), ← HV2.out]
            exact .mk (hE _ hC1)
          iterate 1
            ((first | (apply SeqL.next; rfl; rfl)); (simp only [act_put, act_put_none, List.setIfInBounds_toArray, List.set_cons_zero, List.set_cons_succ]; rfl); (intro w1 hC1 E hE; go_wp2; exact .mk (hE _ hC1)))
          refine SeqL.nil ?_
          intro w1 hC1
          clear HC0
          have dr := hC1.row.cell (i + j)
          rw [List.getElem?_toArray, E3.out] at dr
          have fr := hC1.row.free (i + j)
          have HC1 := Lib.hid hC1
          clear hC1
          have hv63 : (v : Int) ≤ 4295032831 := by have := HV.out; have := PRL.out; have := MKL.out; have := CL.out; omega
          go_wp2_with fail
          refine ⟨⟨j + 1, v / 65536, m.set (i + j) (v % 65536), by omega, by go_num, by go_num, HVD.out, HML2.out, HMD2.out, HM02.out, HNV.out, ?_⟩, by simp [intOf]; omega⟩
          refine HC1.out.put (wrote_setCell_at _ _ _ _) ?_
          have h := blk_setCell_at (i := i + j) HC1.out.row (.int .i64 ((v % 65536 : Nat) : Int))
          rw [HSET.out] at h
          exact h
        · obtain rfl : j = 5 := by omega
          have hge : ¬ ((5 : Nat) : Int) < 5 := by omega
          have hbt : b.take 5 = b := List.take_of_length_le (by rw [HBLN.out]; exact Nat.le_refl _)
          rw [hbt] at hmv
          have hset := wordsV_set .i64 m (i + 5) c
          have hnv := dval_set m (i + 5) c (by omega)
          rw [hm0, Nat.zero_mul, Nat.add_zero] at hnv
          have hfin : digs 10 (dval (a.take (i + 1)) * dval b) = m.set (i + 5) c := by
            have h1 := digs_dval (m.set (i + 5) c) (set_lt hmd hcl)
            rw [List.length_set, hml] at h1
            rw [← h1]
            congr 1
            rw [dval_take_succ a i (by rw [HALN.out]; exact hlt), ← HAI.out, Nat.add_mul, ← HP.out, hnv, hmv, Nat.mul_assoc ai (65536 ^ i), Nat.mul_comm (65536 ^ i), Nat.mul_assoc ai]
          have e3 : (wordsV .i64 m)[i + 5]? = some (.int .i64 0) := by
            rw [wordsV_at (by rw [hml]; omega), hm0]; rfl
          have dr := hsm.row.cell (i + 5)
          rw [List.getElem?_toArray, e3] at dr
          have fr := hsm.row.free (i + 5)
          have HSET := Lib.hid hset
          have HFIN := Lib.hid hfin
          have HSM := Lib.hid hsm
          have hil : i + 5 < 10 := by omega
          have hc63 : (c : Int) < 65536 := by omega
          clear hset hfin hsm hnv hmv hbt e3 hm0 hmd hml hcl
          go_wp2_with fail
          refine ⟨⟨i + 1, by omega, by go_num, ?_⟩, by simp [intOf]; omega⟩
          rw [HFIN.out]
          refine HSM.out.put (wrote_setCell_at _ _ _ _) ?_
          have h := blk_setCell_at (i := i + 5) HSM.out.row (.int .i64 (c : Int))
          rw [HSET.out] at h
          exact h
    · obtain rfl : i = 5 := by omega
      have hat : a.take 5 = a := List.take_of_length_le (by rw [HALN.out]; exact Nat.le_refl _)
      rw [hat] at hst
      have HST := Lib.hid hst
      clear hst hat
      go_wp2_with fail
      go_ret
      exact ⟨gw, rfl, by rw [HGW.out]; exact Nat.le_refl _, HST.out.row, by rw [← HGW.out]; exact HST.out.bel⟩
end Go.Proofs.YtilhhigdegccgaaDoor.Sh
/-
  Walk: the reference's Mul, of 10 and 5 digits.
-/
namespace Go.Proofs.YtilhhigdegccgaaDoor.Sh
set_option linter.unusedSimpArgs false
set_option linter.unusedVariables false
open Go.RowKit
structure MulStB (w0 : World) (gf gw : Nat) (A1 A2 : Option Addr) (a b : List Nat) (m : List Nat) (u : World) : Prop where
  bel : Below gf w0 u
  r1 : Rd u gf A1 (wordsV .i64 a)
  r2 : Rd u gf A2 (wordsV .i64 b)
  row : Blk u gw 3 (wordsV .i64 m).toArray
  le : gf ≤ gw
theorem MulStB.put {w0 u u' : World} {gf gw : Nat} {A1 A2 : Option Addr} {a b m m' : List Nat} (h : MulStB w0 gf gw A1 A2 a b m u) (hw : Wrote gw u u') (hb : Blk u' gw 3 (wordsV .i64 m').toArray) : MulStB w0 gf gw A1 A2 a b m' u' :=
  have hx := hw.below (Below.refl gf u) h.le (by have := h.row.lt; have := h.le; omega)
  ⟨h.bel.trans hx, h.r1.below hx, h.r2.below hx, hb, h.le⟩
theorem MulStB.drew {w0 u : World} {gf gw : Nat} {A1 A2 : Option Addr} {a b m : List Nat} (h : MulStB w0 gf gw A1 A2 a b m u) : MulStB w0 gf gw A1 A2 a b m u.drew :=
  have hx := (Below.refl gf u).drew
  ⟨h.bel.drew, h.r1.below hx, h.r2.below hx, h.row, h.le⟩
def MulPostB (a b : List Nat) (w : World) (e : Ending) (w' : World) : Prop :=
  ∃ g, e = .returned (.slice (some ⟨g, 0, none⟩) 15 15) ∧ w.heap.size ≤ g ∧ Blk w' g 3 (wordsV .i64 (digs 15 (dval a * dval b))).toArray ∧ Below w.heap.size w w'
set_option maxRecDepth 100000 in
set_option maxHeartbeats 2000000 in
theorem mulB_any (a b : List Nat) (ha : ∀ d ∈ a, d < 65536) (hb : ∀ d ∈ b, d < 65536) (A1 A2 : Option Addr) (c1 c2 B1 B2 : Nat) (w : World) (h1 : Rd w B1 A1 (wordsV .i64 a)) (h2 : Rd w B2 A2 (wordsV .i64 b)) (hla : a.length = 10) (hlb : b.length = 5) (hc1 : 10 ≤ c1) (hc2 : 5 ≤ c2) (hB1 : B1 ≤ w.heap.size) (hB2 : B2 ≤ w.heap.size) :
    Calls Tryd.prog 88 #[.slice A1 10 c1, .slice A2 5 c2] w (MulPostB a b w) := by
  obtain ⟨ad1, rfl, hz1, hz2⟩ := h1.at_ (k := 0) (by rw [wordsV_length, hla]; decide)
  obtain ⟨ad2, rfl, hz3, hz4⟩ := h2.at_ (k := 0) (by rw [wordsV_length, hlb]; decide)
  clear hz1 hz2 hz3 hz4
  have hmk : ∀ u : World, (Instr.makeSlice 91 (.int .i64 15) (.int .i64 15)).run Tryd.prog u = .ok (.slice (some ⟨u.heap.size, 0, none⟩) 15 15) (u.alloc (.cells (wordsV .i64 (digs 15 0)).toArray 3)) := fun _ => by kernel_rfl
  have H1 := Lib.hid (h1.mono hB1)
  have H2 := Lib.hid (h2.mono hB2)
  have HALN := Lib.hid hla
  have HBLN := Lib.hid hlb
  have HA := Lib.hid ha
  have HB := Lib.hid hb
  clear h1 h2 hla hlb ha hb hB1 hB2
  go_enter Tryd.func88, Tryd.ntmps88
  go_wp2_with fail
  obtain ⟨gw, hgw⟩ : ∃ x, x = w.heap.size := ⟨_, rfl⟩
  have hst0 : MulStB w gw gw (some ad1) (some ad2) a b (digs 15 (dval (a.take 0) * dval b)) (w.alloc (.cells (wordsV .i64 (digs 15 0)).toArray 3)) := by
    have hb0 := below_new w (.cells (wordsV .i64 (digs 15 0)).toArray 3)
    rw [← hgw] at hb0
    refine ⟨hb0, ?_, ?_, ?_, Nat.le_refl _⟩
    · have := H1.out; rw [← hgw] at this; exact this.below hb0
    · have := H2.out; rw [← hgw] at this; exact this.below hb0
    · rw [hgw]; simp only [List.take_zero, dval, Nat.zero_mul]; exact Blk.new _ _ _
  rw [← hgw]
  have HGW := Lib.hid hgw
  clear hgw hmk H1 H2
  go_loopw [6] (fun i wr => ∃ k : Nat, k ≤ 10 ∧ i = .int .i64 k ∧ MulStB w gw gw (some ad1) (some ad2) a b (digs 15 (dval (a.take k) * dval b)) wr) (fun i _ => 10 - (intOf i).toNat)
  case atStart => exact ⟨0, by omega, rfl, hst0⟩
  case round =>
    obtain ⟨i, hi, rfl, hst⟩ := hrel
    clear hst0
    by_cases hlt : i < 10
    · have hlt' : (i : Int) < 10 := by omega
      obtain ⟨ai, hai⟩ : ∃ x, x = a.getD i 0 := ⟨_, rfl⟩
      have hail : ai < 65536 := by rw [hai]; exact dig_lt HA.out i
      obtain ⟨P, hP⟩ : ∃ x, x = dval (a.take i) * dval b := ⟨_, rfl⟩
      have hPl : P < 65536 ^ (i + 5) := by
        rw [hP, Nat.pow_add]
        have e1 := dval_lt (a.take i) fun x hx => HA.out x (List.mem_of_mem_take hx)
        have e2 := dval_lt b HB.out
        rw [List.length_take, Nat.min_eq_left (by rw [HALN.out]; exact hi)] at e1
        rw [HBLN.out] at e2
        exact Nat.mul_lt_mul'' e1 e2
      rw [← hP] at hst
      have HAI := Lib.hid hai
      have HAIL := Lib.hid hail
      have HP := Lib.hid hP
      have HPL := Lib.hid hPl
      have HST := Lib.hid hst
      clear hai hail hP hPl hst
      go_wp2_with fail
      obtain ⟨wo, rfl⟩ : ∃ wo : World, wo = wr := ⟨_, rfl⟩
      have hPN : P < 65536 ^ 15 := Nat.lt_of_lt_of_le HPL.out (Nat.pow_le_pow_right (by decide) (by omega))
      have hr0 : ∃ m : List Nat, m.length = 15 ∧ (∀ d ∈ m, d < 65536) ∧ m.getD (i + 5) 0 = 0 ∧ dval m + 0 * 65536 ^ (i + 0) = P + ai * dval (b.take 0) * 65536 ^ i ∧ MulStB w gw gw (some ad1) (some ad2) a b m wo := by
        refine ⟨digs 15 P, digs_length _ _, digs_lt _ _, ?_, ?_, HST.out⟩
        · rw [getD_dig _ _ (digs_lt _ _), dval_digs _ _ hPN, Nat.div_eq_of_lt HPL.out]
        · rw [dval_digs _ _ hPN]; simp [dval]
      have HR0 := Lib.hid hr0
      clear hr0 hPN HST
      go_loopw [7, 8] (fun c j wr => ∃ (k cn : Nat) (m : List Nat), k ≤ 5 ∧ j = .int .i64 k ∧ c = .int .i64 cn ∧ cn < 65536 ∧ m.length = 15 ∧ (∀ d ∈ m, d < 65536) ∧ m.getD (i + 5) 0 = 0 ∧ dval m + cn * 65536 ^ (i + k) = P + ai * dval (b.take k) * 65536 ^ i ∧ MulStB w gw gw (some ad1) (some ad2) a b m wr) (fun _ j _ => 5 - (intOf j).toNat)
      case atStart =>
        obtain ⟨m, q1, q2, q3, q4, q5⟩ := HR0.out
        exact ⟨0, 0, m, by omega, rfl, rfl, by omega, q1, q2, q3, q4, q5⟩
      case round =>
        clear HR0
        obtain ⟨j, c, m, hj, rfl, rfl, hcl, hml, hmd, hm0, hmv, hsm⟩ := hrel
        by_cases hjl : j < 5
        · have hjl' : (j : Int) < 5 := by omega
          obtain ⟨bj, hbj⟩ : ∃ x, x = b.getD j 0 := ⟨_, rfl⟩
          have hbjl : bj < 65536 := by rw [hbj]; exact dig_lt HB.out j
          obtain ⟨mk, hmk⟩ : ∃ x, x = m.getD (i + j) 0 := ⟨_, rfl⟩
          have hmkl : mk < 65536 := by rw [hmk]; exact dig_lt hmd _
          obtain ⟨pr, hpr⟩ : ∃ x, x = ai * bj := ⟨_, rfl⟩
          have hprl : pr ≤ 4294836225 := by rw [hpr]; exact Nat.mul_le_mul (show ai ≤ 65535 by have := HAIL.out; omega) (show bj ≤ 65535 by omega)
          obtain ⟨v, hv⟩ : ∃ x, x = mk + pr + c := ⟨_, rfl⟩
          obtain ⟨mp, hmp⟩ : ∃ x, x = mk + pr := ⟨_, rfl⟩
          have hv2 : v = mp + c := by rw [hv, hmp]
          have hnv := mul_step (n := dval (m.set (i + j) (v % 65536))) (k := mk) (a := ai) (b := bj) hmv (by rw [← hpr, ← hv, hmk]; exact dval_set m (i + j) (v % 65536) (by omega))
          rw [← hpr, ← hv] at hnv
          have hbt : dval (b.take (j + 1)) = dval (b.take j) + bj * 65536 ^ j := by rw [dval_take_succ b j (by rw [HBLN.out]; exact hjl), hbj]
          rw [← hbt] at hnv
          have hset := wordsV_set .i64 m (i + j) (v % 65536)
          have hvd : v / 65536 < 65536 := by omega
          have hml2 : (m.set (i + j) (v % 65536)).length = 15 := by rw [List.length_set]; exact hml
          have hmd2 : ∀ d ∈ m.set (i + j) (v % 65536), d < 65536 := set_lt hmd (Nat.mod_lt _ (by decide))
          have hm02 : (m.set (i + j) (v % 65536)).getD (i + 5) 0 = 0 := by rw [getD_set_ne _ _ _ _ (by omega)]; exact hm0
          have e1 : (wordsV .i64 a)[i]? = some (.int .i64 (ai : Int)) := by rw [HAI.out]; exact wordsV_at (by rw [HALN.out]; exact hlt)
          have e2 : (wordsV .i64 b)[j]? = some (.int .i64 (bj : Int)) := by rw [hbj]; exact wordsV_at (by rw [HBLN.out]; exact hjl)
          have e3 : (wordsV .i64 m)[i + j]? = some (.int .i64 (mk : Int)) := by rw [hmk]; exact wordsV_at (by rw [hml]; omega)
          have E1 := Lib.hid e1
          have E2 := Lib.hid e2
          have E3 := Lib.hid e3
          have HMK := Lib.hid hmk
          have HBJ := Lib.hid hbj
          have HPR := Lib.hid hpr
          have HV := Lib.hid hv
          have HV2 := Lib.hid hv2
          have HMP := Lib.hid hmp
          have HNV := Lib.hid hnv
          have HSET := Lib.hid hset
          have HVD := Lib.hid hvd
          have HML2 := Lib.hid hml2
          have HMD2 := Lib.hid hmd2
          have HM02 := Lib.hid hm02
          have HML := Lib.hid hml
          have HC0 := hsm.drew
          have hil : i + j < 15 := by omega
          have PRL := Lib.hid hprl
          have MKL := Lib.hid hmkl
          have CL := Lib.hid hcl
          clear hmk hbj hpr hv hv2 hmp hnv hset hvd hml2 hmd2 hm02 hml hmd hm0 hmv hsm hbt e1 e2 e3 hprl hmkl hcl hbjl
          go_wp2_with fail
          refine wp_region_seq (fun u => MulStB w gw gw (some ad1) (some ad2) a b m u) (by kernel_rfl) (by kernel_rfl) HC0 ?_
          iterate 5
            ((first | (apply SeqL.next; rfl; rfl)); (simp only [act_put, act_put_none, List.setIfInBounds_toArray, List.set_cons_zero, List.set_cons_succ]; rfl); (intro w1 hC1 E hE; go_wp2; exact .mk (hE _ hC1)))
          apply SeqL.next
          · rfl
          · rfl
          · simp only [act_put, act_put_none, List.setIfInBounds_toArray, List.set_cons_zero, List.set_cons_succ]
            rfl
          · intro w1 hC1 E hE
            have d0 := hC1.row.cell (i + j)
            rw [List.getElem?_toArray, E3.out] at d0
            go_wp2
            exact .mk (hE _ hC1)
          iterate 3
            ((first | (apply SeqL.next; rfl; rfl)); (simp only [act_put, act_put_none, List.setIfInBounds_toArray, List.set_cons_zero, List.set_cons_succ]; rfl); (intro w1 hC1 E hE; go_wp2; exact .mk (hE _ hC1)))
          apply SeqL.next
          · rfl
          · rfl
          · simp only [act_put, act_put_none, List.setIfInBounds_toArray, List.set_cons_zero, List.set_cons_succ]
            rfl
          · intro w1 hC1 E hE
            have d0 := hC1.r1.val E1.out
            go_wp2
            exact .mk (hE _ hC1)
          iterate 3
            ((first | (apply SeqL.next; rfl; rfl)); (simp only [act_put, act_put_none, List.setIfInBounds_toArray, List.set_cons_zero, List.set_cons_succ]; rfl); (intro w1 hC1 E hE; go_wp2; exact .mk (hE _ hC1)))
          apply SeqL.next
          · rfl
          · rfl
          · simp only [act_put, act_put_none, List.setIfInBounds_toArray, List.set_cons_zero, List.set_cons_succ]
            rfl
          · intro w1 hC1 E hE
            have d0 := hC1.r2.val E2.out
            go_wp2
            exact .mk (hE _ hC1)
          apply SeqL.next
          · rfl
          · rfl
          · simp only [act_put, act_put_none, List.setIfInBounds_toArray, List.set_cons_zero, List.set_cons_succ]
            rfl
          · intro w1 hC1 E hE
            go_wp2
            rw [mul_w64 ai bj (by rw [← HPR.out]; have := PRL.out; omega), ← HPR.out]
            exact .mk (hE _ hC1)
          apply SeqL.next
          · rfl
          · rfl
          · simp only [act_put, act_put_none, List.setIfInBounds_toArray, List.set_cons_zero, List.set_cons_succ]
            rfl
          · intro w1 hC1 E hE
            go_wp2
            rw [add_w64 mk pr (by have := PRL.out; have := MKL.out; omega), ← HMP.out]
            exact .mk (hE _ hC1)
          iterate 1
            ((first | (apply SeqL.next; rfl; rfl)); (simp only [act_put, act_put_none, List.setIfInBounds_toArray, List.set_cons_zero, List.set_cons_succ]; rfl); (intro w1 hC1 E hE; go_wp2; exact .mk (hE _ hC1)))
          apply SeqL.next
          · rfl
          · rfl
          · simp only [act_put, act_put_none, List.setIfInBounds_toArray, List.set_cons_zero, List.set_cons_succ]
            rfl
          · intro w1 hC1 E hE
            go_wp2
            rw [add_w64 mp c (by have := HMP.out; have := PRL.out; have := MKL.out; have := CL.out; omega), ← HV2.out]
            exact .mk (hE _ hC1)
          iterate 1
            ((first | (apply SeqL.next; rfl; rfl)); (simp only [act_put, act_put_none, List.setIfInBounds_toArray, List.set_cons_zero, List.set_cons_succ]; rfl); (intro w1 hC1 E hE; go_wp2; exact .mk (hE _ hC1)))
          refine SeqL.nil ?_
          intro w1 hC1
          clear HC0
          have dr := hC1.row.cell (i + j)
          rw [List.getElem?_toArray, E3.out] at dr
          have fr := hC1.row.free (i + j)
          have HC1 := Lib.hid hC1
          clear hC1
          have hv63 : (v : Int) ≤ 4295032831 := by have := HV.out; have := PRL.out; have := MKL.out; have := CL.out; omega
          go_wp2_with fail
          refine ⟨⟨j + 1, v / 65536, m.set (i + j) (v % 65536), by omega, by go_num, by go_num, HVD.out, HML2.out, HMD2.out, HM02.out, HNV.out, ?_⟩, by simp [intOf]; omega⟩
          refine HC1.out.put (wrote_setCell_at _ _ _ _) ?_
          have h := blk_setCell_at (i := i + j) HC1.out.row (.int .i64 ((v % 65536 : Nat) : Int))
          rw [HSET.out] at h
          exact h
        · obtain rfl : j = 5 := by omega
          have hge : ¬ ((5 : Nat) : Int) < 5 := by omega
          have hbt : b.take 5 = b := List.take_of_length_le (by rw [HBLN.out]; exact Nat.le_refl _)
          rw [hbt] at hmv
          have hset := wordsV_set .i64 m (i + 5) c
          have hnv := dval_set m (i + 5) c (by omega)
          rw [hm0, Nat.zero_mul, Nat.add_zero] at hnv
          have hfin : digs 15 (dval (a.take (i + 1)) * dval b) = m.set (i + 5) c := by
            have h1 := digs_dval (m.set (i + 5) c) (set_lt hmd hcl)
            rw [List.length_set, hml] at h1
            rw [← h1]
            congr 1
            rw [dval_take_succ a i (by rw [HALN.out]; exact hlt), ← HAI.out, Nat.add_mul, ← HP.out, hnv, hmv, Nat.mul_assoc ai (65536 ^ i), Nat.mul_comm (65536 ^ i), Nat.mul_assoc ai]
          have e3 : (wordsV .i64 m)[i + 5]? = some (.int .i64 0) := by
            rw [wordsV_at (by rw [hml]; omega), hm0]; rfl
          have dr := hsm.row.cell (i + 5)
          rw [List.getElem?_toArray, e3] at dr
          have fr := hsm.row.free (i + 5)
          have HSET := Lib.hid hset
          have HFIN := Lib.hid hfin
          have HSM := Lib.hid hsm
          have hil : i + 5 < 15 := by omega
          have hc63 : (c : Int) < 65536 := by omega
          clear hset hfin hsm hnv hmv hbt e3 hm0 hmd hml hcl
          go_wp2_with fail
          refine ⟨⟨i + 1, by omega, by go_num, ?_⟩, by simp [intOf]; omega⟩
          rw [HFIN.out]
          refine HSM.out.put (wrote_setCell_at _ _ _ _) ?_
          have h := blk_setCell_at (i := i + 5) HSM.out.row (.int .i64 (c : Int))
          rw [HSET.out] at h
          exact h
    · obtain rfl : i = 10 := by omega
      have hat : a.take 10 = a := List.take_of_length_le (by rw [HALN.out]; exact Nat.le_refl _)
      rw [hat] at hst
      have HST := Lib.hid hst
      clear hst hat
      go_wp2_with fail
      go_ret
      exact ⟨gw, rfl, by rw [HGW.out]; exact Nat.le_refl _, HST.out.row, by rw [← HGW.out]; exact HST.out.bel⟩
end Go.Proofs.YtilhhigdegccgaaDoor.Sh
