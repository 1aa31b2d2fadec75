/-
  PROVED: 'brevetlaw08.JsonWrites': at every input the law returns true; what came in reads as before.
-/
import Derived.Deep.CutBlock
import Derived.ChangeMaps5
import Derived.Test.YtcfbnjaelniahaaW3
import Derived.Test.YtcfbnjaelniahaaW2
import Derived.Test.YtcfbnjaelniahaaW1
/-
  Walk: the reference's Is, whole.
-/
namespace Go.Proofs.Ytcfbnjaelniahaa.Js
set_option linter.unusedSimpArgs false
set_option linter.unusedVariables false
open Go.RowKit

def isC1 (d : Nat) (k : Int) : Bool := decide (k < 0 ∨ 5 < k ∨ (d = 0 ∧ 3 < k))
def isC2 (k : Int) (t : Bs) : Bool := decide (k ≠ 3 ∧ t ≠ [])
def isC3 (k : Int) (ns : List Bs) : Bool := decide (k ≠ 5 ∧ ns ≠ [])
def isC4 (k : Int) (ks : List JT) : Bool := decide (k ≠ 5 ∧ k ≠ 4 ∧ ks ≠ [])
def isC7 (k n : Int) (a b : Nat) : Bool := decide (n ≠ 0 ∨ (k = 5 ∧ a ≠ b))
set_option maxRecDepth 100000 in
set_option maxHeartbeats 4000000 in
theorem is_any : ∀ j, IsP j := by
  refine JT.ind ?_
  intro k0 n0 t0 ns ks IH d v B w hd9 hs hsh hj hB
  have hu := Try.underlying25
  obtain ⟨ns1, ks1, kv, e1, hn, _, hnr, hkn, _, hkv, hkr, hkids⟩ := hj.inv
  rw [smallJ] at hs
  simp only [Bool.and_eq_true, decide_eq_true_eq] at hs
  obtain ⟨⟨hsn, hsk⟩, hsm⟩ := hs
  rw [shortJ] at hsh
  simp only [Bool.and_eq_true, decide_eq_true_eq, List.all_eq_true] at hsh
  obtain ⟨⟨ht5, hn5⟩, hk5⟩ := hsh
  obtain ⟨vk, vn, vt, nA, nn, nc, kA, kn, kc⟩ := v
  dsimp only at *
  injection e1 with x1 x2 x3 x4 x5
  subst x1 x2 x3 x4 x5
  have HQ := isQ d k0 n0 t0 ns ks
  obtain ⟨V, hV⟩ : ∃ V, V = isV d (.mk k0 n0 t0 ns ks) := ⟨_, rfl⟩
  rw [← hV] at HQ ⊢
  clear hj hV
  obtain ⟨G, hG⟩ : ∃ G, G = w.heap.size := ⟨_, rfl⟩
  obtain ⟨W0, hW0⟩ : ∃ W0, W0 = w.alloc (.cells (jvCells ⟨k0, n0, t0, nA, nn, nc, kA, kn, kc⟩) 25) := ⟨_, rfl⟩
  have hb0 : Below w.heap.size w W0 := by rw [hW0]; exact (Below.refl _ w).alloc (Nat.le_refl _) _
  have HB0 := Lib.hid hb0
  have HKU := Lib.hid (show Blk W0 G 25 (jvCells ⟨k0, n0, t0, nA, nn, nc, kA, kn, kc⟩) by rw [hW0, hG]; exact Blk.new _ _ _)
  have HNR := Lib.hid (show Rd W0 B nA (rowsV sCell ns) from (hnr.rd (fun _ _ h => h)).below (hb0.mono hB))
  have HKR := Lib.hid (show Rd W0 B kA (rowsV jvCells kv) from (hkr.rd (fun _ _ h => h)).below (hb0.mono hB))
  have HKI := Lib.hid (show ∀ i (h : i < ks.length) (h' : i < kv.length), JRep W0 (fun b => b < B) ks[i] kv[i] from fun i h h' => (hkids i h h').under (hb0.mono hB))
  have HBB := Lib.hid (show B ≤ W0.heap.size from Nat.le_trans hB hb0.size)
  have HW0 := Lib.hid hW0
  have HN := Lib.hid hn
  have HK := Lib.hid hkn
  have HKV := Lib.hid hkv
  have HIH := Lib.hid IH
  have HSM := Lib.hid hsm
  have HSH := Lib.hid hk5
  have HN5 := Lib.hid hn5
  have HTS := Lib.hid (show (bs t0).size = t0.length ∧ t0.length ≤ 1000 from ⟨bs_size _, ht5⟩)
  have hnn : (nn : Int) ≤ 4096 := by omega
  have hkk : (kn : Int) ≤ 4096 := by omega
  have HTN := Lib.hid (show (t0 ≠ []) ↔ (bs t0) ≠ ⟨#[]⟩ from ⟨fun h he => h (bs_inj (he.trans (show (⟨#[]⟩ : ByteArray) = bs [] from rfl))), fun h he => h (by rw [he]; rfl)⟩)
  have HNN := Lib.hid (show (ns ≠ [] ↔ (0 : Int) < (nn : Int)) ∧ (ks ≠ [] ↔ (0 : Int) < (kn : Int)) ∧ (ns.length ≠ ks.length ↔ ¬ (nn : Int) = (kn : Int)) from by
    refine ⟨?_, ?_, by omega⟩
    · rw [← List.length_pos_iff]
      omega
    · rw [← List.length_pos_iff]
      omega)
  have a0 : W0.cell? ⟨G, 0, none⟩ = some (.int .i64 k0) := HKU.out.cell 0
  have a1 : W0.cell? ⟨G, 1, none⟩ = some (.int .i64 n0) := HKU.out.cell 1
  have a2 : W0.cell? ⟨G, 2, none⟩ = some (.string (bs t0)) := HKU.out.cell 2
  have a3 : W0.cell? ⟨G, 3, none⟩ = some (.slice nA nn nc) := HKU.out.cell 3
  have a4 : W0.cell? ⟨G, 4, none⟩ = some (.slice kA kn kc) := HKU.out.cell 4
  clear hW0 hb0 hnr hkr hkids hB hsn hsk hsm hkv hn hkn IH ht5 hn5 hk5
  have HQQ := Lib.hid HQ
  clear HQ
  rw [hG] at *
  clear hG
  go_enter Try.func9, Try.ntmps9
  go_upto_region 1 with (fail)
  rw [← HW0.out]
  clear HW0
  generalize Value.agg (jvCells ⟨k0, n0, t0, nA, nn, nc, kA, kn, kc⟩) = AV
  go_cut [1, 26] (fun y x wx => y = .int .i64 (d : Int) ∧ x = .bool (isC1 d k0) ∧ wx = W0)
  case first =>
    by_cases b1 : k0 < 0
    · skip
      go_wp2_with fail
      go_meet
      exact ⟨by first | rfl | rw [b3], by rw [show isC1 d k0 = true from decide_eq_true (by omega)], rfl⟩
    by_cases b2 : 5 < k0
    · skip
      go_wp2_with fail
      go_meet
      exact ⟨by first | rfl | rw [b3], by rw [show isC1 d k0 = true from decide_eq_true (by omega)], rfl⟩
    by_cases b3 : (d : Int) = 0
    · by_cases b4 : 3 < k0
      · skip
        go_wp2_with fail
        go_meet
        exact ⟨by first | rfl | rw [b3], by rw [show isC1 d k0 = true from decide_eq_true (by omega)], rfl⟩
      · skip
        go_wp2_with fail
        go_meet
        exact ⟨by first | rfl | rw [b3], by rw [show isC1 d k0 = false from decide_eq_false (by omega)], rfl⟩
    · skip
      go_wp2_with fail
      go_meet
      exact ⟨by first | rfl | rw [b3], by rw [show isC1 d k0 = false from decide_eq_false (by omega)], rfl⟩
  case rest =>
  obtain ⟨rfl, rfl, hwc⟩ := hcut
  have hwc2 := hwc.symm
  subst hwc2
  cases hc1 : isC1 d k0 with
  | true =>
    have HC := Lib.hid hc1
    clear hc1
    go_wp2_with fail
    go_ret
    exact ⟨by rw [HQQ.out.q1 (of_decide_eq_true HC.out)]; rfl, HB0.out⟩
  | false =>
  have HC1 := Lib.hid (of_decide_eq_false hc1)
  clear hc1
  go_upto_region 3 with (fail)
  go_cut [34] (fun x wx => x = .bool (isC2 k0 t0) ∧ wx = W0)
  case first =>
    by_cases b1 : k0 = 3
    · skip
      go_wp2_with fail
      go_meet
      exact ⟨by rw [show isC2 k0 t0 = false from decide_eq_false (by exact fun h => h.1 b1)], rfl⟩
    · have b1' : (k0 != 3) = true := by simpa using b1
      by_cases b2 : t0 = []
      · have b2' : (bs t0) = ⟨#[]⟩ := by rw [b2]; rfl
        rw [b2'] at a2
        have B2 := Lib.hid b2
        clear b2 b2'
        go_wp2_with fail
        go_meet
        exact ⟨by rw [show isC2 k0 t0 = false from decide_eq_false (fun h => h.2 B2.out)], rfl⟩
      · have B2 := Lib.hid b2
        have b3 : (bs t0).toList.isEmpty = false := by rw [bs_toList]; simpa using b2
        clear b2
        go_wp2_with fail
        go_meet
        exact ⟨by rw [show isC2 k0 t0 = true from decide_eq_true ⟨b1, B2.out⟩], rfl⟩
  case rest =>
  obtain ⟨rfl, hwc⟩ := hcut
  have hwc2 := hwc.symm
  subst hwc2
  cases hc2 : isC2 k0 t0 with
  | true =>
    have HC := Lib.hid hc2
    clear hc2
    go_wp2_with fail
    go_ret
    exact ⟨by rw [HQQ.out.q2 HC1.out (of_decide_eq_true HC.out)]; rfl, HB0.out⟩
  | false =>
  have HC2 := Lib.hid (of_decide_eq_false hc2)
  clear hc2
  go_upto_region 5 with (fail)
  go_cut [43] (fun x wx => x = .bool (isC3 k0 ns) ∧ wx = W0)
  case first =>
    by_cases e5 : k0 = 5
    · skip
      go_wp2_with fail
      go_meet
      exact ⟨by rw [show isC3 k0 ns = false from decide_eq_false (by omega)], rfl⟩
    have e5' : (k0 != 5) = true := by simpa using e5
    by_cases b2 : ns ≠ []
    · have b3 := HNN.out.1.1 b2
      have b3n : 0 < nn := by omega
      have B2 := Lib.hid b2
      clear b2
      go_wp2_with fail
      go_meet
      exact ⟨by rw [show isC3 k0 ns = true from decide_eq_true ⟨e5, B2.out⟩], rfl⟩
    · have b3 : ¬ (0 : Int) < (nn : Int) := fun h => b2 (HNN.out.1.2 h)
      have b3n : ¬ 0 < nn := by omega
      have B2 := Lib.hid b2
      clear b2
      go_wp2_with fail
      go_meet
      exact ⟨by rw [show isC3 k0 ns = false from decide_eq_false (fun h => B2.out h.2)], rfl⟩
  case rest =>
  obtain ⟨rfl, hwc⟩ := hcut
  have hwc2 := hwc.symm
  subst hwc2
  cases hc3 : isC3 k0 ns with
  | true =>
    have HC := Lib.hid hc3
    clear hc3
    go_wp2_with fail
    go_ret
    exact ⟨by rw [HQQ.out.q3 HC1.out HC2.out (of_decide_eq_true HC.out)]; rfl, HB0.out⟩
  | false =>
  have HC3 := Lib.hid (of_decide_eq_false hc3)
  clear hc3
  go_upto_region 7 with (fail)
  go_cut [57] (fun x wx => x = .bool (isC4 k0 ks) ∧ wx = W0)
  case first =>
    by_cases e5 : k0 = 5
    · skip
      go_wp2_with fail
      go_meet
      exact ⟨by rw [show isC4 k0 ks = false from decide_eq_false (by omega)], rfl⟩
    have e5' : (k0 != 5) = true := by simpa using e5
    by_cases e4 : k0 = 4
    · skip
      go_wp2_with fail
      go_meet
      exact ⟨by rw [show isC4 k0 ks = false from decide_eq_false (by omega)], rfl⟩
    have e4' : (k0 != 4) = true := by simpa using e4
    by_cases b2 : ks ≠ []
    · have b3 := HNN.out.2.1.1 b2
      have b3n : 0 < kn := by omega
      have B2 := Lib.hid b2
      clear b2
      go_wp2_with fail
      go_meet
      exact ⟨by rw [show isC4 k0 ks = true from decide_eq_true ⟨e5, e4, B2.out⟩], rfl⟩
    · have b3 : ¬ (0 : Int) < (kn : Int) := fun h => b2 (HNN.out.2.1.2 h)
      have b3n : ¬ 0 < kn := by omega
      have B2 := Lib.hid b2
      clear b2
      go_wp2_with fail
      go_meet
      exact ⟨by rw [show isC4 k0 ks = false from decide_eq_false (fun h => B2.out h.2.2)], rfl⟩
  case rest =>
  obtain ⟨rfl, hwc⟩ := hcut
  have hwc2 := hwc.symm
  subst hwc2
  cases hc4 : isC4 k0 ks with
  | true =>
    have HC := Lib.hid hc4
    clear hc4
    go_wp2_with fail
    go_ret
    exact ⟨by rw [HQQ.out.q4 HC1.out HC2.out HC3.out (of_decide_eq_true HC.out)]; rfl, HB0.out⟩
  | false =>
  have HC4 := Lib.hid (of_decide_eq_false hc4)
  clear hc4
  go_upto_region 9 with (fail)
  by_cases e2 : k0 = 2
  · have HV := Lib.hid (HQQ.out.q5 HC2.out HC3.out HC4.out e2)
    have e2' : (k0 == 2) = true := by simpa using e2
    clear a2 a3 a4
    by_cases n1 : -1000000000000000 ≤ n0
    · by_cases n2 : n0 ≤ 1000000000000000
      · have HR := Lib.hid (show V = true by rw [HV.out, decide_eq_true n1, decide_eq_true n2]; rfl)
        go_wp2_with fail
        go_ret
        exact ⟨by rw [HR.out]; rfl, HB0.out⟩
      · have HR := Lib.hid (show V = false by rw [HV.out, decide_eq_true n1, decide_eq_false n2]; rfl)
        go_wp2_with fail
        go_ret
        exact ⟨by rw [HR.out]; rfl, HB0.out⟩
    · have HR := Lib.hid (show V = false by rw [HV.out, decide_eq_false n1]; rfl)
      go_wp2_with fail
      go_ret
      exact ⟨by rw [HR.out]; rfl, HB0.out⟩
  have E2 := Lib.hid e2
  have e2' : (k0 == 2) = false := by simpa using e2
  clear e2
  go_upto_region 11 with (fail)
  clear e2'
  by_cases e1 : k0 = 1
  · have HV := Lib.hid (HQQ.out.q6 HC2.out HC3.out HC4.out e1)
    have e1' : (k0 == 1) = true := by simpa using e1
    clear a2 a3 a4
    by_cases n1 : n0 = 0
    · have HR := Lib.hid (show V = true by rw [HV.out, n1]; rfl)
      subst n1
      go_wp2_with fail
      go_ret
      exact ⟨by rw [HR.out]; rfl, HB0.out⟩
    · have n1' : (n0 == 0) = false := by simpa using n1
      by_cases n2 : n0 = 1
      · have HR := Lib.hid (show V = true by rw [HV.out, n2]; rfl)
        subst n2
        go_wp2_with fail
        go_ret
        exact ⟨by rw [HR.out]; rfl, HB0.out⟩
      · have n2' : (n0 == 1) = false := by simpa using n2
        have HR := Lib.hid (show V = false by rw [HV.out, n1', n2']; rfl)
        go_wp2_with fail
        go_ret
        exact ⟨by rw [HR.out]; rfl, HB0.out⟩
  have E1 := Lib.hid e1
  have e1' : (k0 == 1) = false := by simpa using e1
  clear e1
  go_upto_region 13 with (fail)
  clear e1'

  go_cut [96] (fun x wx => x = .bool (isC7 k0 n0 ns.length ks.length) ∧ wx = W0)
  case first =>
    by_cases b1 : n0 = 0
    · have b1' : (n0 != 0) = false := by simpa using b1
      by_cases b2 : k0 = 5
      · have b2' : (k0 == 5) = true := by simpa using b2
        by_cases b3 : (nn : Int) = (kn : Int)
        · have b3' : ((nn : Int) != (kn : Int)) = false := by simpa using b3
          have B3 := Lib.hid (show ¬ (n0 ≠ 0 ∨ (k0 = 5 ∧ ns.length ≠ ks.length)) from fun h => h.elim (fun h => h b1) (fun h => HNN.out.2.2.1 h.2 b3))
          go_wp2_with fail
          go_meet
          exact ⟨by rw [show isC7 k0 n0 ns.length ks.length = false from decide_eq_false B3.out], rfl⟩
        · have b3' : ((nn : Int) != (kn : Int)) = true := by simpa using b3
          have B3 := Lib.hid (show (n0 ≠ 0 ∨ (k0 = 5 ∧ ns.length ≠ ks.length)) from .inr ⟨b2, HNN.out.2.2.2 b3⟩)
          go_wp2_with fail
          go_meet
          exact ⟨by rw [show isC7 k0 n0 ns.length ks.length = true from decide_eq_true B3.out], rfl⟩
      · have b2' : (k0 == 5) = false := by simpa using b2
        have B3 := Lib.hid (show ¬ (n0 ≠ 0 ∨ (k0 = 5 ∧ ns.length ≠ ks.length)) from fun h => h.elim (fun h => h b1) (fun h => b2 h.1))
        go_wp2_with fail
        go_meet
        exact ⟨by rw [show isC7 k0 n0 ns.length ks.length = false from decide_eq_false B3.out], rfl⟩
    · have b1' : (n0 != 0) = true := by simpa using b1
      have B3 := Lib.hid (show (n0 ≠ 0 ∨ (k0 = 5 ∧ ns.length ≠ ks.length)) from .inl b1)
      go_wp2_with fail
      go_meet
      exact ⟨by rw [show isC7 k0 n0 ns.length ks.length = true from decide_eq_true B3.out], rfl⟩
  case rest =>
  obtain ⟨rfl, hwc⟩ := hcut
  have hwc2 := hwc.symm
  subst hwc2
  cases hc7 : isC7 k0 n0 ns.length ks.length with
  | true =>
    have HC := Lib.hid hc7
    clear hc7
    go_wp2_with fail
    go_ret
    exact ⟨by rw [HQQ.out.q7 HC1.out HC2.out HC3.out HC4.out E2.out E1.out (of_decide_eq_true HC.out)]; rfl, HB0.out⟩
  | false =>
  have HC7 := Lib.hid (of_decide_eq_false hc7)
  clear hc7
  have HV := Lib.hid (HQQ.out.q8 HC1.out HC2.out HC3.out HC4.out E2.out E1.out HC7.out)
  go_upto_region 15 with (fail)
  have CL := Lib.hid (letters_any (bs t0) (by have := HTS.out; omega) W0)
  rw [show (bs t0).data.toList = t0 from rfl] at CL
  have HDD := Lib.hid (show 0 < kn → ∃ d', d = d' + 1 from fun h => by
    have h1 := HC1.out
    have h4 := HC4.out
    have h0 : ks ≠ [] := HNN.out.2.1.2 (by omega)
    have h5 : k0 = 5 ∨ k0 = 4 := by
      by_cases a : k0 = 5
      · exact .inl a
      · by_cases b : k0 = 4
        · exact .inr b
        · exact absurd ⟨a, b, h0⟩ h4
    have h6 : d ≠ 0 := fun h => h1 (.inr (.inr ⟨h, by omega⟩))
    exact ⟨d - 1, by omega⟩)
  clear HC1 HC2 HC3 HC4 HC7 E2 E1 HQQ
  go_wp2_with fail
  refine calls_then CL.out ?_
  rintro e w1 ⟨rfl, rfl⟩
  clear CL a0 a1 a2 a3 a4
  obtain ⟨T, hT⟩ : ∃ T, T = okT t0 := ⟨_, rfl⟩
  rw [← hT] at HV ⊢
  clear hT
  go_wp2_with fail
  go_loopw [5, 6] (fun o x wr => ∃ i : Nat, i ≤ nn ∧ o = .bool (T && nmsB ns i) ∧ x = .int .i64 (i : Int) ∧ Below w1.heap.size w1 wr) (fun _ x _ => nn - (intOf x).toNat)
  case atStart => exact ⟨0, Nat.zero_le _, by simp [nmsB, distinct], rfl, Below.refl _ _⟩
  case round =>
    obtain ⟨i, hi, rfl, rfl, hbel⟩ := hrel
    have HBE := Lib.hid hbel
    have a3 : wr.cell? ⟨w.heap.size, 3, none⟩ = some (.slice nA nn nc) := (HKU.out.below hbel HKU.out.lt).cell 3
    clear hbel
    obtain ⟨T2, hT2⟩ : ∃ T2, T2 = (T && nmsB ns i) := ⟨_, rfl⟩
    have HT2 := Lib.hid hT2
    rw [← hT2]
    clear hT2
    by_cases hlt : i < nn
    · have hlt' : (i : Int) < (nn : Int) := by omega
      have HLT := Lib.hid hlt
      have hil : i < ns.length := by rw [← HN.out]; exact hlt
      obtain ⟨ad, hA, hadb, hcell⟩ := rd_rows (f := sCell) (m := 1) (fun _ => rfl) (by decide) HNR.out hil
      subst hA
      have HCL := Lib.hid (show ∀ u, Below w1.heap.size w1 u → ∀ q (hq : q < ns.length), u.cell? (ad.add q) = some (.string (bs ns[q])) from fun u hu q hq => by
        obtain ⟨ad', hA', hadb', hcell'⟩ := rd_rows (f := sCell) (m := 1) (fun _ => rfl) (by decide) HNR.out hq
        injection hA' with hA'
        subst hA'
        rw [(hu.mono HBB.out).cell (p := ad.add q) (by rw [block_of_add]; exact hadb)]
        have h := hcell' 0 _ rfl
        rw [Nat.mul_one] at h
        exact h)
      obtain ⟨X, hX⟩ : ∃ X, X = ns[i] := ⟨_, rfl⟩
      have hcx := HCL.out wr HBE.out i hil
      rw [← hX] at hcx
      have CL := Lib.hid (letters_any (bs X) (by rw [bs_size, hX]; have := HN5.out _ (List.getElem_mem hil); omega) wr)
      rw [show (bs X).data.toList = X from rfl] at CL
      have HST := Lib.hid (nmsB_step hil)
      rw [← hX] at HST
      have HXE := Lib.hid hX
      have HIL := Lib.hid hil
      clear hX hcell hlt hadb
      go_wp2_with fail
      refine calls_then CL.out ?_
      rintro e w2 ⟨rfl, hw2⟩
      have hw3 := hw2.symm
      subst hw3
      obtain ⟨ok, hok⟩ : ∃ ok, ok = okT X := ⟨_, rfl⟩
      rw [← hok] at HST ⊢
      clear hok CL a3 hcx
      go_upto_region 20 with (fail)
      go_cut [5] (fun x wx => x = .bool (T2 && ok) ∧ wx = wr)
      case first =>
        cases T2 with
        | true =>
          go_wp2_with fail
          go_meet
          exact ⟨rfl, rfl⟩
        | false =>
          go_wp2_with fail
          go_meet
          exact ⟨rfl, rfl⟩
      case rest =>
      obtain ⟨rfl, hw2⟩ := hcut
      have hw3 := hw2.symm
      subst hw3
      obtain ⟨T3, hT3⟩ : ∃ T3, T3 = (T2 && ok) := ⟨_, rfl⟩
      have HT3 := Lib.hid hT3
      rw [← hT3]
      clear hT3
      go_wp2_with fail
      go_loopw [5, 8] (fun o x wq => ∃ q : Nat, q ≤ i ∧ o = .bool (T3 && (ns.take q).all (· != X)) ∧ x = .int .i64 (q : Int) ∧ Below w1.heap.size w1 wq) (fun _ x _ => i - (intOf x).toNat)
      case atStart => exact ⟨0, Nat.zero_le _, by simp, rfl, HBE.out⟩
      case round =>
        obtain ⟨q, hq, rfl, rfl, hbq⟩ := hrel
        have HBQ := Lib.hid hbq
        clear hbq
        obtain ⟨T4, hT4⟩ : ∃ T4, T4 = (T3 && (ns.take q).all (· != X)) := ⟨_, rfl⟩
        have HT4 := Lib.hid hT4
        rw [← hT4]
        clear hT4
        by_cases hlt : q < i
        · have hlt2 : (q : Int) < (i : Int) := by omega
          have hlq : (q : Int) < (nn : Int) := by omega
          have HLQ := Lib.hid hlt
          have hql : q < ns.length := by omega
          obtain ⟨Y, hY⟩ : ∃ Y, Y = ns[q] := ⟨_, rfl⟩
          have HAL := Lib.hid (show (ns.take (q + 1)).all (· != X) = ((ns.take q).all (· != X) && (Y != X)) by
            rw [List.take_succ_eq_append_getElem hql, List.all_append, ← hY]
            simp)
          have HC1 := Lib.hid (show ∀ u, Below w1.heap.size w1 u → u.cell? (ad.add q) = some (.string (bs Y)) from fun u hu => by rw [hY]; exact HCL.out u hu q hql)
          have HC2 := Lib.hid (show ∀ u, Below w1.heap.size w1 u → u.cell? (ad.add i) = some (.string (bs X)) from fun u hu => by rw [HXE.out]; exact HCL.out u hu i hil)
          clear hY hlt
          have d3 : wr.cell? ⟨w.heap.size, 3, none⟩ = some (.slice (some ad) nn nc) := (HKU.out.below HBQ.out HKU.out.lt).cell 3
          have d1 := HC1.out wr HBQ.out
          have d2 := HC2.out wr HBQ.out
          cases T4 with
          | true =>
            have HT5 := Lib.hid (show (Y != X) = (T3 && (ns.take (q + 1)).all (· != X)) by rw [HAL.out, ← Bool.and_assoc, ← HT4.out, Bool.true_and])
            go_wp2_with fail
            go_quiet (fail)
            go_wp2_with fail
            go_roundw
            case rel => exact ⟨q + 1, HLQ.out, by rw [← HT5.out]; first | rfl | (rw [bs_toList, bs_toList]; rfl) | simp [bs_toList], by go_num, below_drewN HBQ.out _⟩
            case measure => have := HLQ.out; simp [intOf]; omega
          | false =>
            have HT5 := Lib.hid (show false = (T3 && (ns.take (q + 1)).all (· != X)) by rw [HAL.out, ← Bool.and_assoc, ← HT4.out, Bool.false_and])
            clear d1 d2
            go_wp2_with fail
            go_quiet (fail)
            go_wp2_with fail
            go_roundw
            case rel => exact ⟨q + 1, HLQ.out, by rw [← HT5.out], by go_num, below_drewN HBQ.out _⟩
            case measure => have := HLQ.out; simp [intOf]; omega
        · obtain rfl : q = i := by omega
          have HT6 := Lib.hid (show T4 = (T && nmsB ns (q + 1)) by
            rw [HT4.out, HT3.out, HT2.out, HST.out, Bool.and_assoc, Bool.and_assoc, Bool.and_assoc])
          rw [HT6.out]
          go_wp2_with fail
          go_roundw
          case rel => exact ⟨q + 1, HLT.out, rfl, by go_num, HBQ.out⟩
          case measure => have := HLT.out; simp [intOf]; omega
    · obtain rfl : i = nn := by omega
      rw [← HN.out] at HV
      rw [← HT2.out] at HV
      have a4 : wr.cell? ⟨w.heap.size, 4, none⟩ = some (.slice kA kn kc) := (HKU.out.below HBE.out HKU.out.lt).cell 4
      go_wp2_with fail
      go_loopw [5, 9] (fun o x wr => ∃ q : Nat, q ≤ kn ∧ o = .bool (T2 && isVs (d - 1) (ks.take q)) ∧ x = .int .i64 (q : Int) ∧ Below w1.heap.size w1 wr) (fun _ x _ => kn - (intOf x).toNat)
      case atStart => exact ⟨0, Nat.zero_le _, by simp [isVs], rfl, HBE.out⟩
      case round =>
        obtain ⟨q, hq, rfl, rfl, hbq⟩ := hrel
        have HBQ := Lib.hid hbq
        clear hbq a4
        have a4 : wr.cell? ⟨w.heap.size, 4, none⟩ = some (.slice kA kn kc) := (HKU.out.below HBQ.out HKU.out.lt).cell 4
        obtain ⟨T4, hT4⟩ : ∃ T4, T4 = (T2 && isVs (d - 1) (ks.take q)) := ⟨_, rfl⟩
        have HT4 := Lib.hid hT4
        rw [← hT4]
        clear hT4
        by_cases hlt : q < kn
        · have hlq : (q : Int) < (kn : Int) := by omega
          have HLQ := Lib.hid hlt
          have hql : q < ks.length := by rw [← HK.out]; exact hlt
          cases T4 with
          | false =>
            have HR := Lib.hid (show V = false by
              rw [HV.out]
              have h := HT4.out
              cases T2 with
              | false => rfl
              | true =>
                rw [Bool.true_and] at h
                rw [isVs_bad h.symm]
                rfl)
            clear hlt
            go_wp2_with fail
            go_ret
            exact ⟨by rw [HR.out]; rfl, HB0.out.trans (HBQ.out.mono HB0.out.size)⟩
          | true =>
            obtain ⟨d', hd'⟩ := HDD.out (by omega)
            have hdi : (d : Int) - 1 = (d' : Int) := by omega
            obtain ⟨ad, hA, hadb, hcell⟩ := rd_rows (f := jvCells) (m := 5) (fun _ => rfl) (by decide) HKR.out (show q < kv.length by rw [HKV.out]; exact hql)
            subst hA
            obtain ⟨X, hX⟩ : ∃ X, X = kv[q]'(by rw [HKV.out]; exact hql) := ⟨_, rfl⟩
            obtain ⟨Y, hY⟩ : ∃ Y, Y = ks[q] := ⟨_, rfl⟩
            rw [← hX] at hcell
            have HCE := Lib.hid (show ∀ j x, (jvCells X).toList[j]? = some x → wr.cell? ((ad.add (q * 5)).add j) = some x from fun j x hx => by
              rw [(HBQ.out.mono HBB.out).cell (p := (ad.add (q * 5)).add j) (by rw [block_of_add, block_of_add]; exact hadb)]
              exact hcell j x (by simpa using hx))
            have CI := Lib.hid (HIH.out Y (by rw [hY]; exact List.getElem_mem hql) d' X B wr (by omega) ((smallsJ_iff _).1 HSM.out _ (by rw [hY]; exact List.getElem_mem hql)) ((shortsJ_iff _).1 HSH.out _ (by rw [hY]; exact List.getElem_mem hql))
              (by rw [hY, hX]; exact (HKI.out q hql (by rw [HKV.out]; exact hql)).under (HBQ.out.mono HBB.out)) (Nat.le_trans HBB.out HBQ.out.size))
            have HST := Lib.hid (show isV d' Y = (T2 && isVs (d - 1) (ks.take (q + 1))) by
              have h := HT4.out
              rw [isVs_take hql, ← Bool.and_assoc, ← h, Bool.true_and, ← hY, hd']
              rfl)
            obtain ⟨I, hI⟩ : ∃ I, I = isV d' Y := ⟨_, rfl⟩
            rw [← hI] at CI HST
            clear hX hY hcell hql hlt hadb hI hd'
            go_wp2_with (refine wpList_get_rd (r := (jvCells X).toList) HCE.out rfl rfl rfl hu rfl jT_size3 ?_)
            refine calls_then CI.out ?_
            rintro e w5 ⟨rfl, hb5⟩
            have HB5 := Lib.hid (HBQ.out.trans (hb5.mono HBQ.out.size))
            clear hb5
            go_wp2_with fail
            go_roundw
            case rel => exact ⟨q + 1, HLQ.out, by rw [← HST.out], by go_num, HB5.out⟩
            case measure => have := HLQ.out; simp [intOf]; omega
        · have HR := Lib.hid (show V = T4 by
            rw [HV.out, HT4.out, List.take_of_length_le (by rw [← HK.out]; omega)])
          have hlq : ¬ (q : Int) < (kn : Int) := by omega
          clear hlt
          go_wp2_with fail
          go_ret
          exact ⟨by rw [HR.out]; rfl, HB0.out.trans (HBQ.out.mono HB0.out.size)⟩
end Go.Proofs.Ytcfbnjaelniahaa.Js
/-
  Walk: the law JsonDeep.
-/
namespace Go.Proofs.Ytcfbnjaelniahaa.Js
set_option linter.unusedSimpArgs false
set_option linter.unusedVariables false
open Go.RowKit

theorem opn_len : ∀ (b : Bool) (n : Nat), (opn b n).length ≤ 5 * n
  | b, 0 => by simp [opn]
  | b, n + 1 => by
    have := opn_len b n
    rw [opn, List.length_append]
    cases b <;> simp <;> omega
theorem cls_len : ∀ (b : Bool) (n : Nat), (cls b n).length ≤ n
  | b, 0 => by simp [cls]
  | b, n + 1 => by
    have := cls_len b n
    rw [cls, List.length_append]
    cases b <;> simp <;> omega
theorem nest_small : ∀ (b : Bool) (n : Nat), smallJ (nest b n) = true
  | b, 0 => by cases b <;> decide
  | b, n + 1 => by
    have := nest_small b n
    cases b <;> simp [nest, smallJ, smallsJ, this]
set_option maxRecDepth 10000 in
theorem nest_write : ∀ (b : Bool) (n : Fin 21), (writeV (nest b n.1)).length ≤ 1000 := by decide +kernel
theorem rds_blk {w : World} {S : Nat → Prop} {g : Nat} {t : TypeId} {l : List Value} (h : Blk w g t l.toArray) (hS : S g) : RdS w S (some ⟨g, 0, none⟩) l := fun i u hu => by
  refine ⟨_, rfl, hS, ?_⟩
  have hadd : (⟨g, 0, none⟩ : Addr).add i = ⟨g, i, none⟩ := by unfold Addr.add; split <;> simp_all
  rw [hadd, h.cell i]
  simpa using hu
/-- where the law's tree lies -/
def NJ (w : World) (g : Nat) (j : JT) (v : JV) : Prop := Blk w g 25 (jvCells v) ∧ JRep w (fun b => b < w.heap.size ∧ b ≠ g) j v
theorem NJ.below {w w' : World} {g : Nat} {j : JT} {v : JV} (h : NJ w g j v) (hb : Below w.heap.size w w') : NJ w' g j v :=
  ⟨h.1.below hb h.1.lt, (h.2.heap fun b hl _ => hb.block b hl).imp fun b hl hs => ⟨hl, hs.2⟩⟩
/-- one map more around it -/
theorem NJ.map {w w' : World} {g : Nat} {j : JT} {v : JV} (h : NJ w g j v) (hw : Wrote g ((w.alloc (.cells #[.string ⟨#[97]⟩] 9)).alloc (.cells (jvCells v) 25)) w')
    (hb : Blk w' g 25 (jvCells ⟨5, 0, [], some ⟨w.heap.size, 0, none⟩, 1, 1, some ⟨w.heap.size + 1, 0, none⟩, 1, 1⟩)) :
    NJ w' g (.mk 5 0 [] [[97]] [j]) ⟨5, 0, [], some ⟨w.heap.size, 0, none⟩, 1, 1, some ⟨w.heap.size + 1, 0, none⟩, 1, 1⟩ := by
  have hg := h.1.lt
  have hs : w'.heap.size = w.heap.size + 2 := by rw [hw.size]; simp
  have hb0 : Below w.heap.size w ((w.alloc (.cells #[.string ⟨#[97]⟩] 9)).alloc (.cells (jvCells v) 25)) := ((Below.refl _ w).alloc (Nat.le_refl _) _).alloc (by simp) _
  have k1 : Blk w' w.heap.size 9 #[.string ⟨#[97]⟩] := hw.blk ((Blk.new w _ _).alloc _) (by omega)
  have k2 : Blk w' (w.heap.size + 1) 25 (jvCells v) := by
    refine hw.blk ?_ (by omega)
    have := Blk.new (w.alloc (.cells #[.string ⟨#[97]⟩] 9)) 25 (jvCells v)
    simpa using this
  have hj : JRep w' (fun b => b < w'.heap.size ∧ b ≠ g) j v := ((h.2.heap fun b hl _ => hb0.block b hl).heap fun b hl hs => hw.grown.block b hl (by have := hs.2; intro e; injection e with e; omega)).imp fun b hl hs => ⟨hl, hs.2⟩
  refine ⟨hb, .mk ⟨5, 0, [], some ⟨w.heap.size, 0, none⟩, 1, 1, some ⟨w.heap.size + 1, 0, none⟩, 1, 1⟩ [[97]] [j] [v] rfl (Nat.le_refl _) ?_ rfl (Nat.le_refl _) rfl ?_ ?_⟩
  · exact rds_blk (l := [.string ⟨#[97]⟩]) k1 ⟨by omega, by omega⟩
  · rw [show rowsV jvCells [v] = (jvCells v).toList by simp [rowsV]]
    exact rds_blk (l := (jvCells v).toList) k2 ⟨by omega, by omega⟩
  · intro i hi hi'
    simp only [List.length_cons, List.length_nil] at hi
    obtain rfl : i = 0 := by omega
    exact hj
/-- one list more around it -/
theorem NJ.list {w w' : World} {g : Nat} {j : JT} {v : JV} (h : NJ w g j v) (hw : Wrote g (w.alloc (.cells (jvCells v) 25)) w')
    (hb : Blk w' g 25 (jvCells ⟨4, 0, [], none, 0, 0, some ⟨w.heap.size, 0, none⟩, 1, 1⟩)) :
    NJ w' g (.mk 4 0 [] [] [j]) ⟨4, 0, [], none, 0, 0, some ⟨w.heap.size, 0, none⟩, 1, 1⟩ := by
  have hg := h.1.lt
  have hs : w'.heap.size = w.heap.size + 1 := by rw [hw.size]; simp
  have hb0 : Below w.heap.size w (w.alloc (.cells (jvCells v) 25)) := (Below.refl _ w).alloc (Nat.le_refl _) _
  have k2 : Blk w' w.heap.size 25 (jvCells v) := hw.blk (Blk.new w _ _) (by omega)
  have hj : JRep w' (fun b => b < w'.heap.size ∧ b ≠ g) j v := ((h.2.heap fun b hl _ => hb0.block b hl).heap fun b hl hs => hw.grown.block b hl (by have := hs.2; intro e; injection e with e; omega)).imp fun b hl hs => ⟨hl, hs.2⟩
  refine ⟨hb, .mk ⟨4, 0, [], none, 0, 0, some ⟨w.heap.size, 0, none⟩, 1, 1⟩ [] [j] [v] rfl (Nat.le_refl _) (RdS.nil _ _ _) rfl (Nat.le_refl _) rfl ?_ ?_⟩
  · rw [show rowsV jvCells [v] = (jvCells v).toList by simp [rowsV]]
    exact rds_blk (l := (jvCells v).toList) k2 ⟨by omega, by omega⟩
  · intro i hi hi'
    simp only [List.length_cons, List.length_nil] at hi
    obtain rfl : i = 0 := by omega
    exact hj
set_option maxRecDepth 100000 in
set_option maxHeartbeats 4000000 in
theorem jsonDeep_any (n : Int) (b : Bool) (w : World) (hwf : (Lit.int .i64 n).wf = true) :
    Calls Try.prog 6 #[.int .i64 n, .bool b] w fun x w' => x = .returned (.bool true) ∧ Below w.heap.size w w' := by
  have hu := Try.underlying25
  rw [Lit.wf, Bool.and_eq_true, decide_eq_true_iff, decide_eq_true_iff, show IntKind.i64.min = -9223372036854775808 by decide, show IntKind.i64.max = 9223372036854775807 by decide] at hwf
  obtain ⟨hn1, hn2⟩ := hwf
  obtain ⟨N, hN⟩ : ∃ N : Nat, (N : Int) = if n < 0 then -(n + 1) else n := ⟨(if n < 0 then -(n + 1) else n).toNat, by split <;> omega⟩
  have HNE := Lib.hid hN
  clear hN
  obtain ⟨W0, hW0⟩ : ∃ W0, W0 = w.alloc (.cells (jvCells zJV) 25) := ⟨_, rfl⟩
  have hb0 : Below w.heap.size w W0 := by rw [hW0]; exact (Below.refl _ w).alloc (Nat.le_refl _) _
  have HNJ := Lib.hid (show NJ W0 w.heap.size jzero zJV from ⟨by rw [hW0]; exact Blk.new _ _ _, JRep.flat _ _ _ _ _⟩)
  have HB0 := Lib.hid hb0
  have HW0 := Lib.hid hW0
  clear hW0 hb0
  go_enter Try.func6, Try.ntmps6
  go_upto_if 15 with (fail)
  go_cut [0] (fun x wx => x = .int .i64 (N : Int) ∧ wx = w)
  case first =>
    have hne := HNE.out
    by_cases hl : n < 0
    · rw [if_pos hl] at hne
      go_wp2_with fail
      go_meet
      exact ⟨by rw [hne], rfl⟩
    · rw [if_neg hl] at hne
      go_wp2_with fail
      go_meet
      exact ⟨by rw [hne], rfl⟩
  case rest =>
  obtain ⟨rfl, rfl⟩ := hcut
  obtain ⟨M, hM⟩ : ∃ M, M = N % 21 := ⟨_, rfl⟩
  have hm21 : (N : Int).tmod 21 = (M : Int) := by rw [Int.tmod_eq_emod_of_nonneg (by omega), hM]; omega
  have hm0 : (M : Int) ≤ 20 := by omega
  have HM0 := Lib.hid (show M ≤ 20 by omega)
  have hN9 : (N : Int) ≤ 9223372036854775807 := by have := HNE.out; split at this <;> omega
  clear hM
  go_upto_region 7 with (fail)
  rw [show (wc.alloc (.cells #[.int .i64 0, .int .i64 0, .string ⟨#[]⟩, .slice none 0 0, .slice none 0 0] 25)) = W0 from HW0.out.symm]
  clear HW0
  obtain ⟨g, hg⟩ : ∃ g, g = wc.heap.size := ⟨_, rfl⟩
  rw [← hg] at HNJ ⊢
  have HG := Lib.hid hg
  clear hg
  go_wp2_with fail
  go_loopw [5, 6, 8] (fun so se x wr => ∃ (i : Nat) (v : JV), i ≤ M ∧ so = .string (bs (opn b i)) ∧ se = .string (bs (cls b i)) ∧ x = .int .i64 (i : Int) ∧ NJ wr g (nest b i) v ∧ Below g wc wr) (fun _ _ x _ => M - (intOf x).toNat)
  case atStart => exact ⟨0, zJV, Nat.zero_le _, by cases b <;> rfl, by cases b <;> rfl, rfl, by cases b <;> exact HNJ.out, by rw [HG.out]; exact HB0.out⟩
  case round =>
    obtain ⟨i, v, hi, rfl, rfl, rfl, hnj, hbel⟩ := hrel
    have HNI := Lib.hid hnj
    have HBE := Lib.hid hbel
    clear hnj hbel
    by_cases hlt : i < M
    · have hlt' : (i : Int) < (M : Int) := by omega
      have HLT := Lib.hid hlt
      obtain ⟨so, hso⟩ : ∃ s, s = bs (opn b i) := ⟨_, rfl⟩
      obtain ⟨se, hse⟩ : ∃ s, s = bs (cls b i) := ⟨_, rfl⟩
      have hs1 : (so.size : Int) ≤ 100 := by rw [hso, bs_size]; have := opn_len b i; have := HM0.out; omega
      have hs2 : (se.size : Int) ≤ 20 := by rw [hse, bs_size]; have := cls_len b i; have := HM0.out; omega
      have HSO := Lib.hid hso
      have HSE := Lib.hid hse
      rw [← hso, ← hse]
      clear hso hse hlt
      obtain ⟨vk, vn, vt, nA, nn, nc, kA, kn, kc⟩ := v
      have HK := Lib.hid (show Blk wr g 25 #[.int .i64 vk, .int .i64 vn, .string (bs vt), .slice nA nn nc, .slice kA kn kc] from HNI.out.1)
      cases b with
      | true =>
        have hs3 : ¬ 9223372036854775807 < so.size + 5 := by omega
        have hs4 : ¬ 9223372036854775807 < se.size + 1 := by omega
        have HK1 := Lib.hid (show Blk (wr.alloc (.cells #[.string ⟨#[97]⟩] 9)) g 25 #[.int .i64 vk, .int .i64 vn, .string (bs vt), .slice nA nn nc, .slice kA kn kc] from HK.out.alloc _)
        have HK2 := Lib.hid (HK1.out.alloc (.cells #[.int .i64 vk, .int .i64 vn, .string (bs vt), .slice nA nn nc, .slice kA kn kc] 25))
        go_wp2_with (first
          | refine wpList_get_box (x := .tmp 7) HK1.out rfl rfl rfl hu rfl jT_size3 ?_
          | (refine wpList_put_box (x := .tmp 7) (cells := jvCells ⟨5, 0, [], some ⟨wr.heap.size, 0, none⟩, 1, 1, some ⟨wr.heap.size + 1, 0, none⟩, 1, 1⟩) HK2.out rfl rfl rfl rfl jT_size3 rfl (jvCells_one _) ?_; intro w5 hb5 hw5))
        go_roundw
        case rel =>
          have hgs := HK.out.lt
          have hbl : Below g wc w5 := hw5.below ((HBE.out.alloc (by have := HBE.out.size; omega) (.cells #[.string ⟨#[97]⟩] 9)).alloc (by simp; omega) (.cells #[.int .i64 vk, .int .i64 vn, .string (bs vt), .slice nA nn nc, .slice kA kn kc] 25)) (Nat.le_refl _) (by simp; omega)
          exact ⟨i + 1, _, HLT.out, by rw [HSO.out]; exact congrArg Value.string (bs_app (opn true i) [123, 34, 97, 34, 58]), by rw [HSE.out]; exact congrArg Value.string (bs_app (cls true i) [125]), by go_num, HNI.out.map hw5 hb5, hbl⟩
        case measure => have := HLT.out; simp [intOf]; omega
      | false =>
        have hs3 : ¬ 9223372036854775807 < so.size + 1 := by omega
        have hs4 : ¬ 9223372036854775807 < se.size + 1 := by omega
        have HK2 := Lib.hid (HK.out.alloc (.cells #[.int .i64 vk, .int .i64 vn, .string (bs vt), .slice nA nn nc, .slice kA kn kc] 25))
        go_wp2_with (first
          | refine wpList_get_box (x := .tmp 7) HK.out rfl rfl rfl hu rfl jT_size3 ?_
          | (refine wpList_put_box (x := .tmp 7) (cells := jvCells ⟨4, 0, [], none, 0, 0, some ⟨wr.heap.size, 0, none⟩, 1, 1⟩) HK2.out rfl rfl rfl rfl jT_size3 rfl (jvCells_one _) ?_; intro w5 hb5 hw5))
        go_roundw
        case rel =>
          have hgs := HK.out.lt
          have hbl : Below g wc w5 := hw5.below (HBE.out.alloc (by have := HBE.out.size; omega) (.cells #[.int .i64 vk, .int .i64 vn, .string (bs vt), .slice nA nn nc, .slice kA kn kc] 25)) (Nat.le_refl _) (by simp; omega)
          exact ⟨i + 1, _, HLT.out, by rw [HSO.out]; exact congrArg Value.string (bs_app (opn false i) [91]), by rw [HSE.out]; exact congrArg Value.string (bs_app (cls false i) [93]), by go_num, HNI.out.list hw5 hb5, hbl⟩
        case measure => have := HLT.out; simp [intOf]; omega
    · obtain rfl : i = M := by omega
      obtain ⟨so, hso⟩ : ∃ s, s = bs (opn b i) := ⟨_, rfl⟩
      obtain ⟨se, hse⟩ : ∃ s, s = bs (cls b i) := ⟨_, rfl⟩
      have hs1 : (so.size : Int) ≤ 100 := by rw [hso, bs_size]; have := opn_len b i; have := HM0.out; omega
      have hs2 : (se.size : Int) ≤ 20 := by rw [hse, bs_size]; have := cls_len b i; have := HM0.out; omega
      have hs3 : ¬ 9223372036854775807 < so.size + 4 := by omega
      have hs4 : ¬ 9223372036854775807 < so.size + 4 + se.size := by omega
      have hde : so ++ ⟨#[110, 117, 108, 108]⟩ ++ se = bs (deepT b i) := by
        rw [hso, hse, show (⟨#[110, 117, 108, 108]⟩ : ByteArray) = bs [110, 117, 108, 108] from rfl, bs_app, bs_app]
        rfl
      have HDE := Lib.hid hde
      have HEL := Lib.hid (show (deepT b i).length ≤ 1000 by
        have h1 := opn_len b i
        have h2 := cls_len b i
        have h3 := HM0.out
        unfold deepT
        rw [List.length_append, List.length_append]
        simp only [List.length_cons, List.length_nil]
        omega)
      rw [← hso, ← hse]
      clear hso hse hde
      have CR := Lib.hid (show Calls Try.prog 12 #[.string (so ++ ⟨#[110, 117, 108, 108]⟩ ++ se)] wr _ from by rw [HDE.out]; exact jread_any (bs (deepT b i)) wr)
      rw [show (bs (deepT b i)).data.toList = deepT b i from rfl] at CR
      go_wp2_with fail
      refine calls_then CR.out ?_
      rintro e w1 ⟨vx, rfl, hb1, hj1, hz1⟩
      have HBR := Lib.hid (HBE.out.trans (hb1.mono (by have := HBE.out.size; have := HNI.out.1.lt; omega)))
      have HN1 := Lib.hid (HNI.out.below hb1)
      have HJ1 := Lib.hid hj1
      have HZ1 := Lib.hid hz1
      have HGL := Lib.hid (show g < wr.heap.size from HNI.out.1.lt)
      have HS1 := Lib.hid hb1.size
      have HB5 := Lib.hid (show Blk (w1.alloc (.cells #[.int .i64 0, .int .i64 0, .string ⟨#[]⟩, .slice none 0 0, .slice none 0 0] 25)) w1.heap.size 25 (jvCells zJV) from Blk.new _ _ _)
      clear hb1 hj1 hz1 CR
      go_upto_region 18 with (refine wpList_put_box (x := .tmp 9) (cells := jvCells vx) HB5.out rfl rfl rfl rfl jT_size3 rfl (jvCells_one _) ?_; intro w2 hb2 hw2)
      have hb5 := (Below.refl w1.heap.size w1).alloc (Nat.le_refl _) (.cells #[.int .i64 0, .int .i64 0, .string ⟨#[]⟩, .slice none 0 0, .slice none 0 0] 25)
      have hbl : Below w1.heap.size w1 w2 := hw2.below hb5 (Nat.le_refl _) (by simp)
      have HB2 := Lib.hid (HBR.out.trans (hbl.mono (by have := HGL.out; have := HS1.out; omega)))
      have HX2 := Lib.hid hb2
      have HN2 := Lib.hid (HN1.out.below hbl)
      have HBL2 := Lib.hid hbl
      clear hb5 hbl hb2 hw2 HB5
      have CW := Lib.hid (jwrite_any (nest b i) v w2.heap.size w2 (nest_small b i) (HN2.out.2.imp fun b hb _ => hb) (Nat.le_refl _) (by have := nest_write b ⟨i, by have := HM0.out; omega⟩; have h : (writeV (nest b i)).length ≤ 1000 := this; omega))
      go_wp2_with (refine wpList_get_box (x := .tmp 7) HN2.out.1 rfl rfl rfl hu rfl jT_size3 ?_)
      refine calls_then CW.out ?_
      rintro e w3 ⟨rfl, hb3⟩
      have HB3 := Lib.hid (HB2.out.trans (hb3.mono (by have := HN2.out.1.lt; omega)))
      have HX3 := Lib.hid (HX2.out.below hb3 HX2.out.lt)
      have HN3 := Lib.hid (HN2.out.below hb3)
      have HBL3 := Lib.hid hb3
      clear hb3 CW
      by_cases h6 : 6 < i
      · have h6' : (6 : Int) < (i : Int) := by omega
        have hd := deep_err (b := b) h6 (by have := HM0.out; omega)
        have hwr : wrE (nest b i) = ([], 1) := by rw [wrE, if_pos hd.2]
        have hvx : vx = zJV := HZ1.out 9 hd.1
        subst hvx
        rw [hd.1, hwr, show bs (([], 1) : Bs × Int).1 = (⟨#[]⟩ : ByteArray) from rfl]
        have CL := Lib.hid (lives_any w3)
        have c0 : w3.cell? ⟨w1.heap.size, 0, none⟩ = some (.int .i64 0) := HX3.out.cell 0
        clear hd hwr h6
        go_wp2_with fail
        refine calls_then CL.out ?_
        rintro e w4 ⟨rfl, hb4⟩
        have HB4 := Lib.hid (HB3.out.trans (hb4.mono (by have := HN3.out.1.lt; omega)))
        clear hb4
        go_wp2_with fail
        go_ret
        exact ⟨rfl, by rw [← HG.out]; exact HB4.out⟩
      · have h6' : ¬ (6 : Int) < (i : Int) := by omega
        have hd := deep_read (b := b) (n := i) (by omega)
        have hwr : wrE (nest b i) = (deepT b i, 0) := by rw [wrE, if_neg (by rw [hd.2.1]; decide), if_neg (by rw [hd.2.2.1]; omega), hd.2.2.1]
        have hj3 : JRep w3 (fun b => b < w3.heap.size) (nest b i) vx := (((HJ1.out _ hd.1).imp (S' := fun b => b < w1.heap.size) fun b hb _ => hb).heap fun b hb _ => HBL2.out.block b hb).heap (fun b hb hl => HBL3.out.block b hb) |>.imp fun b hb _ => hb
        have CS := Lib.hid (same_any (nest b i) vx v w3.heap.size w3 (nest_small b i) hj3 (HN3.out.2.imp fun b hb _ => hb) (Nat.le_refl _))
        rw [hd.1, hwr, show bs ((deepT b i, 0) : Bs × Int).1 = so ++ ⟨#[110, 117, 108, 108]⟩ ++ se from HDE.out.symm]
        clear hd hwr h6 hj3
        go_wp2_with (first
          | refine wpList_get_box (x := .tmp 9) HX3.out rfl rfl rfl hu rfl jT_size3 ?_
          | refine wpList_get_box (x := .tmp 7) HN3.out.1 rfl rfl rfl hu rfl jT_size3 ?_)
        refine calls_then CS.out ?_
        rintro e w4 ⟨rfl, hb4⟩
        have HB4 := Lib.hid (HB3.out.trans (hb4.mono (by have := HN3.out.1.lt; omega)))
        have HG4 := Lib.hid (show g ≤ w4.heap.size by have := HN3.out.1.lt; have := hb4.size; omega)
        have CL := Lib.hid (lives_any w4)
        clear hb4 CS
        go_wp2_with fail
        refine calls_then CL.out ?_
        rintro e w5 ⟨rfl, hb5⟩
        have HB5 := Lib.hid (HB4.out.trans (hb5.mono HG4.out))
        clear hb5
        go_wp2_with fail
        go_ret
        exact ⟨rfl, by rw [← HG.out]; exact HB5.out⟩
end Go.Proofs.Ytcfbnjaelniahaa.Js
/-
  Walk: the reference's Cut.
-/
namespace Go.Proofs.Ytcfbnjaelniahaa.Js
set_option linter.unusedSimpArgs false
set_option linter.unusedVariables false
open Go.RowKit

theorem bs_take (t : Bs) : (bs t).extract 0 50 = bs (t.take 50) := by
  apply ByteArray.ext
  simp [bs, ByteArray.data_extract]
/-- what Cut does, so deep -/
def CutP (d : Nat) : Prop := ∀ (j : JT) (v : JV) (B : Nat) (w : World), JRep w (fun b => b < B) j v → FitJ j → B ≤ w.heap.size →
  Calls Try.prog 7 #[.agg (jvCells v), .int .i64 (d : Int)] w fun x w' => ∃ v' : JV, x = .returned (.agg (jvCells v')) ∧ Below w.heap.size w w' ∧ JRep w' (fun b => w.heap.size ≤ b) (cutJ d j) v'
/-- so many kids of it -/
def cutK (d : Nat) (ks : List JT) (n : Nat) : List JT := if d = 0 then [] else (ks.take n).map (cutJ (d - 1))
theorem cutJ_eq (d : Nat) (k n : Int) (t : Bs) (ns : List Bs) (ks : List JT) : cutJ d (.mk k n t ns ks) = .mk k n (t.take 50) ((ns.take 5).map (·.take 50)) (cutK d ks 5) := by
  cases d <;> rfl
set_option maxRecDepth 100000 in
set_option maxHeartbeats 4000000 in
theorem cut_step (d : Nat) (hd9 : (d : Int) ≤ 100) (IH : ∀ d', d = d' + 1 → CutP d') : CutP d := by
  intro j v B w hj hfit hB
  have hu := Try.underlying25
  obtain ⟨ns, ks, kv, rfl, hn, hnc, hnr, hkn, hkc, hkv, hkr, hkids⟩ := hj.inv
  obtain ⟨vk, vn, vt, nA, nn, nc, kA, kn, kc⟩ := v
  dsimp only at *
  cases hfit with
  | mk _ _ _ _ _ hik hin hit hins hiks hint hifk =>
  obtain ⟨G, hG⟩ : ∃ G, G = w.heap.size := ⟨_, rfl⟩
  obtain ⟨W1, hW1⟩ : ∃ W1, W1 = ((w.alloc (.cells (jvCells ⟨vk, vn, vt, nA, nn, nc, kA, kn, kc⟩) 25)).alloc (.cells (jvCells zJV) 25)).alloc (.cells (jvCells ⟨vk, vn, vt, none, 0, 0, none, 0, 0⟩) 25) := ⟨_, rfl⟩
  have hb1 : Below w.heap.size w W1 := by rw [hW1]; exact (((Below.refl _ w).alloc (Nat.le_refl _) _).alloc (by simp) _).alloc (by simp; omega) _
  have HC := Lib.hid (show Cs w G ⟨vk, vn, vt, nA, nn, nc, kA, kn, kc⟩ ⟨vk, vn, vt, none, 0, 0, none, 0, 0⟩ none 0 [] none 0 [] W1 from by
    refine ⟨hG.symm, by rw [hG]; exact hb1, ?_, ?_, ?_, OwnR.nil _ _ _ _, [], rfl, OwnR.nil _ _ _ _, fun i hi _ => by simp at hi⟩
    · rw [hW1, hG]
      exact ((Blk.new _ _ _).alloc _).alloc _
    · have := (Blk.new (w.alloc (.cells (jvCells ⟨vk, vn, vt, nA, nn, nc, kA, kn, kc⟩) 25)) 25 (jvCells zJV)).alloc (.cells (jvCells ⟨vk, vn, vt, none, 0, 0, none, 0, 0⟩) 25)
      rw [hW1, hG]
      simpa using this
    · have := Blk.new ((w.alloc (.cells (jvCells ⟨vk, vn, vt, nA, nn, nc, kA, kn, kc⟩) 25)).alloc (.cells (jvCells zJV) 25)) 25 (jvCells ⟨vk, vn, vt, none, 0, 0, none, 0, 0⟩)
      rw [hW1, hG]
      simpa [Nat.add_assoc] using this)
  have HW1 := Lib.hid hW1
  have HN := Lib.hid hn
  have HK := Lib.hid hkn
  have HKV := Lib.hid hkv
  have HNR := Lib.hid (show Rd w B nA (rowsV sCell ns) from hnr.rd (fun _ _ h => h))
  have HKR := Lib.hid (show Rd w B kA (rowsV jvCells kv) from hkr.rd (fun _ _ h => h))
  have HKI := Lib.hid hkids
  have HIF := Lib.hid hifk
  have HIH := Lib.hid IH
  have HBB := Lib.hid hB
  have htl : (vt.length : Int) ≤ 9223372036854775807 := by unfold maxLen at hit; omega
  have hnl : (nn : Int) ≤ 9223372036854775807 := by unfold maxLen at hins; omega
  have hkl : (kn : Int) ≤ 9223372036854775807 := by unfold maxLen at hiks; omega
  have HNT := Lib.hid hint
  have hsz : ((bs vt).size : Int) = (vt.length : Int) := by rw [bs_size]
  have HSZ := Lib.hid hsz
  obtain ⟨W0, hW0⟩ : ∃ W0, W0 = (w.alloc (.cells (jvCells ⟨vk, vn, vt, nA, nn, nc, kA, kn, kc⟩) 25)).alloc (.cells (jvCells zJV) 25) := ⟨_, rfl⟩
  have hk0 : Blk W0 G 25 (jvCells ⟨vk, vn, vt, nA, nn, nc, kA, kn, kc⟩) := by rw [hW0, hG]; exact (Blk.new _ _ _).alloc _
  have a0 : W0.cell? ⟨G, 0, none⟩ = some (.int .i64 vk) := hk0.cell 0
  have a1 : W0.cell? ⟨G, 1, none⟩ = some (.int .i64 vn) := hk0.cell 1
  have a2 : W0.cell? ⟨G, 2, none⟩ = some (.string (bs vt)) := hk0.cell 2
  have HW0 := Lib.hid hW0
  have HWS := Lib.hid (show W0.heap.size = G + 2 by rw [hW0, hG]; simp)
  have HW01 := Lib.hid (show W1 = W0.alloc (.cells (jvCells ⟨vk, vn, vt, none, 0, 0, none, 0, 0⟩) 25) by rw [hW1, hW0])
  clear hW1 hb1 hj hnr hkr hkids hn hnc hkn hkc hkv hB hik hin hit hins hiks hint hifk IH hsz hW0 hk0
  rw [hG] at *
  clear hG
  go_enter Try.func7, Try.ntmps7
  go_upto_region 1 with (fail)
  rw [show ((w.alloc (.cells (jvCells ⟨vk, vn, vt, nA, nn, nc, kA, kn, kc⟩) 25)).alloc (.cells #[.int .i64 0, .int .i64 0, .string ⟨#[]⟩, .slice none 0 0, .slice none 0 0] 25)) = W0 from HW0.out.symm]
  generalize Value.agg (jvCells ⟨vk, vn, vt, nA, nn, nc, kA, kn, kc⟩) = AV
  have hws := HWS.out
  go_upto_region 2 with (fail)
  rw [show W0.alloc (.cells #[.int .i64 vk, .int .i64 vn, .string (bs vt), .slice none 0 0, .slice none 0 0] 25) = W1 from HW01.out.symm]
  clear hws a0 a1 a2 HW01 HW0 HW1
  have a2 : W1.cell? ⟨w.heap.size + 2, 2, none⟩ = some (.string (bs vt)) := HC.out.tree.cell 2
  have hsz := HSZ.out
  go_upto_if 19 with (fail)
  go_cut [] (fun wx => Cs w w.heap.size ⟨vk, vn, vt, nA, nn, nc, kA, kn, kc⟩ ⟨vk, vn, vt.take 50, none, 0, 0, none, 0, 0⟩ none 0 [] none 0 [] wx)
  case first =>
    by_cases hl : 50 < vt.length
    · have hl' : (50 : Int) < ((bs vt).size : Int) := by omega
      go_wp2_with (refine wpList_put_cell (x := .tmp 23) (i := 2) HC.out.tree rfl rfl rfl rfl (by kernel_rfl) (by simp [jvCells]) rfl ?_; intro w5 hb5 hw5)
      go_meet
      exact HC.out.put hw5 (by show Blk w5 _ _ #[.int .i64 vk, .int .i64 vn, .string (bs (vt.take 50)), .slice none 0 0, .slice none 0 0]; rw [← bs_take]; exact hb5)
    · have hl' : ¬ (50 : Int) < ((bs vt).size : Int) := by omega
      have HT := Lib.hid (show vt.take 50 = vt from List.take_of_length_le (by omega))
      go_wp2_with fail
      go_meet
      rw [HT.out]
      exact HC.out
  case rest =>
  have HC1 := Lib.hid hcut
  clear hcut a2 hsz
  have hlow : ∀ u, Below w.heap.size w u → True := fun _ _ => trivial
  clear hlow
  obtain ⟨mn, hmn⟩ : ∃ mn, mn = min nn 5 := ⟨_, rfl⟩
  have HMN := Lib.hid hmn
  clear hmn
  go_upto_block 0 with fail
  go_cut [6, 7] (fun _ _ wx => ∃ (A1 : Option Addr) (c1 : Nat), Cs w w.heap.size ⟨vk, vn, vt, nA, nn, nc, kA, kn, kc⟩ ⟨vk, vn, vt.take 50, A1, ((ns.take 5).map (·.take 50)).length, c1, none, 0, 0⟩ A1 c1 ((ns.take 5).map (·.take 50)) none 0 [] wx)
  case first =>
    go_wp2_with fail
    go_loopw [6, 7] (fun x _ wr => ∃ (i : Nat) (A1 : Option Addr) (c1 : Nat), i ≤ mn ∧ x = .int .i64 (i : Int) ∧
      Cs w w.heap.size ⟨vk, vn, vt, nA, nn, nc, kA, kn, kc⟩ ⟨vk, vn, vt.take 50, A1, ((ns.take i).map (·.take 50)).length, c1, none, 0, 0⟩ A1 c1 ((ns.take i).map (·.take 50)) none 0 [] wr) (fun x _ _ => mn - (intOf x).toNat)
    case atStart => exact ⟨0, none, 0, Nat.zero_le _, rfl, HC1.out⟩
    case round =>
      obtain ⟨i, A1, c1, hi, rfl, hcs⟩ := hrel
      have HCS := Lib.hid hcs
      clear hcs
      have a3 : wr.cell? ⟨w.heap.size, 3, none⟩ = some (.slice nA nn nc) := HCS.out.vbox.cell 3
      by_cases hlt : i < mn
      · have HLT := Lib.hid hlt
        have h1 : (i : Int) < (nn : Int) := by have := HMN.out; omega
        have h2 : (i : Int) < 5 := by have := HMN.out; omega
        have hil : i < ns.length := by rw [← HN.out]; omega
        obtain ⟨ad, hA, hadb, hcell⟩ := rd_rows (f := sCell) (m := 1) (fun _ => rfl) (by decide) HNR.out hil
        subst hA
        obtain ⟨X, hX⟩ : ∃ X, X = ns[i] := ⟨_, rfl⟩
        rw [← hX] at hcell
        have c1' : wr.cell? (ad.add i) = some (.string (bs X)) := by
          rw [(HCS.out.low.mono HBB.out).cell (p := ad.add i) (by rw [block_of_add]; exact hadb)]
          have h := hcell 0 _ rfl
          rw [Nat.mul_one] at h
          exact h
        have HXS := Lib.hid (show (ns.take (i + 1)).map (·.take 50) = (ns.take i).map (·.take 50) ++ [X.take 50] by rw [List.take_succ_eq_append_getElem hil, List.map_append, hX]; rfl)
        have HXL := Lib.hid (show ((bs X).size : Int) = (X.length : Int) by rw [bs_size])
        have hxm : ((bs X).size : Int) ≤ 9223372036854775807 := by rw [bs_size, hX]; have := HNT.out _ (List.getElem_mem hil); unfold maxLen at this; omega
        obtain ⟨N, hN⟩ : ∃ N, N = (ns.take i).map (·.take 50) := ⟨_, rfl⟩
        have HNL := Lib.hid (show N.length ≤ 5 by rw [hN]; simp; have := HMN.out; omega)
        rw [← hN] at HCS HXS
        clear hX hcell hil hlt hadb hN
        have hxl := HXL.out
        go_upto_if 42 with (fail)
        go_cut [7] (fun s wx => s = .string (bs (X.take 50)) ∧ wx = wr)
        case first =>
          by_cases hl : 50 < X.length
          · have hl' : (50 : Int) < ((bs X).size : Int) := by omega
            go_wp2_with fail
            go_meet
            exact ⟨by rw [← bs_take], rfl⟩
          · have hl' : ¬ (50 : Int) < ((bs X).size : Int) := by omega
            have HT := Lib.hid (show X.take 50 = X from List.take_of_length_le (by omega))
            go_wp2_with fail
            go_meet
            exact ⟨by rw [HT.out], rfl⟩
        case rest =>
        obtain ⟨rfl, rfl⟩ := hcut
        have b3 : wc.cell? ⟨w.heap.size + 2, 3, none⟩ = some (.slice A1 N.length c1) := HCS.out.tree.cell 3
        have hNL : (N.length : Int) ≤ 5 := by have := HNL.out; omega
        clear a3 c1' hxl h1
        go_upto_region 6 with (first
          | (refine wpList_append_r1 (ys := [.string (bs (X.take 50))]) sl_strz rfl rfl HCS.out.names rfl rfl rfl rfl (by simp [Value.oneCell']) (by unfold maxLen; omega) (by omega) HCS.out.size ?_; intro A5 c5 w5 hown5 hgr5 hn5; have HC5 := Lib.hid (HCS.out.name hown5 hgr5 hn5))
          | (refine wpList_put_cell (x := .tmp 50) (i := 3) HC5.out.tree rfl rfl rfl rfl (by kernel_rfl) (by simp [jvCells]) rfl ?_; intro w6 hb6 hw6))
        have HC6 := Lib.hid (HC5.out.put (T' := ⟨vk, vn, vt.take 50, A5, (N ++ [X.take 50]).length, c5, none, 0, 0⟩) hw6 (by rw [List.length_append]; exact hb6))
        clear hown5 hgr5 hn5 hb6 hw6 b3
        go_wp2_with fail
        go_roundw
        case rel => exact ⟨i + 1, A5, c5, HLT.out, by go_num, by rw [HXS.out]; exact HC6.out⟩
        case measure => have := HLT.out; simp [intOf]; omega
      · obtain rfl : i = mn := by omega
        have hor : ¬ ((i : Int) < (nn : Int)) ∨ ((i : Int) < (nn : Int) ∧ ¬ (i : Int) < 5) := by have := HMN.out; omega
        have HNS := Lib.hid (show (ns.take i).map (·.take 50) = (ns.take 5).map (·.take 50) by
          have h1 := HMN.out
          have h2 := HN.out
          by_cases h5 : nn ≤ 5
          · have e1 : i = ns.length := by omega
            rw [e1, List.take_of_length_le (Nat.le_refl _), List.take_of_length_le (by omega)]
          · have e1 : i = 5 := by omega
            rw [e1])
        rw [HNS.out] at HCS
        obtain ⟨N, hN⟩ : ∃ N, N = (ns.take 5).map (·.take 50) := ⟨_, rfl⟩
        rw [← hN] at HCS
        have HNE := Lib.hid hN
        clear hN
        rcases hor with hor | ⟨hor, hor2⟩
        · go_wp2_with fail
          go_meet
          exact ⟨A1, c1, by rw [← HNE.out]; exact HCS.out⟩
        · go_wp2_with fail
          go_meet
          exact ⟨A1, c1, by rw [← HNE.out]; exact HCS.out⟩
  case rest =>
  obtain ⟨A1, c1, hcs⟩ := hcut
  have HCS := Lib.hid hcs
  clear hcs
  obtain ⟨N, hN⟩ : ∃ N, N = (ns.take 5).map (·.take 50) := ⟨_, rfl⟩
  rw [← hN] at HCS
  have HNE := Lib.hid hN
  obtain ⟨T, hT⟩ : ∃ T, T = vt.take 50 := ⟨_, rfl⟩
  rw [← hT] at HCS
  have HTE := Lib.hid hT
  clear hN hT htl hnl
  obtain ⟨mk, hmk⟩ : ∃ mk, mk = if d = 0 then 0 else min kn 5 := ⟨_, rfl⟩
  have HMK := Lib.hid hmk
  have HMK5 := Lib.hid (show mk ≤ 5 by rw [hmk]; split <;> omega)
  clear hmk
  go_wp2_with fail
  go_loopw [8] (fun x wr => ∃ (i : Nat) (A2 : Option Addr) (c2 : Nat), i ≤ mk ∧ x = .int .i64 (i : Int) ∧
    Cs w w.heap.size ⟨vk, vn, vt, nA, nn, nc, kA, kn, kc⟩ ⟨vk, vn, T, A1, N.length, c1, A2, (cutK d ks i).length, c2⟩ A1 c1 N A2 c2 (cutK d ks i) wr) (fun x _ => mk - (intOf x).toNat)
  case atStart => exact ⟨0, none, 0, Nat.zero_le _, rfl, by rw [show cutK d ks 0 = [] by unfold cutK; split <;> simp]; exact HCS.out⟩
  case round =>
    obtain ⟨i, A2, c2, hi, rfl, hcs⟩ := hrel
    have HCS := Lib.hid hcs
    clear hcs
    have a4 : wr.cell? ⟨w.heap.size, 4, none⟩ = some (.slice kA kn kc) := HCS.out.vbox.cell 4
    by_cases hlt : i < mk
    · have HLT := Lib.hid hlt
      have hd0 : d ≠ 0 := fun h => by have := HMK.out; rw [if_pos h] at this; omega
      have hmk : mk = min kn 5 := by have := HMK.out; rw [if_neg hd0] at this; exact this
      have h1 : (i : Int) < (kn : Int) := by omega
      have h2 : (i : Int) < 5 := by omega
      have h3 : (0 : Int) < (d : Int) := by omega
      have h3n : 0 < d := by omega
      obtain ⟨d', hd'⟩ : ∃ d', d = d' + 1 := ⟨d - 1, by omega⟩
      have hdi : (d : Int) - 1 = (d' : Int) := by omega
      have hil : i < ks.length := by rw [← HK.out]; omega
      have HPD := Lib.hid (HIH.out d' hd')
      have HKS := Lib.hid (show cutK d ks (i + 1) = cutK d ks i ++ [cutJ d' ks[i]] by
        unfold cutK
        rw [if_neg hd0, if_neg hd0, List.take_succ_eq_append_getElem hil, List.map_append, show d - 1 = d' by omega]
        rfl)
      have HKL := Lib.hid (show (cutK d ks i).length ≤ 5 by unfold cutK; rw [if_neg hd0]; simp; omega)
      obtain ⟨ad, hA, hadb, hcell⟩ := rd_rows (f := jvCells) (m := 5) (fun _ => rfl) (by decide) HKR.out (show i < kv.length by rw [HKV.out]; exact hil)
      subst hA
      obtain ⟨X, hX⟩ : ∃ X, X = kv[i]'(by rw [HKV.out]; exact hil) := ⟨_, rfl⟩
      obtain ⟨Y, hY⟩ : ∃ Y, Y = ks[i] := ⟨_, rfl⟩
      rw [← hX] at hcell
      rw [← hY] at HKS
      have HRX := Lib.hid (show JRep w (fun b => b < B) Y X by rw [hX, hY]; exact HKI.out i hil (by rw [HKV.out]; exact hil))
      have HFX := Lib.hid (show FitJ Y by rw [hY]; exact HIF.out _ (List.getElem_mem hil))
      have HCE := Lib.hid (show ∀ u, Below w.heap.size w u → ∀ j x, (jvCells X).toList[j]? = some x → u.cell? ((ad.add (i * 5)).add j) = some x from fun u hu j x hx => by
        rw [(hu.mono HBB.out).cell (p := (ad.add (i * 5)).add j) (by rw [block_of_add, block_of_add]; exact hadb)]
        exact hcell j x (by simpa using hx))
      obtain ⟨K, hK⟩ : ∃ K, K = cutK d ks i := ⟨_, rfl⟩
      rw [← hK] at HCS HKS HKL
      have CV := Lib.hid (fun (u : World) (h : Cs w w.heap.size ⟨vk, vn, vt, nA, nn, nc, some ad, kn, kc⟩ ⟨vk, vn, T, A1, N.length, c1, A2, K.length, c2⟩ A1 c1 N A2 c2 K u) =>
        show Calls Try.prog 7 #[.agg (jvCells X), .int .i64 (d' : Int)] u fun x w' => ∃ v : JV, x = .returned (.agg (jvCells v)) ∧
          Cs w w.heap.size ⟨vk, vn, vt, nA, nn, nc, some ad, kn, kc⟩ ⟨vk, vn, T, A1, N.length, c1, A2, K.length, c2⟩ A1 c1 N A2 c2 K w' ∧ JRep w' (KS w.heap.size (.slice A1 N.length c1) (.slice A2 K.length c2)) (cutJ d' Y) v ∧ Below u.heap.size u w' from by
            refine (HPD.out Y X B u (HRX.out.under (h.low.mono HBB.out)) HFX.out (Nat.le_trans HBB.out h.low.size)).mono ?_
            rintro x w' ⟨v, rfl, hb, hj⟩
            exact ⟨v, rfl, h.new hb, h.fresh hj, hb⟩)
      have HMKI := Lib.hid hmk
      have hkl5 : (K.length : Int) ≤ 5 := by have := HKL.out; omega
      clear hX hY hcell hil hlt hadb hK hmk hd0 hd'
      go_wp2_with fail
      have HI0 : wr.drew.cell? ⟨w.heap.size + 2, 4, none⟩ = some (.slice A2 K.length c2) ∧ wr.drew.cell? ⟨w.heap.size, 4, none⟩ = some (.slice (some ad) kn kc) ∧ Below w.heap.size w wr.drew := ⟨HCS.out.tree.cell 4, HCS.out.vbox.cell 4, HCS.out.low.drew⟩
      have HJ0 : Cs w w.heap.size ⟨vk, vn, vt, nA, nn, nc, some ad, kn, kc⟩ ⟨vk, vn, T, A1, N.length, c1, A2, K.length, c2⟩ A1 c1 N A2 c2 K wr.drew := HCS.out.drew
      clear a4
      refine wp_region_list (fun _ => True) (fun | false => (fun u => u.cell? ⟨w.heap.size + 2, 4, none⟩ = some (.slice A2 K.length c2) ∧ u.cell? ⟨w.heap.size, 4, none⟩ = some (.slice (some ad) kn kc) ∧ Below w.heap.size w u) | true => (fun u => Cs w w.heap.size ⟨vk, vn, vt, nA, nn, nc, some ad, kn, kc⟩ ⟨vk, vn, T, A1, N.length, c1, A2, K.length, c2⟩ A1 c1 N A2 c2 K u)) (fun | false, i => i == 13 | true, i => i == 9 || i == 10 || i == 11 || i == 13)
        [fun z _ => z 0 = .pointer (some ⟨w.heap.size + 2, 4, none⟩),
         fun z _ => z 1 = .slice A2 K.length c2,
         fun z _ => z 2 = .pointer (some ⟨w.heap.size, 4, none⟩),
         fun z _ => z 3 = .slice (some ad) kn kc,
         fun z _ => z 4 = .int .i64 (i : Int),
         fun z _ => z 5 = .pointer (some (ad.add (i * 5))),
         fun z _ => z 6 = .agg (jvCells X),
         fun z _ => z 7 = .int .i64 (d : Int),
         fun z _ => z 8 = .int .i64 (d' : Int),
         fun z u => ∃ v : JV, z 9 = .agg (jvCells v) ∧ Cs w w.heap.size ⟨vk, vn, vt, nA, nn, nc, some ad, kn, kc⟩ ⟨vk, vn, T, A1, N.length, c1, A2, K.length, c2⟩ A1 c1 N A2 c2 K u ∧ JRep u (KS w.heap.size (.slice A1 N.length c1) (.slice A2 K.length c2)) (cutJ d' Y) v,
         fun z u => ∃ (v : JV) (g : Nat), z 10 = .slice (some ⟨g, 0, none⟩) 1 1 ∧ Blk u g 25 (jvCells v) ∧ Cs w w.heap.size ⟨vk, vn, vt, nA, nn, nc, some ad, kn, kc⟩ ⟨vk, vn, T, A1, N.length, c1, A2, K.length, c2⟩ A1 c1 N A2 c2 K u ∧ JRep u (KS w.heap.size (.slice A1 N.length c1) (.slice A2 K.length c2)) (cutJ d' Y) v,
         fun z u => ∃ (A' : Option Addr) (c' : Nat), z 11 = .slice A' (K.length + 1) c' ∧ Cs w w.heap.size ⟨vk, vn, vt, nA, nn, nc, some ad, kn, kc⟩ ⟨vk, vn, T, A1, N.length, c1, A2, K.length, c2⟩ A1 c1 N A' c' (K ++ [cutJ d' Y]) u,
         fun z _ => z 12 = .pointer (some ⟨w.heap.size + 2, 4, none⟩),
         fun z u => ∃ (A' : Option Addr) (c' : Nat), Cs w w.heap.size ⟨vk, vn, vt, nA, nn, nc, some ad, kn, kc⟩ ⟨vk, vn, T, A1, N.length, c1, A', (K ++ [cutJ d' Y]).length, c'⟩ A1 c1 N A' c' (K ++ [cutJ d' Y]) u]
        [Eq, Eq, Eq, Eq, Eq, Eq, Eq, Eq, Eq, fun u u' => Below u.heap.size u u', fun u u' => Below u.heap.size u u', fun u u' => ∃ g : Option Nat, u.grownBy u' g ∧ ∀ k, g = some k → w.heap.size + 3 ≤ k, Eq, fun _ _ => True]
        (fun i k => (i == 10 && k == 9) || (i == 11 && k == 9) || (i == 11 && k == 10) || (i == 13 && k == 9) || (i == 13 && k == 10) || (i == 13 && k == 11)) [(0, some 66), (1, some 67), (2, some 68), (3, some 69), (4, some 70), (5, some 71), (6, some 72), (7, some 73), (8, some 74), (9, some 75), (10, some 76), (11, some 77), (12, some 78), (13, none)] (by kernel_rfl) (by kernel_rfl) rfl (fun _ => rfl) ?_ ?_ ?_ ?_ ?_ ?_
      · exact (by first | trivial | assumption)
      · intro m; cases m; exact HI0; exact HJ0
      · intro m; cases m
        · exact ⟨.inr (fun _ _ h h0 => h ▸ h0), .inr (fun _ _ h h0 => h ▸ h0), .inr (fun _ _ h h0 => h ▸ h0), .inr (fun _ _ h h0 => h ▸ h0), .inr (fun _ _ h h0 => h ▸ h0), .inr (fun _ _ h h0 => h ▸ h0), .inr (fun _ _ h h0 => h ▸ h0), .inr (fun _ _ h h0 => h ▸ h0), .inr (fun _ _ h h0 => h ▸ h0), .inr (fun _ _ h h0 => ⟨(grown_of_below h none).cell h0.1 (by simp), (grown_of_below h none).cell h0.2.1 (by simp), h0.2.2.trans (h.mono h0.2.2.size)⟩), .inr (fun _ _ h h0 => ⟨(grown_of_below h none).cell h0.1 (by simp), (grown_of_below h none).cell h0.2.1 (by simp), h0.2.2.trans (h.mono h0.2.2.size)⟩), .inr (fun _ _ h h0 => by obtain ⟨g, hg, hk⟩ := h; exact ⟨hg.cell h0.1 (by intro e; have : w.heap.size + 3 ≤ w.heap.size + 2 := hk _ e.symm; omega), hg.cell h0.2.1 (by intro e; have : w.heap.size + 3 ≤ w.heap.size := hk _ e.symm; omega), h0.2.2.grown hg h0.2.2.size (fun k hk' => by have := hk k hk'; omega)⟩), .inr (fun _ _ h h0 => h ▸ h0), .inl rfl, trivial⟩
        · exact ⟨.inr (fun _ _ h h0 => h ▸ h0), .inr (fun _ _ h h0 => h ▸ h0), .inr (fun _ _ h h0 => h ▸ h0), .inr (fun _ _ h h0 => h ▸ h0), .inr (fun _ _ h h0 => h ▸ h0), .inr (fun _ _ h h0 => h ▸ h0), .inr (fun _ _ h h0 => h ▸ h0), .inr (fun _ _ h h0 => h ▸ h0), .inr (fun _ _ h h0 => h ▸ h0), .inl rfl, .inl rfl, .inl rfl, .inr (fun _ _ h h0 => h ▸ h0), .inl rfl, trivial⟩
      · exact ⟨⟨.inl rfl, .inr (.inr (.inl rfl)), .inr (.inr (.inr (fun _ _ _ _ _ h => h))), .inr (.inr (.inr (fun _ _ _ _ _ h => h))), .inr (.inr (.inr (fun _ _ _ _ _ h => h))), .inr (.inr (.inr (fun _ _ _ _ _ h => h))), .inr (.inr (.inr (fun _ _ _ _ _ h => h))), .inr (.inr (.inr (fun _ _ _ _ _ h => h))), .inr (.inr (.inr (fun _ _ _ _ _ h => h))), .inr (.inr (.inr (fun _ _ _ _ h h0 => by cases h; exact h0))), .inr (.inr (.inr (fun _ _ _ _ h h0 => by cases h; exact h0))), .inr (.inr (.inl rfl)), .inr (.inr (.inl rfl)), .inr (.inr (.inl rfl)), trivial⟩,
          ⟨.inr (.inr (.inr (fun _ _ _ _ _ h => h))), .inl rfl, .inr (.inr (.inr (fun _ _ _ _ _ h => h))), .inr (.inr (.inr (fun _ _ _ _ _ h => h))), .inr (.inr (.inr (fun _ _ _ _ _ h => h))), .inr (.inr (.inr (fun _ _ _ _ _ h => h))), .inr (.inr (.inr (fun _ _ _ _ _ h => h))), .inr (.inr (.inr (fun _ _ _ _ _ h => h))), .inr (.inr (.inr (fun _ _ _ _ _ h => h))), .inr (.inr (.inr (fun _ _ _ _ h h0 => by cases h; exact h0))), .inr (.inr (.inr (fun _ _ _ _ h h0 => by cases h; exact h0))), .inr (.inr (.inl rfl)), .inr (.inr (.inl rfl)), .inr (.inr (.inl rfl)), trivial⟩,
          ⟨.inr (.inr (.inr (fun _ _ _ _ _ h => h))), .inr (.inr (.inr (fun _ _ _ _ _ h => h))), .inl rfl, .inr (.inr (.inl rfl)), .inr (.inr (.inr (fun _ _ _ _ _ h => h))), .inr (.inr (.inl rfl)), .inr (.inr (.inl rfl)), .inr (.inr (.inr (fun _ _ _ _ _ h => h))), .inr (.inr (.inr (fun _ _ _ _ _ h => h))), .inr (.inr (.inr (fun _ _ _ _ h h0 => by cases h; exact h0))), .inr (.inr (.inr (fun _ _ _ _ h h0 => by cases h; exact h0))), .inr (.inr (.inr (fun _ _ _ _ h h0 => by cases h; exact h0))), .inr (.inr (.inl rfl)), .inr (.inr (.inl rfl)), trivial⟩,
          ⟨.inr (.inr (.inr (fun _ _ _ _ _ h => h))), .inr (.inr (.inr (fun _ _ _ _ _ h => h))), .inr (.inr (.inr (fun _ _ _ _ _ h => h))), .inl rfl, .inr (.inr (.inr (fun _ _ _ _ _ h => h))), .inr (.inr (.inl rfl)), .inr (.inr (.inl rfl)), .inr (.inr (.inr (fun _ _ _ _ _ h => h))), .inr (.inr (.inr (fun _ _ _ _ _ h => h))), .inr (.inr (.inl rfl)), .inr (.inr (.inr (fun _ _ _ _ h h0 => by cases h; exact h0))), .inr (.inr (.inr (fun _ _ _ _ h h0 => by cases h; exact h0))), .inr (.inr (.inl rfl)), .inr (.inr (.inl rfl)), trivial⟩,
          ⟨.inr (.inr (.inr (fun _ _ _ _ _ h => h))), .inr (.inr (.inr (fun _ _ _ _ _ h => h))), .inr (.inr (.inr (fun _ _ _ _ _ h => h))), .inr (.inr (.inr (fun _ _ _ _ _ h => h))), .inl rfl, .inr (.inr (.inl rfl)), .inr (.inr (.inl rfl)), .inr (.inr (.inr (fun _ _ _ _ _ h => h))), .inr (.inr (.inr (fun _ _ _ _ _ h => h))), .inr (.inr (.inl rfl)), .inr (.inr (.inr (fun _ _ _ _ h h0 => by cases h; exact h0))), .inr (.inr (.inr (fun _ _ _ _ h h0 => by cases h; exact h0))), .inr (.inr (.inl rfl)), .inr (.inr (.inl rfl)), trivial⟩,
          ⟨.inr (.inr (.inr (fun _ _ _ _ _ h => h))), .inr (.inr (.inr (fun _ _ _ _ _ h => h))), .inr (.inr (.inr (fun _ _ _ _ _ h => h))), .inr (.inr (.inr (fun _ _ _ _ _ h => h))), .inr (.inr (.inr (fun _ _ _ _ _ h => h))), .inl rfl, .inr (.inr (.inl rfl)), .inr (.inr (.inr (fun _ _ _ _ _ h => h))), .inr (.inr (.inr (fun _ _ _ _ _ h => h))), .inr (.inr (.inl rfl)), .inr (.inr (.inl rfl)), .inr (.inr (.inl rfl)), .inr (.inr (.inl rfl)), .inr (.inr (.inl rfl)), trivial⟩,
          ⟨.inr (.inr (.inr (fun _ _ _ _ _ h => h))), .inr (.inr (.inr (fun _ _ _ _ _ h => h))), .inr (.inr (.inr (fun _ _ _ _ _ h => h))), .inr (.inr (.inr (fun _ _ _ _ _ h => h))), .inr (.inr (.inr (fun _ _ _ _ _ h => h))), .inr (.inr (.inr (fun _ _ _ _ _ h => h))), .inl rfl, .inr (.inr (.inr (fun _ _ _ _ _ h => h))), .inr (.inr (.inr (fun _ _ _ _ _ h => h))), .inr (.inr (.inl rfl)), .inr (.inr (.inl rfl)), .inr (.inr (.inl rfl)), .inr (.inr (.inl rfl)), .inr (.inr (.inl rfl)), trivial⟩,
          ⟨.inr (.inr (.inr (fun _ _ _ _ _ h => h))), .inr (.inr (.inr (fun _ _ _ _ _ h => h))), .inr (.inr (.inr (fun _ _ _ _ _ h => h))), .inr (.inr (.inr (fun _ _ _ _ _ h => h))), .inr (.inr (.inr (fun _ _ _ _ _ h => h))), .inr (.inr (.inr (fun _ _ _ _ _ h => h))), .inr (.inr (.inr (fun _ _ _ _ _ h => h))), .inl rfl, .inr (.inr (.inl rfl)), .inr (.inr (.inl rfl)), .inr (.inr (.inl rfl)), .inr (.inr (.inl rfl)), .inr (.inr (.inl rfl)), .inr (.inr (.inl rfl)), trivial⟩,
          ⟨.inr (.inr (.inr (fun _ _ _ _ _ h => h))), .inr (.inr (.inr (fun _ _ _ _ _ h => h))), .inr (.inr (.inr (fun _ _ _ _ _ h => h))), .inr (.inr (.inr (fun _ _ _ _ _ h => h))), .inr (.inr (.inr (fun _ _ _ _ _ h => h))), .inr (.inr (.inr (fun _ _ _ _ _ h => h))), .inr (.inr (.inr (fun _ _ _ _ _ h => h))), .inr (.inr (.inr (fun _ _ _ _ _ h => h))), .inl rfl, .inr (.inr (.inl rfl)), .inr (.inr (.inl rfl)), .inr (.inr (.inl rfl)), .inr (.inr (.inl rfl)), .inr (.inr (.inl rfl)), trivial⟩,
          ⟨.inr (.inr (.inr (fun _ _ _ _ _ h => h))), .inr (.inr (.inr (fun _ _ _ _ _ h => h))), .inr (.inr (.inr (fun _ _ _ _ _ h => h))), .inr (.inr (.inr (fun _ _ _ _ _ h => h))), .inr (.inr (.inr (fun _ _ _ _ _ h => h))), .inr (.inr (.inr (fun _ _ _ _ _ h => h))), .inr (.inr (.inr (fun _ _ _ _ _ h => h))), .inr (.inr (.inr (fun _ _ _ _ _ h => h))), .inr (.inr (.inr (fun _ _ _ _ _ h => h))), .inl rfl, .inr (.inr (.inl rfl)), .inr (.inr (.inl rfl)), .inr (.inr (.inl rfl)), .inr (.inr (.inl rfl)), trivial⟩,
          ⟨.inr (.inr (.inr (fun _ _ _ _ _ h => h))), .inr (.inr (.inr (fun _ _ _ _ _ h => h))), .inr (.inr (.inr (fun _ _ _ _ _ h => h))), .inr (.inr (.inr (fun _ _ _ _ _ h => h))), .inr (.inr (.inr (fun _ _ _ _ _ h => h))), .inr (.inr (.inr (fun _ _ _ _ _ h => h))), .inr (.inr (.inr (fun _ _ _ _ _ h => h))), .inr (.inr (.inr (fun _ _ _ _ _ h => h))), .inr (.inr (.inr (fun _ _ _ _ _ h => h))), .inr (.inl rfl), .inl rfl, .inr (.inr (.inl rfl)), .inr (.inr (.inl rfl)), .inr (.inr (.inl rfl)), trivial⟩,
          ⟨.inr (.inr (.inr (fun _ _ _ _ _ h => h))), .inr (.inr (.inr (fun _ _ _ _ _ h => h))), .inr (.inr (.inr (fun _ _ _ _ _ h => h))), .inr (.inr (.inr (fun _ _ _ _ _ h => h))), .inr (.inr (.inr (fun _ _ _ _ _ h => h))), .inr (.inr (.inr (fun _ _ _ _ _ h => h))), .inr (.inr (.inr (fun _ _ _ _ _ h => h))), .inr (.inr (.inr (fun _ _ _ _ _ h => h))), .inr (.inr (.inr (fun _ _ _ _ _ h => h))), .inr (.inl rfl), .inr (.inl rfl), .inl rfl, .inr (.inr (.inl rfl)), .inr (.inr (.inl rfl)), trivial⟩,
          ⟨.inr (.inr (.inr (fun _ _ _ _ _ h => h))), .inr (.inr (.inr (fun _ _ _ _ _ h => h))), .inr (.inr (.inr (fun _ _ _ _ _ h => h))), .inr (.inr (.inr (fun _ _ _ _ _ h => h))), .inr (.inr (.inr (fun _ _ _ _ _ h => h))), .inr (.inr (.inr (fun _ _ _ _ _ h => h))), .inr (.inr (.inr (fun _ _ _ _ _ h => h))), .inr (.inr (.inr (fun _ _ _ _ _ h => h))), .inr (.inr (.inr (fun _ _ _ _ _ h => h))), .inr (.inr (.inr (fun _ _ _ _ h h0 => by cases h; exact h0))), .inr (.inr (.inr (fun _ _ _ _ h h0 => by cases h; exact h0))), .inr (.inr (.inr (fun _ _ _ _ h h0 => by cases h; exact h0))), .inl rfl, .inr (.inr (.inl rfl)), trivial⟩,
          ⟨.inr (.inr (.inr (fun _ _ _ _ _ h => h))), .inr (.inr (.inr (fun _ _ _ _ _ h => h))), .inr (.inr (.inr (fun _ _ _ _ _ h => h))), .inr (.inr (.inr (fun _ _ _ _ _ h => h))), .inr (.inr (.inr (fun _ _ _ _ _ h => h))), .inr (.inr (.inr (fun _ _ _ _ _ h => h))), .inr (.inr (.inr (fun _ _ _ _ _ h => h))), .inr (.inr (.inr (fun _ _ _ _ _ h => h))), .inr (.inr (.inr (fun _ _ _ _ _ h => h))), .inr (.inl rfl), .inr (.inl rfl), .inr (.inl rfl), .inr (.inr (.inr (fun _ _ _ _ _ h => h))), .inl rfl, trivial⟩, trivial⟩
      · refine ⟨?_, ?_, ?_, ?_, ?_, ?_, ?_, ?_, ?_, ?_, ?_, ?_, ?_, ?_, trivial⟩
        · -- 0: Op.fieldAddr 25 (Operand.tmp 5) 4
          refine step_plain [] (fun _ => rfl) rfl ?_
          intro w1 vals hC1 hi0 hf E hE
          have hI1 : (fun u => u.cell? ⟨w.heap.size + 2, 4, none⟩ = some (.slice A2 K.length c2) ∧ u.cell? ⟨w.heap.size, 4, none⟩ = some (.slice (some ad) kn kc) ∧ Below w.heap.size w u) w1 := hi0 false rfl
          try dsimp only at hI1
          clear hi0
          clear hf
          simp only [puts, act_put, act_put_none, List.setIfInBounds_toArray, List.set_cons_zero, List.set_cons_succ] at hE ⊢
          go_wp2
          exact .mk (hE _ _ rfl hC1 rfl)
        · -- 1: Op.load 23 (Operand.tmp 66)
          refine step_plain [(0, some 66)] (fun _ => rfl) rfl ?_
          intro w1 vals hC1 hi0 hf E hE
          have hI1 : (fun u => u.cell? ⟨w.heap.size + 2, 4, none⟩ = some (.slice A2 K.length c2) ∧ u.cell? ⟨w.heap.size, 4, none⟩ = some (.slice (some ad) kn kc) ∧ Below w.heap.size w u) w1 := hi0 false rfl
          try dsimp only at hI1
          clear hi0
          have f0 : vals 0 = .pointer (some ⟨w.heap.size + 2, 4, none⟩) := hf 0 rfl
          try dsimp only at f0
          clear hf
          obtain ⟨d1, d0, d2⟩ := hI1
          have D2 := Lib.hid d2
          clear d2
          simp only [puts, act_put, act_put_none, List.setIfInBounds_toArray, List.set_cons_zero, List.set_cons_succ, f0] at hE ⊢
          clear f0
          go_wp2
          exact .mk (hE _ _ rfl hC1 rfl)
        · -- 2: Op.fieldAddr 25 (Operand.tmp 2) 4
          refine step_plain [] (fun _ => rfl) rfl ?_
          intro w1 vals hC1 hi0 hf E hE
          have hI1 : (fun u => u.cell? ⟨w.heap.size + 2, 4, none⟩ = some (.slice A2 K.length c2) ∧ u.cell? ⟨w.heap.size, 4, none⟩ = some (.slice (some ad) kn kc) ∧ Below w.heap.size w u) w1 := hi0 false rfl
          try dsimp only at hI1
          clear hi0
          clear hf
          simp only [puts, act_put, act_put_none, List.setIfInBounds_toArray, List.set_cons_zero, List.set_cons_succ] at hE ⊢
          go_wp2
          exact .mk (hE _ _ rfl hC1 rfl)
        · -- 3: Op.load 23 (Operand.tmp 68)
          refine step_plain [(2, some 68)] (fun _ => rfl) rfl ?_
          intro w1 vals hC1 hi0 hf E hE
          have hI1 : (fun u => u.cell? ⟨w.heap.size + 2, 4, none⟩ = some (.slice A2 K.length c2) ∧ u.cell? ⟨w.heap.size, 4, none⟩ = some (.slice (some ad) kn kc) ∧ Below w.heap.size w u) w1 := hi0 false rfl
          try dsimp only at hI1
          clear hi0
          have f2 : vals 2 = .pointer (some ⟨w.heap.size, 4, none⟩) := hf 2 rfl
          try dsimp only at f2
          clear hf
          obtain ⟨d1, d0, d2⟩ := hI1
          have D2 := Lib.hid d2
          clear d2
          simp only [puts, act_put, act_put_none, List.setIfInBounds_toArray, List.set_cons_zero, List.set_cons_succ, f2] at hE ⊢
          clear f2
          go_wp2
          exact .mk (hE _ _ rfl hC1 rfl)
        · -- 4: Op.move (Operand.tmp 8)
          refine step_plain [] (fun _ => rfl) rfl ?_
          intro w1 vals hC1 hi0 hf E hE
          have hI1 : (fun u => u.cell? ⟨w.heap.size + 2, 4, none⟩ = some (.slice A2 K.length c2) ∧ u.cell? ⟨w.heap.size, 4, none⟩ = some (.slice (some ad) kn kc) ∧ Below w.heap.size w u) w1 := hi0 false rfl
          try dsimp only at hI1
          clear hi0
          clear hf
          simp only [puts, act_put, act_put_none, List.setIfInBounds_toArray, List.set_cons_zero, List.set_cons_succ] at hE ⊢
          go_wp2
          exact .mk (hE _ _ rfl hC1 rfl)
        · -- 5: Op.indexAddr 23 (Operand.tmp 69) (Operand.tmp 70)
          refine step_plain [(3, some 69), (4, some 70)] (fun _ => rfl) rfl ?_
          intro w1 vals hC1 hi0 hf E hE
          have hI1 : (fun u => u.cell? ⟨w.heap.size + 2, 4, none⟩ = some (.slice A2 K.length c2) ∧ u.cell? ⟨w.heap.size, 4, none⟩ = some (.slice (some ad) kn kc) ∧ Below w.heap.size w u) w1 := hi0 false rfl
          try dsimp only at hI1
          have hJ1 : (fun u => Cs w w.heap.size ⟨vk, vn, vt, nA, nn, nc, some ad, kn, kc⟩ ⟨vk, vn, T, A1, N.length, c1, A2, K.length, c2⟩ A1 c1 N A2 c2 K u) w1 := hi0 true rfl
          try dsimp only at hJ1
          clear hi0
          have f3 : vals 3 = .slice (some ad) kn kc := hf 3 rfl
          have f4 : vals 4 = .int .i64 (i : Int) := hf 4 rfl
          try dsimp only at f3 f4
          clear hf
          simp only [puts, act_put, act_put_none, List.setIfInBounds_toArray, List.set_cons_zero, List.set_cons_succ, f3, f4] at hE ⊢
          clear f3 f4
          go_wp2
          exact .mk (hE _ _ rfl hC1 rfl)
        · -- 6: Op.load 25 (Operand.tmp 71)
          refine step_plain [(5, some 71)] (fun _ => rfl) rfl ?_
          intro w1 vals hC1 hi0 hf E hE
          have hI1 : (fun u => u.cell? ⟨w.heap.size + 2, 4, none⟩ = some (.slice A2 K.length c2) ∧ u.cell? ⟨w.heap.size, 4, none⟩ = some (.slice (some ad) kn kc) ∧ Below w.heap.size w u) w1 := hi0 false rfl
          try dsimp only at hI1
          have hJ1 : (fun u => Cs w w.heap.size ⟨vk, vn, vt, nA, nn, nc, some ad, kn, kc⟩ ⟨vk, vn, T, A1, N.length, c1, A2, K.length, c2⟩ A1 c1 N A2 c2 K u) w1 := hi0 true rfl
          try dsimp only at hJ1
          clear hi0
          have f5 : vals 5 = .pointer (some (ad.add (i * 5))) := hf 5 rfl
          try dsimp only at f5
          clear hf
          obtain ⟨d1, d0, d2⟩ := hI1
          have D2 := Lib.hid d2
          clear d2
          simp only [puts, act_put, act_put_none, List.setIfInBounds_toArray, List.set_cons_zero, List.set_cons_succ, f5] at hE ⊢
          clear f5
          go_wp2_with (refine wpList_get_rd (r := (jvCells X).toList) (HCE.out _ D2.out) rfl rfl rfl hu rfl jT_size3 ?_)
          exact .mk (hE _ _ rfl hC1 rfl)
        · -- 7: Op.move (Operand.tmp 1)
          refine step_plain [] (fun _ => rfl) rfl ?_
          intro w1 vals hC1 hi0 hf E hE
          have hI1 : (fun u => u.cell? ⟨w.heap.size + 2, 4, none⟩ = some (.slice A2 K.length c2) ∧ u.cell? ⟨w.heap.size, 4, none⟩ = some (.slice (some ad) kn kc) ∧ Below w.heap.size w u) w1 := hi0 false rfl
          try dsimp only at hI1
          have hJ1 : (fun u => Cs w w.heap.size ⟨vk, vn, vt, nA, nn, nc, some ad, kn, kc⟩ ⟨vk, vn, T, A1, N.length, c1, A2, K.length, c2⟩ A1 c1 N A2 c2 K u) w1 := hi0 true rfl
          try dsimp only at hJ1
          clear hi0
          clear hf
          simp only [puts, act_put, act_put_none, List.setIfInBounds_toArray, List.set_cons_zero, List.set_cons_succ] at hE ⊢
          go_wp2
          exact .mk (hE _ _ rfl hC1 rfl)
        · -- 8: Op.binOp BinOp.sub 3 (Operand.tmp 73) (Operand.const (Value.int IntKind.i64 1)) 3
          refine step_plain [(7, some 73)] (fun _ => rfl) rfl ?_
          intro w1 vals hC1 hi0 hf E hE
          have hI1 : (fun u => u.cell? ⟨w.heap.size + 2, 4, none⟩ = some (.slice A2 K.length c2) ∧ u.cell? ⟨w.heap.size, 4, none⟩ = some (.slice (some ad) kn kc) ∧ Below w.heap.size w u) w1 := hi0 false rfl
          try dsimp only at hI1
          have hJ1 : (fun u => Cs w w.heap.size ⟨vk, vn, vt, nA, nn, nc, some ad, kn, kc⟩ ⟨vk, vn, T, A1, N.length, c1, A2, K.length, c2⟩ A1 c1 N A2 c2 K u) w1 := hi0 true rfl
          try dsimp only at hJ1
          clear hi0
          have f7 : vals 7 = .int .i64 (d : Int) := hf 7 rfl
          try dsimp only at f7
          clear hf
          simp only [puts, act_put, act_put_none, List.setIfInBounds_toArray, List.set_cons_zero, List.set_cons_succ, f7] at hE ⊢
          clear f7
          go_wp2
          exact .mk (hE _ _ rfl hC1 rfl)
        · -- 9: Op.call { callee := Callee.value (Operand.func 7), args := #[Operand.tmp 72, Operand.tmp 74], argTypes := #[25
          refine step_plain [(6, some 72), (8, some 74)] (fun _ => rfl) rfl ?_
          intro w1 vals hC1 hi0 hf E hE
          have hI1 : (fun u => u.cell? ⟨w.heap.size + 2, 4, none⟩ = some (.slice A2 K.length c2) ∧ u.cell? ⟨w.heap.size, 4, none⟩ = some (.slice (some ad) kn kc) ∧ Below w.heap.size w u) w1 := hi0 false rfl
          try dsimp only at hI1
          have hJ1 : (fun u => Cs w w.heap.size ⟨vk, vn, vt, nA, nn, nc, some ad, kn, kc⟩ ⟨vk, vn, T, A1, N.length, c1, A2, K.length, c2⟩ A1 c1 N A2 c2 K u) w1 := hi0 true rfl
          try dsimp only at hJ1
          clear hi0
          have f6 : vals 6 = .agg (jvCells X) := hf 6 rfl
          have f8 : vals 8 = .int .i64 (d' : Int) := hf 8 rfl
          try dsimp only at f6 f8
          clear hf
          have HJ1 := Lib.hid hJ1
          clear hJ1
          simp only [puts, act_put, act_put_none, List.setIfInBounds_toArray, List.set_cons_zero, List.set_cons_succ, f6, f8] at hE ⊢
          clear f6 f8
          go_wp2_with fail
          refine calls_then (CV.out _ HJ1.out) ?_
          rintro y w5 ⟨v, rfl, hl, hj, hg⟩
          have HL := Lib.hid hl
          have HJ := Lib.hid hj
          have HG := Lib.hid hg
          clear hl hg hj
          go_wp2_with fail
          exact .mk (hE _ _ ⟨v, rfl, HL.out, HJ.out⟩ hC1 HG.out)
        · -- 10: Op.buildSlice 23 1 #[(0, Operand.tmp 75)]
          refine step_plain [(9, some 75)] (fun _ => rfl) rfl ?_
          intro w1 vals hC1 hi0 hf E hE
          have hI1 : (fun u => u.cell? ⟨w.heap.size + 2, 4, none⟩ = some (.slice A2 K.length c2) ∧ u.cell? ⟨w.heap.size, 4, none⟩ = some (.slice (some ad) kn kc) ∧ Below w.heap.size w u) w1 := hi0 false rfl
          try dsimp only at hI1
          clear hi0
          have f9 : (fun z u => ∃ v : JV, z 9 = .agg (jvCells v) ∧ Cs w w.heap.size ⟨vk, vn, vt, nA, nn, nc, some ad, kn, kc⟩ ⟨vk, vn, T, A1, N.length, c1, A2, K.length, c2⟩ A1 c1 N A2 c2 K u ∧ JRep u (KS w.heap.size (.slice A1 N.length c1) (.slice A2 K.length c2)) (cutJ d' Y) v) vals w1 := hf 9 rfl
          try dsimp only at f9
          clear hf
          obtain ⟨v, hx, hl, hj⟩ := f9
          have HL := Lib.hid hl
          have HJ := Lib.hid hj
          clear hl hj
          simp only [puts, act_put, act_put_none, List.setIfInBounds_toArray, List.set_cons_zero, List.set_cons_succ, hx] at hE ⊢
          clear hx
          unfold jvCells
          go_wp2
          exact .mk (hE _ _ ⟨v, _, rfl, Blk.new _ _ _, HL.out.new ((Below.refl _ _).alloc (Nat.le_refl _) _), HJ.out.heap fun b hb _ => Below.heap_alloc _ _ _ hb⟩ hC1 ((Below.refl _ _).alloc (Nat.le_refl _) _))
        · -- 11: Op.call { callee := Callee.builtin Builtin.append, args := #[Operand.tmp 67, Operand.tmp 76], argTypes := #[23
          refine step_plain [(1, some 67), (10, some 76), (9, some 75)] (fun _ => rfl) rfl ?_
          intro w1 vals hC1 hi0 hf E hE
          have hI1 : (fun u => u.cell? ⟨w.heap.size + 2, 4, none⟩ = some (.slice A2 K.length c2) ∧ u.cell? ⟨w.heap.size, 4, none⟩ = some (.slice (some ad) kn kc) ∧ Below w.heap.size w u) w1 := hi0 false rfl
          try dsimp only at hI1
          clear hi0
          have f1 : vals 1 = .slice A2 K.length c2 := hf 1 rfl
          have f10 : (fun z u => ∃ (v : JV) (g : Nat), z 10 = .slice (some ⟨g, 0, none⟩) 1 1 ∧ Blk u g 25 (jvCells v) ∧ Cs w w.heap.size ⟨vk, vn, vt, nA, nn, nc, some ad, kn, kc⟩ ⟨vk, vn, T, A1, N.length, c1, A2, K.length, c2⟩ A1 c1 N A2 c2 K u ∧ JRep u (KS w.heap.size (.slice A1 N.length c1) (.slice A2 K.length c2)) (cutJ d' Y) v) vals w1 := hf 10 rfl
          try dsimp only at f1 f10
          clear hf
          obtain ⟨v, ad2, hx, hk, hl, hj⟩ := f10
          have HL := Lib.hid hl
          have HKK := Lib.hid hk
          have HJ := Lib.hid hj
          obtain ⟨kw, hv1, hv2, hv3⟩ := HL.out.kids
          have HO := Lib.hid hv2
          have HV1 := Lib.hid hv1
          have HV3 := Lib.hid hv3
          clear hl hk hj hv1 hv2 hv3
          simp only [puts, act_put, act_put_none, List.setIfInBounds_toArray, List.set_cons_zero, List.set_cons_succ, f1, hx] at hE ⊢
          clear f1
          clear hx
          go_wp2_with (refine wpList_append_r (news := (jvCells v).toList) (m := 1) sl_jsons rfl rfl HO.out rfl rfl rfl (Rd.of_blk (l := (jvCells v).toList) HKK.out (HKK.out.lt)) (by simp [jvCells, Value.oneCell']) (by unfold maxLen; omega) (by omega) (HL.out.size) ?_; intro A' c' w5 ho hg hn)
          exact .mk (hE _ _ ⟨A', c', rfl, HL.out.kid HJ.out HV1.out HO.out HV3.out ho hg hn⟩ hC1 ⟨_, hg, fun k hk => (HO.out.lt k hk).1⟩)
        · -- 12: Op.fieldAddr 25 (Operand.tmp 5) 4
          refine step_plain [(0, some 66), (1, some 67), (2, some 68), (3, some 69), (4, some 70), (5, some 71), (6, some 72), (7, some 73), (8, some 74), (9, some 75), (10, some 76), (11, some 77)] (fun _ => rfl) rfl ?_
          intro w1 vals hC1 hi0 hf E hE
          have hI1 : (fun u => u.cell? ⟨w.heap.size + 2, 4, none⟩ = some (.slice A2 K.length c2) ∧ u.cell? ⟨w.heap.size, 4, none⟩ = some (.slice (some ad) kn kc) ∧ Below w.heap.size w u) w1 := hi0 false rfl
          try dsimp only at hI1
          clear hi0
          have f0 : vals 0 = .pointer (some ⟨w.heap.size + 2, 4, none⟩) := hf 0 rfl
          have f1 : vals 1 = .slice A2 K.length c2 := hf 1 rfl
          have f2 : vals 2 = .pointer (some ⟨w.heap.size, 4, none⟩) := hf 2 rfl
          have f3 : vals 3 = .slice (some ad) kn kc := hf 3 rfl
          have f4 : vals 4 = .int .i64 (i : Int) := hf 4 rfl
          have f5 : vals 5 = .pointer (some (ad.add (i * 5))) := hf 5 rfl
          have f6 : vals 6 = .agg (jvCells X) := hf 6 rfl
          have f7 : vals 7 = .int .i64 (d : Int) := hf 7 rfl
          have f8 : vals 8 = .int .i64 (d' : Int) := hf 8 rfl
          have f11 : (fun z u => ∃ (A' : Option Addr) (c' : Nat), z 11 = .slice A' (K.length + 1) c' ∧ Cs w w.heap.size ⟨vk, vn, vt, nA, nn, nc, some ad, kn, kc⟩ ⟨vk, vn, T, A1, N.length, c1, A2, K.length, c2⟩ A1 c1 N A' c' (K ++ [cutJ d' Y]) u) vals w1 := hf 11 rfl
          try dsimp only at f0 f1 f2 f3 f4 f5 f6 f7 f8 f11
          clear hf
          simp only [puts, act_put, act_put_none, List.setIfInBounds_toArray, List.set_cons_zero, List.set_cons_succ, f0, f1, f2, f3, f4, f5, f6, f7, f8] at hE ⊢
          clear f0 f1 f2 f3 f4 f5 f6 f7 f8
          go_wp2
          exact .mk (hE _ _ rfl hC1 rfl)
        · -- 13: Op.store 23 (Operand.tmp 78) (Operand.tmp 77)
          refine step_plain [(12, some 78), (11, some 77), (11, some 77), (0, some 66), (1, some 67), (2, some 68), (3, some 69), (4, some 70), (5, some 71), (6, some 72), (7, some 73), (8, some 74), (9, some 75), (10, some 76), (11, some 77)] (fun _ => rfl) rfl ?_
          intro w1 vals hC1 hi0 hf E hE
          have hI1 : (fun u => u.cell? ⟨w.heap.size + 2, 4, none⟩ = some (.slice A2 K.length c2) ∧ u.cell? ⟨w.heap.size, 4, none⟩ = some (.slice (some ad) kn kc) ∧ Below w.heap.size w u) w1 := hi0 false rfl
          try dsimp only at hI1
          clear hi0
          have f0 : vals 0 = .pointer (some ⟨w.heap.size + 2, 4, none⟩) := hf 0 rfl
          have f1 : vals 1 = .slice A2 K.length c2 := hf 1 rfl
          have f2 : vals 2 = .pointer (some ⟨w.heap.size, 4, none⟩) := hf 2 rfl
          have f3 : vals 3 = .slice (some ad) kn kc := hf 3 rfl
          have f4 : vals 4 = .int .i64 (i : Int) := hf 4 rfl
          have f5 : vals 5 = .pointer (some (ad.add (i * 5))) := hf 5 rfl
          have f6 : vals 6 = .agg (jvCells X) := hf 6 rfl
          have f7 : vals 7 = .int .i64 (d : Int) := hf 7 rfl
          have f8 : vals 8 = .int .i64 (d' : Int) := hf 8 rfl
          have f11 : (fun z u => ∃ (A' : Option Addr) (c' : Nat), z 11 = .slice A' (K.length + 1) c' ∧ Cs w w.heap.size ⟨vk, vn, vt, nA, nn, nc, some ad, kn, kc⟩ ⟨vk, vn, T, A1, N.length, c1, A2, K.length, c2⟩ A1 c1 N A' c' (K ++ [cutJ d' Y]) u) vals w1 := hf 11 rfl
          have f12 : vals 12 = .pointer (some ⟨w.heap.size + 2, 4, none⟩) := hf 12 rfl
          try dsimp only at f0 f1 f2 f3 f4 f5 f6 f7 f8 f11 f12
          clear hf
          obtain ⟨A', c', hx, hl⟩ := f11
          have HL := Lib.hid hl
          clear hl
          simp only [puts, act_put, act_put_none, List.setIfInBounds_toArray, List.set_cons_zero, List.set_cons_succ, f0, f1, f2, f3, f4, f5, f6, f7, f8, f12, hx] at hE ⊢
          clear f0 f1 f2 f3 f4 f5 f6 f7 f8 f12
          clear hx
          go_wp2_with (refine wpList_put_cell (x := .tmp 78) (i := 4) HL.out.tree rfl rfl rfl rfl (by kernel_rfl) (by simp [jvCells]) rfl ?_; intro w5 hb5 hw5)
          exact .mk (hE undef _ ⟨A', c', HL.out.put hw5 (by rw [List.length_append]; exact hb5)⟩ hC1 trivial)
      intro w1 vals hC1 hf
      have f0 : vals 0 = .pointer (some ⟨w.heap.size + 2, 4, none⟩) := hf 0 (by decide) rfl
      have f1 : vals 1 = .slice A2 K.length c2 := hf 1 (by decide) rfl
      have f2 : vals 2 = .pointer (some ⟨w.heap.size, 4, none⟩) := hf 2 (by decide) rfl
      have f3 : vals 3 = .slice (some ad) kn kc := hf 3 (by decide) rfl
      have f4 : vals 4 = .int .i64 (i : Int) := hf 4 (by decide) rfl
      have f5 : vals 5 = .pointer (some (ad.add (i * 5))) := hf 5 (by decide) rfl
      have f6 : vals 6 = .agg (jvCells X) := hf 6 (by decide) rfl
      have f7 : vals 7 = .int .i64 (d : Int) := hf 7 (by decide) rfl
      have f8 : vals 8 = .int .i64 (d' : Int) := hf 8 (by decide) rfl
      have f12 : vals 12 = .pointer (some ⟨w.heap.size + 2, 4, none⟩) := hf 12 (by decide) rfl
      have f13 : (fun z u => ∃ (A' : Option Addr) (c' : Nat), Cs w w.heap.size ⟨vk, vn, vt, nA, nn, nc, some ad, kn, kc⟩ ⟨vk, vn, T, A1, N.length, c1, A', (K ++ [cutJ d' Y]).length, c'⟩ A1 c1 N A' c' (K ++ [cutJ d' Y]) u) vals w1 := hf 13 (by decide) rfl
      try dsimp only at f0 f1 f2 f3 f4 f5 f6 f7 f8 f12 f13
      clear hf
      simp only [puts, act_put, act_put_none, List.setIfInBounds_toArray, List.set_cons_zero, List.set_cons_succ, f0, f1, f2, f3, f4, f5, f6, f7, f8, f12]
      clear f0 f1 f2 f3 f4 f5 f6 f7 f8 f12
      generalize vals 9 = x9 at *
      generalize vals 10 = x10 at *
      generalize vals 11 = x11 at *
      obtain ⟨A', c', hl⟩ := f13
      have HL := Lib.hid hl
      clear hl HI0 HJ0 hC1 CV
      go_wp2_with fail
      go_roundw
      case rel => exact ⟨i + 1, A', c', HLT.out, by go_num, by rw [HKS.out]; exact HL.out⟩
      case measure => have := HLT.out; simp [intOf]; omega
    · obtain rfl : i = mk := by omega
      have HKE := Lib.hid (show cutK d ks i = cutK d ks 5 by
        have h1 := HMK.out
        have h2 := HK.out
        unfold cutK
        by_cases h0 : d = 0
        · rw [if_pos h0, if_pos h0]
        · rw [if_neg h0, if_neg h0]
          rw [if_neg h0] at h1
          by_cases h5 : kn ≤ 5
          · have e1 : i = ks.length := by omega
            rw [e1, List.take_of_length_le (Nat.le_refl _), List.take_of_length_le (by omega)]
          · have e1 : i = 5 := by omega
            rw [e1])
      rw [HKE.out] at HCS
      have hor : ¬ ((i : Int) < (kn : Int)) ∨ ((i : Int) < (kn : Int) ∧ ¬ (i : Int) < 5) ∨ ((i : Int) < (kn : Int) ∧ (i : Int) < 5 ∧ d = 0) := by
        have := HMK.out
        split at this <;> omega
      obtain ⟨K, hK⟩ : ∃ K, K = cutK d ks 5 := ⟨_, rfl⟩
      rw [← hK] at HCS
      have HE := Lib.hid (show cutJ d (.mk vk vn vt ns ks) = .mk vk vn T N K by rw [cutJ_eq, hK, HNE.out, HTE.out])
      clear hK hi hlt
      have HF := Lib.hid (fun (w9 : World) (hw9 : Wrote (w.heap.size + 1) wr w9) => show Below w.heap.size w w9 ∧ JRep w9 (fun b => w.heap.size ≤ b) (cutJ d (.mk vk vn vt ns ks)) ⟨vk, vn, T, A1, N.length, c1, A2, K.length, c2⟩ from
        ⟨hw9.below HCS.out.low (by omega) HCS.out.low.size, by rw [HE.out]; exact (HCS.out.rep.heap fun b hb hs => hw9.grown.block b hb (by intro h; injection h with h; omega)).imp fun b _ hs => by omega⟩)
      rcases hor with h1 | ⟨h1, h2⟩ | ⟨h1, h2, h3⟩
      · go_wp2_with (first
          | refine wpList_get_box (x := .tmp 5) HCS.out.tree rfl rfl rfl hu rfl jT_size3 ?_
          | (refine wpList_put_box (x := .tmp 4) (cells := jvCells ⟨vk, vn, T, A1, N.length, c1, A2, K.length, c2⟩) HCS.out.res rfl rfl rfl rfl jT_size3 rfl (jvCells_one _) ?_; intro w9 hb9 hw9))
        have HB9 := Lib.hid hb9
        refine bodyPost_ret (results_box (P := Try.prog) rfl rfl HB9.out hu rfl jT_size3) rfl ?_
        exact ⟨_, rfl, HF.out w9 hw9⟩
      · go_wp2_with (first
          | refine wpList_get_box (x := .tmp 5) HCS.out.tree rfl rfl rfl hu rfl jT_size3 ?_
          | (refine wpList_put_box (x := .tmp 4) (cells := jvCells ⟨vk, vn, T, A1, N.length, c1, A2, K.length, c2⟩) HCS.out.res rfl rfl rfl rfl jT_size3 rfl (jvCells_one _) ?_; intro w9 hb9 hw9))
        have HB9 := Lib.hid hb9
        refine bodyPost_ret (results_box (P := Try.prog) rfl rfl HB9.out hu rfl jT_size3) rfl ?_
        exact ⟨_, rfl, HF.out w9 hw9⟩
      · subst h3
        go_wp2_with (first
          | refine wpList_get_box (x := .tmp 5) HCS.out.tree rfl rfl rfl hu rfl jT_size3 ?_
          | (refine wpList_put_box (x := .tmp 4) (cells := jvCells ⟨vk, vn, T, A1, N.length, c1, A2, K.length, c2⟩) HCS.out.res rfl rfl rfl rfl jT_size3 rfl (jvCells_one _) ?_; intro w9 hb9 hw9))
        have HB9 := Lib.hid hb9
        refine bodyPost_ret (results_box (P := Try.prog) rfl rfl HB9.out hu rfl jT_size3) rfl ?_
        exact ⟨_, rfl, HF.out w9 hw9⟩
theorem cut_any : ∀ d : Nat, (d : Int) ≤ 100 → CutP d
  | 0, h => cut_step 0 h fun d' hd => by cases hd
  | d + 1, h => cut_step (d + 1) h fun d' hd => by
    have e : d' = d := by omega
    subst e
    exact cut_any d' (by omega)
end Go.Proofs.Ytcfbnjaelniahaa.Js
/-
  Walk: the law JsonRound. (Printed by gen/jround.py.)
-/
namespace Go.Proofs.Ytcfbnjaelniahaa.Js
set_option linter.unusedSimpArgs false
set_option linter.unusedVariables false
open Go.RowKit

theorem low_trans {G : Nat} {a b c : World} (h : Below G a b) (h2 : Below b.heap.size b c) (hG : G ≤ b.heap.size) : Below G a c := h.trans (h2.mono hG)
theorem wr_small {j : JT} (h : smallJ j = true) (hl : (writeV j).length ≤ 100000000) (v : JV) (u : World) (hj : JRep u (fun b => b < u.heap.size) j v) :
    Calls Try.prog 8 #[.agg (jvCells v)] u fun e w' => e = .returned (.tuple #[.string (bs (wrE j).1), .int .i64 (wrE j).2]) ∧ Below u.heap.size u w' :=
  jwrite_any j v u.heap.size u h hj (Nat.le_refl _) (by omega)
theorem bs_take400 (s : ByteArray) : (s.extract 0 400).size ≤ 400 := by rw [ByteArray.size_extract]; omega
set_option maxRecDepth 100000 in
set_option maxHeartbeats 4000000 in
theorem jsonRound_any (j : JT) (u : JV) (s : ByteArray) (w : World) (hin : JRep w (fun b => b < w.heap.size) j u ∧ FitJ j) :
    Calls Try.prog 4 #[.agg (jvCells u), .string s] w fun x w' => x = .returned (.bool true) ∧ Below w.heap.size w w' := by
  have hu := Try.underlying25
  obtain ⟨hj, hfit⟩ := hin
  obtain ⟨G, hG⟩ : ∃ G, G = w.heap.size := ⟨_, rfl⟩
  obtain ⟨W0, hW0⟩ : ∃ W0, W0 = w.alloc (.cells (jvCells u) 25) := ⟨_, rfl⟩
  have hb0 : Below w.heap.size w W0 := by rw [hW0]; exact (Below.refl _ w).alloc (Nat.le_refl _) _
  have HB0 := Lib.hid hb0
  have HKU := Lib.hid (show Blk W0 G 25 (jvCells u) by rw [hW0, hG]; exact Blk.new _ _ _)
  have HS0 := Lib.hid (show W0.heap.size = G + 1 by rw [hW0, hG]; simp)
  have CC := Lib.hid (cut_any 6 (by decide) j u w.heap.size W0 (hj.under hb0) hfit hb0.size)
  obtain ⟨C, hC⟩ : ∃ C, C = cutJ 6 j := ⟨_, rfl⟩
  rw [← hC] at CC
  have HSM := Lib.hid (show smallJ C = true by rw [hC]; exact cutJ_small _ _)
  have HLN := Lib.hid (show (writeV C).length ≤ 100000000 by rw [hC]; have := cut_len 6 j; have h2 : cutB 6 ≤ 100000000 := by decide
                                                             omega)
  have HW0 := Lib.hid hW0
  obtain ⟨t, ht⟩ : ∃ t, t = if 400 < s.size then s.extract 0 400 else s := ⟨_, rfl⟩
  have HTE := Lib.hid ht
  clear hW0 hb0 hC hj hfit ht
  rw [hG] at *
  clear hG
  go_enter Try.func4, Try.ntmps4
  go_upto_region 1 with (fail)
  rw [← HW0.out]
  clear HW0
  generalize Value.agg (jvCells u) = AU
  go_wp2_with (refine wpList_get_box (x := .tmp 2) HKU.out rfl rfl rfl hu rfl jT_size3 ?_)
  refine calls_then CC.out ?_
  rintro e w1 ⟨v, rfl, hb1, hj1⟩
  have HK1 := Lib.hid (HKU.out.below hb1 HKU.out.lt)
  have HB1 := Lib.hid (low_trans HB0.out hb1 HB0.out.size)
  have HJ1 := Lib.hid (show JRep w1 (fun b => b < w1.heap.size ∧ b ≠ w.heap.size) C v from hj1.imp fun b hb hs => ⟨hb, by have := HS0.out; omega⟩)
  clear hb1 hj1 CC
  go_upto_region 2 with (refine wpList_put_box (x := .tmp 2) (cells := jvCells v) HK1.out rfl rfl rfl rfl jT_size3 rfl (jvCells_one _) ?_; intro w2 hb2 hw2)
  have HN2 := Lib.hid (show NJ w2 w.heap.size C v from ⟨hb2, (HJ1.out.heap fun b hb hs => hw2.grown.block b hb (by intro h; injection h with h; exact hs.2 h)).imp fun b hb hs => ⟨hb, hs.2⟩⟩)
  have HB2 := Lib.hid (show Below w.heap.size w w2 from hw2.below HB1.out (Nat.le_refl _) HB1.out.size)
  clear hb2 hw2
  have CW := Lib.hid (wr_small HSM.out HLN.out v w2 (HN2.out.2.imp fun b hb _ => hb))
  go_wp2_with (refine wpList_get_box (x := .tmp 2) HN2.out.1 rfl rfl rfl hu rfl jT_size3 ?_)
  refine calls_then CW.out ?_
  rintro e w3 ⟨rfl, hb3⟩
  have HN3 := Lib.hid (HN2.out.below hb3)
  have HB3 := Lib.hid (low_trans HB2.out hb3 HB2.out.size)
  clear hb3 CW
  obtain ⟨we, hwe⟩ : ∃ we, we = wrE C := ⟨_, rfl⟩
  rw [← hwe]
  have HWE := Lib.hid hwe
  clear hwe
  obtain ⟨wt, wn⟩ := we
  dsimp only
  go_upto_if 25 with (fail)
  go_cut [] (fun wx => Below w.heap.size w wx)
  case first =>
    by_cases hn : wn = 0
    · subst hn
      have hr : rightV 6 C = true ∧ (writeV C).length ≤ 2000 ∧ wt = writeV C := by
        have h := HWE.out
        unfold wrE at h
        split at h
        · injection h with _ h; omega
        · split at h
          · injection h with _ h; omega
          · injection h with h _
            exact ⟨by cases hb : rightV 6 C with | true => rfl | false => contradiction, by omega, h⟩
      have HRP := Lib.hid (show readP (bs wt).data.toList = .ok C by rw [hr.2.2]; exact readP_write C hr.1 hr.2.1)
      have CR := Lib.hid (jread_rep (bs wt) w3)
      rw [HRP.out] at CR
      clear hr
      go_wp2_with fail
      refine calls_then CR.out ?_
      rintro e w4 ⟨x, rfl, hb4, hj4⟩
      have HN4 := Lib.hid (HN3.out.below hb4)
      have HB4 := Lib.hid (low_trans HB3.out hb4 HB3.out.size)
      have HJ4 := Lib.hid (show JRep w4 (fun b => b < w4.heap.size) C x from hj4)
      rw [show errE (Except.ok C) = 0 from rfl]
      clear hb4 hj4 CR
      have HBX := Lib.hid (show Blk (w4.alloc (.cells #[.int .i64 0, .int .i64 0, .string ⟨#[]⟩, .slice none 0 0, .slice none 0 0] 25)) w4.heap.size 25 (jvCells zJV) from Blk.new _ _ _)
      go_upto_region 5 with (refine wpList_put_box (x := .tmp 7) (cells := jvCells x) HBX.out rfl rfl rfl rfl jT_size3 rfl (jvCells_one _) ?_; intro w5 hbx hwx)
      have hax := (Below.refl w4.heap.size w4).alloc (Nat.le_refl _) (.cells #[.int .i64 0, .int .i64 0, .string ⟨#[]⟩, .slice none 0 0, .slice none 0 0] 25)
      have hlx : Below w4.heap.size w4 w5 := hwx.below hax (Nat.le_refl _) (by simp)
      have HLw5 := Lib.hid hlx
      have HXw5 := Lib.hid hbx
      clear hax hlx hbx hwx HBX
      have HN5 := Lib.hid (HN4.out.below HLw5.out)
      have HB5 := Lib.hid (low_trans HB4.out HLw5.out HB4.out.size)
      have HJ5 := Lib.hid (show JRep w5 (fun b => b < w5.heap.size) C x from (HJ4.out.under HLw5.out).imp fun b hb _ => hb)
      have CS := Lib.hid (same_any C v x w5.heap.size w5 HSM.out (HN5.out.2.imp fun b hb _ => hb) HJ5.out (Nat.le_refl _))
      go_wp2_with (first
        | refine wpList_get_box (x := .tmp 2) HN5.out.1 rfl rfl rfl hu rfl jT_size3 ?_
        | refine wpList_get_box (x := .tmp 7) HXw5.out rfl rfl rfl hu rfl jT_size3 ?_)
      refine calls_then CS.out ?_
      rintro e w6 ⟨rfl, hb6⟩
      have HB6 := Lib.hid (low_trans HB5.out hb6 HB5.out.size)
      clear hb6 CS
      go_wp2_with fail
      go_meet
      exact HB6.out
    · go_wp2_with fail
      go_meet
      exact HB3.out
  case rest =>
  have HB7 := Lib.hid hcut
  clear hcut
  go_upto_if 42 with (fail)
  go_cut [1] (fun x wx => x = .string t ∧ wx = wc)
  case first =>
    have hte := HTE.out
    by_cases hl : 400 < s.size
    · have hl' : (400 : Int) < (s.size : Int) := by omega
      rw [if_pos hl] at hte
      subst hte
      go_wp2_with fail
      go_meet
      exact ⟨rfl, rfl⟩
    · have hl' : ¬ (400 : Int) < (s.size : Int) := by omega
      rw [if_neg hl] at hte
      subst hte
      go_wp2_with fail
      go_meet
      exact ⟨rfl, rfl⟩
  case rest =>
  obtain ⟨rfl, rfl⟩ := hcut
  have CR := Lib.hid (jread_rep t wc)
  obtain ⟨E, hE⟩ : ∃ E, E = readP t.data.toList := ⟨_, rfl⟩
  rw [← hE] at CR
  have HE := Lib.hid hE.symm
  clear hE
  go_wp2_with fail
  refine calls_then CR.out ?_
  rintro e w8 ⟨x, rfl, hb8, hj8⟩
  have HB8 := Lib.hid (low_trans HB7.out hb8 HB7.out.size)
  have HJ8 := Lib.hid hj8
  clear hb8 hj8 CR
  have HBX := Lib.hid (show Blk (w8.alloc (.cells #[.int .i64 0, .int .i64 0, .string ⟨#[]⟩, .slice none 0 0, .slice none 0 0] 25)) w8.heap.size 25 (jvCells zJV) from Blk.new _ _ _)
  go_upto_region 11 with (refine wpList_put_box (x := .tmp 10) (cells := jvCells x) HBX.out rfl rfl rfl rfl jT_size3 rfl (jvCells_one _) ?_; intro w9 hbx hwx)
  have hax := (Below.refl w8.heap.size w8).alloc (Nat.le_refl _) (.cells #[.int .i64 0, .int .i64 0, .string ⟨#[]⟩, .slice none 0 0, .slice none 0 0] 25)
  have hlx : Below w8.heap.size w8 w9 := hwx.below hax (Nat.le_refl _) (by simp)
  have HLw9 := Lib.hid hlx
  have HXw9 := Lib.hid hbx
  clear hax hlx hbx hwx HBX
  have HB9 := Lib.hid (low_trans HB8.out HLw9.out HB8.out.size)
  have HJ9 := Lib.hid (show JRep w9 (fun b => b < w9.heap.size) (valJ E) x from (HJ8.out.under HLw9.out).imp fun b hb _ => hb)
  cases hq : E with
  | error e =>
    have hne : e ≠ 0 := by
      have h := HE.out
      rw [hq] at h
      unfold readP at h
      split at h
      · injection h with h; omega
      · split at h
        · rename_i hv
          injection h with h
          subst h
          exact valueP_err 6 hv
        · cases h
        · injection h with h; omega
    have hne' : (e != 0) = true := by simpa using hne
    have CL := Lib.hid (lives_any w9)
    rw [show errE (Except.error e : Except Int JT) = e from rfl]
    clear hq hne
    go_wp2_with fail
    refine calls_then CL.out ?_
    rintro e2 w10 ⟨rfl, hb10⟩
    have HB10 := Lib.hid (low_trans HB9.out hb10 HB9.out.size)
    clear hb10
    go_wp2_with fail
    go_ret
    exact ⟨rfl, HB10.out⟩
  | ok y =>
    have HY := Lib.hid (show readP t.data.toList = .ok y by rw [HE.out, hq])
    have HJY := Lib.hid (show JRep w9 (fun b => b < w9.heap.size) y x by have := HJ9.out; rw [hq] at this; exact this)
    have HYS := Lib.hid (readP_small HY.out)
    have CW := Lib.hid (wr_small HYS.out (by have := readP_write_len HY.out; omega) x w9 HJY.out)
    have hwy : wrE y = if 2000 < (writeV y).length then ([], 4) else (writeV y, 0) := by rw [wrE, if_neg (by rw [readP_right HY.out]; decide)]
    rw [show errE (Except.ok y) = 0 from rfl]
    clear hq
    go_wp2_with (refine wpList_get_box (x := .tmp 10) HXw9.out rfl rfl rfl hu rfl jT_size3 ?_)
    refine calls_then CW.out ?_
    rintro e w10 ⟨rfl, hb10⟩
    have HB10 := Lib.hid (low_trans HB9.out hb10 HB9.out.size)
    have HX10 := Lib.hid (HXw9.out.below hb10 HXw9.out.lt)
    have HJ10 := Lib.hid (show JRep w10 (fun b => b < w10.heap.size) y x from (HJY.out.under hb10).imp fun b hb _ => hb)
    rw [hwy]
    clear hb10 CW hwy
    by_cases hl : 2000 < (writeV y).length
    · rw [if_pos hl]
      dsimp only
      have CL := Lib.hid (lives_any w10)
      clear hl
      go_wp2_with fail
      refine calls_then CL.out ?_
      rintro e2 w11 ⟨rfl, hb11⟩
      have HB11 := Lib.hid (low_trans HB10.out hb11 HB10.out.size)
      clear hb11
      go_wp2_with fail
      go_ret
      exact ⟨rfl, HB11.out⟩
    · rw [if_neg hl]
      dsimp only
      have HRP := Lib.hid (show readP (bs (writeV y)).data.toList = .ok y from readP_write y (readP_right HY.out) (by omega))
      have CR := Lib.hid (jread_rep (bs (writeV y)) w10)
      rw [HRP.out] at CR
      generalize bs (writeV y) = tx at *
      clear hl
      go_wp2_with fail
      refine calls_then CR.out ?_
      rintro e w11 ⟨z, rfl, hb11, hj11⟩
      have HB11 := Lib.hid (low_trans HB10.out hb11 HB10.out.size)
      have HX11 := Lib.hid (HX10.out.below hb11 HX10.out.lt)
      have HJ11 := Lib.hid (show JRep w11 (fun b => b < w11.heap.size) y x from (HJ10.out.under hb11).imp fun b hb _ => hb)
      have HZ11 := Lib.hid (show JRep w11 (fun b => b < w11.heap.size) y z from hj11)
      rw [show errE (Except.ok y) = 0 from rfl]
      clear hb11 hj11 CR
      have HBX := Lib.hid (show Blk (w11.alloc (.cells #[.int .i64 0, .int .i64 0, .string ⟨#[]⟩, .slice none 0 0, .slice none 0 0] 25)) w11.heap.size 25 (jvCells zJV) from Blk.new _ _ _)
      go_upto_region 17 with (refine wpList_put_box (x := .tmp 14) (cells := jvCells z) HBX.out rfl rfl rfl rfl jT_size3 rfl (jvCells_one _) ?_; intro w12 hbx hwx)
      have hax := (Below.refl w11.heap.size w11).alloc (Nat.le_refl _) (.cells #[.int .i64 0, .int .i64 0, .string ⟨#[]⟩, .slice none 0 0, .slice none 0 0] 25)
      have hlx : Below w11.heap.size w11 w12 := hwx.below hax (Nat.le_refl _) (by simp)
      have HLw12 := Lib.hid hlx
      have HXw12 := Lib.hid hbx
      clear hax hlx hbx hwx HBX
      have HB12 := Lib.hid (low_trans HB11.out HLw12.out HB11.out.size)
      have HX12 := Lib.hid (HX11.out.below HLw12.out HX11.out.lt)
      have HJ12 := Lib.hid (show JRep w12 (fun b => b < w12.heap.size) y x from (HJ11.out.under HLw12.out).imp fun b hb _ => hb)
      have HZ12 := Lib.hid (show JRep w12 (fun b => b < w12.heap.size) y z from (HZ11.out.under HLw12.out).imp fun b hb _ => hb)
      have CS := Lib.hid (same_any y x z w12.heap.size w12 HYS.out HJ12.out HZ12.out (Nat.le_refl _))
      go_wp2_with (first
        | refine wpList_get_box (x := .tmp 10) HX12.out rfl rfl rfl hu rfl jT_size3 ?_
        | refine wpList_get_box (x := .tmp 14) HXw12.out rfl rfl rfl hu rfl jT_size3 ?_)
      refine calls_then CS.out ?_
      rintro e w13 ⟨rfl, hb13⟩
      have HB13 := Lib.hid (low_trans HB12.out hb13 HB12.out.size)
      have CL := Lib.hid (lives_any w13)
      clear hb13 CS
      go_wp2_with fail
      refine calls_then CL.out ?_
      rintro e2 w14 ⟨rfl, hb14⟩
      have HB14 := Lib.hid (low_trans HB13.out hb14 HB13.out.size)
      clear hb14
      go_wp2_with fail
      go_ret
      exact ⟨rfl, HB14.out⟩
end Go.Proofs.Ytcfbnjaelniahaa.Js
/-
  Walk: the law JsonWrites.
-/
namespace Go.Proofs.Ytcfbnjaelniahaa.Js
set_option linter.unusedSimpArgs false
set_option linter.unusedVariables false
open Go.RowKit

set_option maxRecDepth 100000 in
set_option maxHeartbeats 4000000 in
theorem jsonWrites_any (j : JT) (u : JV) (w : World) (hin : JRep w (fun b => b < w.heap.size) j u ∧ FitJ j) :
    Calls Try.prog 3 #[.agg (jvCells u)] w fun x w' => x = .returned (.bool true) ∧ Below w.heap.size w w' := by
  have hu := Try.underlying25
  obtain ⟨hj, hfit⟩ := hin
  obtain ⟨G, hG⟩ : ∃ G, G = w.heap.size := ⟨_, rfl⟩
  obtain ⟨W0, hW0⟩ : ∃ W0, W0 = w.alloc (.cells (jvCells u) 25) := ⟨_, rfl⟩
  have hb0 : Below w.heap.size w W0 := by rw [hW0]; exact (Below.refl _ w).alloc (Nat.le_refl _) _
  have HB0 := Lib.hid hb0
  have HKU := Lib.hid (show Blk W0 G 25 (jvCells u) by rw [hW0, hG]; exact Blk.new _ _ _)
  have HS0 := Lib.hid (show W0.heap.size = G + 1 by rw [hW0, hG]; simp)
  have CC := Lib.hid (cut_any 7 (by decide) j u w.heap.size W0 (hj.under hb0) hfit hb0.size)
  obtain ⟨C, hC⟩ : ∃ C, C = cutJ 7 j := ⟨_, rfl⟩
  rw [← hC] at CC
  have HSM := Lib.hid (show smallJ C = true by rw [hC]; exact cutJ_small _ _)
  have HSH := Lib.hid (show shortJ C = true by rw [hC]; exact cutJ_short _ _)
  have HLN := Lib.hid (show (writeV C).length ≤ 100000000 by rw [hC]; have := cut_len 7 j; have h2 : cutB 7 ≤ 100000000 := by decide
                                                             omega)
  have HW0 := Lib.hid hW0
  clear hW0 hb0 hC hj hfit
  rw [hG] at *
  clear hG
  go_enter Try.func3, Try.ntmps3
  go_upto_region 1 with (fail)
  rw [← HW0.out]
  clear HW0
  generalize Value.agg (jvCells u) = AU
  go_wp2_with (refine wpList_get_box (x := .tmp 1) HKU.out rfl rfl rfl hu rfl jT_size3 ?_)
  refine calls_then CC.out ?_
  rintro e w1 ⟨v, rfl, hb1, hj1⟩
  have HK1 := Lib.hid (HKU.out.below hb1 HKU.out.lt)
  have HB1 := Lib.hid (low_trans HB0.out hb1 HB0.out.size)
  have HJ1 := Lib.hid (show JRep w1 (fun b => b < w1.heap.size ∧ b ≠ w.heap.size) C v from hj1.imp fun b hb hs => ⟨hb, by have := HS0.out; omega⟩)
  clear hb1 hj1 CC
  go_upto_region 2 with (refine wpList_put_box (x := .tmp 1) (cells := jvCells v) HK1.out rfl rfl rfl rfl jT_size3 rfl (jvCells_one _) ?_; intro w2 hb2 hw2)
  have HN2 := Lib.hid (show NJ w2 w.heap.size C v from ⟨hb2, (HJ1.out.heap fun b hb hs => hw2.grown.block b hb (by intro h; injection h with h; exact hs.2 h)).imp fun b hb hs => ⟨hb, hs.2⟩⟩)
  have HB2 := Lib.hid (show Below w.heap.size w w2 from hw2.below HB1.out (Nat.le_refl _) HB1.out.size)
  clear hb2 hw2
  have CW := Lib.hid (wr_small HSM.out HLN.out v w2 (HN2.out.2.imp fun b hb _ => hb))
  go_wp2_with (refine wpList_get_box (x := .tmp 1) HN2.out.1 rfl rfl rfl hu rfl jT_size3 ?_)
  refine calls_then CW.out ?_
  rintro e w3 ⟨rfl, hb3⟩
  have HN3 := Lib.hid (HN2.out.below hb3)
  have HB3 := Lib.hid (low_trans HB2.out hb3 HB2.out.size)
  clear hb3 CW
  have CI := Lib.hid (is_any C 6 v w3.heap.size w3 (by decide) HSM.out HSH.out (HN3.out.2.imp fun b hb _ => hb) (Nat.le_refl _))
  rw [isV_right] at CI
  go_wp2_with (refine wpList_get_box (x := .tmp 1) HN3.out.1 rfl rfl rfl hu rfl jT_size3 ?_)
  refine calls_then CI.out ?_
  rintro e w4 ⟨rfl, hb4⟩
  have HN4 := Lib.hid (HN3.out.below hb4)
  have HB4 := Lib.hid (low_trans HB3.out hb4 HB3.out.size)
  clear hb4 CI
  cases hr : rightV 6 C with
  | false =>
    rw [show wrE C = ([], 1) by rw [wrE, if_pos hr]]
    rw [show bs (([], 1) : Bs × Int).1 = (⟨#[]⟩ : ByteArray) from rfl]
    have CL := Lib.hid (lives_any w4)
    clear hr
    go_wp2_with fail
    refine calls_then CL.out ?_
    rintro e w5 ⟨rfl, hb5⟩
    have HB5 := Lib.hid (low_trans HB4.out hb5 HB4.out.size)
    clear hb5
    go_wp2_with fail
    go_ret
    exact ⟨rfl, HB5.out⟩
  | true =>
    have CW2 := Lib.hid (rwrite_any C 6 v w4.heap.size w4 hr HLN.out (HN4.out.2.imp fun b hb _ => hb) (Nat.le_refl _))
    have hwr : wrE C = if 2000 < (writeV C).length then ([], 4) else (writeV C, 0) := by rw [wrE, if_neg (by rw [hr]; decide)]
    rw [hwr]
    clear hr hwr
    have HSZ := Lib.hid (show (bs (writeV C)).size = (writeV C).length from bs_size _)
    have hsz1 : ((bs (writeV C)).size : Int) ≤ 100000000 := by rw [HSZ.out]; have := HLN.out; omega
    by_cases hl : 2000 < (writeV C).length
    · rw [if_pos hl]
      rw [show bs (([], 4) : Bs × Int).1 = (⟨#[]⟩ : ByteArray) from rfl]
      have hl' : (2000 : Int) < ((bs (writeV C)).size : Int) := by rw [HSZ.out]; omega
      generalize bs (writeV C) = tx at *
      clear hl
      go_wp2_with (refine wpList_get_box (x := .tmp 1) HN4.out.1 rfl rfl rfl hu rfl jT_size3 ?_)
      refine calls_then CW2.out ?_
      rintro e w5 ⟨rfl, hb5⟩
      have HB5 := Lib.hid (low_trans HB4.out hb5 HB4.out.size)
      have CL := Lib.hid (lives_any w5)
      clear hb5 CW2
      go_wp2_with fail
      refine calls_then CL.out ?_
      rintro e w6 ⟨rfl, hb6⟩
      have HB6 := Lib.hid (low_trans HB5.out hb6 HB5.out.size)
      clear hb6
      go_wp2_with fail
      go_ret
      exact ⟨rfl, HB6.out⟩
    · rw [if_neg hl]
      dsimp only
      have hl' : ¬ (2000 : Int) < ((bs (writeV C)).size : Int) := by rw [HSZ.out]; omega
      generalize bs (writeV C) = tx at *
      clear hl
      go_wp2_with (refine wpList_get_box (x := .tmp 1) HN4.out.1 rfl rfl rfl hu rfl jT_size3 ?_)
      refine calls_then CW2.out ?_
      rintro e w5 ⟨rfl, hb5⟩
      have HB5 := Lib.hid (low_trans HB4.out hb5 HB4.out.size)
      have CL := Lib.hid (lives_any w5)
      clear hb5 CW2
      go_wp2_with fail
      refine calls_then CL.out ?_
      rintro e w6 ⟨rfl, hb6⟩
      have HB6 := Lib.hid (low_trans HB5.out hb6 HB5.out.size)
      clear hb6
      go_wp2_with fail
      go_ret
      exact ⟨rfl, HB6.out⟩
end Go.Proofs.Ytcfbnjaelniahaa.Js
namespace Go.Proofs.Ytcfbnjaelniahaa.jsonWrites
set_option linter.unusedSimpArgs false
set_option linter.unusedVariables false
open Go.ChangeShapes Go.WideShapes Go.ChangeAt Go.RowKit Go.Joins

set_option maxRecDepth 100000 in
theorem lifted (os : Os) (started : os.Started) (H : Type) (enc : TypeId × Value → H) :
    ReturnsInHanded {} Try.checked os 3 .any (Rows.jsonWritesSpec.pre6 enc Try.prog Try.f3 Rows.jsonWritesRow.domain false) (Rows.jsonWritesSpec.post enc Try.prog Try.f3 false true false false) := by
  refine returnsInHanded_of_change (C := Try.checked) own started (by kernel_rfl) Try.func3
    (ChangeSpec.witness6 (enc := enc) (C := Try.checked) false ⟨#[], #[.agg #[.int .i64 0, .int .i64 0, .string .empty, .slice none 0 0, .slice none 0 0]], []⟩ 8 (by kernel_rfl) (by kernel_rfl) (by kernel_rfl) (by kernel_rfl)) ?_
  intro W base args ds gs before hval0 hW hcnd _
  have hval : ∀ (j : Nat) t v, Try.f3.params[j]? = some t → args[j]? = some v → Value.okWide Try.prog W .any base t v := hval0
  have hW' := hW
  obtain ⟨p, q, hA0, hV, rfl, hfz, hnd⟩ := hW
  have hA : DataW.TrodAll enc Try.prog W 0 (fun _ => true) true Try.f3.params.toList args.toList ds p := hA0
  rw [Try.params3] at hA hval
  obtain ⟨v0, d0, rfl, rfl, h0⟩ := trodAll_one hA
  obtain ⟨rfl, rfl⟩ := trodVars_none hV
  have h0k := h0
  obtain ⟨j0, u0, rfl, r0⟩ := Js.open_json_arg (hval 0 25 v0 rfl rfl) h0
  clear hA0 hval0
  try simp only [List.append_nil, List.nil_append] at hW'
  refine (Js.jsonWrites_any j0 u0 W r0).mono fun e W' ⟨he, hb⟩ => ?_
  subst he
  have hlt : ∀ x ∈ (p : List MemPlace), x.block < W.heap.size := fun x hx => hW'.lt x (by first | (simp at hx; done) | simpa using hx)
  exact ⟨_, rfl, post_of_below (pa := p) (pv := []) hW' (fun _ _ _ => trodAll_mk1 (shut_bool Try.underlying4 _))
    (fun sp hsp => trodAll_mk1 (stays laidOut (by kernel_rfl) (of_decide_eq_true (by kernel_rfl)) h0k hb hlt hsp))
    (fun _ _ => rfl) (by simp) hb (ok_one (by kernel_rfl) rfl (okWide_bool_mk Try.underlying4 _))⟩

theorem holds : Rows.JsonWritesSaid :=
  OpenClaim.holds_of_wide 3 Try.f3 rfl rfl rfl rfl rfl rfl rfl ⟨rfl, rfl, rfl, rfl, rfl⟩ rfl rfl rfl rfl rfl (by kernel_rfl) Try.func3 (by kernel_rfl)
    (of_decide_eq_true (by kernel_rfl)) (by unfold Func.isWrapper; first | (rw [if_pos (by decide +kernel)]; kernel_rfl) | (rw [if_neg (by decide +kernel)]; exact ⟨rfl, rfl⟩))
    (fun os started H enc _ => lifted os started H enc)

#print axioms holds
end Go.Proofs.Ytcfbnjaelniahaa.jsonWrites
