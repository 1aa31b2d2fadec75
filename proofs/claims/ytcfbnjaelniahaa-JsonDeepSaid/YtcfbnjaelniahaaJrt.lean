/-
  Walk: json's right, whole.
-/
import Derived.Test.YtcfbnjaelniahaaJrr
namespace Go.Proofs.Ytcfbnjaelniahaa.Js
set_option linter.unusedSimpArgs false
set_option linter.unusedVariables false
open Go.RowKit

/-- what right says, part by part -/
structure RightQ (d : Nat) (k n : Int) (t : Bs) (ns : List Bs) (ks : List JT) (P : Bool) : Prop where
  eq : rightV d (.mk k n t ns ks) = (P && !(d == 0 && decide (4 ≤ k)) && (decide (0 ≤ k) && decide (k ≤ 5)) && (k != 5 || ns.length == ks.length) && okT t && ns.all okT
      && (k != 2 || (decide (-1000000000000000 ≤ n) && decide (n ≤ 1000000000000000))) && distinct ns && rightsV (d - 1) ks)
theorem distinct_take {l : List Bs} {i : Nat} (hi : i < l.length) (h : distinct (l.take i) = true) : (l[i] ∈ l.take i → distinct l = false) ∧ (l[i] ∉ l.take i → distinct (l.take (i + 1)) = true) := by
  constructor
  · intro hm
    cases hq : distinct l with
    | false => rfl
    | true =>
      have e : l = l.take i ++ l[i] :: l.drop (i + 1) := by
        rw [← List.drop_eq_getElem_cons hi, List.take_append_drop]
      rw [e] at hq
      exact absurd hm (distinct_not hq)
  · intro hm
    rw [List.take_succ_eq_append_getElem hi]
    exact distinct_snoc h hm
set_option maxRecDepth 100000 in
set_option maxHeartbeats 4000000 in
theorem right_step (d : Nat) (hd9 : (d : Int) ≤ 1000) (IH : ∀ d', d = d' + 1 → RVal d') : RVal d := by
  intro j v B w hs hj hB
  have hu := Try.underlying25
  obtain ⟨ns, ks, kv, rfl, hn, hnc, hnr, hkn, _, hkv, hkr, hkids⟩ := hj.inv
  rw [smallJ] at hs
  simp only [Bool.and_eq_true, decide_eq_true_eq] at hs
  obtain ⟨⟨hsn, hsk⟩, hsm⟩ := hs
  obtain ⟨G, hG⟩ : ∃ G, G = w.heap.size := ⟨_, rfl⟩
  obtain ⟨W0, hW0⟩ : ∃ W0, W0 = (w.alloc (.cells (jvCells v) 25)).alloc (.cells #[.int .i64 (d : Int)] 3) := ⟨_, rfl⟩
  have hb0 : Below w.heap.size w W0 := by rw [hW0]; exact ((Below.refl _ w).alloc (Nat.le_refl _) _).alloc (by simp) _
  have HB0 := Lib.hid hb0
  have hkb : Blk W0 G 25 (jvCells v) := by rw [hW0, hG]; exact (Blk.new _ _ _).alloc _
  have hkd : Blk W0 (G + 1) 3 #[.int .i64 (d : Int)] := by
    have := Blk.new (w.alloc (.cells (jvCells v) 25)) 3 #[.int .i64 (d : Int)]
    rw [hW0, hG]
    simpa using this
  have HKB := Lib.hid hkb
  have HKD := Lib.hid hkd
  have HNR := Lib.hid (show Rd W0 B v.nA (rowsV sCell ns) from (hnr.rd (fun _ _ h => h)).below (hb0.mono hB))
  have HKR := Lib.hid (show Rd W0 B v.kA (rowsV jvCells kv) from (hkr.rd (fun _ _ h => h)).below (hb0.mono hB))
  have HKI := Lib.hid (show ∀ i (h : i < ks.length) (h' : i < kv.length), JRep W0 (fun b => b < B) ks[i] kv[i] from fun i h h' => (hkids i h h').under (hb0.mono hB))
  have HBB := Lib.hid (show B ≤ W0.heap.size from Nat.le_trans hB hb0.size)
  have HW0 := Lib.hid hW0
  have HSN := Lib.hid hsn
  have HSK := Lib.hid hsk
  have HSM := Lib.hid hsm
  have HKV := Lib.hid hkv
  have HIH := Lib.hid IH
  have HD9 := Lib.hid hd9
  have HNC := Lib.hid hnc
  have HP := Lib.hid (plain_any v ns ks hn hkn W0)
  obtain ⟨vk, vn, vt, nA, nn, nc, kA, kn, kc⟩ := v
  dsimp only at *
  obtain ⟨P, hP⟩ : ∃ P, P = plainJ vk vn vt ns ks := ⟨_, rfl⟩
  rw [← hP] at HP
  have HPL := Lib.hid hP
  have HQ : RightQ d vk vn vt ns ks P := ⟨by rw [rightV, hP]⟩
  have HN := Lib.hid hn
  have HKN := Lib.hid hkn
  have HE := Lib.hid (show (ns.length == ks.length) = !((nn : Int) != (kn : Int)) by rw [hn, hkn, Bool.eq_iff_iff, beq_iff_eq]; simp; omega)
  have a0 : W0.cell? ⟨G, 0, none⟩ = some (.int .i64 vk) := hkb.cell 0
  have a1 : W0.cell? ⟨G, 1, none⟩ = some (.int .i64 vn) := hkb.cell 1
  have a2 : W0.cell? ⟨G, 2, none⟩ = some (.string (bs vt)) := hkb.cell 2
  have a3 : W0.cell? ⟨G, 3, none⟩ = some (.slice nA nn nc) := hkb.cell 3
  have a4 : W0.cell? ⟨G, 4, none⟩ = some (.slice kA kn kc) := hkb.cell 4
  have a5 : W0.cell? ⟨G + 1, 0, none⟩ = some (.int .i64 (d : Int)) := hkd.cell 0
  clear hW0 hb0 hkb hkd hnr hkr hkids hB hsn hsk hsm hkv IH hd9 hn hkn hP hnc hj
  rw [hG] at *
  clear hG
  go_enter Try.func14, Try.ntmps14
  go_upto_region 1 with (fail)
  rw [← HW0.out]
  clear HW0
  generalize Value.agg (jvCells ⟨vk, vn, vt, nA, nn, nc, kA, kn, kc⟩) = AV
  generalize Value.int IntKind.i64 (d : Int) = DV
  clear a0 a1 a2 a3 a4 a5
  go_cut [43] (fun x wx => x = .bool (!P || (decide ((d : Int) = 0) && decide (4 ≤ vk)) || decide (vk < 0) || decide (5 < vk) || (vk == 5 && ((nn : Int) != (kn : Int)))) ∧ Below W0.heap.size W0 wx)
  case first =>
    go_wp2_with (refine wpList_get_box (x := .tmp 2) HKB.out rfl rfl rfl hu rfl jT_size2 ?_)
    refine calls_then HP.out ?_
    rintro e w1 ⟨rfl, hb1⟩
    have HB1 := Lib.hid hb1
    have hkb := HKB.out.below hb1 HKB.out.lt
    have hkd := HKD.out.below hb1 HKD.out.lt
    have a0 : w1.cell? ⟨w.heap.size, 0, none⟩ = some (.int .i64 vk) := hkb.cell 0
    have a3 : w1.cell? ⟨w.heap.size, 3, none⟩ = some (.slice nA nn nc) := hkb.cell 3
    have a4 : w1.cell? ⟨w.heap.size, 4, none⟩ = some (.slice kA kn kc) := hkb.cell 4
    have a5 : w1.cell? ⟨w.heap.size + 1, 0, none⟩ = some (.int .i64 (d : Int)) := hkd.cell 0
    clear hb1 hkb hkd
    generalize Value.agg (jvCells ⟨vk, vn, vt, nA, nn, nc, kA, kn, kc⟩) = AV2
    cases P with
    | false =>
      go_wp2_with fail
      all_goals (go_meet; exact ⟨by first | rfl | (simp; done), HB1.out⟩)
    | true =>
      go_wp2_with fail
      all_goals (go_meet; exact ⟨by first | rfl | (simp; done) | (simp_all; done), HB1.out⟩)
  case rest =>
  obtain ⟨rfl, hbel⟩ := hcut
  have HBE := Lib.hid hbel
  clear hbel
  obtain ⟨X1, hX1⟩ : ∃ X1, X1 = (!P || (decide ((d : Int) = 0) && decide (4 ≤ vk)) || decide (vk < 0) || decide (5 < vk) || (vk == 5 && ((nn : Int) != (kn : Int)))) := ⟨_, rfl⟩
  rw [← hX1]
  have HQ1 := Lib.hid (show rightV d (.mk vk vn vt ns ks) = (!X1 && okT vt && ns.all okT && (vk != 2 || (decide (-1000000000000000 ≤ vn) && decide (vn ≤ 1000000000000000))) && distinct ns && rightsV (d - 1) ks) by
    have e1 : (d == 0) = decide ((d : Int) = 0) := by rw [Bool.eq_iff_iff, beq_iff_eq, decide_eq_true_iff]; omega
    have e2 : decide (0 ≤ vk) = !decide (vk < 0) := by rw [Bool.eq_iff_iff]; simp
    have e3 : decide (vk ≤ 5) = !decide (5 < vk) := by rw [Bool.eq_iff_iff]; simp
    rw [HQ.eq, HE.out, e1, e2, e3, hX1]
    unfold bne
    cases P <;> cases decide ((d : Int) = 0) <;> cases decide (4 ≤ vk) <;> cases decide (vk < 0) <;> cases decide (5 < vk) <;> cases (vk == 5) <;> simp)
  have HX1 := Lib.hid (show X1 = false → d = 0 → ks = [] from fun h1 h2 => by
    rw [hX1] at h1
    simp only [Bool.or_eq_false_iff, Bool.not_eq_false', Bool.and_eq_false_imp, decide_eq_true_eq, decide_eq_false_iff_not] at h1
    have hp := HPL.out
    rw [h1.1.1.1.1] at hp
    have h4 := h1.1.1.1.2 (by omega)
    have h5 := hp.symm
    unfold plainJ at h5
    simp only [Bool.and_eq_true, Bool.or_eq_true, List.isEmpty_iff, beq_iff_eq] at h5
    rcases h5.1.1.2 with (h | h) | h
    · exact h
    · omega
    · omega)
  clear hX1
  cases X1 with
  | true =>
    go_wp2_with fail
    go_ret
    exact ⟨by rw [HQ1.out]; simp, HB0.out.trans (HBE.out.mono HB0.out.size)⟩
  | false =>
    have HKE := Lib.hid (HX1.out rfl)
    clear HX1 HP HPL HQ
    have cells : ∀ u, Below W0.heap.size W0 u → u.cell? ⟨w.heap.size, 0, none⟩ = some (.int .i64 vk) ∧ u.cell? ⟨w.heap.size, 1, none⟩ = some (.int .i64 vn) ∧ u.cell? ⟨w.heap.size, 2, none⟩ = some (.string (bs vt)) ∧ u.cell? ⟨w.heap.size, 3, none⟩ = some (.slice nA nn nc) ∧
        u.cell? ⟨w.heap.size, 4, none⟩ = some (.slice kA kn kc) ∧ u.cell? ⟨w.heap.size + 1, 0, none⟩ = some (.int .i64 (d : Int)) := fun u hu => by
      have h := HKB.out.below hu HKB.out.lt
      have h' := HKD.out.below hu HKD.out.lt
      exact ⟨h.cell 0, h.cell 1, h.cell 2, h.cell 3, h.cell 4, h'.cell 0⟩
    have CE := Lib.hid cells
    clear cells
    go_upto_region 4 with (fail)
    go_cut [68] (fun x wx => x = .bool (!okT vt || !ns.all okT || (vk == 2 && (decide (vn < -1000000000000000) || decide (1000000000000000 < vn)))) ∧ Below W0.heap.size W0 wx)
    case first =>
      obtain ⟨a0, a1, a2, a3, _⟩ := CE.out _ HBE.out
      have eg : ∀ args w, (callFunc 24 args).run Try.prog w = .ok (.enter 24 args) w := enters_of Try.func24 (by kernel_rfl) rfl
      go_wp2_with fail
      refine calls_then (odd_any (bs vt) _) ?_
      rintro e w2 ⟨rfl, hb2⟩
      rw [show (bs vt).data.toList = vt from rfl]
      have HB2 := Lib.hid (HBE.out.trans (hb2.mono HBE.out.size))
      clear a0 a1 a2 a3 hb2
      obtain ⟨a0, a1, a2, a3, _⟩ := CE.out _ HB2.out
      cases hq1 : okT vt with
      | false =>
        go_wp2_with fail
        all_goals (go_meet; exact ⟨by first | rfl | (simp; done) | (simp [hq1]; done), HB2.out⟩)
      | true =>
        have HC := Lib.hid (cons_any ns nA nc B w2 (HNR.out.below (HB2.out.mono HBB.out)) (Nat.le_trans HBB.out HB2.out.size) (by have := HSN.out; omega))
        rw [← HN.out] at HC
        go_wp2_with fail
        refine calls_then HC.out ?_
        rintro e w3 ⟨rfl, hb3⟩
        have HB3 := Lib.hid (HB2.out.trans (hb3.mono HB2.out.size))
        clear a0 a1 a2 a3 hb3 HC
        obtain ⟨a0, a1, a2, a3, _⟩ := CE.out _ HB3.out
        cases hq2 : ns.all okT with
        | false =>
          go_wp2_with fail
          all_goals (go_meet; exact ⟨by first | rfl | (simp; done) | (simp only [hq1, hq2]; rfl), HB3.out⟩)
        | true =>
          go_wp2_with fail
          all_goals (go_meet; exact ⟨by rw [hq1, hq2]; first | rfl | (simp; done) | (simp_all; done) | grind, HB3.out⟩)
    case rest =>
    obtain ⟨rfl, hbel⟩ := hcut
    clear HBE
    have HBE := Lib.hid hbel
    clear hbel
    obtain ⟨X2, hX2⟩ : ∃ X2, X2 = (!okT vt || !ns.all okT || (vk == 2 && (decide (vn < -1000000000000000) || decide (1000000000000000 < vn)))) := ⟨_, rfl⟩
    rw [← hX2]
    have HQ2 := Lib.hid (show rightV d (.mk vk vn vt ns ks) = (!X2 && distinct ns && rightsV (d - 1) ks) by
      have e1 : decide (-1000000000000000 ≤ vn) = !decide (vn < -1000000000000000) := by rw [Bool.eq_iff_iff]; simp
      have e2 : decide (vn ≤ 1000000000000000) = !decide (1000000000000000 < vn) := by rw [Bool.eq_iff_iff]; simp
      rw [HQ1.out, hX2, e1, e2]
      unfold bne
      cases okT vt <;> cases ns.all okT <;> cases (vk == 2) <;> cases decide (vn < -1000000000000000) <;> cases decide (1000000000000000 < vn) <;> simp)
    clear hX2 HQ1
    cases X2 with
    | true =>
      go_wp2_with fail
      go_ret
      exact ⟨by rw [HQ2.out]; simp, HB0.out.trans (HBE.out.mono HB0.out.size)⟩
    | false =>
      obtain ⟨_, _, _, a3, _⟩ := CE.out _ HBE.out
      go_wp2_with fail
      clear a3
      have hsn : (nn : Int) ≤ 4096 := by have := HSN.out; have := HN.out; omega
      have hnl : nn = ns.length := by have := HN.out; omega
      have HNL := Lib.hid hnl
      clear hnl
      go_loopw [72] (fun x wr => ∃ i : Nat, i ≤ nn ∧ x = .int .i64 (i : Int) ∧ distinct (ns.take i) = true ∧ Below W0.heap.size W0 wr) (fun x _ => nn - (intOf x).toNat)
      case atStart => exact ⟨0, by omega, rfl, by simp [distinct], HBE.out⟩
      case round =>
        obtain ⟨i, hi, rfl, hok, hb⟩ := hrel
        have HB3 := Lib.hid hb
        have HOK := Lib.hid hok
        clear hb hok
        obtain ⟨_, _, _, a3, a4, _⟩ := CE.out _ HB3.out
        by_cases hlt : i < nn
        · have hil : i < ns.length := by rw [← HNL.out]; exact hlt
          have hlt' : (i : Int) < (nn : Int) := by omega
          have HLT := Lib.hid hlt
          obtain ⟨ad, hA, hadb, hcell⟩ := rd_rows (f := sCell) (m := 1) (fun _ => rfl) (by decide) (HNR.out.below (HB3.out.mono HBB.out)) hil
          subst hA
          obtain ⟨X, hX⟩ : ∃ X, X = ns[i] := ⟨_, rfl⟩
          have hdt := distinct_take hil HOK.out
          rw [← hX] at hcell hdt
          have HDT := Lib.hid hdt
          have hc0 : wr.cell? (ad.add i) = some (.string (bs X)) := by
            have h := hcell 0 _ rfl
            rw [Nat.mul_one] at h
            exact h
          have HC := Lib.hid (has_any (ns.take i) X (some ad) nc B wr (fun j u hu => (HNR.out.below (HB3.out.mono HBB.out)) j u (by
            have h1 : rowsV sCell (ns.take i) = (rowsV sCell ns).take (i * 1) := rowsV_take (f := sCell) (m := 1) (fun _ => rfl) ns i
            rw [h1, List.getElem?_take] at hu
            split at hu
            · exact hu
            · cases hu)) (by rw [List.length_take]; have := HSN.out; omega))
          have hli : (ns.take i).length = i := by rw [List.length_take]; omega
          rw [hli] at HC
          obtain ⟨b, hb⟩ : ∃ b, b = decide (X ∈ ns.take i) := ⟨_, rfl⟩
          rw [← hb] at HC
          have HBX := Lib.hid hb
          have hnc : (i : Int) ≤ (nc : Int) := by have := HNC.out; omega
          clear hX hdt hcell hadb hil hli hb
          go_wp2_with fail
          refine calls_then HC.out ?_
          rintro e w2 ⟨rfl, rfl⟩
          cases b with
          | true =>
            have HD := Lib.hid (HDT.out.1 (by have := HBX.out; exact of_decide_eq_true this.symm))
            go_wp2_with fail
            go_ret
            exact ⟨by rw [HQ2.out, HD.out]; rfl, HB0.out.trans (HB3.out.mono HB0.out.size)⟩
          | false =>
            have HD := Lib.hid (HDT.out.2 (by have := HBX.out; exact of_decide_eq_false this.symm))
            go_wp2_with fail
            go_roundw
            case rel => exact ⟨i + 1, HLT.out, by go_num, HD.out, HB3.out⟩
            case measure => have := HLT.out; simp [intOf]; omega
        · obtain rfl : i = nn := by omega
          have HD := Lib.hid (show distinct ns = true by
            have := HOK.out
            rwa [HNL.out, List.take_length] at this)
          have hmf : ∀ (fn : Fn) (first cap : Array Value) (u : World), (Instr.makeFunc fn first cap).run Try.prog u = .ok (.func fn first cap) u := fun _ _ _ _ => rfl
          clear a3
          go_wp2_with fail
          have HFIN := Lib.hid (show Calls Try.prog 29 #[.slice kA kn kc, .func (.func 30) #[] #[.pointer (some ⟨w.heap.size + 1, 0, none⟩)]] wr fun e w' => e = .returned (.bool (!rightsV (d - 1) ks)) ∧ Below W0.heap.size W0 w' by
            have hkn : kn = ks.length := by have := HKN.out; omega
            by_cases h0 : d = 0
            · have hk0 := HKE.out h0
              subst hk0
              subst hkn
              refine calls_then (conj_nil kA kc _ wr) ?_
              rintro e w5 ⟨rfl, rfl⟩
              exact ⟨by simp [rightsV], HB3.out⟩
            · obtain ⟨d', rfl⟩ : ∃ d', d = d' + 1 := ⟨d - 1, by omega⟩
              have h5 := (CE.out _ HB3.out).2.2.2.2.2
              subst hkn
              refine calls_then (conj_any d' (by have := HD9.out; omega) (HIH.out d' rfl) ks kv kA kc B _ wr HSM.out HSK.out HKV.out (HKR.out.below (HB3.out.mono HBB.out)) (fun i h h' => (HKI.out i h h').under (HB3.out.mono HBB.out)) (Nat.le_trans HBB.out HB3.out.size) (by simpa using h5)) ?_
              rintro e w5 ⟨rfl, hb5⟩
              exact ⟨rfl, HB3.out.trans (hb5.mono HB3.out.size)⟩)
          refine calls_then HFIN.out ?_
          rintro e w4 ⟨rfl, hb4⟩
          have HB4 := Lib.hid hb4
          clear hb4
          go_wp2_with fail
          go_ret
          exact ⟨by rw [HQ2.out, HD.out]; simp, HB0.out.trans (HB4.out.mono HB0.out.size)⟩
theorem right_any : ∀ d : Nat, (d : Int) ≤ 1000 → RVal d := by
  intro d
  induction d with
  | zero => exact fun h => right_step 0 h (fun d' h' => by omega)
  | succ d ih => exact fun h => right_step (d + 1) h (fun d' h' => by
      have : d' = d := by omega
      subst this
      exact ih (by omega))
end Go.Proofs.Ytcfbnjaelniahaa.Js
