/-
  Joined texts: Jrt Jtx Jnu Jva Jvl Jwr Jsd Jsm Jlv Jq1 Jsg Jbl Jl1 Jl2 Jc1 Jwl Jl3 Jl4.
-/
import Derived.Deep.QuietTactic
import Derived.BigQuiet
import Derived.Laws.Runes
import Derived.Deep.DeepCutAuto
import Derived.Test.YtcfbnjaelniahaaW2
import Derived.Test.YtcfbnjaelniahaaW1
/-
  Walk: json's right, whole.
-/
namespace Go.Proofs.Ytcfbnjaelniahaa.Js
set_option linter.unusedSimpArgs false
set_option linter.unusedVariables false
open Go.RowKit

/-- what right says, part by part -/
structure RightQ (d : Nat) (k n : Int) (t : Bs) (ns : List Bs) (ks : List JT) (P : Bool) : Prop where
  eq : rightV d (.mk k n t ns ks) = (P && !(d == 0 && decide (4 ≤ k)) && (decide (0 ≤ k) && decide (k ≤ 5)) && (k != 5 || ns.length == ks.length) && okT t && ns.all okT
      && (k != 2 || (decide (-1000000000000000 ≤ n) && decide (n ≤ 1000000000000000))) && distinct ns && rightsV (d - 1) ks)
theorem distinct_take {l : List Bs} {i : Nat} (hi : i < l.length) (h : distinct (l.take i) = true) : (l[i] ∈ l.take i → distinct l = false) ∧ (l[i] ∉ l.take i → distinct (l.take (i + 1)) = true) := by
  constructor
  · intro hm
    cases hq : distinct l with
    | false => rfl
    | true =>
      have e : l = l.take i ++ l[i] :: l.drop (i + 1) := by
        rw [← List.drop_eq_getElem_cons hi, List.take_append_drop]
      rw [e] at hq
      exact absurd hm (distinct_not hq)
  · intro hm
    rw [List.take_succ_eq_append_getElem hi]
    exact distinct_snoc h hm
set_option maxRecDepth 100000 in
set_option maxHeartbeats 4000000 in
theorem right_step (d : Nat) (hd9 : (d : Int) ≤ 1000) (IH : ∀ d', d = d' + 1 → RVal d') : RVal d := by
  intro j v B w hs hj hB
  have hu := Try.underlying25
  obtain ⟨ns, ks, kv, rfl, hn, hnc, hnr, hkn, _, hkv, hkr, hkids⟩ := hj.inv
  rw [smallJ] at hs
  simp only [Bool.and_eq_true, decide_eq_true_eq] at hs
  obtain ⟨⟨hsn, hsk⟩, hsm⟩ := hs
  obtain ⟨G, hG⟩ : ∃ G, G = w.heap.size := ⟨_, rfl⟩
  obtain ⟨W0, hW0⟩ : ∃ W0, W0 = (w.alloc (.cells (jvCells v) 25)).alloc (.cells #[.int .i64 (d : Int)] 3) := ⟨_, rfl⟩
  have hb0 : Below w.heap.size w W0 := by rw [hW0]; exact ((Below.refl _ w).alloc (Nat.le_refl _) _).alloc (by simp) _
  have HB0 := Lib.hid hb0
  have hkb : Blk W0 G 25 (jvCells v) := by rw [hW0, hG]; exact (Blk.new _ _ _).alloc _
  have hkd : Blk W0 (G + 1) 3 #[.int .i64 (d : Int)] := by
    have := Blk.new (w.alloc (.cells (jvCells v) 25)) 3 #[.int .i64 (d : Int)]
    rw [hW0, hG]
    simpa using this
  have HKB := Lib.hid hkb
  have HKD := Lib.hid hkd
  have HNR := Lib.hid (show Rd W0 B v.nA (rowsV sCell ns) from (hnr.rd (fun _ _ h => h)).below (hb0.mono hB))
  have HKR := Lib.hid (show Rd W0 B v.kA (rowsV jvCells kv) from (hkr.rd (fun _ _ h => h)).below (hb0.mono hB))
  have HKI := Lib.hid (show ∀ i (h : i < ks.length) (h' : i < kv.length), JRep W0 (fun b => b < B) ks[i] kv[i] from fun i h h' => (hkids i h h').under (hb0.mono hB))
  have HBB := Lib.hid (show B ≤ W0.heap.size from Nat.le_trans hB hb0.size)
  have HW0 := Lib.hid hW0
  have HSN := Lib.hid hsn
  have HSK := Lib.hid hsk
  have HSM := Lib.hid hsm
  have HKV := Lib.hid hkv
  have HIH := Lib.hid IH
  have HD9 := Lib.hid hd9
  have HNC := Lib.hid hnc
  have HP := Lib.hid (plain_any v ns ks hn hkn W0)
  obtain ⟨vk, vn, vt, nA, nn, nc, kA, kn, kc⟩ := v
  dsimp only at *
  obtain ⟨P, hP⟩ : ∃ P, P = plainJ vk vn vt ns ks := ⟨_, rfl⟩
  rw [← hP] at HP
  have HPL := Lib.hid hP
  have HQ : RightQ d vk vn vt ns ks P := ⟨by rw [rightV, hP]⟩
  have HN := Lib.hid hn
  have HKN := Lib.hid hkn
  have HE := Lib.hid (show (ns.length == ks.length) = !((nn : Int) != (kn : Int)) by rw [hn, hkn, Bool.eq_iff_iff, beq_iff_eq]; simp; omega)
  have a0 : W0.cell? ⟨G, 0, none⟩ = some (.int .i64 vk) := hkb.cell 0
  have a1 : W0.cell? ⟨G, 1, none⟩ = some (.int .i64 vn) := hkb.cell 1
  have a2 : W0.cell? ⟨G, 2, none⟩ = some (.string (bs vt)) := hkb.cell 2
  have a3 : W0.cell? ⟨G, 3, none⟩ = some (.slice nA nn nc) := hkb.cell 3
  have a4 : W0.cell? ⟨G, 4, none⟩ = some (.slice kA kn kc) := hkb.cell 4
  have a5 : W0.cell? ⟨G + 1, 0, none⟩ = some (.int .i64 (d : Int)) := hkd.cell 0
  clear hW0 hb0 hkb hkd hnr hkr hkids hB hsn hsk hsm hkv IH hd9 hn hkn hP hnc hj
  rw [hG] at *
  clear hG
  go_enter Try.func14, Try.ntmps14
  go_upto_region 1 with (fail)
  rw [← HW0.out]
  clear HW0
  generalize Value.agg (jvCells ⟨vk, vn, vt, nA, nn, nc, kA, kn, kc⟩) = AV
  generalize Value.int IntKind.i64 (d : Int) = DV
  clear a0 a1 a2 a3 a4 a5
  go_cut [43] (fun x wx => x = .bool (!P || (decide ((d : Int) = 0) && decide (4 ≤ vk)) || decide (vk < 0) || decide (5 < vk) || (vk == 5 && ((nn : Int) != (kn : Int)))) ∧ Below W0.heap.size W0 wx)
  case first =>
    go_wp2_with (refine wpList_get_box (x := .tmp 2) HKB.out rfl rfl rfl hu rfl jT_size2 ?_)
    refine calls_then HP.out ?_
    rintro e w1 ⟨rfl, hb1⟩
    have HB1 := Lib.hid hb1
    have hkb := HKB.out.below hb1 HKB.out.lt
    have hkd := HKD.out.below hb1 HKD.out.lt
    have a0 : w1.cell? ⟨w.heap.size, 0, none⟩ = some (.int .i64 vk) := hkb.cell 0
    have a3 : w1.cell? ⟨w.heap.size, 3, none⟩ = some (.slice nA nn nc) := hkb.cell 3
    have a4 : w1.cell? ⟨w.heap.size, 4, none⟩ = some (.slice kA kn kc) := hkb.cell 4
    have a5 : w1.cell? ⟨w.heap.size + 1, 0, none⟩ = some (.int .i64 (d : Int)) := hkd.cell 0
    clear hb1 hkb hkd
    generalize Value.agg (jvCells ⟨vk, vn, vt, nA, nn, nc, kA, kn, kc⟩) = AV2
    cases P with
    | false =>
      go_wp2_with fail
      all_goals (go_meet; exact ⟨by first | rfl | (simp; done), HB1.out⟩)
    | true =>
      go_wp2_with fail
      all_goals (go_meet; exact ⟨by first | rfl | (simp; done) | (simp_all; done), HB1.out⟩)
  case rest =>
  obtain ⟨rfl, hbel⟩ := hcut
  have HBE := Lib.hid hbel
  clear hbel
  obtain ⟨X1, hX1⟩ : ∃ X1, X1 = (!P || (decide ((d : Int) = 0) && decide (4 ≤ vk)) || decide (vk < 0) || decide (5 < vk) || (vk == 5 && ((nn : Int) != (kn : Int)))) := ⟨_, rfl⟩
  rw [← hX1]
  have HQ1 := Lib.hid (show rightV d (.mk vk vn vt ns ks) = (!X1 && okT vt && ns.all okT && (vk != 2 || (decide (-1000000000000000 ≤ vn) && decide (vn ≤ 1000000000000000))) && distinct ns && rightsV (d - 1) ks) by
    have e1 : (d == 0) = decide ((d : Int) = 0) := by rw [Bool.eq_iff_iff, beq_iff_eq, decide_eq_true_iff]; omega
    have e2 : decide (0 ≤ vk) = !decide (vk < 0) := by rw [Bool.eq_iff_iff]; simp
    have e3 : decide (vk ≤ 5) = !decide (5 < vk) := by rw [Bool.eq_iff_iff]; simp
    rw [HQ.eq, HE.out, e1, e2, e3, hX1]
    unfold bne
    cases P <;> cases decide ((d : Int) = 0) <;> cases decide (4 ≤ vk) <;> cases decide (vk < 0) <;> cases decide (5 < vk) <;> cases (vk == 5) <;> simp)
  have HX1 := Lib.hid (show X1 = false → d = 0 → ks = [] from fun h1 h2 => by
    rw [hX1] at h1
    simp only [Bool.or_eq_false_iff, Bool.not_eq_false', Bool.and_eq_false_imp, decide_eq_true_eq, decide_eq_false_iff_not] at h1
    have hp := HPL.out
    rw [h1.1.1.1.1] at hp
    have h4 := h1.1.1.1.2 (by omega)
    have h5 := hp.symm
    unfold plainJ at h5
    simp only [Bool.and_eq_true, Bool.or_eq_true, List.isEmpty_iff, beq_iff_eq] at h5
    rcases h5.1.1.2 with (h | h) | h
    · exact h
    · omega
    · omega)
  clear hX1
  cases X1 with
  | true =>
    go_wp2_with fail
    go_ret
    exact ⟨by rw [HQ1.out]; simp, HB0.out.trans (HBE.out.mono HB0.out.size)⟩
  | false =>
    have HKE := Lib.hid (HX1.out rfl)
    clear HX1 HP HPL HQ
    have cells : ∀ u, Below W0.heap.size W0 u → u.cell? ⟨w.heap.size, 0, none⟩ = some (.int .i64 vk) ∧ u.cell? ⟨w.heap.size, 1, none⟩ = some (.int .i64 vn) ∧ u.cell? ⟨w.heap.size, 2, none⟩ = some (.string (bs vt)) ∧ u.cell? ⟨w.heap.size, 3, none⟩ = some (.slice nA nn nc) ∧
        u.cell? ⟨w.heap.size, 4, none⟩ = some (.slice kA kn kc) ∧ u.cell? ⟨w.heap.size + 1, 0, none⟩ = some (.int .i64 (d : Int)) := fun u hu => by
      have h := HKB.out.below hu HKB.out.lt
      have h' := HKD.out.below hu HKD.out.lt
      exact ⟨h.cell 0, h.cell 1, h.cell 2, h.cell 3, h.cell 4, h'.cell 0⟩
    have CE := Lib.hid cells
    clear cells
    go_upto_region 4 with (fail)
    go_cut [68] (fun x wx => x = .bool (!okT vt || !ns.all okT || (vk == 2 && (decide (vn < -1000000000000000) || decide (1000000000000000 < vn)))) ∧ Below W0.heap.size W0 wx)
    case first =>
      obtain ⟨a0, a1, a2, a3, _⟩ := CE.out _ HBE.out
      have eg : ∀ args w, (callFunc 24 args).run Try.prog w = .ok (.enter 24 args) w := enters_of Try.func24 (by kernel_rfl) rfl
      go_wp2_with fail
      refine calls_then (odd_any (bs vt) _) ?_
      rintro e w2 ⟨rfl, hb2⟩
      rw [show (bs vt).data.toList = vt from rfl]
      have HB2 := Lib.hid (HBE.out.trans (hb2.mono HBE.out.size))
      clear a0 a1 a2 a3 hb2
      obtain ⟨a0, a1, a2, a3, _⟩ := CE.out _ HB2.out
      cases hq1 : okT vt with
      | false =>
        go_wp2_with fail
        all_goals (go_meet; exact ⟨by first | rfl | (simp; done) | (simp [hq1]; done), HB2.out⟩)
      | true =>
        have HC := Lib.hid (cons_any ns nA nc B w2 (HNR.out.below (HB2.out.mono HBB.out)) (Nat.le_trans HBB.out HB2.out.size) (by have := HSN.out; omega))
        rw [← HN.out] at HC
        go_wp2_with fail
        refine calls_then HC.out ?_
        rintro e w3 ⟨rfl, hb3⟩
        have HB3 := Lib.hid (HB2.out.trans (hb3.mono HB2.out.size))
        clear a0 a1 a2 a3 hb3 HC
        obtain ⟨a0, a1, a2, a3, _⟩ := CE.out _ HB3.out
        cases hq2 : ns.all okT with
        | false =>
          go_wp2_with fail
          all_goals (go_meet; exact ⟨by first | rfl | (simp; done) | (simp only [hq1, hq2]; rfl), HB3.out⟩)
        | true =>
          go_wp2_with fail
          all_goals (go_meet; exact ⟨by rw [hq1, hq2]; first | rfl | (simp; done) | (simp_all; done) | grind, HB3.out⟩)
    case rest =>
    obtain ⟨rfl, hbel⟩ := hcut
    clear HBE
    have HBE := Lib.hid hbel
    clear hbel
    obtain ⟨X2, hX2⟩ : ∃ X2, X2 = (!okT vt || !ns.all okT || (vk == 2 && (decide (vn < -1000000000000000) || decide (1000000000000000 < vn)))) := ⟨_, rfl⟩
    rw [← hX2]
    have HQ2 := Lib.hid (show rightV d (.mk vk vn vt ns ks) = (!X2 && distinct ns && rightsV (d - 1) ks) by
      have e1 : decide (-1000000000000000 ≤ vn) = !decide (vn < -1000000000000000) := by rw [Bool.eq_iff_iff]; simp
      have e2 : decide (vn ≤ 1000000000000000) = !decide (1000000000000000 < vn) := by rw [Bool.eq_iff_iff]; simp
      rw [HQ1.out, hX2, e1, e2]
      unfold bne
      cases okT vt <;> cases ns.all okT <;> cases (vk == 2) <;> cases decide (vn < -1000000000000000) <;> cases decide (1000000000000000 < vn) <;> simp)
    clear hX2 HQ1
    cases X2 with
    | true =>
      go_wp2_with fail
      go_ret
      exact ⟨by rw [HQ2.out]; simp, HB0.out.trans (HBE.out.mono HB0.out.size)⟩
    | false =>
      obtain ⟨_, _, _, a3, _⟩ := CE.out _ HBE.out
      go_wp2_with fail
      clear a3
      have hsn : (nn : Int) ≤ 4096 := by have := HSN.out; have := HN.out; omega
      have hnl : nn = ns.length := by have := HN.out; omega
      have HNL := Lib.hid hnl
      clear hnl
      go_loopw [72] (fun x wr => ∃ i : Nat, i ≤ nn ∧ x = .int .i64 (i : Int) ∧ distinct (ns.take i) = true ∧ Below W0.heap.size W0 wr) (fun x _ => nn - (intOf x).toNat)
      case atStart => exact ⟨0, by omega, rfl, by simp [distinct], HBE.out⟩
      case round =>
        obtain ⟨i, hi, rfl, hok, hb⟩ := hrel
        have HB3 := Lib.hid hb
        have HOK := Lib.hid hok
        clear hb hok
        obtain ⟨_, _, _, a3, a4, _⟩ := CE.out _ HB3.out
        by_cases hlt : i < nn
        · have hil : i < ns.length := by rw [← HNL.out]; exact hlt
          have hlt' : (i : Int) < (nn : Int) := by omega
          have HLT := Lib.hid hlt
          obtain ⟨ad, hA, hadb, hcell⟩ := rd_rows (f := sCell) (m := 1) (fun _ => rfl) (by decide) (HNR.out.below (HB3.out.mono HBB.out)) hil
          subst hA
          obtain ⟨X, hX⟩ : ∃ X, X = ns[i] := ⟨_, rfl⟩
          have hdt := distinct_take hil HOK.out
          rw [← hX] at hcell hdt
          have HDT := Lib.hid hdt
          have hc0 : wr.cell? (ad.add i) = some (.string (bs X)) := by
            have h := hcell 0 _ rfl
            rw [Nat.mul_one] at h
            exact h
          have HC := Lib.hid (has_any (ns.take i) X (some ad) nc B wr (fun j u hu => (HNR.out.below (HB3.out.mono HBB.out)) j u (by
            have h1 : rowsV sCell (ns.take i) = (rowsV sCell ns).take (i * 1) := rowsV_take (f := sCell) (m := 1) (fun _ => rfl) ns i
            rw [h1, List.getElem?_take] at hu
            split at hu
            · exact hu
            · cases hu)) (by rw [List.length_take]; have := HSN.out; omega))
          have hli : (ns.take i).length = i := by rw [List.length_take]; omega
          rw [hli] at HC
          obtain ⟨b, hb⟩ : ∃ b, b = decide (X ∈ ns.take i) := ⟨_, rfl⟩
          rw [← hb] at HC
          have HBX := Lib.hid hb
          have hnc : (i : Int) ≤ (nc : Int) := by have := HNC.out; omega
          clear hX hdt hcell hadb hil hli hb
          go_wp2_with fail
          refine calls_then HC.out ?_
          rintro e w2 ⟨rfl, rfl⟩
          cases b with
          | true =>
            have HD := Lib.hid (HDT.out.1 (by have := HBX.out; exact of_decide_eq_true this.symm))
            go_wp2_with fail
            go_ret
            exact ⟨by rw [HQ2.out, HD.out]; rfl, HB0.out.trans (HB3.out.mono HB0.out.size)⟩
          | false =>
            have HD := Lib.hid (HDT.out.2 (by have := HBX.out; exact of_decide_eq_false this.symm))
            go_wp2_with fail
            go_roundw
            case rel => exact ⟨i + 1, HLT.out, by go_num, HD.out, HB3.out⟩
            case measure => have := HLT.out; simp [intOf]; omega
        · obtain rfl : i = nn := by omega
          have HD := Lib.hid (show distinct ns = true by
            have := HOK.out
            rwa [HNL.out, List.take_length] at this)
          have hmf : ∀ (fn : Fn) (first cap : Array Value) (u : World), (Instr.makeFunc fn first cap).run Try.prog u = .ok (.func fn first cap) u := fun _ _ _ _ => rfl
          clear a3
          go_wp2_with fail
          have HFIN := Lib.hid (show Calls Try.prog 29 #[.slice kA kn kc, .func (.func 30) #[] #[.pointer (some ⟨w.heap.size + 1, 0, none⟩)]] wr fun e w' => e = .returned (.bool (!rightsV (d - 1) ks)) ∧ Below W0.heap.size W0 w' by
            have hkn : kn = ks.length := by have := HKN.out; omega
            by_cases h0 : d = 0
            · have hk0 := HKE.out h0
              subst hk0
              subst hkn
              refine calls_then (conj_nil kA kc _ wr) ?_
              rintro e w5 ⟨rfl, rfl⟩
              exact ⟨by simp [rightsV], HB3.out⟩
            · obtain ⟨d', rfl⟩ : ∃ d', d = d' + 1 := ⟨d - 1, by omega⟩
              have h5 := (CE.out _ HB3.out).2.2.2.2.2
              subst hkn
              refine calls_then (conj_any d' (by have := HD9.out; omega) (HIH.out d' rfl) ks kv kA kc B _ wr HSM.out HSK.out HKV.out (HKR.out.below (HB3.out.mono HBB.out)) (fun i h h' => (HKI.out i h h').under (HB3.out.mono HBB.out)) (Nat.le_trans HBB.out HB3.out.size) (by simpa using h5)) ?_
              rintro e w5 ⟨rfl, hb5⟩
              exact ⟨rfl, HB3.out.trans (hb5.mono HB3.out.size)⟩)
          refine calls_then HFIN.out ?_
          rintro e w4 ⟨rfl, hb4⟩
          have HB4 := Lib.hid hb4
          clear hb4
          go_wp2_with fail
          go_ret
          exact ⟨by rw [HQ2.out, HD.out]; simp, HB0.out.trans (HB4.out.mono HB0.out.size)⟩
theorem right_any : ∀ d : Nat, (d : Int) ≤ 1000 → RVal d := by
  intro d
  induction d with
  | zero => exact fun h => right_step 0 h (fun d' h' => by omega)
  | succ d ih => exact fun h => right_step (d + 1) h (fun d' h' => by
      have : d' = d := by omega
      subst this
      exact ih (by omega))
end Go.Proofs.Ytcfbnjaelniahaa.Js
/-
  Walk: json's writer: a text.
-/
namespace Go.Proofs.Ytcfbnjaelniahaa.Js
set_option linter.unusedSimpArgs false
set_option linter.unusedVariables false
open Go.RowKit

theorem enc_one (n : Nat) (h : n < 128) : Utf8.encode (n : Int) = ⟨#[UInt8.ofNat n]⟩ := by
  have hv : Utf8.valid (n : Int) = true := by rw [validRune_eq]; simp [validRune]; omega
  simp [Utf8.encode, hv, h]
theorem jwT : BT 46 := ⟨by kernel_rfl, by decide⟩
theorem hex_at (n : Nat) (h : n < 16) (h2 : n < (⟨#[48, 49, 50, 51, 52, 53, 54, 55, 56, 57, 97, 98, 99, 100, 101, 102]⟩ : ByteArray).size) : ((⟨#[48, 49, 50, 51, 52, 53, 54, 55, 56, 57, 97, 98, 99, 100, 101, 102]⟩ : ByteArray)[n]'h2) = hexd n := by
  have : n = 0 ∨ n = 1 ∨ n = 2 ∨ n = 3 ∨ n = 4 ∨ n = 5 ∨ n = 6 ∨ n = 7 ∨ n = 8 ∨ n = 9 ∨ n = 10 ∨ n = 11 ∨ n = 12 ∨ n = 13 ∨ n = 14 ∨ n = 15 := by omega
  rcases this with h | h | h | h | h | h | h | h | h | h | h | h | h | h | h | h <;> subst h <;> rfl
theorem cat6 (a b : UInt8) : ((⟨#[92, 117, 48, 48]⟩ : ByteArray) ++ ⟨#[a]⟩ ++ ⟨#[b]⟩).data.toList = [92, 117, 48, 48, a, b] := by
  rw [ByteArray.data_append, ByteArray.data_append]
  rfl
theorem cat2 (a : UInt8) : ((⟨#[92]⟩ : ByteArray) ++ ⟨#[a]⟩).data.toList = [92, a] := by
  rw [ByteArray.data_append]
  rfl
theorem size_of_list {s : ByteArray} {l : Bs} (h : s.data.toList = l) : s.size = l.length := by rw [← h]; rfl
/-- one more byte of a text -/
structure StepQ (c L C1 : Bs) (k : Nat) (x : UInt8) : Prop where
  eq : C1 ++ quoteC x = c ++ 34 :: (L.take (k + 1)).flatMap quoteC
theorem quoteC_len (x : UInt8) : 1 ≤ (quoteC x).length := by unfold quoteC; split <;> (try split) <;> simp
theorem quote_len (L : Bs) : L.length ≤ (quote L).length := by
  have h : ∀ L : Bs, L.length ≤ (L.flatMap quoteC).length := fun L => by
    induction L with
    | nil => simp
    | cons x r ih =>
      have := quoteC_len x
      rw [List.flatMap_cons, List.length_append, List.length_cons]
      omega
  have := h L
  simp only [quote, List.length_cons, List.length_append]
  omega
/-- the writer holds these bytes -/
def WB (w0 : World) (B p : Nat) (c : Bs) (w : World) : Prop := IsB w B 46 p c ∧ BK B p w0 w
theorem WB.drew {w0 w : World} {B p : Nat} {c : Bs} (h : WB w0 B p c w) : WB w0 B p c w.drew := ⟨h.1, h.2.drew⟩
theorem WB.next {w0 w w' : World} {B p : Nat} {c c' : Bs} (h : WB w0 B p c w) (h1 : IsB w' B 46 p c') (h2 : BK B p w w') : WB w0 B p c' w' := ⟨h1, h.2.trans h2⟩
set_option maxRecDepth 100000 in
set_option maxHeartbeats 4000000 in
theorem wtext_any (s : ByteArray) (B p : Nat) (c : Bs) (w0 w : World) (hb : WB w0 B p c w) (hl : c.length + (quote s.data.toList).length ≤ 1099511627776) :
    Calls Try.prog 33 #[.pointer (some ⟨p, 0, none⟩), .string s] w fun e w' => e = .returned (.tuple #[]) ∧ WB w0 B p (c ++ quote s.data.toList) w' := by
  obtain ⟨L, hL⟩ : ∃ L, L = s.data.toList := ⟨_, rfl⟩
  have hLs : L.length = s.size := by rw [hL]; rfl
  rw [← hL] at hl ⊢
  have hq : (quote L).length = (L.flatMap quoteC).length + 2 := by simp [quote]
  have hs : s.size ≤ 1099511627776 := by have := quote_len L; omega
  have hsz : (s.size : Int) ≤ 1099511627776 := by omega
  have HQ := Lib.hid hl
  have HQ2 := Lib.hid hq
  have HLS := Lib.hid hLs
  have CB := Lib.hid (fun (c : Bs) (x : UInt8) (u : World) (h : IsB u B 46 p c) (h2 : c.length + 1 ≤ 140737488355328) => bld_byte jwT B p c x u h h2)
  have CS := Lib.hid (fun (c : Bs) (x : ByteArray) (u : World) (h : IsB u B 46 p c) (h2 : c.length + x.size ≤ 140737488355328) => bld_str jwT B p c x u h h2)
  have HB := Lib.hid hb
  have HL := Lib.hid hL
  clear hb hl hq hLs hL hs
  unfold byteV at CB
  go_enter Try.func33, Try.ntmps33
  go_wp2_with fail
  refine calls_then (CB.out c 34 _ HB.out.1 (by have := HQ.out; have := HQ2.out; omega)) ?_
  rintro e w1 ⟨rfl, hb1, hw1⟩
  have HB1 := Lib.hid (HB.out.next hb1 hw1)
  clear hb1 hw1
  go_wp2_with fail
  go_loopw [12] (fun i wr => ∃ k : Nat, k ≤ s.size ∧ i = .int .i64 (k : Int) ∧ WB w0 B p (c ++ 34 :: (L.take k).flatMap quoteC) wr) (fun i _ => s.size - (intOf i).toNat)
  case atStart => exact ⟨0, by omega, rfl, by simpa using HB1.out⟩
  case round =>
    obtain ⟨k, hk, rfl, hwr⟩ := hrel
    have HWR := Lib.hid hwr
    clear hwr
    by_cases hlt : k < s.size
    · have hlt' : (k : Int) < (s.size : Int) := by omega
      have hkL : k < L.length := by have := HLS.out; omega
      have hx : L[k]'hkL = s[k] := by
        have := HL.out
        subst this
        rfl
      obtain ⟨x, hxx⟩ : ∃ x, x = s[k] := ⟨_, rfl⟩
      have HST := StepQ.mk (show (c ++ 34 :: (L.take k).flatMap quoteC) ++ quoteC x = c ++ 34 :: (L.take (k + 1)).flatMap quoteC by
        rw [List.take_succ_eq_append_getElem hkL, List.flatMap_append, hx, hxx]
        simp)
      have HLN := Lib.hid (show (c ++ 34 :: (L.take k).flatMap quoteC).length + 6 ≤ 140737488355328 by
        have h1 := HQ.out
        have h2 := HQ2.out
        have h3 : L.flatMap quoteC = (L.take k).flatMap quoteC ++ (L.drop k).flatMap quoteC := by rw [← List.flatMap_append, List.take_append_drop]
        rw [h3] at h2
        simp at h2 ⊢
        omega)
      obtain ⟨C1, hC1⟩ : ∃ C1, C1 = c ++ 34 :: (L.take k).flatMap quoteC := ⟨_, rfl⟩
      rw [← hC1] at HST HLN HWR
      clear hx hkL hC1
      obtain ⟨n, hn⟩ : ∃ n : Nat, n = x.toNat := ⟨_, rfl⟩
      have hn' : s[k].toNat = n := by rw [hn, hxx]
      have hxn : UInt8.ofNat n = x := by rw [hn]; simp
      have HN := Lib.hid hn
      have HXN := Lib.hid hxn
      have HNL := Lib.hid (show n < 256 by rw [hn]; exact x.toNat_lt)
      clear hn hxn hxx
      by_cases h32 : n < 32
      · have h32' : ((s[k].toNat : Nat) : Int) < 32 := by omega
        have HQC := Lib.hid (show quoteC x = [92, 117, 48, 48, hexd (n / 16), hexd (n % 16)] by
          have : x < 32 := by rw [UInt8.lt_iff_toNat_lt, ← HN.out]; exact h32
          rw [quoteC, if_pos this, ← HN.out])
        have a1 : n / 16 < 16 := by omega
        have a2 : n % 16 < 16 := by omega
        have HH1 := Lib.hid (show (hexd (n / 16)).toNat < 128 by unfold hexd; split <;> simp <;> omega)
        have HH2 := Lib.hid (show (hexd (n % 16)).toNat < 128 by unfold hexd; split <;> simp <;> omega)
        have HC0 := HWR.out.drew
        have d32 : decide ((n : Int) < 32) = true := by rw [decide_eq_true_iff]; omega
        clear HWR
        go_wp2_with fail
        clear h32 h32' hn' d32
        refine wp_region_det (fun u => WB w0 B p C1 u) (fun u => WB w0 B p (C1 ++ quoteC x) u) [(0, some 26), (1, some 27), (2, some 28), (3, some 29), (4, some 30), (5, some 31), (6, some 32), (7, some 33), (8, some 34), (9, some 35), (10, some 36), (11, some 37), (12, some 38), (13, some 39)] (by kernel_rfl) (by kernel_rfl) (by decide) (by kernel_rfl) (fun _ => rfl) HC0 ?_
        apply DetL.next
        · -- 0: Op.move (Operand.tmp 0)
          apply detStep_plain []
          exact fun _ => rfl
          rfl
          rintro vals - w1 hC1 E hE
          simp only [puts, act_put, act_put_none, List.setIfInBounds_toArray, List.set_cons_zero, List.set_cons_succ] at hE ⊢
          go_wp2
          exact .mk (hE _ hC1)
        apply DetL.next
        · -- 1: Op.nilCheck (Operand.tmp 26)
          apply detStep_plain [(0, some 26)]
          exact fun _ => rfl
          rfl
          rintro vals ⟨-, f0⟩ w1 hC1 E hE
          simp only [puts, act_put, act_put_none, List.setIfInBounds_toArray, List.set_cons_zero, List.set_cons_succ, f0] at hE ⊢
          clear f0
          go_wp2
          exact .mk (hE _ hC1)
        apply DetL.next
        · -- 2: Op.fieldAddr 46 (Operand.tmp 27) 0
          apply detStep_plain [(1, some 27)]
          exact fun _ => rfl
          rfl
          rintro vals ⟨⟨-, -⟩, f1⟩ w1 hC1 E hE
          simp only [puts, act_put, act_put_none, List.setIfInBounds_toArray, List.set_cons_zero, List.set_cons_succ, f1] at hE ⊢
          clear f1
          go_wp2
          exact .mk (hE _ hC1)
        apply DetL.next
        · -- 3: Op.move (Operand.tmp 5)
          apply detStep_plain []
          exact fun _ => rfl
          rfl
          rintro vals ⟨⟨⟨-, -⟩, -⟩, -⟩ w1 hC1 E hE
          simp only [puts, act_put, act_put_none, List.setIfInBounds_toArray, List.set_cons_zero, List.set_cons_succ] at hE ⊢
          go_wp2
          exact .mk (hE _ hC1)
        apply DetL.next (v := .int .u8 ((n / 16 : Nat) : Int))
        · -- 4: Op.binOp BinOp.shr 5 (Operand.tmp 29) (Operand.const (Value.int IntKind.u64 4)) 82
          apply detStep_plain [(3, some 29)]
          exact fun _ => rfl
          rfl
          rintro vals ⟨⟨⟨⟨-, -⟩, -⟩, -⟩, f3⟩ w1 hC1 E hE
          simp only [puts, act_put, act_put_none, List.setIfInBounds_toArray, List.set_cons_zero, List.set_cons_succ, f3] at hE ⊢
          clear f3
          go_wp2
          exact .mk (hE _ hC1)
        apply DetL.next
        · -- 5: Op.index 9 (Operand.const (Value.string { data := #[48, 49, 50, 51, 52, 53, 54, 55, 56, 57, 97, 98, 99, 100, 1
          apply detStep_plain [(4, some 30)]
          exact fun _ => rfl
          rfl
          rintro vals ⟨⟨⟨⟨⟨-, -⟩, -⟩, -⟩, -⟩, f4⟩ w1 hC1 E hE
          simp only [puts, act_put, act_put_none, List.setIfInBounds_toArray, List.set_cons_zero, List.set_cons_succ, f4] at hE ⊢
          clear f4
          go_wp2
          rw [hex_at (n / 16) a1]
          exact .mk (hE _ hC1)
        apply DetL.next
        · -- 6: Op.convert 5 9 (Operand.tmp 31)
          apply detStep_plain [(5, some 31)]
          exact fun _ => rfl
          rfl
          rintro vals ⟨⟨⟨⟨⟨⟨-, -⟩, -⟩, -⟩, -⟩, -⟩, f5⟩ w1 hC1 E hE
          simp only [puts, act_put, act_put_none, List.setIfInBounds_toArray, List.set_cons_zero, List.set_cons_succ, f5] at hE ⊢
          clear f5
          go_wp2
          rw [enc_one _ HH1.out]
          exact .mk (hE _ hC1)
        apply DetL.next
        · -- 7: Op.binOp BinOp.add 9 (Operand.const (Value.string { data := #[92, 117, 48, 48] })) (Operand.tmp 32) 9
          apply detStep_plain [(6, some 32)]
          exact fun _ => rfl
          rfl
          rintro vals ⟨⟨⟨⟨⟨⟨⟨-, -⟩, -⟩, -⟩, -⟩, -⟩, -⟩, f6⟩ w1 hC1 E hE
          simp only [puts, act_put, act_put_none, List.setIfInBounds_toArray, List.set_cons_zero, List.set_cons_succ, f6] at hE ⊢
          clear f6
          go_wp2
          exact .mk (hE _ hC1)
        apply DetL.next
        · -- 8: Op.move (Operand.tmp 5)
          apply detStep_plain []
          exact fun _ => rfl
          rfl
          rintro vals ⟨⟨⟨⟨⟨⟨⟨⟨-, -⟩, -⟩, -⟩, -⟩, -⟩, -⟩, -⟩, -⟩ w1 hC1 E hE
          simp only [puts, act_put, act_put_none, List.setIfInBounds_toArray, List.set_cons_zero, List.set_cons_succ] at hE ⊢
          go_wp2
          exact .mk (hE _ hC1)
        apply DetL.next (v := .int .u8 ((n % 16 : Nat) : Int))
        · -- 9: Op.binOp BinOp.and 5 (Operand.tmp 34) (Operand.const (Value.int IntKind.u8 15)) 5
          apply detStep_plain [(8, some 34)]
          exact fun _ => rfl
          rfl
          rintro vals ⟨⟨⟨⟨⟨⟨⟨⟨⟨-, -⟩, -⟩, -⟩, -⟩, -⟩, -⟩, -⟩, -⟩, f8⟩ w1 hC1 E hE
          simp only [puts, act_put, act_put_none, List.setIfInBounds_toArray, List.set_cons_zero, List.set_cons_succ, f8] at hE ⊢
          clear f8
          go_wp2
          exact .mk (hE _ hC1)
        apply DetL.next
        · -- 10: Op.index 9 (Operand.const (Value.string { data := #[48, 49, 50, 51, 52, 53, 54, 55, 56, 57, 97, 98, 99, 100, 1
          apply detStep_plain [(9, some 35)]
          exact fun _ => rfl
          rfl
          rintro vals ⟨⟨⟨⟨⟨⟨⟨⟨⟨⟨-, -⟩, -⟩, -⟩, -⟩, -⟩, -⟩, -⟩, -⟩, -⟩, f9⟩ w1 hC1 E hE
          simp only [puts, act_put, act_put_none, List.setIfInBounds_toArray, List.set_cons_zero, List.set_cons_succ, f9] at hE ⊢
          clear f9
          go_wp2
          rw [hex_at (n % 16) a2]
          exact .mk (hE _ hC1)
        apply DetL.next
        · -- 11: Op.convert 5 9 (Operand.tmp 36)
          apply detStep_plain [(10, some 36)]
          exact fun _ => rfl
          rfl
          rintro vals ⟨⟨⟨⟨⟨⟨⟨⟨⟨⟨⟨-, -⟩, -⟩, -⟩, -⟩, -⟩, -⟩, -⟩, -⟩, -⟩, -⟩, f10⟩ w1 hC1 E hE
          simp only [puts, act_put, act_put_none, List.setIfInBounds_toArray, List.set_cons_zero, List.set_cons_succ, f10] at hE ⊢
          clear f10
          go_wp2
          rw [enc_one _ HH2.out]
          exact .mk (hE _ hC1)
        apply DetL.next
        · -- 12: Op.binOp BinOp.add 9 (Operand.tmp 33) (Operand.tmp 37) 9
          apply detStep_plain [(7, some 33), (11, some 37)]
          exact fun _ => rfl
          rfl
          rintro vals ⟨⟨⟨⟨⟨⟨⟨⟨⟨⟨⟨⟨-, -⟩, -⟩, -⟩, -⟩, -⟩, -⟩, -⟩, f7⟩, -⟩, -⟩, -⟩, f11⟩ w1 hC1 E hE
          simp only [puts, act_put, act_put_none, List.setIfInBounds_toArray, List.set_cons_zero, List.set_cons_succ, f7, f11] at hE ⊢
          clear f7 f11
          go_wp2
          exact .mk (hE _ hC1)
        apply DetL.last
        · -- 13: Op.call { callee := Callee.value (Operand.func 31), args := #[Operand.tmp 28, Operand.tmp 38], argTypes := #[4
          apply detStep_plain [(2, some 28), (12, some 38)]
          exact fun _ => rfl
          rfl
          rintro vals ⟨⟨⟨⟨⟨⟨⟨⟨⟨⟨⟨⟨⟨-, -⟩, -⟩, f2⟩, -⟩, -⟩, -⟩, -⟩, -⟩, -⟩, -⟩, -⟩, -⟩, f12⟩ w1 hC1 E hE
          simp only [puts, act_put, act_put_none, List.setIfInBounds_toArray, List.set_cons_zero, List.set_cons_succ, f2, f12] at hE ⊢
          clear f2 f12
          go_wp2_with fail
          refine calls_then (CS.out _ _ _ hC1.1 (by rw [size_of_list (cat6 _ _)]; exact HLN.out)) ?_
          rintro e w2 ⟨rfl, hb2, hw2⟩
          go_wp2_with fail
          exact .mk (hE _ (by have h := hC1.next hb2 hw2; rw [cat6] at h; rw [HQC.out]; exact h))
        rintro vals ⟨⟨⟨⟨⟨⟨⟨⟨⟨⟨⟨⟨⟨⟨-, f0⟩, f1⟩, f2⟩, f3⟩, f4⟩, f5⟩, f6⟩, f7⟩, f8⟩, f9⟩, f10⟩, f11⟩, f12⟩, f13⟩ w1 hC1
        simp only [puts, act_put, act_put_none, List.setIfInBounds_toArray, List.set_cons_zero, List.set_cons_succ, f0, f1, f2, f3, f4, f5, f6, f7, f8, f9, f10, f11, f12, f13]
        clear f0 f1 f2 f3 f4 f5 f6 f7 f8 f9 f10 f11 f12 f13
        have HR := Lib.hid hC1
        clear hC1 HC0
        go_wp2_with fail
        go_roundw
        case rel => exact ⟨k + 1, by omega, by go_num, by rw [← HST.eq]; exact HR.out⟩
        case measure => simp [intOf]; omega
      · obtain ⟨z, hz⟩ : ∃ z : Int, ((s[k].toNat : Nat) : Int) = z := ⟨_, rfl⟩
        have HZ := Lib.hid (show z = (n : Int) by rw [← hz, hn'])
        have hz32 : ¬ z < 32 := by have := HZ.out; omega
        by_cases hq : z = 34 ∨ z = 92
        · have HX := Lib.hid (show z = ((x.toNat : Nat) : Int) by rw [HZ.out, HN.out])
          have HQC : ∃ y : UInt8, y.toNat < 128 ∧ z = ((y.toNat : Nat) : Int) ∧ quoteC x = [92, y] := by
            have h2 := HX.out
            refine ⟨x, by omega, h2, ?_⟩
            have h3 : ¬ x < 32 := by rw [UInt8.lt_iff_toNat_lt]; show ¬ x.toNat < 32; omega
            have h4 : x = 34 ∨ x = 92 := by
              rcases hq with h | h
              · exact .inl (UInt8.toNat.inj (by show x.toNat = 34; omega))
              · exact .inr (UInt8.toNat.inj (by show x.toNat = 92; omega))
            rw [quoteC, if_neg h3, if_pos h4]
          obtain ⟨y, hy1, hy2, hy3⟩ := HQC
          have HE := Lib.hid (show Utf8.encode z = ⟨#[y]⟩ by rw [hy2, enc_one _ hy1]; simp)
          have HY := Lib.hid hy3
          have e3 : (z == 34 || z == 92) = true := by rcases hq with h | h <;> simp [h]
          clear hn' h32 hy1 hy2 hy3
          rcases hq with rfl | rfl
          · clear hz32 e3
            go_wp2_with fail
            rw [HE.out]
            refine calls_then (CS.out C1 _ _ HWR.out.1 (by rw [size_of_list (cat2 _)]; have := HLN.out; simp; omega)) ?_
            rintro e w2 ⟨rfl, hb2, hw2⟩
            have HB2 := Lib.hid (HWR.out.next hb2 hw2)
            clear hb2 hw2
            go_wp2_with fail
            go_roundw
            case rel => exact ⟨k + 1, by omega, by go_num, by rw [← HST.eq, HY.out]; have h := HB2.out; rw [cat2] at h; exact h⟩
            case measure => simp [intOf]; omega
          · clear hz32 e3
            go_wp2_with fail
            rw [HE.out]
            refine calls_then (CS.out C1 _ _ HWR.out.1 (by rw [size_of_list (cat2 _)]; have := HLN.out; simp; omega)) ?_
            rintro e w2 ⟨rfl, hb2, hw2⟩
            have HB2 := Lib.hid (HWR.out.next hb2 hw2)
            clear hb2 hw2
            go_wp2_with fail
            go_roundw
            case rel => exact ⟨k + 1, by omega, by go_num, by rw [← HST.eq, HY.out]; have h := HB2.out; rw [cat2] at h; exact h⟩
            case measure => simp [intOf]; omega
        · have e34 : (z == 34) = false := by simpa using fun h => hq (.inl h)
          have e92 : (z == 92) = false := by simpa using fun h => hq (.inr h)
          have HQC := Lib.hid (show quoteC x = [x] by
            have h1 := HN.out
            have h2 := HZ.out
            have h3 : ¬ x < 32 := by rw [UInt8.lt_iff_toNat_lt]; show ¬ x.toNat < 32; omega
            have h4 : ¬ (x = 34 ∨ x = 92) := by
              rintro (rfl | rfl)
              · exact hq (.inl (by rw [h2, h1]; rfl))
              · exact hq (.inr (by rw [h2, h1]; rfl))
            rw [quoteC, if_neg h3, if_neg h4])
          clear hq hn' h32
          go_wp2_with fail
          rw [show z = ((x.toNat : Nat) : Int) by rw [HZ.out, HN.out]]
          refine calls_then (CB.out C1 x _ HWR.out.1 (by have := HLN.out; omega)) ?_
          rintro e w2 ⟨rfl, hb2, hw2⟩
          have HB2 := Lib.hid (HWR.out.next hb2 hw2)
          clear hb2 hw2
          go_wp2_with fail
          go_roundw
          case rel => exact ⟨k + 1, by omega, by go_num, by rw [← HST.eq, HQC.out]; exact HB2.out⟩
          case measure => simp [intOf]; omega
    · obtain rfl : k = s.size := by omega
      have HE := Lib.hid (show L.take s.size = L by rw [← HLS.out, List.take_length])
      have HLN := Lib.hid (show (c ++ 34 :: (L.take s.size).flatMap quoteC).length + 1 ≤ 140737488355328 by
        have h1 := HQ.out
        have h2 := HQ2.out
        rw [HE.out]
        simp at h2 ⊢
        omega)
      go_wp2_with fail
      refine calls_then (CB.out _ 34 _ HWR.out.1 HLN.out) ?_
      rintro e w2 ⟨rfl, hb2, hw2⟩
      have HB2 := Lib.hid (HWR.out.next hb2 hw2)
      clear hb2 hw2
      go_wp2_with fail
      go_end0
      refine ⟨rfl, ?_⟩
      have h := HB2.out
      rw [HE.out] at h
      simpa [quote] using h
end Go.Proofs.Ytcfbnjaelniahaa.Js
/-
  Walk: json's writer: a number.
-/
namespace Go.Proofs.Ytcfbnjaelniahaa.Js
set_option linter.unusedSimpArgs false
set_option linter.unusedVariables false
open Go.RowKit

theorem isB_kept {w w' : World} {B g p : Nat} {T : TypeId} {l : Bs} (h : IsB w B T p l) (hg : w.grownBy w' (some g)) (hlt : w.heap.size ≤ g) : IsB w' B T p l := by
  obtain ⟨h1, self, A, c, h2, h3, h4⟩ := h
  exact ⟨h1, self, A, c, h2, h3.grown hg (by intro e; injection e with e; have := h3.lt; omega), h4.kept hg (.inr (fun e => by have := (h4.lt g e).2; omega))⟩
/-- the digits that are written -/
structure DigS (N j m : Nat) (suf : Bs) : Prop where
  eq : digB 16 N = digB (16 - j) m ++ suf
  len : suf.length = j
  lt : m < 10 ^ (16 - j)
  j16 : j < 16
theorem DigS.start {N : Nat} (h : N < 10 ^ 16) : DigS N 0 N [] := ⟨by simp, rfl, h, by decide⟩
theorem DigS.last {N j m : Nat} {suf : Bs} (h : DigS N j m suf) (hm : m < 10) : digB 16 N = dg m :: suf := by
  obtain ⟨k, hk⟩ : ∃ k, 16 - j = k + 1 := ⟨15 - j, by have := h.j16; omega⟩
  have e0 : digB (k + 1) m = [dg m] := by rw [digB, if_pos hm]
  rw [h.eq, hk, e0]
  rfl
theorem DigS.next {N j m : Nat} {suf : Bs} (h : DigS N j m suf) (hm : ¬ m < 10) : DigS N (j + 1) (m / 10) (dg (m % 10) :: suf) := by
  obtain ⟨k, hk⟩ : ∃ k, 16 - j = k + 1 := ⟨15 - j, by have := h.j16; omega⟩
  have h1 := h.eq
  have h2 := h.lt
  rw [hk] at h1 h2
  rw [show digB (k + 1) m = digB k (m / 10) ++ [dg (m % 10)] by rw [digB, if_neg hm]] at h1
  rw [Nat.pow_succ] at h2
  have e : 16 - (j + 1) = k := by omega
  have h3 : m / 10 < 10 ^ k := Nat.div_lt_of_lt_mul (by omega)
  refine ⟨by rw [e, h1]; simp, by simp [h.len], by rw [e]; exact h3, ?_⟩
  rcases Nat.eq_zero_or_pos k with rfl | h4
  · simp at h3; omega
  · omega
theorem rd_tail {w : World} {g a : Nat} {t : TypeId} {cs : List Value} {l : Bs} (h : Blk w g t cs.toArray) (hd : cs.drop a = bytesV l) : Rd w (g + 1) (some ⟨g, a, none⟩) (bytesV l) := fun i u hu => by
  refine ⟨_, rfl, Nat.lt_succ_self g, ?_⟩
  rw [← hd, List.getElem?_drop] at hu
  have e : (⟨g, a, none⟩ : Addr).add i = ⟨g, a + i, none⟩ := by
    unfold Addr.add
    by_cases h2 : i = 0 <;> simp [h2]
  rw [e, h.cell]
  simpa using hu
theorem slice16 (g a : Nat) (h : a < 16) (w : World) : (Instr.sliceAt 80 (.pointer (some ⟨g, 0, none⟩)) (some (.int .i64 a)) none none).run Try.prog w = .ok (.slice (some ((⟨g, 0, none⟩ : Addr).add a)) (16 - a) (16 - a)) w := by
  have e1 : Try.prog.arrayLen 80 = 16 := by kernel_rfl
  have e2 : Try.prog.elem 80 = 5 := by kernel_rfl
  have hs : (Try.prog.info? 5).map (·.size) = some 1 := by kernel_rfl
  rw [run_sliceAt_array_l w 80 ⟨g, 0, none⟩ (by rw [e1, e2]; exact Try.underlying80) .i64 a (by omega) (by rw [e1]; omega), e1, e2]
  cases hq : Try.prog.info? 5 with
  | none => simp [hq] at hs
  | some j =>
    have hj : j.size = 1 := by simpa [hq] using hs
    have : ¬ 16 = a := by omega
    simp [sizeOf, typeInfo, hq, hj, slicedAt, this, Result.andThen]
set_option maxRecDepth 100000 in
set_option maxHeartbeats 4000000 in
theorem wnum_any (n : Int) (hn1 : -1000000000000000 ≤ n) (hn2 : n ≤ 1000000000000000) (B p : Nat) (c : Bs) (w0 w : World) (hb : WB w0 B p c w) (hl : c.length + (intB n).length ≤ 1099511627776) :
    Calls Try.prog 32 #[.pointer (some ⟨p, 0, none⟩), .int .i64 n] w fun e w' => e = .returned (.tuple #[]) ∧ WB w0 B p (c ++ intB n) w' := by
  obtain ⟨N, hN⟩ : ∃ N, N = n.natAbs := ⟨_, rfl⟩
  obtain ⟨c1, hc1⟩ : ∃ c1, c1 = c ++ (if n < 0 then [45] else []) := ⟨_, rfl⟩
  have hall : c ++ intB n = c1 ++ digB 16 N := by
    rw [hc1, hN, intB]
    split <;> simp
  have hdl : (digB 16 N).length ≤ 16 := (digB_ok 16 N (by omega)).2.2.1
  have hcl : c1.length + 16 ≤ 140737488355328 := by
    have : (c ++ intB n).length ≤ 1099511627776 := by simpa using hl
    rw [hc1]
    simp at this ⊢
    split <;> simp <;> omega
  rw [hall]
  have CB := Lib.hid (fun (c : Bs) (x : UInt8) (u : World) (h : IsB u B 46 p c) (h2 : c.length + 1 ≤ 140737488355328) => bld_byte jwT B p c x u h h2)
  have HB := Lib.hid hb
  have HN := Lib.hid hN
  have HCL := Lib.hid hcl
  have HDL := Lib.hid hdl
  have HC1 := Lib.hid hc1
  have HNB := Lib.hid (show N < 10 ^ 16 by omega)
  have HCC := Lib.hid (show c.length + 1 ≤ 140737488355328 by omega)
  have HR1 := Lib.hid hn1
  have HR2 := Lib.hid hn2
  unfold byteV at CB
  clear hb hN hc1 hall hdl hcl hl hn1 hn2
  go_enter Try.func32, Try.ntmps32
  go_upto_if 7 with (fail)
  go_cut [1] (fun x wr => x = .int .i64 (N : Int) ∧ WB w0 B p c1 wr)
  case first =>
    by_cases h0 : n < 0
    · have d0 : decide (n < 0) = true := by simpa using h0
      go_wp2_with fail
      refine calls_then (CB.out c 45 _ HB.out.1 HCC.out) ?_
      rintro e w1 ⟨rfl, hb1, hw1⟩
      have HB1 := Lib.hid (HB.out.next hb1 hw1)
      clear hb1 hw1
      have hr : -n < 9223372036854775808 := by have := HR1.out; omega
      go_wp2_with fail
      go_meet
      exact ⟨by rw [HN.out]; congr 1; omega, by rw [HC1.out, if_pos h0]; exact HB1.out⟩
    · have d0 : decide (n < 0) = false := by simpa using h0
      go_wp2_with fail
      go_meet
      exact ⟨by rw [HN.out]; congr 1; omega, by rw [HC1.out, if_neg (by omega), List.append_nil]; exact HB.out⟩
  case rest =>
  obtain ⟨rfl, hwx⟩ := hcut
  have HWC := Lib.hid hwx
  clear hwx
  go_wp2_with fail
  go_loopw [1, 5] (fun x a wr => ∃ (j m : Nat) (suf : Bs) (cs : List Value), DigS N j m suf ∧ x = .int .i64 (m : Int) ∧ a = .int .i64 ((16 - j : Nat) : Int) ∧ Blk wr wc.heap.size 80 cs.toArray ∧ cs.length = 16 ∧ cs.drop (16 - j) = bytesV suf ∧ wc.grownBy wr (some wc.heap.size)) (fun _ a _ => (intOf a).toNat)
  case atStart => exact ⟨0, N, [], List.replicate 16 (.int .u8 0), DigS.start HNB.out, rfl, rfl, Blk.new _ _ _, rfl, rfl, grown_alloc (World.grownBy.refl _ _) _⟩
  case round =>
    obtain ⟨j, m, suf, cs, hd, rfl, rfl, hk, hcs, hsuf, hgr⟩ := hrel
    have hj := hd.j16
    obtain ⟨a, ha⟩ : ∃ a, a = 15 - j := ⟨_, rfl⟩
    have e1 : (16 - j : Nat) = a + 1 := by omega
    rw [e1]
    have ha' : (a : Int) < 16 := by omega
    have hm0 : (0 : Int) ≤ (m : Int) := by omega
    have hr0 : (0 : Int) ≤ (m : Int) % 10 := by omega
    have hr1 : (m : Int) % 10 < 10 := by omega
    have HK := Lib.hid hk
    have HD := Lib.hid hd
    have HCS := Lib.hid hcs
    have HSUF := Lib.hid hsuf
    have HGR := Lib.hid hgr
    have HA := Lib.hid ha
    obtain ⟨q, hq⟩ : ∃ q, q = m / 10 := ⟨_, rfl⟩
    have hwq : wrap64 ((m : Int) / 10) = (q : Int) := by
      have h1 := hd.lt
      have h2 : 10 ^ (16 - j) ≤ 10 ^ 16 := Nat.pow_le_pow_right (by decide) (by omega)
      rw [show wrap64 ((m : Int) / 10) = (m : Int) / 10 by unfold wrap64; omega, hq]
      omega
    have HQ := Lib.hid hq
    obtain ⟨y, hy⟩ : ∃ y, y = dg (m % 10) := ⟨_, rfl⟩
    have HY := Lib.hid hy
    have HYV := Lib.hid (show Value.int IntKind.u8 (48 + (m : Int) % 10) = byteV y by
      have h1 : m % 10 < 10 := by omega
      have h2 := (dig_of h1).2
      have h3 : (dg (m % 10)).toNat = 48 + m % 10 := by
        unfold dg
        rw [UInt8.toNat_ofNat']
        omega
      unfold byteV
      rw [hy, h3]
      congr 1)
    have HCU := Lib.hid (show ∀ v, (cs.set a v).drop a = v :: cs.drop (a + 1) from fun v => by
      rw [List.set_eq_take_append_cons_drop, if_pos (by omega), List.drop_left' (by rw [List.length_take]; omega)])
    clear hk hd hcs hsuf hgr ha e1 hq hy
    by_cases hz : q = 0
    · have hz' : ((q : Int) == 0) = true := by simp [hz]
      have HZ := Lib.hid hz
      clear hz
      go_wp2_with (refine wpList_put_cell (x := .tmp 21) (i := a) HK.out rfl rfl rfl rfl (by kernel_rfl) (by rw [List.size_toArray, HCS.out]; omega) rfl ?_; intro w5 hb5 hw5)
      have hg5 := HGR.out.trans hw5.grown
      have hwb := HWC.out
      have HW5 := Lib.hid (show WB w0 B p c1 w5 from ⟨isB_kept hwb.1 hg5 (Nat.le_refl _), hwb.2.trans (.fresh hg5 (Nat.le_refl _) (by have := hwb.1.lt; omega))⟩)
      have HB5 := Lib.hid (show Blk w5 wc.heap.size 80 (cs.set a (byteV y)).toArray by rw [← HYV.out, ← List.setIfInBounds_toArray]; exact hb5)
      have HDR := Lib.hid (show (cs.set a (byteV y)).drop a = bytesV (y :: suf) by
        have h1 := HA.out
        have h2 := HD.out.j16
        rw [HCU.out, show a + 1 = 16 - j by omega, HSUF.out]
        rfl)
      have HEND := Lib.hid (show digB 16 N = y :: suf by
        have h1 := HQ.out
        have h2 := HZ.out
        have h3 : m < 10 := by omega
        rw [HD.out.last h3, HY.out, Nat.mod_eq_of_lt h3])
      have HLN := Lib.hid (show (y :: suf).length = 16 - a by
        have h1 := HA.out
        have h2 := HD.out.j16
        have h3 := HD.out.len
        simp
        omega)
      have HGP := Lib.hid (show wc.heap.size ≠ p by have := hwb.1.lt; omega)
      have HAL := Lib.hid (show a < 16 by omega)
      clear hb5 hw5 hg5 hwb
      have HC0 : WB w0 B p c1 w5.drew ∧ Blk w5.drew wc.heap.size 80 (cs.set a (byteV y)).toArray := ⟨HW5.out.drew, HB5.out⟩
      clear hwq hz'
      refine wp_region_det (fun u => WB w0 B p c1 u ∧ Blk u wc.heap.size 80 (cs.set a (byteV y)).toArray) (fun u => WB w0 B p (c1 ++ (y :: suf)) u) [(0, some 26), (1, some 27), (2, some 28), (3, some 29), (4, some 30), (5, some 31)] (by kernel_rfl) (by kernel_rfl) (by decide) (by kernel_rfl) (fun _ => rfl) HC0 ?_
      apply DetL.next
      · -- 0: Op.move (Operand.tmp 0)
        apply detStep_plain []
        exact fun _ => rfl
        rfl
        rintro vals - w1 hC1 E hE
        simp only [puts, act_put, act_put_none, List.setIfInBounds_toArray, List.set_cons_zero, List.set_cons_succ] at hE ⊢
        go_wp2
        exact .mk (hE _ hC1)
      apply DetL.next
      · -- 1: Op.nilCheck (Operand.tmp 26)
        apply detStep_plain [(0, some 26)]
        exact fun _ => rfl
        rfl
        rintro vals ⟨-, f0⟩ w1 hC1 E hE
        simp only [puts, act_put, act_put_none, List.setIfInBounds_toArray, List.set_cons_zero, List.set_cons_succ, f0] at hE ⊢
        clear f0
        go_wp2
        exact .mk (hE _ hC1)
      apply DetL.next
      · -- 2: Op.fieldAddr 46 (Operand.tmp 27) 0
        apply detStep_plain [(1, some 27)]
        exact fun _ => rfl
        rfl
        rintro vals ⟨⟨-, -⟩, f1⟩ w1 hC1 E hE
        simp only [puts, act_put, act_put_none, List.setIfInBounds_toArray, List.set_cons_zero, List.set_cons_succ, f1] at hE ⊢
        clear f1
        go_wp2
        exact .mk (hE _ hC1)
      apply DetL.next
      · -- 3: Op.move (Operand.tmp 5)
        apply detStep_plain []
        exact fun _ => rfl
        rfl
        rintro vals ⟨⟨⟨-, -⟩, -⟩, -⟩ w1 hC1 E hE
        simp only [puts, act_put, act_put_none, List.setIfInBounds_toArray, List.set_cons_zero, List.set_cons_succ] at hE ⊢
        go_wp2
        exact .mk (hE _ hC1)
      apply DetL.next
      · -- 4: Op.slice 80 (Operand.tmp 4) (some (Operand.tmp 29)) none none
        apply detStep_plain [(3, some 29)]
        exact fun _ => rfl
        rfl
        rintro vals ⟨⟨⟨⟨-, -⟩, -⟩, -⟩, f3⟩ w1 hC1 E hE
        simp only [puts, act_put, act_put_none, List.setIfInBounds_toArray, List.set_cons_zero, List.set_cons_succ, f3] at hE ⊢
        clear f3
        have hsl := slice16 wc.heap.size a HAL.out w1
        go_wp2
        exact .mk (hE _ hC1)
      apply DetL.last
      · -- 5: Op.call { callee := Callee.value (Operand.func 45), args := #[Operand.tmp 28, Operand.tmp 30], argTypes := #[4
        apply detStep_plain [(2, some 28), (4, some 30)]
        exact fun _ => rfl
        rfl
        rintro vals ⟨⟨⟨⟨⟨-, -⟩, -⟩, f2⟩, -⟩, f4⟩ w1 hC1 E hE
        simp only [puts, act_put, act_put_none, List.setIfInBounds_toArray, List.set_cons_zero, List.set_cons_succ, f2, f4] at hE ⊢
        clear f2 f4
        go_wp2_with fail
        refine calls_then (bld_write jwT B p (wc.heap.size + 1) (16 - a) (16 - a) _ c1 (y :: suf) _ hC1.1.1 (rd_tail hC1.2 HDR.out) (fun ad h => by injection h with h; rw [← h]; exact HGP.out) HLN.out (by have := HCL.out; omega)) ?_
        rintro e w2 ⟨rfl, hb2, hw2⟩
        go_wp2_with fail
        exact .mk (hE _ (hC1.1.next hb2 hw2))
      rintro vals ⟨⟨⟨⟨⟨⟨-, f0⟩, f1⟩, f2⟩, f3⟩, f4⟩, f5⟩ w1 hC1
      simp only [puts, act_put, act_put_none, List.setIfInBounds_toArray, List.set_cons_zero, List.set_cons_succ, f0, f1, f2, f3, f4, f5]
      clear f0 f1 f2 f3 f4 f5
      have HR := Lib.hid hC1
      clear hC1 HC0
      go_wp2_with fail
      go_end0
      exact ⟨rfl, by rw [HEND.out]; exact HR.out⟩
    · have hz' : ((q : Int) == 0) = false := by simpa using hz
      have HZ := Lib.hid hz
      clear hz
      go_wp2_with (refine wpList_put_cell (x := .tmp 21) (i := a) HK.out rfl rfl rfl rfl (by kernel_rfl) (by rw [List.size_toArray, HCS.out]; omega) rfl ?_; intro w5 hb5 hw5)
      refine ⟨⟨j + 1, q, y :: suf, cs.set a (byteV y), ?_, by rw [hwq], ?_, ?_, by rw [List.length_set]; exact HCS.out, ?_, HGR.out.trans hw5.grown⟩, by simp [intOf]⟩
      · have h1 := HQ.out
        have h2 := HZ.out
        rw [HQ.out, HY.out]
        exact HD.out.next (by omega)
      · have h1 := HA.out
        congr 2
        omega
      · rw [← HYV.out, ← List.setIfInBounds_toArray]
        exact hb5
      · have h1 := HA.out
        have h2 := HD.out.j16
        rw [show 16 - (j + 1) = a by omega, HCU.out, show a + 1 = 16 - j by omega, HSUF.out]
        rfl
end Go.Proofs.Ytcfbnjaelniahaa.Js
/-
  Walks: json's writer: a value, a list, a map. (Printed by gen/jkids.py.)
-/
namespace Go.Proofs.Ytcfbnjaelniahaa.Js
set_option linter.unusedSimpArgs false
set_option linter.unusedVariables false
open Go.RowKit

theorem jT_size : (Try.prog.info? 25).map (·.size) = some 5 := by kernel_rfl
/-- the writer's contract at values so deep -/
def WVal (d : Nat) : Prop := ∀ (j : JT) (v : JV) (B p : Nat) (c : Bs) (w0 w : World), rightV d j = true → JRep w (fun b => b < B) j v → WB w0 B p c w → c.length + (writeV j).length ≤ 1099511627776 →
  Calls Try.prog 15 #[.pointer (some ⟨p, 0, none⟩), .agg (jvCells v)] w fun e w' => e = .returned (.tuple #[]) ∧ ∃ c', Out c (writeV j) c' ∧ WB w0 B p c' w'
/-- behind k of the kids -/
def kidsB (m : Bool) (ns : List Bs) (ks : List JT) (k : Nat) : Bs := itemsV m (ns.take k) (ks.take k) true
theorem _root_.Go.Proofs.Ytcfbnjaelniahaa.Blk.keep9 {w : World} {g : Nat} {t : TypeId} {cs : Array Value} (h : Blk w g t cs) : Blk w g t cs := h
theorem app_len (a b : Bs) : (a ++ b).length = a.length + b.length := List.length_append
structure StepK (a b : Bs) : Prop where
  eq : a = b
theorem itemsV_snoc (m : Bool) : ∀ (ks : List JT) (ns : List Bs) (k : JT) (s : Bs) (f : Bool), (m = true → ns.length = ks.length) →
    itemsV m (if m then ns ++ [s] else []) (ks ++ [k]) f = itemsV m (if m then ns else []) ks f ++ ((if (f && ks.isEmpty) then [] else [44]) ++ ((if m then quote s ++ [58] else []) ++ writeV k))
  | [], ns, k, s, f, h => by
    cases m with
    | true =>
      have : ns = [] := by simpa using h rfl
      subst this
      cases f <;> simp [itemsV]
    | false => cases f <;> simp [itemsV]
  | k1 :: ks, ns, k, s, f, h => by
    cases m with
    | true =>
      cases ns with
      | nil => simp at h
      | cons s1 ns =>
        have ih := itemsV_snoc true ks ns k s false (fun _ => by simpa using h rfl)
        simp only [if_true, Bool.false_and, Bool.false_eq_true, if_false] at ih
        cases f <;> simp [itemsV, ih]
    | false =>
      have ih := itemsV_snoc false ks [] k s false (by simp)
      simp at ih
      cases f <;> simp [itemsV, ih]
theorem itemsV_take (m : Bool) : ∀ (ks : List JT) (ns : List Bs) (f : Bool) (k : Nat), ∃ r, itemsV m ns ks f = itemsV m (ns.take k) (ks.take k) f ++ r
  | [], ns, f, k => ⟨[], by simp [itemsV]⟩
  | x :: ks, ns, f, 0 => ⟨_, by simp [itemsV]; rfl⟩
  | x :: ks, ns, f, k + 1 => by
    obtain ⟨r, hr⟩ := itemsV_take m ks ns.tail false k
    refine ⟨r, ?_⟩
    cases ns with
    | nil => simp at hr; simp [itemsV, hr]
    | cons s ns => simp at hr; simp [itemsV, hr]
theorem kidsB_len (m : Bool) (ns : List Bs) (ks : List JT) (k : Nat) : (kidsB m ns ks k).length ≤ (itemsV m ns ks true).length := by
  obtain ⟨r, hr⟩ := itemsV_take m ks ns true k
  rw [hr, kidsB]
  simp
theorem kidsB_map {ns : List Bs} {ks : List JT} {k : Nat} (h : ns.length = ks.length) (hk : k < ks.length) :
    kidsB true ns ks (k + 1) = kidsB true ns ks k ++ ((if k = 0 then [] else [44]) ++ ((quote (ns[k]'(by omega)) ++ [58]) ++ writeV ks[k])) := by
  have e := itemsV_snoc true (ks.take k) (ns.take k) ks[k] (ns[k]'(by omega)) true (fun _ => by simp [h])
  simp only [if_true, Bool.true_and] at e
  rw [kidsB, List.take_succ_eq_append_getElem hk, List.take_succ_eq_append_getElem (by omega), e]
  cases k with
  | zero => simp [kidsB]
  | succ k =>
    have : (ks.take (k + 1)).isEmpty = false := by
      cases ks with
      | nil => simp at hk
      | cons a r => rfl
    rw [this]
    simp [kidsB]
theorem kidsB_list {ks : List JT} {k : Nat} (hk : k < ks.length) : kidsB false [] ks (k + 1) = kidsB false [] ks k ++ ((if k = 0 then [] else [44]) ++ writeV ks[k]) := by
  have e := itemsV_snoc false (ks.take k) [] ks[k] [] true (fun h => by cases h)
  simp only [Bool.false_eq_true, if_false, Bool.true_and, List.nil_append] at e
  rw [kidsB, List.take_succ_eq_append_getElem hk, List.take_nil, e]
  cases k with
  | zero => simp [kidsB]
  | succ k =>
    have : (ks.take (k + 1)).isEmpty = false := by
      cases ks with
      | nil => simp at hk
      | cons a r => rfl
    rw [this]
    simp [kidsB]
theorem itemsV_len (m : Bool) : ∀ (ks : List JT) (ns : List Bs) (f : Bool), ks.length ≤ (itemsV m ns ks f).length + 1
  | [], _, _ => by simp [itemsV]
  | [k], _, _ => by simp
  | k :: k2 :: r, ns, f => by
    have := itemsV_len2 m (k2 :: r) ns.tail
    rw [itemsV]
    simp only [List.length_append, List.length_cons] at this ⊢
    omega
where
  itemsV_len2 (m : Bool) : ∀ (ks : List JT) (ns : List Bs), ks.length ≤ (itemsV m ns ks false).length
  | [], _ => by simp [itemsV]
  | k :: r, ns => by
    have := itemsV_len2 m r ns.tail
    rw [itemsV]
    simp only [Bool.false_eq_true, if_false, List.length_append, List.length_cons, List.length_nil]
    omega
set_option maxRecDepth 100000 in
set_option maxHeartbeats 4000000 in
theorem wmap_any (d : Nat) (IH : WVal d) (v : JV) (hvk : v.k = 5) (ns : List Bs) (ks : List JT) (kv : List JV) (B p : Nat) (c : Bs) (w0 w : World)
    (hnr : RdS w (fun b => b < B) v.nA (rowsV sCell ns)) (hn : v.nn = ns.length) (hkn : v.kn = ks.length) (hkv : kv.length = ks.length) (hkr : RdS w (fun b => b < B) v.kA (rowsV jvCells kv))
    (hkids : ∀ i (h : i < ks.length) (h' : i < kv.length), JRep w (fun b => b < B) ks[i] kv[i]) (hright : ∀ x ∈ ks, rightV d x = true) (hlen : ns.length = ks.length)
    (hb : WB w0 B p c w) (hl : c.length + ((123 :: (itemsV true ns ks true ++ [125])) : Bs).length ≤ 1099511627776) :
    Calls Try.prog 34 #[.pointer (some ⟨p, 0, none⟩), .agg (jvCells v)] w fun e w' => e = .returned (.tuple #[]) ∧ ∃ c', Out c (123 :: (itemsV true ns ks true ++ [125])) c' ∧ WB w0 B p c' w' := by
  have hu := Try.underlying25
  obtain ⟨W0, hW0⟩ : ∃ W0, W0 = w.alloc (.cells (jvCells v) 25) := ⟨_, rfl⟩
  have hb0 : Below w.heap.size w W0 := by rw [hW0]; exact (Below.refl _ w).alloc (Nat.le_refl _) _
  obtain ⟨hBp, hpw⟩ := hb.1.lt
  obtain ⟨G, hG⟩ : ∃ G, G = w.heap.size := ⟨_, rfl⟩
  have HG := Lib.hid (show p < G by omega)
  have hG0 : W0.heap.size = G + 1 := by rw [hW0, hG]; simp
  have HKB := Lib.hid (show Blk W0 G 25 (jvCells v) by rw [hW0, hG]; exact Blk.new _ _ _)
  have HS := Lib.hid (show BK B p w0 W0 from hb.2.trans (.all hb0 (by omega)))
  have HB := Lib.hid (show WB W0 B p c W0 from ⟨hb.1.below hb0, BK.refl _ _ _⟩)
  have HKR := Lib.hid (show Rd W0 B v.kA (rowsV jvCells kv) from (hkr.rd (fun _ _ h => h)).below (hb0.mono (by omega)))
  have HNR := Lib.hid (show Rd W0 B v.nA (rowsV sCell ns) from (hnr.rd (fun _ _ h => h)).below (hb0.mono (by omega)))
  have HKD := Lib.hid (show ∀ i (h : i < ks.length) (h' : i < kv.length), JRep W0 (fun b => b < B) ks[i] kv[i] from fun i h h' => (hkids i h h').under (hb0.mono (by omega)))
  have HRI := Lib.hid hright
  have HL := Lib.hid hl
  have HLEN := Lib.hid hlen
  have HKV := Lib.hid hkv
  obtain ⟨n, hnn⟩ : ∃ n, n = ks.length := ⟨_, rfl⟩
  have HN := Lib.hid hnn
  have HBP := Lib.hid hBp
  have HNL := Lib.hid (show (v.nn : Int) = (ns.length : Int) by rw [hn])
  have HNS := Lib.hid (show (n : Int) ≤ 1099511627776 by
    have h1 := itemsV_len true ks ns true
    have h2 := hl
    simp at h2
    omega)
  have HW0 := Lib.hid hW0
  have CB := Lib.hid (fun (c : Bs) (x : UInt8) (u : World) (h : IsB u B 46 p c) (h2 : c.length + 1 ≤ 140737488355328) => bld_byte jwT B p c x u h h2)
  have CT := Lib.hid (fun (s : ByteArray) (c : Bs) (u : World) (h : IsB u B 46 p c) (h2 : c.length + (quote s.data.toList).length ≤ 1099511627776) => wtext_any s B p c u u ⟨h, BK.refl _ _ _⟩ h2)
  unfold byteV at CB
  obtain ⟨vk, vn, vt, nA, nn, nc, kA, kn, kc⟩ := v
  dsimp only at *
  subst hvk
  obtain rfl : kn = n := by rw [hkn, hnn]
  have a0 : W0.cell? ⟨G, 0, none⟩ = some (.int .i64 5) := HKB.out.cell 0
  have a4 : W0.cell? ⟨G, 4, none⟩ = some (.slice kA kn kc) := HKB.out.cell 4
  clear hb hb0 hG0 hW0 hnr hkr hkids hright hl hlen hkv hnn hn hkn hBp hpw
  rw [hG] at *
  clear hG
  go_enter Try.func34, Try.ntmps34
  go_upto_region 1 with (fail)
  rw [← HW0.out]
  go_wp2_with fail
  have HC0 := HB.out.drew
  clear a0 a4
  refine wp_region_det (fun u => WB W0 B p c u) (fun u => WB W0 B p (c ++ [123]) u) [(0, some 10), (1, some 11), (2, some 12), (3, some 13), (4, some 14), (5, some 15)] (by kernel_rfl) (by kernel_rfl) (by decide) (by kernel_rfl) (fun _ => rfl) HC0 ?_
  apply DetL.next
  · -- 0: Op.move (Operand.tmp 0)
    apply detStep_plain []
    exact fun _ => rfl
    rfl
    rintro vals - w1 hC1 E hE
    simp only [puts, act_put, act_put_none, List.setIfInBounds_toArray, List.set_cons_zero, List.set_cons_succ] at hE ⊢
    go_wp2
    exact .mk (hE _ hC1)
  apply DetL.next
  · -- 1: Op.nilCheck (Operand.tmp 10)
    apply detStep_plain [(0, some 10)]
    exact fun _ => rfl
    rfl
    rintro vals ⟨-, f0⟩ w1 hC1 E hE
    simp only [puts, act_put, act_put_none, List.setIfInBounds_toArray, List.set_cons_zero, List.set_cons_succ, f0] at hE ⊢
    clear f0
    go_wp2
    exact .mk (hE _ hC1)
  apply DetL.next
  · -- 2: Op.fieldAddr 46 (Operand.tmp 11) 0
    apply detStep_plain [(1, some 11)]
    exact fun _ => rfl
    rfl
    rintro vals ⟨⟨-, -⟩, f1⟩ w1 hC1 E hE
    simp only [puts, act_put, act_put_none, List.setIfInBounds_toArray, List.set_cons_zero, List.set_cons_succ, f1] at hE ⊢
    clear f1
    go_wp2
    exact .mk (hE _ hC1)
  apply DetL.next
  · -- 3: Op.move (Operand.tmp 4)
    apply detStep_plain []
    exact fun _ => rfl
    rfl
    rintro vals ⟨⟨⟨-, -⟩, -⟩, -⟩ w1 hC1 E hE
    simp only [puts, act_put, act_put_none, List.setIfInBounds_toArray, List.set_cons_zero, List.set_cons_succ] at hE ⊢
    go_wp2
    exact .mk (hE _ hC1)
  apply DetL.next (v := .int .u8 123)
  · -- 4: Op.index 9 (Operand.tmp 13) (Operand.const (Value.int IntKind.i64 0))
    apply detStep_plain [(3, some 13)]
    exact fun _ => rfl
    rfl
    rintro vals ⟨⟨⟨⟨-, -⟩, -⟩, -⟩, f3⟩ w1 hC1 E hE
    simp only [puts, act_put, act_put_none, List.setIfInBounds_toArray, List.set_cons_zero, List.set_cons_succ, f3] at hE ⊢
    clear f3
    go_wp2
    exact .mk (hE _ hC1)
  apply DetL.last
  · -- 5: Op.call { callee := Callee.value (Operand.func 44), args := #[Operand.tmp 12, Operand.tmp 14], argTypes := #[4
    apply detStep_plain [(2, some 12), (4, some 14)]
    exact fun _ => rfl
    rfl
    rintro vals ⟨⟨⟨⟨⟨-, -⟩, -⟩, f2⟩, -⟩, f4⟩ w1 hC1 E hE
    simp only [puts, act_put, act_put_none, List.setIfInBounds_toArray, List.set_cons_zero, List.set_cons_succ, f2, f4] at hE ⊢
    clear f2 f4
    go_wp2_with fail
    refine calls_then (CB.out c 123 _ hC1.1 (by have := HL.out; simp at this; omega)) ?_
    rintro e w2 ⟨rfl, hb2, hw2⟩
    go_wp2_with fail
    exact .mk (hE _ (hC1.next hb2 hw2))
  rintro vals ⟨⟨⟨⟨⟨⟨-, f0⟩, f1⟩, f2⟩, f3⟩, f4⟩, f5⟩ w1 hC1
  simp only [puts, act_put, act_put_none, List.setIfInBounds_toArray, List.set_cons_zero, List.set_cons_succ, f0, f1, f2, f3, f4, f5]
  clear f0 f1 f2 f3 f4 f5
  have HB1 := Lib.hid hC1
  have hkb1 := hC1.2.blk HKB.out (by have := HG.out; omega) (by decide)
  have a4 : w1.cell? ⟨w.heap.size, 4, none⟩ = some (.slice kA kn kc) := hkb1.cell 4
  clear HC0 hC1 hkb1
  go_wp2_with fail
  go_loopw [19] (fun x wr => ∃ (i : Nat) (c' : Bs), i ≤ kn ∧ x = .int .i64 (i : Int) ∧ Out (c ++ [123]) (kidsB true ns ks i) c' ∧ WB W0 B p c' wr) (fun x _ => kn - (intOf x).toNat)
  case atStart => exact ⟨0, _, by omega, rfl, by simp [kidsB, itemsV]; exact Out.refl _, HB1.out⟩
  case round =>
    obtain ⟨i, c', hi, rfl, hout, hwr⟩ := hrel
    have HO := Lib.hid hout
    have HWR := Lib.hid hwr
    clear hout hwr
    by_cases hlt : i < kn
    · have hik : i < ks.length := by rw [← HN.out]; exact hlt
      have hiv : i < kv.length := by rw [HKV.out]; exact hik
      have hlt' : (i : Int) < (kn : Int) := by omega
      have HLT := Lib.hid hlt
      obtain ⟨ad, hA, hadb, hcell⟩ := rd_rows (f := jvCells) (m := 5) (fun _ => rfl) (by decide) HKR.out hiv
      subst hA
      obtain ⟨X, hX⟩ : ∃ X, X = kv[i] := ⟨_, rfl⟩
      obtain ⟨J, hJ⟩ : ∃ J, J = ks[i] := ⟨_, rfl⟩
      have HJX := Lib.hid (show JRep W0 (fun b => b < B) J X by rw [hX, hJ]; exact HKD.out i hik hiv)
      have HJR := Lib.hid (show rightV d J = true by rw [hJ]; exact HRI.out _ (List.getElem_mem hik))
      have HST := StepK.mk (show kidsB true ns ks (i + 1) = kidsB true ns ks i ++ ((if i = 0 then [] else [44]) ++ ((quote (ns[i]'(by rw [HLEN.out]; exact hik)) ++ [58]) ++ writeV J)) by rw [hJ]; exact kidsB_map HLEN.out hik)
      have HLN := Lib.hid (show (c ++ [123]).length + (kidsB true ns ks (i + 1)).length ≤ 1099511627776 by
        have h1 := kidsB_len true ns ks (i + 1)
        have h2 := HL.out
        simp at h2 ⊢
        omega)
      rw [← hX] at hcell
      have HCE := Lib.hid (show ∀ u, Below B W0 u → ∀ j x, (jvCells X).toList[j]? = some x → u.cell? ((ad.add (i * 5)).add j) = some x from fun u hu j x hx => by
        rw [hu.cell (p := (ad.add (i * 5)).add j) (by rw [block_of_add, block_of_add]; exact hadb)]
        exact hcell j x (by simpa using hx))
      obtain ⟨ad2, hA2, hadb2, hcell2⟩ := rd_rows (f := sCell) (m := 1) (fun _ => rfl) (by decide) HNR.out (show i < ns.length by rw [HLEN.out]; exact hik)
      subst hA2
      obtain ⟨Sx, hSx⟩ : ∃ s, s = ns[i]'(by rw [HLEN.out]; exact hik) := ⟨_, rfl⟩
      rw [← hSx] at HST hcell2
      have HSC := Lib.hid (show ∀ u, Below B W0 u → u.cell? (ad2.add i) = some (.string (bs Sx)) from fun u hu => by
        rw [hu.cell (p := ad2.add i) (by rw [block_of_add]; exact hadb2)]
        have h := hcell2 0 _ rfl
        rw [Nat.mul_one] at h
        exact h)
      clear hSx hcell2
      clear hX hJ hcell hik hiv
      go_upto_if 25 with (first
        | (refine wpList_get_rd (r := (jvCells X).toList) (HCE.out _ HWR.out.2.below) rfl rfl rfl hu rfl jT_size ?_)
        | (refine wpList_put_box (x := .tmp 6) (cells := jvCells X) (Blk.new _ _ _) rfl rfl rfl rfl jT_size rfl (jvCells_one X) ?_; intro w2 hb2 hw2; have hk2 := box_low9 hw2; have HK2 := Lib.hid (Blk.keep9 hb2); have HW2 := Lib.hid (show WB W0 B p c' w2 from ⟨HWR.out.1.below hk2, HWR.out.2.trans (.all hk2 (by have := HWR.out.1.lt; omega))⟩); have HSZ := Lib.hid (show p < wr.heap.size from HWR.out.1.lt.2)))
      generalize hkb : wr.heap.size = kb at *
      go_cut [] (fun wx => ∃ c1 : Bs, Out (c ++ [123]) (kidsB true ns ks i ++ (if i = 0 then [] else [44])) c1 ∧ WB W0 B p c1 wx ∧ Blk wx kb 25 (jvCells X))
      case first =>
        go_wp2_with fail
        · have H0 := Lib.hid (show ¬ i = 0 by omega)
          refine calls_then (CB.out c' 44 _ HW2.out.1 (by have h1 := HO.out.2.1; have h2 := HLN.out; rw [HST.eq] at h2; simp at h1 h2; omega)) ?_
          rintro e w3 ⟨rfl, hb3, hw3⟩
          have HW3 := Lib.hid (HW2.out.next hb3 hw3)
          have HK3 := Lib.hid (hw3.blk HK2.out (by have := HSZ.out; omega) (by decide))
          clear hb3 hw3
          go_wp2_with fail
          go_meet
          exact ⟨_, by rw [if_neg H0.out]; exact HO.out.trans (Out.all _ _), HW3.out, HK3.out⟩
        · have H0 := Lib.hid (show i = 0 by omega)
          go_meet
          exact ⟨c', by rw [if_pos H0.out, List.append_nil]; exact HO.out, HW2.out, HK2.out⟩
      case rest =>
      obtain ⟨c1, hout1, hw3, hk3⟩ := hcut
      have HO1 := Lib.hid hout1
      have HW3 := Lib.hid hw3
      have HK3 := Lib.hid hk3
      have hkb3 := hw3.2.blk HKB.out (by have := HG.out; omega) (by decide)
      have a0 : wc.cell? ⟨w.heap.size, 0, none⟩ = some (.int .i64 5) := hkb3.cell 0
      have HT := Lib.hid (show (c ++ [123]).length + ((kidsB true ns ks i).length + (if i = 0 then [] else [44] : Bs).length) + ((quote Sx).length + 1 + (writeV J).length) ≤ 1099511627776 by
        have h2 := HLN.out
        rw [HST.eq] at h2
        simp only [List.length_append, List.length_cons, List.length_nil] at h2 ⊢
        omega)
      have HT1 := Lib.hid (show c1.length ≤ (c ++ [123]).length + ((kidsB true ns ks i).length + (if i = 0 then [] else [44] : Bs).length) by
        have h1 := HO1.out.2.1
        rw [app_len (kidsB true ns ks i)] at h1
        exact h1)
      have a3 : wc.cell? ⟨w.heap.size, 3, none⟩ = some (.slice (some ad2) nn nc) := hkb3.cell 3
      have hsc := HSC.out wc hw3.2.below
      have hnl := HNL.out
      have hin : (i : Int) < (nn : Int) := by rw [hnl, HLEN.out, ← HN.out]; exact hlt'
      clear hnl
      go_wp2_with fail
      refine calls_then (CT.out _ c1 _ HW3.out.1 (by have h1 := HT.out; have h2 := HT1.out; rw [show (bs Sx).data.toList = Sx from rfl]; omega)) ?_
      rintro e w4 ⟨rfl, hb4, hw4⟩
      have HW4 := Lib.hid (show WB W0 B p (c1 ++ quote Sx) w4 from HW3.out.next hb4 hw4)
      have HK4 := Lib.hid (hw4.blk HK3.out (by have := HSZ.out; omega) (by decide))
      clear hb4 hw4
      go_wp2_with fail
      refine calls_then (CB.out _ 58 _ HW4.out.1 (by have h1 := HT.out; have h2 := HT1.out; simp only [List.length_append] at h1 h2 ⊢; omega)) ?_
      rintro e w5 ⟨rfl, hb5, hw5⟩
      have HW5 := Lib.hid (HW4.out.next hb5 hw5)
      have HK5 := Lib.hid (hw5.blk HK4.out (by have := HSZ.out; omega) (by decide))
      clear hb5 hw5
      go_wp2_with (refine wpList_get_box (x := .tmp 6) (cs := jvCells X) HK5.out rfl rfl rfl hu rfl jT_size ?_)
      clear hout1 hw3 hk3 hkb3
      refine calls_then (IH J X B p (c1 ++ quote Sx ++ [58]) W0 _ HJR.out (HJX.out.under HW5.out.2.below) HW5.out (by have h1 := HT.out; have h2 := HT1.out; simp only [List.length_append, List.length_cons, List.length_nil] at h1 h2 ⊢; omega)) ?_
      rintro e w6 ⟨rfl, c4, ho4, hw6⟩
      have HO4 := Lib.hid ho4
      have HW6 := Lib.hid hw6
      clear ho4 hw6
      have hns := HNS.out
      have hlt9 := HLT.out
      go_wp2_with fail
      go_roundw
      case rel => exact ⟨i + 1, c4, HLT.out, by go_num, by rw [HST.eq]; have h := ((HO1.out.trans (Out.all c1 (quote Sx))).trans (Out.all _ [58])).trans HO4.out; simpa only [List.append_assoc] using h, HW6.out⟩
      case measure => have := HLT.out; simp [intOf]; omega
    · obtain rfl : i = kn := by omega
      have HCL := Lib.hid (show c'.length + 1 ≤ 140737488355328 by
        have h1 := HO.out.2.1
        have h2 := kidsB_len true ns ks i
        have h3 := HL.out
        simp at h1 h3
        omega)
      have HC0 := HWR.out.drew
      go_wp2_with fail
      refine wp_region_det (fun u => WB W0 B p c' u) (fun u => WB W0 B p (c' ++ [125]) u) [(0, some 48), (1, some 49), (2, some 50), (3, some 51), (4, some 52), (5, some 53)] (by kernel_rfl) (by kernel_rfl) (by decide) (by kernel_rfl) (fun _ => rfl) HC0 ?_
      apply DetL.next
      · -- 0: Op.move (Operand.tmp 0)
        apply detStep_plain []
        exact fun _ => rfl
        rfl
        rintro vals - w1 hC1 E hE
        simp only [puts, act_put, act_put_none, List.setIfInBounds_toArray, List.set_cons_zero, List.set_cons_succ] at hE ⊢
        go_wp2
        exact .mk (hE _ hC1)
      apply DetL.next
      · -- 1: Op.nilCheck (Operand.tmp 48)
        apply detStep_plain [(0, some 48)]
        exact fun _ => rfl
        rfl
        rintro vals ⟨-, f0⟩ w1 hC1 E hE
        simp only [puts, act_put, act_put_none, List.setIfInBounds_toArray, List.set_cons_zero, List.set_cons_succ, f0] at hE ⊢
        clear f0
        go_wp2
        exact .mk (hE _ hC1)
      apply DetL.next
      · -- 2: Op.fieldAddr 46 (Operand.tmp 49) 0
        apply detStep_plain [(1, some 49)]
        exact fun _ => rfl
        rfl
        rintro vals ⟨⟨-, -⟩, f1⟩ w1 hC1 E hE
        simp only [puts, act_put, act_put_none, List.setIfInBounds_toArray, List.set_cons_zero, List.set_cons_succ, f1] at hE ⊢
        clear f1
        go_wp2
        exact .mk (hE _ hC1)
      apply DetL.next
      · -- 3: Op.move (Operand.tmp 4)
        apply detStep_plain []
        exact fun _ => rfl
        rfl
        rintro vals ⟨⟨⟨-, -⟩, -⟩, -⟩ w1 hC1 E hE
        simp only [puts, act_put, act_put_none, List.setIfInBounds_toArray, List.set_cons_zero, List.set_cons_succ] at hE ⊢
        go_wp2
        exact .mk (hE _ hC1)
      apply DetL.next (v := .int .u8 125)
      · -- 4: Op.index 9 (Operand.tmp 51) (Operand.const (Value.int IntKind.i64 1))
        apply detStep_plain [(3, some 51)]
        exact fun _ => rfl
        rfl
        rintro vals ⟨⟨⟨⟨-, -⟩, -⟩, -⟩, f3⟩ w1 hC1 E hE
        simp only [puts, act_put, act_put_none, List.setIfInBounds_toArray, List.set_cons_zero, List.set_cons_succ, f3] at hE ⊢
        clear f3
        go_wp2
        exact .mk (hE _ hC1)
      apply DetL.last
      · -- 5: Op.call { callee := Callee.value (Operand.func 44), args := #[Operand.tmp 50, Operand.tmp 52], argTypes := #[4
        apply detStep_plain [(2, some 50), (4, some 52)]
        exact fun _ => rfl
        rfl
        rintro vals ⟨⟨⟨⟨⟨-, -⟩, -⟩, f2⟩, -⟩, f4⟩ w1 hC1 E hE
        simp only [puts, act_put, act_put_none, List.setIfInBounds_toArray, List.set_cons_zero, List.set_cons_succ, f2, f4] at hE ⊢
        clear f2 f4
        go_wp2_with fail
        refine calls_then (CB.out c' 125 _ hC1.1 HCL.out) ?_
        rintro e w2 ⟨rfl, hb2, hw2⟩
        go_wp2_with fail
        exact .mk (hE _ (hC1.next hb2 hw2))
      rintro vals ⟨⟨⟨⟨⟨⟨-, f0⟩, f1⟩, f2⟩, f3⟩, f4⟩, f5⟩ w1 hC1
      simp only [puts, act_put, act_put_none, List.setIfInBounds_toArray, List.set_cons_zero, List.set_cons_succ, f0, f1, f2, f3, f4, f5]
      clear f0 f1 f2 f3 f4 f5
      have HR := Lib.hid hC1
      clear hC1 HC0
      go_wp2_with fail
      go_end0
      refine ⟨rfl, _, ?_, ⟨HR.out.1, HS.out.trans HR.out.2⟩⟩
      have hall : kidsB true ns ks i = itemsV true ns ks true := by
        rw [kidsB, HN.out, List.take_length]
        rw [← HLEN.out, List.take_length]
      have h := ((Out.all c [123]).trans HO.out).trans (Out.all c' [125])
      rw [hall] at h
      simpa only [List.append_assoc, List.cons_append, List.nil_append] using h
set_option maxRecDepth 100000 in
set_option maxHeartbeats 4000000 in
theorem wlist_any (d : Nat) (IH : WVal d) (v : JV) (hvk : v.k = 4) (ns : List Bs) (ks : List JT) (kv : List JV) (B p : Nat) (c : Bs) (w0 w : World)
    (hnr : RdS w (fun b => b < B) v.nA (rowsV sCell ns)) (hn : v.nn = ns.length) (hkn : v.kn = ks.length) (hkv : kv.length = ks.length) (hkr : RdS w (fun b => b < B) v.kA (rowsV jvCells kv))
    (hkids : ∀ i (h : i < ks.length) (h' : i < kv.length), JRep w (fun b => b < B) ks[i] kv[i]) (hright : ∀ x ∈ ks, rightV d x = true) (hlen : ns = [])
    (hb : WB w0 B p c w) (hl : c.length + ((91 :: (itemsV false ns ks true ++ [93])) : Bs).length ≤ 1099511627776) :
    Calls Try.prog 34 #[.pointer (some ⟨p, 0, none⟩), .agg (jvCells v)] w fun e w' => e = .returned (.tuple #[]) ∧ ∃ c', Out c (91 :: (itemsV false ns ks true ++ [93])) c' ∧ WB w0 B p c' w' := by
  have hu := Try.underlying25
  obtain ⟨W0, hW0⟩ : ∃ W0, W0 = w.alloc (.cells (jvCells v) 25) := ⟨_, rfl⟩
  have hb0 : Below w.heap.size w W0 := by rw [hW0]; exact (Below.refl _ w).alloc (Nat.le_refl _) _
  obtain ⟨hBp, hpw⟩ := hb.1.lt
  obtain ⟨G, hG⟩ : ∃ G, G = w.heap.size := ⟨_, rfl⟩
  have HG := Lib.hid (show p < G by omega)
  have hG0 : W0.heap.size = G + 1 := by rw [hW0, hG]; simp
  have HKB := Lib.hid (show Blk W0 G 25 (jvCells v) by rw [hW0, hG]; exact Blk.new _ _ _)
  have HS := Lib.hid (show BK B p w0 W0 from hb.2.trans (.all hb0 (by omega)))
  have HB := Lib.hid (show WB W0 B p c W0 from ⟨hb.1.below hb0, BK.refl _ _ _⟩)
  have HKR := Lib.hid (show Rd W0 B v.kA (rowsV jvCells kv) from (hkr.rd (fun _ _ h => h)).below (hb0.mono (by omega)))
  have HNR := Lib.hid (show Rd W0 B v.nA (rowsV sCell ns) from (hnr.rd (fun _ _ h => h)).below (hb0.mono (by omega)))
  have HKD := Lib.hid (show ∀ i (h : i < ks.length) (h' : i < kv.length), JRep W0 (fun b => b < B) ks[i] kv[i] from fun i h h' => (hkids i h h').under (hb0.mono (by omega)))
  have HRI := Lib.hid hright
  have HL := Lib.hid hl
  have HLEN := Lib.hid hlen
  have HKV := Lib.hid hkv
  obtain ⟨n, hnn⟩ : ∃ n, n = ks.length := ⟨_, rfl⟩
  have HN := Lib.hid hnn
  have HBP := Lib.hid hBp
  have HNL := Lib.hid (show (v.nn : Int) = (ns.length : Int) by rw [hn])
  have HNS := Lib.hid (show (n : Int) ≤ 1099511627776 by
    have h1 := itemsV_len false ks ns true
    have h2 := hl
    simp at h2
    omega)
  have HW0 := Lib.hid hW0
  have CB := Lib.hid (fun (c : Bs) (x : UInt8) (u : World) (h : IsB u B 46 p c) (h2 : c.length + 1 ≤ 140737488355328) => bld_byte jwT B p c x u h h2)
  have CT := Lib.hid (fun (s : ByteArray) (c : Bs) (u : World) (h : IsB u B 46 p c) (h2 : c.length + (quote s.data.toList).length ≤ 1099511627776) => wtext_any s B p c u u ⟨h, BK.refl _ _ _⟩ h2)
  unfold byteV at CB
  obtain ⟨vk, vn, vt, nA, nn, nc, kA, kn, kc⟩ := v
  dsimp only at *
  subst hvk
  obtain rfl : kn = n := by rw [hkn, hnn]
  have a0 : W0.cell? ⟨G, 0, none⟩ = some (.int .i64 4) := HKB.out.cell 0
  have a4 : W0.cell? ⟨G, 4, none⟩ = some (.slice kA kn kc) := HKB.out.cell 4
  clear hb hb0 hG0 hW0 hnr hkr hkids hright hl hlen hkv hnn hn hkn hBp hpw
  rw [hG] at *
  clear hG
  go_enter Try.func34, Try.ntmps34
  go_upto_region 1 with (fail)
  rw [← HW0.out]
  go_wp2_with fail
  have HC0 := HB.out.drew
  clear a0 a4
  refine wp_region_det (fun u => WB W0 B p c u) (fun u => WB W0 B p (c ++ [91]) u) [(0, some 10), (1, some 11), (2, some 12), (3, some 13), (4, some 14), (5, some 15)] (by kernel_rfl) (by kernel_rfl) (by decide) (by kernel_rfl) (fun _ => rfl) HC0 ?_
  apply DetL.next
  · -- 0: Op.move (Operand.tmp 0)
    apply detStep_plain []
    exact fun _ => rfl
    rfl
    rintro vals - w1 hC1 E hE
    simp only [puts, act_put, act_put_none, List.setIfInBounds_toArray, List.set_cons_zero, List.set_cons_succ] at hE ⊢
    go_wp2
    exact .mk (hE _ hC1)
  apply DetL.next
  · -- 1: Op.nilCheck (Operand.tmp 10)
    apply detStep_plain [(0, some 10)]
    exact fun _ => rfl
    rfl
    rintro vals ⟨-, f0⟩ w1 hC1 E hE
    simp only [puts, act_put, act_put_none, List.setIfInBounds_toArray, List.set_cons_zero, List.set_cons_succ, f0] at hE ⊢
    clear f0
    go_wp2
    exact .mk (hE _ hC1)
  apply DetL.next
  · -- 2: Op.fieldAddr 46 (Operand.tmp 11) 0
    apply detStep_plain [(1, some 11)]
    exact fun _ => rfl
    rfl
    rintro vals ⟨⟨-, -⟩, f1⟩ w1 hC1 E hE
    simp only [puts, act_put, act_put_none, List.setIfInBounds_toArray, List.set_cons_zero, List.set_cons_succ, f1] at hE ⊢
    clear f1
    go_wp2
    exact .mk (hE _ hC1)
  apply DetL.next
  · -- 3: Op.move (Operand.tmp 4)
    apply detStep_plain []
    exact fun _ => rfl
    rfl
    rintro vals ⟨⟨⟨-, -⟩, -⟩, -⟩ w1 hC1 E hE
    simp only [puts, act_put, act_put_none, List.setIfInBounds_toArray, List.set_cons_zero, List.set_cons_succ] at hE ⊢
    go_wp2
    exact .mk (hE _ hC1)
  apply DetL.next (v := .int .u8 91)
  · -- 4: Op.index 9 (Operand.tmp 13) (Operand.const (Value.int IntKind.i64 0))
    apply detStep_plain [(3, some 13)]
    exact fun _ => rfl
    rfl
    rintro vals ⟨⟨⟨⟨-, -⟩, -⟩, -⟩, f3⟩ w1 hC1 E hE
    simp only [puts, act_put, act_put_none, List.setIfInBounds_toArray, List.set_cons_zero, List.set_cons_succ, f3] at hE ⊢
    clear f3
    go_wp2
    exact .mk (hE _ hC1)
  apply DetL.last
  · -- 5: Op.call { callee := Callee.value (Operand.func 44), args := #[Operand.tmp 12, Operand.tmp 14], argTypes := #[4
    apply detStep_plain [(2, some 12), (4, some 14)]
    exact fun _ => rfl
    rfl
    rintro vals ⟨⟨⟨⟨⟨-, -⟩, -⟩, f2⟩, -⟩, f4⟩ w1 hC1 E hE
    simp only [puts, act_put, act_put_none, List.setIfInBounds_toArray, List.set_cons_zero, List.set_cons_succ, f2, f4] at hE ⊢
    clear f2 f4
    go_wp2_with fail
    refine calls_then (CB.out c 91 _ hC1.1 (by have := HL.out; simp at this; omega)) ?_
    rintro e w2 ⟨rfl, hb2, hw2⟩
    go_wp2_with fail
    exact .mk (hE _ (hC1.next hb2 hw2))
  rintro vals ⟨⟨⟨⟨⟨⟨-, f0⟩, f1⟩, f2⟩, f3⟩, f4⟩, f5⟩ w1 hC1
  simp only [puts, act_put, act_put_none, List.setIfInBounds_toArray, List.set_cons_zero, List.set_cons_succ, f0, f1, f2, f3, f4, f5]
  clear f0 f1 f2 f3 f4 f5
  have HB1 := Lib.hid hC1
  have hkb1 := hC1.2.blk HKB.out (by have := HG.out; omega) (by decide)
  have a4 : w1.cell? ⟨w.heap.size, 4, none⟩ = some (.slice kA kn kc) := hkb1.cell 4
  clear HC0 hC1 hkb1
  go_wp2_with fail
  go_loopw [19] (fun x wr => ∃ (i : Nat) (c' : Bs), i ≤ kn ∧ x = .int .i64 (i : Int) ∧ Out (c ++ [91]) (kidsB false ns ks i) c' ∧ WB W0 B p c' wr) (fun x _ => kn - (intOf x).toNat)
  case atStart => exact ⟨0, _, by omega, rfl, by simp [kidsB, itemsV]; exact Out.refl _, HB1.out⟩
  case round =>
    obtain ⟨i, c', hi, rfl, hout, hwr⟩ := hrel
    have HO := Lib.hid hout
    have HWR := Lib.hid hwr
    clear hout hwr
    by_cases hlt : i < kn
    · have hik : i < ks.length := by rw [← HN.out]; exact hlt
      have hiv : i < kv.length := by rw [HKV.out]; exact hik
      have hlt' : (i : Int) < (kn : Int) := by omega
      have HLT := Lib.hid hlt
      obtain ⟨ad, hA, hadb, hcell⟩ := rd_rows (f := jvCells) (m := 5) (fun _ => rfl) (by decide) HKR.out hiv
      subst hA
      obtain ⟨X, hX⟩ : ∃ X, X = kv[i] := ⟨_, rfl⟩
      obtain ⟨J, hJ⟩ : ∃ J, J = ks[i] := ⟨_, rfl⟩
      have HJX := Lib.hid (show JRep W0 (fun b => b < B) J X by rw [hX, hJ]; exact HKD.out i hik hiv)
      have HJR := Lib.hid (show rightV d J = true by rw [hJ]; exact HRI.out _ (List.getElem_mem hik))
      have HST := StepK.mk (show kidsB false ns ks (i + 1) = kidsB false ns ks i ++ ((if i = 0 then [] else [44]) ++ writeV J) by rw [hJ, HLEN.out]; exact kidsB_list hik)
      have HLN := Lib.hid (show (c ++ [91]).length + (kidsB false ns ks (i + 1)).length ≤ 1099511627776 by
        have h1 := kidsB_len false ns ks (i + 1)
        have h2 := HL.out
        simp at h2 ⊢
        omega)
      rw [← hX] at hcell
      have HCE := Lib.hid (show ∀ u, Below B W0 u → ∀ j x, (jvCells X).toList[j]? = some x → u.cell? ((ad.add (i * 5)).add j) = some x from fun u hu j x hx => by
        rw [hu.cell (p := (ad.add (i * 5)).add j) (by rw [block_of_add, block_of_add]; exact hadb)]
        exact hcell j x (by simpa using hx))
      clear hX hJ hcell hik hiv
      go_upto_if 25 with (first
        | (refine wpList_get_rd (r := (jvCells X).toList) (HCE.out _ HWR.out.2.below) rfl rfl rfl hu rfl jT_size ?_)
        | (refine wpList_put_box (x := .tmp 6) (cells := jvCells X) (Blk.new _ _ _) rfl rfl rfl rfl jT_size rfl (jvCells_one X) ?_; intro w2 hb2 hw2; have hk2 := box_low9 hw2; have HK2 := Lib.hid (Blk.keep9 hb2); have HW2 := Lib.hid (show WB W0 B p c' w2 from ⟨HWR.out.1.below hk2, HWR.out.2.trans (.all hk2 (by have := HWR.out.1.lt; omega))⟩); have HSZ := Lib.hid (show p < wr.heap.size from HWR.out.1.lt.2)))
      generalize hkb : wr.heap.size = kb at *
      go_cut [] (fun wx => ∃ c1 : Bs, Out (c ++ [91]) (kidsB false ns ks i ++ (if i = 0 then [] else [44])) c1 ∧ WB W0 B p c1 wx ∧ Blk wx kb 25 (jvCells X))
      case first =>
        go_wp2_with fail
        · have H0 := Lib.hid (show ¬ i = 0 by omega)
          refine calls_then (CB.out c' 44 _ HW2.out.1 (by have h1 := HO.out.2.1; have h2 := HLN.out; rw [HST.eq] at h2; simp at h1 h2; omega)) ?_
          rintro e w3 ⟨rfl, hb3, hw3⟩
          have HW3 := Lib.hid (HW2.out.next hb3 hw3)
          have HK3 := Lib.hid (hw3.blk HK2.out (by have := HSZ.out; omega) (by decide))
          clear hb3 hw3
          go_wp2_with fail
          go_meet
          exact ⟨_, by rw [if_neg H0.out]; exact HO.out.trans (Out.all _ _), HW3.out, HK3.out⟩
        · have H0 := Lib.hid (show i = 0 by omega)
          go_meet
          exact ⟨c', by rw [if_pos H0.out, List.append_nil]; exact HO.out, HW2.out, HK2.out⟩
      case rest =>
      obtain ⟨c1, hout1, hw3, hk3⟩ := hcut
      have HO1 := Lib.hid hout1
      have HW3 := Lib.hid hw3
      have HK3 := Lib.hid hk3
      have hkb3 := hw3.2.blk HKB.out (by have := HG.out; omega) (by decide)
      have a0 : wc.cell? ⟨w.heap.size, 0, none⟩ = some (.int .i64 4) := hkb3.cell 0
      have HT := Lib.hid (show (c ++ [91]).length + ((kidsB false ns ks i).length + (if i = 0 then [] else [44] : Bs).length) + ((writeV J).length) ≤ 1099511627776 by
        have h2 := HLN.out
        rw [HST.eq] at h2
        simp only [List.length_append, List.length_cons, List.length_nil] at h2 ⊢
        omega)
      have HT1 := Lib.hid (show c1.length ≤ (c ++ [91]).length + ((kidsB false ns ks i).length + (if i = 0 then [] else [44] : Bs).length) by
        have h1 := HO1.out.2.1
        rw [app_len (kidsB false ns ks i)] at h1
        exact h1)
      go_wp2_with (refine wpList_get_box (x := .tmp 6) (cs := jvCells X) HK3.out rfl rfl rfl hu rfl jT_size ?_)
      have HW5 := Lib.hid HW3.out
      clear hout1 hw3 hk3 hkb3
      refine calls_then (IH J X B p c1 W0 _ HJR.out (HJX.out.under HW5.out.2.below) HW5.out (by have h1 := HT.out; have h2 := HT1.out; simp only [List.length_append, List.length_cons, List.length_nil] at h1 h2 ⊢; omega)) ?_
      rintro e w6 ⟨rfl, c4, ho4, hw6⟩
      have HO4 := Lib.hid ho4
      have HW6 := Lib.hid hw6
      clear ho4 hw6
      have hns := HNS.out
      have hlt9 := HLT.out
      go_wp2_with fail
      go_roundw
      case rel => exact ⟨i + 1, c4, HLT.out, by go_num, by rw [HST.eq]; have h := HO1.out.trans HO4.out; simpa only [List.append_assoc] using h, HW6.out⟩
      case measure => have := HLT.out; simp [intOf]; omega
    · obtain rfl : i = kn := by omega
      have HCL := Lib.hid (show c'.length + 1 ≤ 140737488355328 by
        have h1 := HO.out.2.1
        have h2 := kidsB_len false ns ks i
        have h3 := HL.out
        simp at h1 h3
        omega)
      have HC0 := HWR.out.drew
      go_wp2_with fail
      refine wp_region_det (fun u => WB W0 B p c' u) (fun u => WB W0 B p (c' ++ [93]) u) [(0, some 48), (1, some 49), (2, some 50), (3, some 51), (4, some 52), (5, some 53)] (by kernel_rfl) (by kernel_rfl) (by decide) (by kernel_rfl) (fun _ => rfl) HC0 ?_
      apply DetL.next
      · -- 0: Op.move (Operand.tmp 0)
        apply detStep_plain []
        exact fun _ => rfl
        rfl
        rintro vals - w1 hC1 E hE
        simp only [puts, act_put, act_put_none, List.setIfInBounds_toArray, List.set_cons_zero, List.set_cons_succ] at hE ⊢
        go_wp2
        exact .mk (hE _ hC1)
      apply DetL.next
      · -- 1: Op.nilCheck (Operand.tmp 48)
        apply detStep_plain [(0, some 48)]
        exact fun _ => rfl
        rfl
        rintro vals ⟨-, f0⟩ w1 hC1 E hE
        simp only [puts, act_put, act_put_none, List.setIfInBounds_toArray, List.set_cons_zero, List.set_cons_succ, f0] at hE ⊢
        clear f0
        go_wp2
        exact .mk (hE _ hC1)
      apply DetL.next
      · -- 2: Op.fieldAddr 46 (Operand.tmp 49) 0
        apply detStep_plain [(1, some 49)]
        exact fun _ => rfl
        rfl
        rintro vals ⟨⟨-, -⟩, f1⟩ w1 hC1 E hE
        simp only [puts, act_put, act_put_none, List.setIfInBounds_toArray, List.set_cons_zero, List.set_cons_succ, f1] at hE ⊢
        clear f1
        go_wp2
        exact .mk (hE _ hC1)
      apply DetL.next
      · -- 3: Op.move (Operand.tmp 4)
        apply detStep_plain []
        exact fun _ => rfl
        rfl
        rintro vals ⟨⟨⟨-, -⟩, -⟩, -⟩ w1 hC1 E hE
        simp only [puts, act_put, act_put_none, List.setIfInBounds_toArray, List.set_cons_zero, List.set_cons_succ] at hE ⊢
        go_wp2
        exact .mk (hE _ hC1)
      apply DetL.next (v := .int .u8 93)
      · -- 4: Op.index 9 (Operand.tmp 51) (Operand.const (Value.int IntKind.i64 1))
        apply detStep_plain [(3, some 51)]
        exact fun _ => rfl
        rfl
        rintro vals ⟨⟨⟨⟨-, -⟩, -⟩, -⟩, f3⟩ w1 hC1 E hE
        simp only [puts, act_put, act_put_none, List.setIfInBounds_toArray, List.set_cons_zero, List.set_cons_succ, f3] at hE ⊢
        clear f3
        go_wp2
        exact .mk (hE _ hC1)
      apply DetL.last
      · -- 5: Op.call { callee := Callee.value (Operand.func 44), args := #[Operand.tmp 50, Operand.tmp 52], argTypes := #[4
        apply detStep_plain [(2, some 50), (4, some 52)]
        exact fun _ => rfl
        rfl
        rintro vals ⟨⟨⟨⟨⟨-, -⟩, -⟩, f2⟩, -⟩, f4⟩ w1 hC1 E hE
        simp only [puts, act_put, act_put_none, List.setIfInBounds_toArray, List.set_cons_zero, List.set_cons_succ, f2, f4] at hE ⊢
        clear f2 f4
        go_wp2_with fail
        refine calls_then (CB.out c' 93 _ hC1.1 HCL.out) ?_
        rintro e w2 ⟨rfl, hb2, hw2⟩
        go_wp2_with fail
        exact .mk (hE _ (hC1.next hb2 hw2))
      rintro vals ⟨⟨⟨⟨⟨⟨-, f0⟩, f1⟩, f2⟩, f3⟩, f4⟩, f5⟩ w1 hC1
      simp only [puts, act_put, act_put_none, List.setIfInBounds_toArray, List.set_cons_zero, List.set_cons_succ, f0, f1, f2, f3, f4, f5]
      clear f0 f1 f2 f3 f4 f5
      have HR := Lib.hid hC1
      clear hC1 HC0
      go_wp2_with fail
      go_end0
      refine ⟨rfl, _, ?_, ⟨HR.out.1, HS.out.trans HR.out.2⟩⟩
      have hall : kidsB false ns ks i = itemsV false ns ks true := by
        rw [kidsB, HN.out, List.take_length]
        rw [HLEN.out, List.take_nil]
      have h := ((Out.all c [91]).trans HO.out).trans (Out.all c' [93])
      rw [hall] at h
      simpa only [List.append_assoc, List.cons_append, List.nil_append] using h
end Go.Proofs.Ytcfbnjaelniahaa.Js
/-
  Walk: json's writer: a value.
-/
namespace Go.Proofs.Ytcfbnjaelniahaa.Js
set_option linter.unusedSimpArgs false
set_option linter.unusedVariables false
open Go.RowKit

/-- the word of a truth -/
def boolB (n : Int) : Bs := if n = 1 then [116, 114, 117, 101] else [102, 97, 108, 115, 101]
set_option maxRecDepth 100000 in
set_option maxHeartbeats 4000000 in
theorem wval_step (d : Nat) (IH : ∀ d', d' < d → WVal d') : WVal d := by
  intro j v B p c w0 w hr hj hb hl
  have hu := Try.underlying25
  obtain ⟨ns, ks, kv, rfl, hn, _, hnr, hkn, _, hkv, hkr, hkids⟩ := hj.inv
  obtain ⟨W0, hW0⟩ : ∃ W0, W0 = w.alloc (.cells (jvCells v) 25) := ⟨_, rfl⟩
  have hb0 : Below w.heap.size w W0 := by rw [hW0]; exact (Below.refl _ w).alloc (Nat.le_refl _) _
  obtain ⟨hBp, hpw⟩ := hb.1.lt
  obtain ⟨G, hG⟩ : ∃ G, G = w.heap.size := ⟨_, rfl⟩
  have HG := Lib.hid (show p < G by omega)
  have HKB := Lib.hid (show Blk W0 G 25 (jvCells v) by rw [hW0, hG]; exact Blk.new _ _ _)
  have HS := Lib.hid (show BK B p w0 W0 from hb.2.trans (.all hb0 (by omega)))
  have HB := Lib.hid (show WB W0 B p c W0 from ⟨hb.1.below hb0, BK.refl _ _ _⟩)
  have HW0 := Lib.hid hW0
  have CL := Lib.hid (fun (u : World) (h : IsB u B 46 p c) => bld_len B p c u h)
  have CS := Lib.hid (fun (x : ByteArray) (u : World) (h : IsB u B 46 p c) (h2 : c.length + x.size ≤ 140737488355328) => bld_str jwT B p c x u h h2)
  have HL := Lib.hid hl
  have hfin : ∀ x (w' : World), WB W0 B p x w' → WB w0 B p x w' := fun x w' h => ⟨h.1, HS.out.trans h.2⟩
  have HF := Lib.hid hfin
  rw [rightV] at hr
  simp only [plainJ, Bool.and_eq_true, Bool.or_eq_true, Bool.not_eq_true', beq_iff_eq, decide_eq_true_eq, List.isEmpty_iff, bne_iff_ne] at hr
  obtain ⟨⟨⟨⟨⟨⟨⟨⟨⟨⟨⟨hvn, hvk⟩, hvns⟩, hvt⟩, hd⟩, hk0⟩, hlen⟩, hot⟩, _⟩, hint⟩, _⟩, hks⟩ := hr
  have HI := Lib.hid hint
  clear hint
  have HKI := Lib.hid (show ∀ i (h : i < ks.length) (h' : i < kv.length), JRep W0 (fun b => b < B) ks[i] kv[i] from fun i h h' => (hkids i h h').under (hb0.mono (by omega)))
  have HNR := Lib.hid (show RdS W0 (fun b => b < B) v.nA (rowsV sCell ns) from hnr.heap fun b _ hb' => hb0.block b (by omega))
  have HKR := Lib.hid (show RdS W0 (fun b => b < B) v.kA (rowsV jvCells kv) from hkr.heap fun b _ hb' => hb0.block b (by omega))
  clear hW0 hb0 hb hl hfin hnr hkr hkids
  obtain ⟨vk, vn, vt, nA, nn, nc, kA, kn, kc⟩ := v
  dsimp only at *
  subst hn hkn
  have a0 : W0.cell? ⟨G, 0, none⟩ = some (.int .i64 vk) := HKB.out.cell 0
  have a1 : W0.cell? ⟨G, 1, none⟩ = some (.int .i64 vn) := HKB.out.cell 1
  have a2 : W0.cell? ⟨G, 2, none⟩ = some (.string (bs vt)) := HKB.out.cell 2
  rw [hG] at *
  clear hG hBp hpw
  go_enter Try.func15, Try.ntmps15
  go_upto_region 1 with (fail)
  rw [← HW0.out]
  go_wp2_with fail
  refine calls_then (CL.out _ HB.out.1) ?_
  rintro e W1 ⟨rfl, rfl⟩
  by_cases hlong : 2000 < c.length
  · have hc : (2000 : Int) < (c.length : Int) := by omega
    go_wp2_with fail
    refine bodyPost_ret (results_none rfl _ _ _) rfl ?_
    exact ⟨rfl, c, Out.stop _ hlong, HF.out _ _ HB.out⟩
  · have hc : ¬ (2000 : Int) < (c.length : Int) := by omega
    have HLG := Lib.hid hlong
    clear hlong
    have hvk4 : vk = 0 ∨ vk = 1 ∨ vk = 2 ∨ vk = 3 ∨ vk = 4 ∨ vk = 5 := by omega
    rcases hvk4 with rfl | rfl | rfl | rfl | rfl | rfl
    · go_wp2_with fail
      refine calls_then (CS.out _ _ HB.out.1 (by have := HLG.out; simp [ByteArray.size]; omega)) ?_
      rintro e w2 ⟨rfl, hb2, hw2⟩
      have HB2 := Lib.hid (HB.out.next hb2 hw2)
      clear hb2 hw2
      go_wp2_with fail
      go_end0
      exact ⟨rfl, _, Out.all _ _, HF.out _ _ HB2.out⟩
    · have hvn' : vn = 0 ∨ vn = 1 := by
        simp at hvn
        exact hvn
      clear hvn
      rcases hvn' with rfl | rfl
      · clear hvk hvns hvt hd hk0 hlen hot hks hkv
        have HGP := Lib.hid (show w.heap.size ≠ p by have := HG.out; omega)
        go_wp2_with fail
        have HC0 : BK B p W1 W1.drew := HB.out.2.drew
        have HI0 : IsB W1.drew B 46 p c := HB.out.1
        refine wp_region_list (fun u => BK B p W1 u) (fun | false => (fun u => IsB u B 46 p c) | true => (fun _ => True)) (fun | false, i => i == 8 | true, _ => false)
          [fun z _ => z 0 = .pointer (some ⟨p, 0, none⟩),
           fun z _ => z 1 = .pointer (some ⟨p, 0, none⟩),
           fun z _ => z 2 = .pointer (some ⟨p, 0, none⟩),
           fun z u => (fun v u => ∃ g, v = .slice (some ⟨g, 0, none⟩) 2 2 ∧ Blk u g 9 #[.string ⟨#[102, 97, 108, 115, 101]⟩, .string ⟨#[116, 114, 117, 101]⟩]) (z 3) u,
           fun z _ => z 4 = .pointer (some ⟨w.heap.size, 1, none⟩),
           fun z _ => z 5 = .int .i64 0,
           fun z u => (fun v u => ∃ g, v = .pointer (some ⟨g, 0, none⟩) ∧ Blk u g 9 #[.string ⟨#[102, 97, 108, 115, 101]⟩, .string ⟨#[116, 114, 117, 101]⟩]) (z 6) u,
           fun z _ => z 7 = .string ⟨#[102, 97, 108, 115, 101]⟩,
           fun z u => IsB u B 46 p (c ++ [102, 97, 108, 115, 101])]
          [Eq, Eq, Eq, fun u u' => Below u.heap.size u u', Eq, Eq, Eq, Eq, fun _ _ => True]
          (fun i k => (i == 8 && k == 3) || (i == 8 && k == 6)) [(0, some 22), (1, some 23), (2, some 24), (3, some 25), (4, some 26), (5, some 27), (6, some 28), (7, some 29), (8, some 30)] (by kernel_rfl) (by kernel_rfl) rfl (fun _ => rfl) ?_ ?_ ?_ ?_ ?_ ?_
        · exact HC0
        · intro m; cases m; exact HI0; exact trivial
        · intro m; cases m
          · exact ⟨.inr (fun _ _ h h0 => h ▸ h0), .inr (fun _ _ h h0 => h ▸ h0), .inr (fun _ _ h h0 => h ▸ h0), .inr (fun _ _ h h0 => h0.below h), .inr (fun _ _ h h0 => h ▸ h0), .inr (fun _ _ h h0 => h ▸ h0), .inr (fun _ _ h h0 => h ▸ h0), .inr (fun _ _ h h0 => h ▸ h0), .inl rfl, trivial⟩
          · exact ⟨.inr (fun _ _ h h0 => h ▸ h0), .inr (fun _ _ h h0 => h ▸ h0), .inr (fun _ _ h h0 => h ▸ h0), .inr (fun _ _ _ h => h), .inr (fun _ _ h h0 => h ▸ h0), .inr (fun _ _ h h0 => h ▸ h0), .inr (fun _ _ h h0 => h ▸ h0), .inr (fun _ _ h h0 => h ▸ h0), .inr (fun _ _ _ h => h), trivial⟩
        · exact ⟨⟨.inl rfl, .inr (.inr (.inl rfl)), .inr (.inr (.inl rfl)), .inr (.inr (.inr (fun _ _ _ _ h h0 => by cases h; exact h0))), .inr (.inr (.inr (fun _ _ _ _ _ h => h))), .inr (.inr (.inr (fun _ _ _ _ _ h => h))), .inr (.inr (.inr (fun _ _ _ _ h h0 => by cases h; exact h0))), .inr (.inr (.inr (fun _ _ _ _ _ h => h))), .inr (.inr (.inl rfl)), trivial⟩,
            ⟨.inr (.inr (.inr (fun _ _ _ _ _ h => h))), .inl rfl, .inr (.inr (.inl rfl)), .inr (.inr (.inr (fun _ _ _ _ h h0 => by cases h; exact h0))), .inr (.inr (.inr (fun _ _ _ _ _ h => h))), .inr (.inr (.inr (fun _ _ _ _ _ h => h))), .inr (.inr (.inr (fun _ _ _ _ h h0 => by cases h; exact h0))), .inr (.inr (.inr (fun _ _ _ _ _ h => h))), .inr (.inr (.inl rfl)), trivial⟩,
            ⟨.inr (.inr (.inr (fun _ _ _ _ _ h => h))), .inr (.inr (.inr (fun _ _ _ _ _ h => h))), .inl rfl, .inr (.inr (.inr (fun _ _ _ _ h h0 => by cases h; exact h0))), .inr (.inr (.inr (fun _ _ _ _ _ h => h))), .inr (.inr (.inr (fun _ _ _ _ _ h => h))), .inr (.inr (.inr (fun _ _ _ _ h h0 => by cases h; exact h0))), .inr (.inr (.inr (fun _ _ _ _ _ h => h))), .inr (.inr (.inl rfl)), trivial⟩,
            ⟨.inr (.inr (.inr (fun _ _ _ _ _ h => h))), .inr (.inr (.inr (fun _ _ _ _ _ h => h))), .inr (.inr (.inr (fun _ _ _ _ _ h => h))), .inl rfl, .inr (.inr (.inr (fun _ _ _ _ _ h => h))), .inr (.inr (.inr (fun _ _ _ _ _ h => h))), .inr (.inr (.inl rfl)), .inr (.inr (.inl rfl)), .inr (.inr (.inl rfl)), trivial⟩,
            ⟨.inr (.inr (.inr (fun _ _ _ _ _ h => h))), .inr (.inr (.inr (fun _ _ _ _ _ h => h))), .inr (.inr (.inr (fun _ _ _ _ _ h => h))), .inr (.inr (.inr (fun _ _ _ _ h h0 => by cases h; exact h0))), .inl rfl, .inr (.inr (.inl rfl)), .inr (.inr (.inl rfl)), .inr (.inr (.inl rfl)), .inr (.inr (.inr (fun _ _ _ _ h h0 => by cases h; exact h0))), trivial⟩,
            ⟨.inr (.inr (.inr (fun _ _ _ _ _ h => h))), .inr (.inr (.inr (fun _ _ _ _ _ h => h))), .inr (.inr (.inr (fun _ _ _ _ _ h => h))), .inr (.inr (.inr (fun _ _ _ _ h h0 => by cases h; exact h0))), .inr (.inr (.inr (fun _ _ _ _ _ h => h))), .inl rfl, .inr (.inr (.inl rfl)), .inr (.inr (.inl rfl)), .inr (.inr (.inl rfl)), trivial⟩,
            ⟨.inr (.inr (.inr (fun _ _ _ _ _ h => h))), .inr (.inr (.inr (fun _ _ _ _ _ h => h))), .inr (.inr (.inr (fun _ _ _ _ _ h => h))), .inr (.inr (.inr (fun _ _ _ _ h h0 => by cases h; exact h0))), .inr (.inr (.inr (fun _ _ _ _ _ h => h))), .inr (.inr (.inr (fun _ _ _ _ _ h => h))), .inl rfl, .inr (.inr (.inl rfl)), .inr (.inr (.inl rfl)), trivial⟩,
            ⟨.inr (.inr (.inr (fun _ _ _ _ _ h => h))), .inr (.inr (.inr (fun _ _ _ _ _ h => h))), .inr (.inr (.inr (fun _ _ _ _ _ h => h))), .inr (.inr (.inr (fun _ _ _ _ h h0 => by cases h; exact h0))), .inr (.inr (.inr (fun _ _ _ _ _ h => h))), .inr (.inr (.inr (fun _ _ _ _ _ h => h))), .inr (.inr (.inr (fun _ _ _ _ h h0 => by cases h; exact h0))), .inl rfl, .inr (.inr (.inl rfl)), trivial⟩,
            ⟨.inr (.inr (.inr (fun _ _ _ _ _ h => h))), .inr (.inr (.inr (fun _ _ _ _ _ h => h))), .inr (.inr (.inr (fun _ _ _ _ _ h => h))), .inr (.inl rfl), .inr (.inr (.inr (fun _ _ _ _ _ h => h))), .inr (.inr (.inr (fun _ _ _ _ _ h => h))), .inr (.inl rfl), .inr (.inr (.inr (fun _ _ _ _ _ h => h))), .inl rfl, trivial⟩, trivial⟩
        · refine ⟨?_, ?_, ?_, ?_, ?_, ?_, ?_, ?_, ?_, trivial⟩
          · -- 0: Op.move (Operand.tmp 0)
            refine step_plain [] (fun _ => rfl) rfl ?_
            intro w1 vals hC1 hi0 hf E hE
            have hI1 : (fun u => IsB u B 46 p c) w1 := hi0 false rfl
            try dsimp only at hI1
            clear hi0
            clear hf
            simp only [puts, act_put, act_put_none, List.setIfInBounds_toArray, List.set_cons_zero, List.set_cons_succ] at hE ⊢
            go_wp2
            exact .mk (hE _ _ rfl hC1 rfl)
          · -- 1: Op.nilCheck (Operand.tmp 22)
            refine step_plain [(0, some 22)] (fun _ => rfl) rfl ?_
            intro w1 vals hC1 hi0 hf E hE
            have hI1 : (fun u => IsB u B 46 p c) w1 := hi0 false rfl
            try dsimp only at hI1
            clear hi0
            have f0 : vals 0 = .pointer (some ⟨p, 0, none⟩) := hf 0 rfl
            try dsimp only at f0
            clear hf
            simp only [puts, act_put, act_put_none, List.setIfInBounds_toArray, List.set_cons_zero, List.set_cons_succ, f0] at hE ⊢
            clear f0
            go_wp2
            exact .mk (hE _ _ rfl hC1 rfl)
          · -- 2: Op.fieldAddr 46 (Operand.tmp 23) 0
            refine step_plain [(1, some 23)] (fun _ => rfl) rfl ?_
            intro w1 vals hC1 hi0 hf E hE
            have hI1 : (fun u => IsB u B 46 p c) w1 := hi0 false rfl
            try dsimp only at hI1
            clear hi0
            have f1 : vals 1 = .pointer (some ⟨p, 0, none⟩) := hf 1 rfl
            try dsimp only at f1
            clear hf
            simp only [puts, act_put, act_put_none, List.setIfInBounds_toArray, List.set_cons_zero, List.set_cons_succ, f1] at hE ⊢
            clear f1
            go_wp2
            exact .mk (hE _ _ rfl hC1 rfl)
          · -- 3: Op.buildSlice 22 2 #[(0, Operand.const (Value.string { data := #[102, 97, 108, 115, 101] })), (1, Operand.cons
            refine step_plain [] (fun _ => rfl) rfl ?_
            intro w1 vals hC1 hi0 hf E hE
            have hI1 : (fun u => IsB u B 46 p c) w1 := hi0 false rfl
            try dsimp only at hI1
            clear hi0
            clear hf
            simp only [puts, act_put, act_put_none, List.setIfInBounds_toArray, List.set_cons_zero, List.set_cons_succ] at hE ⊢
            go_wp2
            exact .mk (hE _ _ ⟨_, rfl, Blk.new _ _ _⟩ (hC1.trans (.all ((Below.refl _ _).alloc (Nat.le_refl _) _) (by have := hI1.lt; omega))) ((Below.refl _ _).alloc (Nat.le_refl _) _))
          · -- 4: Op.fieldAddr 25 (Operand.tmp 3) 1
            refine step_plain [] (fun _ => rfl) rfl ?_
            intro w1 vals hC1 hi0 hf E hE
            clear hi0
            clear hf
            simp only [puts, act_put, act_put_none, List.setIfInBounds_toArray, List.set_cons_zero, List.set_cons_succ] at hE ⊢
            go_wp2
            exact .mk (hE _ _ rfl hC1 rfl)
          · -- 5: Op.load 3 (Operand.tmp 26)
            refine step_plain [(4, some 26)] (fun _ => rfl) rfl ?_
            intro w1 vals hC1 hi0 hf E hE
            have hI1 : (fun u => IsB u B 46 p c) w1 := hi0 false rfl
            try dsimp only at hI1
            clear hi0
            have f4 : vals 4 = .pointer (some ⟨w.heap.size, 1, none⟩) := hf 4 rfl
            try dsimp only at f4
            clear hf
            have a9 : w1.cell? ⟨w.heap.size, 1, none⟩ = some (.int .i64 0) := (hC1.blk HKB.out HGP.out (by decide)).cell 1
            simp only [puts, act_put, act_put_none, List.setIfInBounds_toArray, List.set_cons_zero, List.set_cons_succ, f4] at hE ⊢
            clear f4
            go_wp2
            exact .mk (hE _ _ rfl hC1 rfl)
          · -- 6: Op.indexAddr 22 (Operand.tmp 25) (Operand.tmp 27)
            refine step_plain [(3, some 25), (5, some 27)] (fun _ => rfl) rfl ?_
            intro w1 vals hC1 hi0 hf E hE
            have hI1 : (fun u => IsB u B 46 p c) w1 := hi0 false rfl
            try dsimp only at hI1
            clear hi0
            have f3 : (fun v u => ∃ g, v = .slice (some ⟨g, 0, none⟩) 2 2 ∧ Blk u g 9 #[.string ⟨#[102, 97, 108, 115, 101]⟩, .string ⟨#[116, 114, 117, 101]⟩]) (vals 3) w1 := hf 3 rfl
            have f5 : vals 5 = .int .i64 0 := hf 5 rfl
            try dsimp only at f3 f5
            clear hf
            obtain ⟨g3, hx3, hg3⟩ := f3
            simp only [puts, act_put, act_put_none, List.setIfInBounds_toArray, List.set_cons_zero, List.set_cons_succ, f5, hx3] at hE ⊢
            clear f5
            clear hx3
            go_wp2
            exact .mk (hE _ _ ⟨g3, rfl, hg3⟩ hC1 rfl)
          · -- 7: Op.load 9 (Operand.tmp 28)
            refine step_plain [(6, some 28)] (fun _ => rfl) rfl ?_
            intro w1 vals hC1 hi0 hf E hE
            have hI1 : (fun u => IsB u B 46 p c) w1 := hi0 false rfl
            try dsimp only at hI1
            clear hi0
            have f6 : (fun v u => ∃ g, v = .pointer (some ⟨g, 0, none⟩) ∧ Blk u g 9 #[.string ⟨#[102, 97, 108, 115, 101]⟩, .string ⟨#[116, 114, 117, 101]⟩]) (vals 6) w1 := hf 6 rfl
            try dsimp only at f6
            clear hf
            obtain ⟨g6, hx6, hg6⟩ := f6
            have a9 := hg6.cell 0
            simp only [puts, act_put, act_put_none, List.setIfInBounds_toArray, List.set_cons_zero, List.set_cons_succ, hx6] at hE ⊢
            clear hx6
            go_wp2
            exact .mk (hE _ _ rfl hC1 rfl)
          · -- 8: Op.call { callee := Callee.value (Operand.func 31), args := #[Operand.tmp 24, Operand.tmp 29], argTypes := #[4
            refine step_plain [(2, some 24), (7, some 29)] (fun _ => rfl) rfl ?_
            intro w1 vals hC1 hi0 hf E hE
            have hI1 : (fun u => IsB u B 46 p c) w1 := hi0 false rfl
            try dsimp only at hI1
            clear hi0
            have f2 : vals 2 = .pointer (some ⟨p, 0, none⟩) := hf 2 rfl
            have f7 : vals 7 = .string ⟨#[102, 97, 108, 115, 101]⟩ := hf 7 rfl
            try dsimp only at f2 f7
            clear hf
            simp only [puts, act_put, act_put_none, List.setIfInBounds_toArray, List.set_cons_zero, List.set_cons_succ, f2, f7] at hE ⊢
            clear f2 f7
            go_wp2_with fail
            refine calls_then (CS.out _ _ hI1 (by have := HLG.out; simp [ByteArray.size]; omega)) ?_
            rintro e w2 ⟨rfl, hb2, hw2⟩
            go_wp2_with fail
            exact .mk (hE _ _ hb2 (hC1.trans hw2) trivial)
        intro w1 vals hC1 hf
        have f0 : vals 0 = .pointer (some ⟨p, 0, none⟩) := hf 0 (by decide) rfl
        have f1 : vals 1 = .pointer (some ⟨p, 0, none⟩) := hf 1 (by decide) rfl
        have f2 : vals 2 = .pointer (some ⟨p, 0, none⟩) := hf 2 (by decide) rfl
        have f4 : vals 4 = .pointer (some ⟨w.heap.size, 1, none⟩) := hf 4 (by decide) rfl
        have f5 : vals 5 = .int .i64 0 := hf 5 (by decide) rfl
        have f7 : vals 7 = .string ⟨#[102, 97, 108, 115, 101]⟩ := hf 7 (by decide) rfl
        have f8 : (fun z u => IsB u B 46 p (c ++ [102, 97, 108, 115, 101])) vals w1 := hf 8 (by decide) rfl
        try dsimp only at f0 f1 f2 f4 f5 f7 f8
        clear hf
        simp only [puts, act_put, act_put_none, List.setIfInBounds_toArray, List.set_cons_zero, List.set_cons_succ, f0, f1, f2, f4, f5, f7]
        clear f0 f1 f2 f4 f5 f7
        generalize vals 3 = x3 at *
        generalize vals 6 = x6 at *
        generalize vals 8 = x8 at *
        have HR := Lib.hid (show WB W1 B p (c ++ [102, 97, 108, 115, 101]) _ from ⟨f8, hC1⟩)
        clear HC0 HI0 hC1 f8
        go_wp2_with fail
        go_end0
        exact ⟨rfl, _, by rw [writeV, if_neg (by decide), if_pos rfl]; exact Out.all _ _, HF.out _ _ HR.out⟩
      · clear hvk hvns hvt hd hk0 hlen hot hks hkv
        have HGP := Lib.hid (show w.heap.size ≠ p by have := HG.out; omega)
        go_wp2_with fail
        have HC0 : BK B p W1 W1.drew := HB.out.2.drew
        have HI0 : IsB W1.drew B 46 p c := HB.out.1
        refine wp_region_list (fun u => BK B p W1 u) (fun | false => (fun u => IsB u B 46 p c) | true => (fun _ => True)) (fun | false, i => i == 8 | true, _ => false)
          [fun z _ => z 0 = .pointer (some ⟨p, 0, none⟩),
           fun z _ => z 1 = .pointer (some ⟨p, 0, none⟩),
           fun z _ => z 2 = .pointer (some ⟨p, 0, none⟩),
           fun z u => (fun v u => ∃ g, v = .slice (some ⟨g, 0, none⟩) 2 2 ∧ Blk u g 9 #[.string ⟨#[102, 97, 108, 115, 101]⟩, .string ⟨#[116, 114, 117, 101]⟩]) (z 3) u,
           fun z _ => z 4 = .pointer (some ⟨w.heap.size, 1, none⟩),
           fun z _ => z 5 = .int .i64 1,
           fun z u => (fun v u => ∃ g, v = .pointer (some ⟨g, 1, none⟩) ∧ Blk u g 9 #[.string ⟨#[102, 97, 108, 115, 101]⟩, .string ⟨#[116, 114, 117, 101]⟩]) (z 6) u,
           fun z _ => z 7 = .string ⟨#[116, 114, 117, 101]⟩,
           fun z u => IsB u B 46 p (c ++ [116, 114, 117, 101])]
          [Eq, Eq, Eq, fun u u' => Below u.heap.size u u', Eq, Eq, Eq, Eq, fun _ _ => True]
          (fun i k => (i == 8 && k == 3) || (i == 8 && k == 6)) [(0, some 22), (1, some 23), (2, some 24), (3, some 25), (4, some 26), (5, some 27), (6, some 28), (7, some 29), (8, some 30)] (by kernel_rfl) (by kernel_rfl) rfl (fun _ => rfl) ?_ ?_ ?_ ?_ ?_ ?_
        · exact HC0
        · intro m; cases m; exact HI0; exact trivial
        · intro m; cases m
          · exact ⟨.inr (fun _ _ h h0 => h ▸ h0), .inr (fun _ _ h h0 => h ▸ h0), .inr (fun _ _ h h0 => h ▸ h0), .inr (fun _ _ h h0 => h0.below h), .inr (fun _ _ h h0 => h ▸ h0), .inr (fun _ _ h h0 => h ▸ h0), .inr (fun _ _ h h0 => h ▸ h0), .inr (fun _ _ h h0 => h ▸ h0), .inl rfl, trivial⟩
          · exact ⟨.inr (fun _ _ h h0 => h ▸ h0), .inr (fun _ _ h h0 => h ▸ h0), .inr (fun _ _ h h0 => h ▸ h0), .inr (fun _ _ _ h => h), .inr (fun _ _ h h0 => h ▸ h0), .inr (fun _ _ h h0 => h ▸ h0), .inr (fun _ _ h h0 => h ▸ h0), .inr (fun _ _ h h0 => h ▸ h0), .inr (fun _ _ _ h => h), trivial⟩
        · exact ⟨⟨.inl rfl, .inr (.inr (.inl rfl)), .inr (.inr (.inl rfl)), .inr (.inr (.inr (fun _ _ _ _ h h0 => by cases h; exact h0))), .inr (.inr (.inr (fun _ _ _ _ _ h => h))), .inr (.inr (.inr (fun _ _ _ _ _ h => h))), .inr (.inr (.inr (fun _ _ _ _ h h0 => by cases h; exact h0))), .inr (.inr (.inr (fun _ _ _ _ _ h => h))), .inr (.inr (.inl rfl)), trivial⟩,
            ⟨.inr (.inr (.inr (fun _ _ _ _ _ h => h))), .inl rfl, .inr (.inr (.inl rfl)), .inr (.inr (.inr (fun _ _ _ _ h h0 => by cases h; exact h0))), .inr (.inr (.inr (fun _ _ _ _ _ h => h))), .inr (.inr (.inr (fun _ _ _ _ _ h => h))), .inr (.inr (.inr (fun _ _ _ _ h h0 => by cases h; exact h0))), .inr (.inr (.inr (fun _ _ _ _ _ h => h))), .inr (.inr (.inl rfl)), trivial⟩,
            ⟨.inr (.inr (.inr (fun _ _ _ _ _ h => h))), .inr (.inr (.inr (fun _ _ _ _ _ h => h))), .inl rfl, .inr (.inr (.inr (fun _ _ _ _ h h0 => by cases h; exact h0))), .inr (.inr (.inr (fun _ _ _ _ _ h => h))), .inr (.inr (.inr (fun _ _ _ _ _ h => h))), .inr (.inr (.inr (fun _ _ _ _ h h0 => by cases h; exact h0))), .inr (.inr (.inr (fun _ _ _ _ _ h => h))), .inr (.inr (.inl rfl)), trivial⟩,
            ⟨.inr (.inr (.inr (fun _ _ _ _ _ h => h))), .inr (.inr (.inr (fun _ _ _ _ _ h => h))), .inr (.inr (.inr (fun _ _ _ _ _ h => h))), .inl rfl, .inr (.inr (.inr (fun _ _ _ _ _ h => h))), .inr (.inr (.inr (fun _ _ _ _ _ h => h))), .inr (.inr (.inl rfl)), .inr (.inr (.inl rfl)), .inr (.inr (.inl rfl)), trivial⟩,
            ⟨.inr (.inr (.inr (fun _ _ _ _ _ h => h))), .inr (.inr (.inr (fun _ _ _ _ _ h => h))), .inr (.inr (.inr (fun _ _ _ _ _ h => h))), .inr (.inr (.inr (fun _ _ _ _ h h0 => by cases h; exact h0))), .inl rfl, .inr (.inr (.inl rfl)), .inr (.inr (.inl rfl)), .inr (.inr (.inl rfl)), .inr (.inr (.inr (fun _ _ _ _ h h0 => by cases h; exact h0))), trivial⟩,
            ⟨.inr (.inr (.inr (fun _ _ _ _ _ h => h))), .inr (.inr (.inr (fun _ _ _ _ _ h => h))), .inr (.inr (.inr (fun _ _ _ _ _ h => h))), .inr (.inr (.inr (fun _ _ _ _ h h0 => by cases h; exact h0))), .inr (.inr (.inr (fun _ _ _ _ _ h => h))), .inl rfl, .inr (.inr (.inl rfl)), .inr (.inr (.inl rfl)), .inr (.inr (.inl rfl)), trivial⟩,
            ⟨.inr (.inr (.inr (fun _ _ _ _ _ h => h))), .inr (.inr (.inr (fun _ _ _ _ _ h => h))), .inr (.inr (.inr (fun _ _ _ _ _ h => h))), .inr (.inr (.inr (fun _ _ _ _ h h0 => by cases h; exact h0))), .inr (.inr (.inr (fun _ _ _ _ _ h => h))), .inr (.inr (.inr (fun _ _ _ _ _ h => h))), .inl rfl, .inr (.inr (.inl rfl)), .inr (.inr (.inl rfl)), trivial⟩,
            ⟨.inr (.inr (.inr (fun _ _ _ _ _ h => h))), .inr (.inr (.inr (fun _ _ _ _ _ h => h))), .inr (.inr (.inr (fun _ _ _ _ _ h => h))), .inr (.inr (.inr (fun _ _ _ _ h h0 => by cases h; exact h0))), .inr (.inr (.inr (fun _ _ _ _ _ h => h))), .inr (.inr (.inr (fun _ _ _ _ _ h => h))), .inr (.inr (.inr (fun _ _ _ _ h h0 => by cases h; exact h0))), .inl rfl, .inr (.inr (.inl rfl)), trivial⟩,
            ⟨.inr (.inr (.inr (fun _ _ _ _ _ h => h))), .inr (.inr (.inr (fun _ _ _ _ _ h => h))), .inr (.inr (.inr (fun _ _ _ _ _ h => h))), .inr (.inl rfl), .inr (.inr (.inr (fun _ _ _ _ _ h => h))), .inr (.inr (.inr (fun _ _ _ _ _ h => h))), .inr (.inl rfl), .inr (.inr (.inr (fun _ _ _ _ _ h => h))), .inl rfl, trivial⟩, trivial⟩
        · refine ⟨?_, ?_, ?_, ?_, ?_, ?_, ?_, ?_, ?_, trivial⟩
          · -- 0: Op.move (Operand.tmp 0)
            refine step_plain [] (fun _ => rfl) rfl ?_
            intro w1 vals hC1 hi0 hf E hE
            have hI1 : (fun u => IsB u B 46 p c) w1 := hi0 false rfl
            try dsimp only at hI1
            clear hi0
            clear hf
            simp only [puts, act_put, act_put_none, List.setIfInBounds_toArray, List.set_cons_zero, List.set_cons_succ] at hE ⊢
            go_wp2
            exact .mk (hE _ _ rfl hC1 rfl)
          · -- 1: Op.nilCheck (Operand.tmp 22)
            refine step_plain [(0, some 22)] (fun _ => rfl) rfl ?_
            intro w1 vals hC1 hi0 hf E hE
            have hI1 : (fun u => IsB u B 46 p c) w1 := hi0 false rfl
            try dsimp only at hI1
            clear hi0
            have f0 : vals 0 = .pointer (some ⟨p, 0, none⟩) := hf 0 rfl
            try dsimp only at f0
            clear hf
            simp only [puts, act_put, act_put_none, List.setIfInBounds_toArray, List.set_cons_zero, List.set_cons_succ, f0] at hE ⊢
            clear f0
            go_wp2
            exact .mk (hE _ _ rfl hC1 rfl)
          · -- 2: Op.fieldAddr 46 (Operand.tmp 23) 0
            refine step_plain [(1, some 23)] (fun _ => rfl) rfl ?_
            intro w1 vals hC1 hi0 hf E hE
            have hI1 : (fun u => IsB u B 46 p c) w1 := hi0 false rfl
            try dsimp only at hI1
            clear hi0
            have f1 : vals 1 = .pointer (some ⟨p, 0, none⟩) := hf 1 rfl
            try dsimp only at f1
            clear hf
            simp only [puts, act_put, act_put_none, List.setIfInBounds_toArray, List.set_cons_zero, List.set_cons_succ, f1] at hE ⊢
            clear f1
            go_wp2
            exact .mk (hE _ _ rfl hC1 rfl)
          · -- 3: Op.buildSlice 22 2 #[(0, Operand.const (Value.string { data := #[102, 97, 108, 115, 101] })), (1, Operand.cons
            refine step_plain [] (fun _ => rfl) rfl ?_
            intro w1 vals hC1 hi0 hf E hE
            have hI1 : (fun u => IsB u B 46 p c) w1 := hi0 false rfl
            try dsimp only at hI1
            clear hi0
            clear hf
            simp only [puts, act_put, act_put_none, List.setIfInBounds_toArray, List.set_cons_zero, List.set_cons_succ] at hE ⊢
            go_wp2
            exact .mk (hE _ _ ⟨_, rfl, Blk.new _ _ _⟩ (hC1.trans (.all ((Below.refl _ _).alloc (Nat.le_refl _) _) (by have := hI1.lt; omega))) ((Below.refl _ _).alloc (Nat.le_refl _) _))
          · -- 4: Op.fieldAddr 25 (Operand.tmp 3) 1
            refine step_plain [] (fun _ => rfl) rfl ?_
            intro w1 vals hC1 hi0 hf E hE
            clear hi0
            clear hf
            simp only [puts, act_put, act_put_none, List.setIfInBounds_toArray, List.set_cons_zero, List.set_cons_succ] at hE ⊢
            go_wp2
            exact .mk (hE _ _ rfl hC1 rfl)
          · -- 5: Op.load 3 (Operand.tmp 26)
            refine step_plain [(4, some 26)] (fun _ => rfl) rfl ?_
            intro w1 vals hC1 hi0 hf E hE
            have hI1 : (fun u => IsB u B 46 p c) w1 := hi0 false rfl
            try dsimp only at hI1
            clear hi0
            have f4 : vals 4 = .pointer (some ⟨w.heap.size, 1, none⟩) := hf 4 rfl
            try dsimp only at f4
            clear hf
            have a9 : w1.cell? ⟨w.heap.size, 1, none⟩ = some (.int .i64 1) := (hC1.blk HKB.out HGP.out (by decide)).cell 1
            simp only [puts, act_put, act_put_none, List.setIfInBounds_toArray, List.set_cons_zero, List.set_cons_succ, f4] at hE ⊢
            clear f4
            go_wp2
            exact .mk (hE _ _ rfl hC1 rfl)
          · -- 6: Op.indexAddr 22 (Operand.tmp 25) (Operand.tmp 27)
            refine step_plain [(3, some 25), (5, some 27)] (fun _ => rfl) rfl ?_
            intro w1 vals hC1 hi0 hf E hE
            have hI1 : (fun u => IsB u B 46 p c) w1 := hi0 false rfl
            try dsimp only at hI1
            clear hi0
            have f3 : (fun v u => ∃ g, v = .slice (some ⟨g, 0, none⟩) 2 2 ∧ Blk u g 9 #[.string ⟨#[102, 97, 108, 115, 101]⟩, .string ⟨#[116, 114, 117, 101]⟩]) (vals 3) w1 := hf 3 rfl
            have f5 : vals 5 = .int .i64 1 := hf 5 rfl
            try dsimp only at f3 f5
            clear hf
            obtain ⟨g3, hx3, hg3⟩ := f3
            simp only [puts, act_put, act_put_none, List.setIfInBounds_toArray, List.set_cons_zero, List.set_cons_succ, f5, hx3] at hE ⊢
            clear f5
            clear hx3
            go_wp2
            exact .mk (hE _ _ ⟨g3, rfl, hg3⟩ hC1 rfl)
          · -- 7: Op.load 9 (Operand.tmp 28)
            refine step_plain [(6, some 28)] (fun _ => rfl) rfl ?_
            intro w1 vals hC1 hi0 hf E hE
            have hI1 : (fun u => IsB u B 46 p c) w1 := hi0 false rfl
            try dsimp only at hI1
            clear hi0
            have f6 : (fun v u => ∃ g, v = .pointer (some ⟨g, 1, none⟩) ∧ Blk u g 9 #[.string ⟨#[102, 97, 108, 115, 101]⟩, .string ⟨#[116, 114, 117, 101]⟩]) (vals 6) w1 := hf 6 rfl
            try dsimp only at f6
            clear hf
            obtain ⟨g6, hx6, hg6⟩ := f6
            have a9 := hg6.cell 1
            simp only [puts, act_put, act_put_none, List.setIfInBounds_toArray, List.set_cons_zero, List.set_cons_succ, hx6] at hE ⊢
            clear hx6
            go_wp2
            exact .mk (hE _ _ rfl hC1 rfl)
          · -- 8: Op.call { callee := Callee.value (Operand.func 31), args := #[Operand.tmp 24, Operand.tmp 29], argTypes := #[4
            refine step_plain [(2, some 24), (7, some 29)] (fun _ => rfl) rfl ?_
            intro w1 vals hC1 hi0 hf E hE
            have hI1 : (fun u => IsB u B 46 p c) w1 := hi0 false rfl
            try dsimp only at hI1
            clear hi0
            have f2 : vals 2 = .pointer (some ⟨p, 0, none⟩) := hf 2 rfl
            have f7 : vals 7 = .string ⟨#[116, 114, 117, 101]⟩ := hf 7 rfl
            try dsimp only at f2 f7
            clear hf
            simp only [puts, act_put, act_put_none, List.setIfInBounds_toArray, List.set_cons_zero, List.set_cons_succ, f2, f7] at hE ⊢
            clear f2 f7
            go_wp2_with fail
            refine calls_then (CS.out _ _ hI1 (by have := HLG.out; simp [ByteArray.size]; omega)) ?_
            rintro e w2 ⟨rfl, hb2, hw2⟩
            go_wp2_with fail
            exact .mk (hE _ _ hb2 (hC1.trans hw2) trivial)
        intro w1 vals hC1 hf
        have f0 : vals 0 = .pointer (some ⟨p, 0, none⟩) := hf 0 (by decide) rfl
        have f1 : vals 1 = .pointer (some ⟨p, 0, none⟩) := hf 1 (by decide) rfl
        have f2 : vals 2 = .pointer (some ⟨p, 0, none⟩) := hf 2 (by decide) rfl
        have f4 : vals 4 = .pointer (some ⟨w.heap.size, 1, none⟩) := hf 4 (by decide) rfl
        have f5 : vals 5 = .int .i64 1 := hf 5 (by decide) rfl
        have f7 : vals 7 = .string ⟨#[116, 114, 117, 101]⟩ := hf 7 (by decide) rfl
        have f8 : (fun z u => IsB u B 46 p (c ++ [116, 114, 117, 101])) vals w1 := hf 8 (by decide) rfl
        try dsimp only at f0 f1 f2 f4 f5 f7 f8
        clear hf
        simp only [puts, act_put, act_put_none, List.setIfInBounds_toArray, List.set_cons_zero, List.set_cons_succ, f0, f1, f2, f4, f5, f7]
        clear f0 f1 f2 f4 f5 f7
        generalize vals 3 = x3 at *
        generalize vals 6 = x6 at *
        generalize vals 8 = x8 at *
        have HR := Lib.hid (show WB W1 B p (c ++ [116, 114, 117, 101]) _ from ⟨f8, hC1⟩)
        clear HC0 HI0 hC1 f8
        go_wp2_with fail
        go_end0
        exact ⟨rfl, _, by rw [writeV, if_neg (by decide), if_pos rfl]; exact Out.all _ _, HF.out _ _ HR.out⟩
    · go_wp2_with fail
      refine calls_then (wnum_any vn (by have := HI.out; omega) (by have := HI.out; omega) B p c W1 _ HB.out (by have h := HL.out; rw [writeV, if_neg (by decide), if_neg (by decide), if_pos rfl] at h; exact h)) ?_
      rintro e w2 ⟨rfl, hw2⟩
      have HB2 := Lib.hid hw2
      clear hw2
      go_wp2_with fail
      go_end0
      exact ⟨rfl, _, by rw [writeV, if_neg (by decide), if_neg (by decide), if_pos rfl]; exact Out.all _ _, HF.out _ _ HB2.out⟩
    · go_wp2_with fail
      refine calls_then (wtext_any (bs vt) B p c W1 _ HB.out (by have h := HL.out; rw [writeV, if_neg (by decide), if_neg (by decide), if_neg (by decide), if_pos rfl] at h; exact h)) ?_
      rintro e w2 ⟨rfl, hw2⟩
      have HB2 := Lib.hid hw2
      clear hw2
      go_wp2_with fail
      go_end0
      exact ⟨rfl, _, by rw [writeV, if_neg (by decide), if_neg (by decide), if_neg (by decide), if_pos rfl]; exact Out.all _ _, HF.out _ _ HB2.out⟩
    · have HD := Lib.hid (show 0 < d by simp at hd; omega)
      have HW := Lib.hid (show writeV (.mk 4 vn vt ns ks) = 91 :: (itemsV false ns ks true ++ [93]) by
        rw [writeV, if_neg (by decide), if_neg (by decide), if_neg (by decide), if_neg (by decide)]
        rfl)
      have hns : ns = [] := by simpa using hvns
      have C := Lib.hid (wlist_any (d - 1) (IH _ (by have := HD.out; omega)) ⟨4, vn, vt, nA, ns.length, nc, kA, ks.length, kc⟩ rfl ns ks kv B p c W1 W1 HNR.out rfl rfl hkv HKR.out HKI.out ((rightsV_iff _ _).1 hks) hns HB.out (by rw [← HW.out]; exact HL.out))
      clear hvn hvk hvns hvt hd hk0 hlen hot hks hkv hns
      go_wp2_with (refine wpList_get_box (x := .tmp 3) HKB.out rfl rfl rfl hu rfl jT_size ?_)
      refine calls_then C.out ?_
      rintro e w2 ⟨rfl, c', ho, hw2⟩
      have HO := Lib.hid ho
      have HB2 := Lib.hid hw2
      clear hw2 ho
      go_wp2_with fail
      go_end0
      exact ⟨rfl, _, by rw [HW.out]; exact HO.out, HF.out _ _ HB2.out⟩
    · have HD := Lib.hid (show 0 < d by simp at hd; omega)
      have HW := Lib.hid (show writeV (.mk 5 vn vt ns ks) = 123 :: (itemsV true ns ks true ++ [125]) by
        rw [writeV, if_neg (by decide), if_neg (by decide), if_neg (by decide), if_neg (by decide)]
        rfl)
      have hlen' : ns.length = ks.length := by simpa using hlen
      have C := Lib.hid (wmap_any (d - 1) (IH _ (by have := HD.out; omega)) ⟨5, vn, vt, nA, ns.length, nc, kA, ks.length, kc⟩ rfl ns ks kv B p c W1 W1 HNR.out rfl rfl hkv HKR.out HKI.out ((rightsV_iff _ _).1 hks) hlen' HB.out (by rw [← HW.out]; exact HL.out))
      clear hvn hvk hvns hvt hd hk0 hlen hot hks hkv hlen'
      go_wp2_with (refine wpList_get_box (x := .tmp 3) HKB.out rfl rfl rfl hu rfl jT_size ?_)
      refine calls_then C.out ?_
      rintro e w2 ⟨rfl, c', ho, hw2⟩
      have HO := Lib.hid ho
      have HB2 := Lib.hid hw2
      clear hw2 ho
      go_wp2_with fail
      go_end0
      exact ⟨rfl, _, by rw [HW.out]; exact HO.out, HF.out _ _ HB2.out⟩
theorem wval_any : ∀ d, WVal d := fun d => Nat.strongRecOn d fun d ih => wval_step d ih
end Go.Proofs.Ytcfbnjaelniahaa.Js
/-
  Walk: json.Write.
-/
namespace Go.Proofs.Ytcfbnjaelniahaa.Js
set_option linter.unusedSimpArgs false
set_option linter.unusedVariables false
open Go.RowKit

/-- what Write tells -/
def wrE (j : JT) : Bs × Int := if rightV 6 j = false then ([], 1) else if 2000 < (writeV j).length then ([], 4) else (writeV j, 0)
theorem writeV_ne (j : JT) (h : rightV 6 j = true) : writeV j ≠ [] := by
  obtain ⟨c, l, h1, _⟩ := writeV_first j 6 h
  rw [h1]
  simp
set_option maxRecDepth 100000 in
set_option maxHeartbeats 4000000 in
theorem jwrite_any (j : JT) (v : JV) (B : Nat) (w : World) (hs : smallJ j = true) (hj : JRep w (fun b => b < B) j v) (hB : B ≤ w.heap.size) (hl : (writeV j).length ≤ 1099511627776) :
    Calls Try.prog 8 #[.agg (jvCells v)] w fun e w' => e = .returned (.tuple #[.string (bs (wrE j).1), .int .i64 (wrE j).2]) ∧ Below w.heap.size w w' := by
  have hu := Try.underlying25
  obtain ⟨G, hG⟩ : ∃ G, G = w.heap.size := ⟨_, rfl⟩
  obtain ⟨W0, hW0⟩ : ∃ W0, W0 = w.alloc (.cells (jvCells v) 25) := ⟨_, rfl⟩
  have hb0 : Below w.heap.size w W0 := by rw [hW0]; exact (Below.refl _ w).alloc (Nat.le_refl _) _
  have HB0 := Lib.hid hb0
  have HKB := Lib.hid (show Blk W0 G 25 (jvCells v) by rw [hW0, hG]; exact Blk.new _ _ _)
  have HJ := Lib.hid (hj.under (hb0.mono hB))
  have HBB := Lib.hid (show B ≤ W0.heap.size from Nat.le_trans hB hb0.size)
  have HL := Lib.hid hl
  have C := Lib.hid (right_any 6 (by decide) j v B W0 hs HJ.out HBB.out)
  have HW0 := Lib.hid hW0
  obtain ⟨R, hR⟩ : ∃ R, R = rightV 6 j := ⟨_, rfl⟩
  rw [← hR] at C
  have HR := Lib.hid hR
  clear hW0 hb0 hs hj hB hl hR
  rw [hG] at *
  clear hG
  go_enter Try.func8, Try.ntmps8
  go_upto_region 1 with (fail)
  rw [← HW0.out]
  clear HW0
  generalize Value.agg (jvCells v) = AV
  go_wp2_with (refine wpList_get_box (x := .tmp 1) (cs := jvCells v) HKB.out rfl rfl rfl hu rfl jT_size2 ?_)
  refine calls_then C.out ?_
  rintro e w1 ⟨rfl, hb1⟩
  have HB1 := Lib.hid hb1
  clear hb1
  cases R with
  | false =>
    have HE := Lib.hid (show wrE j = ([], 1) by rw [wrE, if_pos HR.out.symm])
    go_wp2_with fail
    go_ret2
    exact ⟨by rw [HE.out]; rfl, HB0.out.trans (HB1.out.mono HB0.out.size)⟩
  | true =>
    have HK1 := Lib.hid (HKB.out.below HB1.out HKB.out.lt)
    go_upto_region 4 with (fail)
    obtain ⟨W2, hW2⟩ : ∃ W2, W2 = w1.alloc (.cells #[.pointer none, .slice none 0 0] 46) := ⟨_, rfl⟩
    rw [← hW2]
    have hb2 : Below w1.heap.size w1 W2 := by rw [hW2]; exact (Below.refl _ w1).alloc (Nat.le_refl _) _
    have HB2 := Lib.hid (HB1.out.trans (hb2.mono HB1.out.size))
    have HK2 := Lib.hid (show Blk W2 w.heap.size 25 (jvCells v) from HK1.out.below hb2 HK1.out.lt)
    have HS := Lib.hid (show w1.heap.size < W2.heap.size by rw [hW2]; simp)
    have hj2 : JRep W2 (fun b => b < w1.heap.size) j v := (HJ.out.under ((HB1.out.trans (hb2.mono HB1.out.size)).mono HBB.out)).imp (fun b _ h => Nat.lt_of_lt_of_le h (Nat.le_trans HBB.out HB1.out.size))
    have hib : IsB W2 w1.heap.size 46 w1.heap.size [] := by rw [hW2]; exact IsB.new _ _ (Nat.le_refl _)
    have C2 := Lib.hid (wval_any 6 j v w1.heap.size w1.heap.size [] W2 W2 HR.out.symm hj2 ⟨hib, BK.refl _ _ _⟩ (by have := HL.out; simp; omega))
    clear hW2 hb2 hj2 hib C
    have HWP := Lib.hid (show w.heap.size ≤ w1.heap.size from Nat.le_trans HB0.out.size HB1.out.size)
    generalize hp : w1.heap.size = p at *
    go_wp2_with (refine wpList_get_box (x := .tmp 1) (cs := jvCells v) HK2.out rfl rfl rfl hu rfl jT_size2 ?_)
    refine calls_then C2.out ?_
    rintro e w3 ⟨rfl, c', hout, hw3⟩
    have HO := Lib.hid (Out.end_ hout)
    have HB3 := Lib.hid hw3.1
    have HF := Lib.hid (show Below w.heap.size w w3 from HB0.out.trans ((HB2.out.mono HB0.out.size).trans (hw3.2.below.mono HWP.out)))
    clear hout hw3
    go_wp2_with fail
    refine calls_then (bld_len _ _ _ _ HB3.out) ?_
    rintro e w4 ⟨rfl, rfl⟩
    by_cases hlong : 2000 < c'.length
    · have hc : (2000 : Int) < (c'.length : Int) := by omega
      have HE := Lib.hid (show wrE j = ([], 4) by rw [wrE, if_neg (by rw [← HR.out]; decide), if_pos (HO.out.2 hlong)])
      clear hlong
      go_wp2_with fail
      go_ret2
      exact ⟨by rw [HE.out]; rfl, HF.out⟩
    · have hc : ¬ (2000 : Int) < (c'.length : Int) := by omega
      have h1 := HO.out.1 (by omega)
      have HE := Lib.hid (show wrE j = (writeV j, 0) by rw [wrE, if_neg (by rw [← HR.out]; decide), if_neg (by omega)])
      have HC := Lib.hid h1.1
      have HNE := Lib.hid (show c' ≠ [] by rw [h1.1]; exact writeV_ne j HR.out.symm)
      clear hlong h1
      go_wp2_with fail
      refine calls_then (bld_string _ _ c' _ HB3.out HNE.out) ?_
      rintro e w5 ⟨rfl, hb5⟩
      have HB5 := Lib.hid hb5
      clear hb5
      go_wp2_with fail
      go_ret2
      exact ⟨by rw [HE.out, HC.out]; rfl, HF.out.trans (HB5.out.mono HWP.out)⟩
end Go.Proofs.Ytcfbnjaelniahaa.Js
/-
  Plain: JSON's texts: lists and maps in one another.
-/
namespace Go.Proofs.Ytcfbnjaelniahaa.Js
set_option linter.unusedVariables false

def opn (b : Bool) : Nat → Bs
  | 0 => []
  | n + 1 => opn b n ++ (if b then [123, 34, 97, 34, 58] else [91])
def cls (b : Bool) : Nat → Bs
  | 0 => []
  | n + 1 => cls b n ++ (if b then [125] else [93])
def nest (b : Bool) : Nat → JT
  | 0 => jzero
  | n + 1 => if b then .mk 5 0 [] [[97]] [nest b n] else .mk 4 0 [] [] [nest b n]
def deepT (b : Bool) (n : Nat) : Bs := opn b n ++ [110, 117, 108, 108] ++ cls b n
def isErr (e : Int) : Except Int JT → Bool
  | .error x => x == e
  | .ok _ => false
theorem isErr_eq {e : Int} {x : Except Int JT} (h : isErr e x = true) : x = .error e := by
  unfold isErr at h
  split at h
  · rw [beq_iff_eq.1 h]
  · cases h
set_option maxRecDepth 10000 in
theorem deep_ok : ∀ (b : Bool) (n : Fin 21), if n.1 ≤ 6 then rightV 6 (nest b n.1) = true ∧ writeV (nest b n.1) = deepT b n.1 ∧ (deepT b n.1).length ≤ 2000 else isErr 9 (readP (deepT b n.1)) = true ∧ rightV 6 (nest b n.1) = false := by decide +kernel
theorem deep_read {b : Bool} {n : Nat} (h : n ≤ 6) : readP (deepT b n) = .ok (nest b n) ∧ rightV 6 (nest b n) = true ∧ writeV (nest b n) = deepT b n ∧ (deepT b n).length ≤ 2000 := by
  have := deep_ok b ⟨n, by omega⟩
  rw [if_pos h] at this
  obtain ⟨h1, h2, h3⟩ := this
  exact ⟨by rw [← h2]; exact readP_write _ h1 (by rw [h2]; exact h3), h1, h2, h3⟩
theorem deep_err {b : Bool} {n : Nat} (h : 6 < n) (h2 : n < 21) : readP (deepT b n) = .error 9 ∧ rightV 6 (nest b n) = false := by
  have := deep_ok b ⟨n, h2⟩
  rw [if_neg (by simp; omega)] at this
  exact ⟨isErr_eq this.1, this.2⟩
/-- the document's example -/
def exT : Bs := [32, 123, 34, 97, 34, 32, 58, 32, 91, 49, 44, 116, 114, 117, 101, 93, 125]
def exV : JT := .mk 5 0 [] [[97]] [.mk 4 0 [] [] [jint 1, jtrue]]
def exW : Bs := [123, 34, 97, 34, 58, 91, 49, 44, 116, 114, 117, 101, 93, 125]
def isEx : Except Int JT → Bool
  | .ok (.mk 5 0 [] [[97]] [.mk 4 0 [] [] [.mk 2 1 [] [] [], .mk 1 1 [] [] []]]) => true
  | _ => false
theorem isEx_eq {x : Except Int JT} (h : isEx x = true) : x = .ok exV := by
  unfold isEx at h
  split at h
  · rfl
  · cases h
theorem ex_read : readP exT = .ok exV := isEx_eq (by decide +kernel)
theorem ex_write : rightV 6 exV = true ∧ writeV exV = exW := by decide +kernel
theorem ex_deep : readP [91, 91, 91, 91, 91, 91, 91] = .error 9 := isErr_eq (by decide +kernel)
end Go.Proofs.Ytcfbnjaelniahaa.Js
/-
  Plain: what is read is small.
-/
namespace Go.Proofs.Ytcfbnjaelniahaa.Js
set_option linter.unusedVariables false

theorem listL_small {d : Nat} {m : Bool} (hv : ∀ {r v r'}, valueP d r = .ok (v, r') → r.length ≤ 4096 → smallJ v = true) : ∀ (n : Nat) {ns ns' : List Bs} {ks ks' : List JT} {r r' : Bs}, listL (valueP d) m n ns ks r = .ok (ns', ks', r') → r.length ≤ 4096 → (∀ k ∈ ks, smallJ k = true) →
    ks'.length + r'.length ≤ ks.length + r.length ∧ ns'.length + r'.length ≤ ns.length + r.length ∧ ∀ k ∈ ks', smallJ k = true
  | 0, ns, ns', ks, ks', r, r', h, hr, hk => by rw [listL] at h; cases h
  | n + 1, ns, ns', ks, ks', r, r', h, hr, hk => by
    have hl := signP_len (endC m) r
    rcases hs : signP (endC m) r with ⟨b, r1⟩
    rw [hs] at hl
    dsimp only at hl
    cases b with
    | true =>
      rw [listL_end hs] at h
      injection h with h
      injection h with h1 h
      injection h with h2 h3
      subst h1 h2 h3
      exact ⟨by omega, by omega, hk⟩
    | false =>
      rw [listL_more hs] at h
      unfold moreK at h
      split at h
      · cases h
      · rename_i x k r4 hc
        obtain ⟨h1, h2⟩ := kidK_len hc
        have hk4 : smallJ k = true := by
          unfold kidK at hc
          split at hc
          · cases hc
          · rename_i y r3 hn
            split at hc
            · cases hc
            · rename_i k' r4' hv'
              injection hc with hc
              injection hc with e1 hc
              injection hc with e2 e3
              subst e1 e2 e3
              refine hv hv' ?_
              unfold nameK at hn
              split at hn
              · cases hn
              · rename_i r2 hcm
                have l2 : r2.length ≤ r1.length := by
                  unfold commaP at hcm
                  split at hcm
                  · injection hcm with hcm; subst hcm; exact Nat.le_refl _
                  · exact mustP_len hcm
                unfold keyP at hn
                split at hn
                · have := nameP_len hn
                  omega
                · injection hn with hn
                  injection hn with e1 e2
                  subst e2
                  omega
        obtain ⟨h3, h4, h5⟩ := listL_small hv n h (by omega) (fun q hq => by
          rcases List.mem_append.1 hq with hq | hq
          · exact hk q hq
          · rw [List.mem_singleton] at hq
            subst hq
            exact hk4)
        rw [List.length_append] at h3
        simp only [List.length_cons, List.length_nil] at h3
        exact ⟨by omega, by omega, h5⟩
theorem rawP_small {lp : Bs → Except Int (JT × Bs)} (hl : ∀ {r v r'}, lp r = .ok (v, r') → r.length ≤ 4096 → smallJ v = true) {r : Bs} {v : JT} {r' : Bs} (h : rawP lp r = .ok (v, r')) (hr : r.length ≤ 4096) : smallJ v = true := by
  have hf : ∀ k n t, smallJ (.mk k n t [] []) = true := fun k n t => by simp [smallJ, smallsJ]
  have hw : ∀ {w : Bs} {k n t}, wordR w r (.mk k n t [] []) = .ok (v, r') → smallJ v = true := by
    intro w k n t h
    unfold wordR at h
    split at h
    · cases h
    · injection h with h
      injection h with h1 h2
      subst h1
      exact hf _ _ _
  unfold rawP at h
  split at h
  · exact hw h
  split at h
  · exact hw h
  split at h
  · exact hw h
  split at h
  · unfold optR at h
    split at h
    · cases h
    · injection h with h
      injection h with h1 h2
      subst h1
      exact hf _ _ _
  split at h
  · exact hl h hr
  · unfold optR at h
    split at h
    · cases h
    · injection h with h
      injection h with h1 h2
      subst h1
      exact hf _ _ _
theorem valueP_small : ∀ (d : Nat) {r : Bs} {v : JT} {r' : Bs}, valueP d r = .ok (v, r') → r.length ≤ 4096 → smallJ v = true
  | 0, r, v, r', h, hr => by
    obtain ⟨r0, h1, -⟩ := skipR_ok h
    exact rawP_small (lp := fun _ => .error 9) (fun h => by cases h) h1 (Nat.le_trans (skip_len r) hr)
  | d + 1, r, v, r', h, hr => by
    obtain ⟨r0, h1, -⟩ := skipR_ok h
    refine rawP_small (lp := listP (valueP d)) (fun {r v r'} h hr => ?_) h1 (Nat.le_trans (skip_len r) hr)
    rw [listP_lres] at h
    unfold lres at h
    split at h
    · cases h
    · rename_i ns ks r2 hc
      injection h with h
      injection h with h1 h2
      subst h1
      have hs := skip_len r.tail
      simp only [List.length_tail] at hs
      obtain ⟨h3, h4, h5⟩ := listL_small (fun h hr => valueP_small d h hr) _ hc (by omega) (fun k hk => by cases hk)
      simp only [List.length_nil] at h3 h4
      rw [smallJ]
      simp only [Bool.and_eq_true, decide_eq_true_eq]
      exact ⟨⟨by omega, by omega⟩, (smallsJ_iff _).2 h5⟩
theorem readP_small {s : Bs} {j : JT} (h : readP s = .ok j) : smallJ j = true := by
  unfold readP at h
  split at h
  · cases h
  · split at h
    · cases h
    · rename_i hv
      injection h with h
      subst h
      exact valueP_small 6 hv (by omega)
    · cases h
end Go.Proofs.Ytcfbnjaelniahaa.Js
/-
  Walk: the document's example of json.
-/
namespace Go.Proofs.Ytcfbnjaelniahaa.Js
set_option linter.unusedSimpArgs false
set_option linter.unusedVariables false
open Go.RowKit

/-- the tree that is told -/
def valJ : Except Int JT → JT
  | .ok j => j
  | .error _ => jzero
theorem valJ_small (s : Bs) : smallJ (valJ (readP s)) = true := by
  cases h : readP s with
  | error e => show smallJ jzero = true; decide
  | ok j => exact readP_small h
theorem jread_rep (s : ByteArray) (w : World) : Calls Try.prog 12 #[.string s] w fun x w' => ∃ v : JV, x = .returned (.tuple #[.agg (jvCells v), .int .i64 (errE (readP s.data.toList))]) ∧ Below w.heap.size w w' ∧ JRep w' (fun b => b < w'.heap.size) (valJ (readP s.data.toList)) v := by
  refine (jread_any s w).mono ?_
  rintro x w' ⟨v, rfl, hb, hj, he⟩
  refine ⟨v, rfl, hb, ?_⟩
  cases h : readP s.data.toList with
  | error e => rw [he e h]; exact JRep.flat _ _ _ _ _
  | ok j => exact (hj j h).imp fun b hb _ => hb
set_option maxRecDepth 100000 in
set_option maxHeartbeats 4000000 in
theorem lives_any (w : World) : Calls Try.prog 10 #[] w fun x w' => x = .returned (.bool true) ∧ Below w.heap.size w w' := by
  have hu := Try.underlying25
  have C1 := Lib.hid (show Calls Try.prog 12 #[.string ⟨#[32, 123, 34, 97, 34, 32, 58, 32, 91, 49, 44, 116, 114, 117, 101, 93, 125]⟩] w fun x w' => ∃ v : JV, x = .returned (.tuple #[.agg (jvCells v), .int .i64 0]) ∧ Below w.heap.size w w' ∧ JRep w' (fun b => b < w'.heap.size) exV v from by
    refine (jread_any ⟨#[32, 123, 34, 97, 34, 32, 58, 32, 91, 49, 44, 116, 114, 117, 101, 93, 125]⟩ w).mono ?_
    rintro x w' ⟨v, rfl, hb, hj, -⟩
    have e1 : readP (⟨#[32, 123, 34, 97, 34, 32, 58, 32, 91, 49, 44, 116, 114, 117, 101, 93, 125]⟩ : ByteArray).data.toList = .ok exV := ex_read
    rw [e1]
    exact ⟨v, rfl, hb, (hj _ e1).imp fun b hb _ => hb⟩)
  have C2 := Lib.hid (fun (v : JV) (u : World) (h : JRep u (fun b => b < u.heap.size) exV v) =>
    show Calls Try.prog 8 #[.agg (jvCells v)] u fun x w' => x = .returned (.tuple #[.string ⟨#[123, 34, 97, 34, 58, 91, 49, 44, 116, 114, 117, 101, 93, 125]⟩, .int .i64 0]) ∧ Below u.heap.size u w' from by
      have e1 : wrE exV = (exW, 0) := by
        rw [wrE, if_neg (by rw [ex_write.1]; decide), if_neg (by rw [ex_write.2]; decide), ex_write.2]
      refine (jwrite_any exV v u.heap.size u (by decide) h (Nat.le_refl _) (by rw [ex_write.2]; decide)).mono ?_
      rintro x w' ⟨rfl, hb⟩
      rw [e1]
      exact ⟨rfl, hb⟩)
  have C3 := Lib.hid (fun (u : World) => show Calls Try.prog 12 #[.string ⟨#[91, 91, 91, 91, 91, 91, 91]⟩] u fun x w' => ∃ v : JV, x = .returned (.tuple #[.agg (jvCells v), .int .i64 9]) ∧ Below u.heap.size u w' from by
    refine (jread_any ⟨#[91, 91, 91, 91, 91, 91, 91]⟩ u).mono ?_
    rintro x w' ⟨v, rfl, hb, -, -⟩
    have e1 : readP (⟨#[91, 91, 91, 91, 91, 91, 91]⟩ : ByteArray).data.toList = .error 9 := ex_deep
    rw [e1]
    exact ⟨v, rfl, hb⟩)
  go_enter Try.func10, Try.ntmps10
  go_wp2_with fail
  refine calls_then C1.out ?_
  rintro e w1 ⟨v, rfl, hb1, hj1⟩
  have HB1 := Lib.hid hb1
  have HJ1 := Lib.hid hj1
  have HB5 := Lib.hid (show Blk (w1.alloc (.cells #[.int .i64 0, .int .i64 0, .string ⟨#[]⟩, .slice none 0 0, .slice none 0 0] 25)) w1.heap.size 25 (jvCells zJV) from Blk.new _ _ _)
  clear hb1 hj1 C1
  go_upto_region 2 with (refine wpList_put_box (x := .tmp 1) (cells := jvCells v) HB5.out rfl rfl rfl rfl jT_size3 rfl (jvCells_one _) ?_; intro w2 hb2 hw2)
  have hb5 := (Below.refl w1.heap.size w1).alloc (Nat.le_refl _) (.cells #[.int .i64 0, .int .i64 0, .string ⟨#[]⟩, .slice none 0 0, .slice none 0 0] 25)
  have hbl : Below w1.heap.size w1 w2 := hw2.below hb5 (Nat.le_refl _) (by simp)
  have HB2 := Lib.hid (HB1.out.trans (hbl.mono HB1.out.size))
  have HK2 := Lib.hid hb2
  have HJ2 := Lib.hid (show JRep w2 (fun b => b < w2.heap.size) exV v from (HJ1.out.under hbl).imp fun b hb _ => hb)
  clear hb5 hbl hb2 hw2 HB5
  go_wp2_with (refine wpList_get_box (x := .tmp 1) HK2.out rfl rfl rfl hu rfl jT_size3 ?_)
  refine calls_then (C2.out v _ HJ2.out) ?_
  rintro e w3 ⟨rfl, hb3⟩
  have HB3 := Lib.hid (HB2.out.trans (hb3.mono HB2.out.size))
  clear hb3
  go_wp2_with fail
  refine calls_then (C3.out _) ?_
  rintro e w4 ⟨v4, rfl, hb4⟩
  have HB4 := Lib.hid (HB3.out.trans (hb4.mono HB3.out.size))
  have HB6 := Lib.hid (show Blk (w4.alloc (.cells #[.int .i64 0, .int .i64 0, .string ⟨#[]⟩, .slice none 0 0, .slice none 0 0] 25)) w4.heap.size 25 (jvCells zJV) from Blk.new _ _ _)
  clear hb4
  go_upto_region 4 with (refine wpList_put_box (x := .tmp 5) (cells := jvCells v4) HB6.out rfl rfl rfl rfl jT_size3 rfl (jvCells_one _) ?_; intro w5 hb5 hw5)
  have hb6 := (Below.refl w4.heap.size w4).alloc (Nat.le_refl _) (.cells #[.int .i64 0, .int .i64 0, .string ⟨#[]⟩, .slice none 0 0, .slice none 0 0] 25)
  have hbl : Below w4.heap.size w4 w5 := hw5.below hb6 (Nat.le_refl _) (by simp)
  have HB7 := Lib.hid (HB4.out.trans (hbl.mono HB4.out.size))
  clear hb6 hbl hb5 hw5 HB6
  go_wp2_with fail
  go_ret
  exact ⟨rfl, HB7.out⟩
end Go.Proofs.Ytcfbnjaelniahaa.Js
/-
  Walk: the reference's Same, of two trees that are the same.
-/
namespace Go.Proofs.Ytcfbnjaelniahaa.Js
set_option linter.unusedSimpArgs false
set_option linter.unusedVariables false
open Go.RowKit

/-- the names of one tree and the same of another lie the same -/
def SmP (j : JT) : Prop := ∀ (va vb : JV) (B : Nat) (w : World), smallJ j = true → JRep w (fun b => b < B) j va → JRep w (fun b => b < B) j vb → B ≤ w.heap.size →
  Calls Try.prog 13 #[.agg (jvCells va), .agg (jvCells vb)] w fun x w' => x = .returned (.bool true) ∧ Below w.heap.size w w'
set_option maxRecDepth 100000 in
set_option maxHeartbeats 4000000 in
theorem same_any : ∀ j, SmP j := by
  refine JT.ind ?_
  intro k0 n0 t0 ns ks IH va vb B w hs hja hjb hB
  have hu := Try.underlying25
  obtain ⟨ns1, ks1, kva, e1, hn1, hnc1, hnr1, hkn1, hkc1, hkv1, hkr1, hkids1⟩ := hja.inv
  obtain ⟨ns2, ks2, kvb, e2, hn2, hnc2, hnr2, hkn2, hkc2, hkv2, hkr2, hkids2⟩ := hjb.inv
  rw [smallJ] at hs
  simp only [Bool.and_eq_true, decide_eq_true_eq] at hs
  obtain ⟨⟨hsn, hsk⟩, hsm⟩ := hs
  obtain ⟨vk, vn, vt, nA, nn, nc, kA, kn, kc⟩ := va
  obtain ⟨vk', vn', vt', nA', nn', nc', kA', kn', kc'⟩ := vb
  dsimp only at *
  injection e1 with x1 x2 x3 x4 x5
  injection e2 with y1 y2 y3 y4 y5
  subst x1 x2 x3 x4 x5 y1 y2 y3 y4 y5
  have f1 : nn' = nn := by rw [hn1, hn2]
  have f2 : kn' = kn := by rw [hkn1, hkn2]
  subst f1 f2
  clear hja hjb hnc1 hnc2 hkc1 hkc2
  obtain ⟨G, hG⟩ : ∃ G, G = w.heap.size := ⟨_, rfl⟩
  obtain ⟨W0, hW0⟩ : ∃ W0, W0 = (w.alloc (.cells (jvCells ⟨k0, n0, t0, nA, nn', nc, kA, kn', kc⟩) 25)).alloc (.cells (jvCells ⟨k0, n0, t0, nA', nn', nc', kA', kn', kc'⟩) 25) := ⟨_, rfl⟩
  have hb0 : Below w.heap.size w W0 := by rw [hW0]; exact ((Below.refl _ w).alloc (Nat.le_refl _) _).alloc (by simp) _
  have HB0 := Lib.hid hb0
  have HKA := Lib.hid (show Blk W0 G 25 (jvCells ⟨k0, n0, t0, nA, nn', nc, kA, kn', kc⟩) by rw [hW0, hG]; exact (Blk.new _ _ _).alloc _)
  have HKB := Lib.hid (show Blk W0 (G + 1) 25 (jvCells ⟨k0, n0, t0, nA', nn', nc', kA', kn', kc'⟩) by
    have := Blk.new (w.alloc (.cells (jvCells ⟨k0, n0, t0, nA, nn', nc, kA, kn', kc⟩) 25)) 25 (jvCells ⟨k0, n0, t0, nA', nn', nc', kA', kn', kc'⟩)
    rw [hW0, hG]
    simpa using this)
  have HNA := Lib.hid (show Rd W0 B nA (rowsV sCell ns) from (hnr1.rd (fun _ _ h => h)).below (hb0.mono hB))
  have HNB := Lib.hid (show Rd W0 B nA' (rowsV sCell ns) from (hnr2.rd (fun _ _ h => h)).below (hb0.mono hB))
  have HRA := Lib.hid (show Rd W0 B kA (rowsV jvCells kva) from (hkr1.rd (fun _ _ h => h)).below (hb0.mono hB))
  have HRB := Lib.hid (show Rd W0 B kA' (rowsV jvCells kvb) from (hkr2.rd (fun _ _ h => h)).below (hb0.mono hB))
  have HIA := Lib.hid (show ∀ i (h : i < ks.length) (h' : i < kva.length), JRep W0 (fun b => b < B) ks[i] kva[i] from fun i h h' => (hkids1 i h h').under (hb0.mono hB))
  have HIB := Lib.hid (show ∀ i (h : i < ks.length) (h' : i < kvb.length), JRep W0 (fun b => b < B) ks[i] kvb[i] from fun i h h' => (hkids2 i h h').under (hb0.mono hB))
  have HBB := Lib.hid (show B ≤ W0.heap.size from Nat.le_trans hB hb0.size)
  have HW0 := Lib.hid hW0
  have HVA := Lib.hid hkv1
  have HVB := Lib.hid hkv2
  have HSM := Lib.hid hsm
  have HIH := Lib.hid IH
  have HN := Lib.hid hn1
  have HK := Lib.hid hkn1
  have hnn : (nn' : Int) ≤ 4096 := by omega
  have hkk : (kn' : Int) ≤ 4096 := by omega
  have a0 : W0.cell? ⟨G, 0, none⟩ = some (.int .i64 k0) := HKA.out.cell 0
  have a1 : W0.cell? ⟨G, 1, none⟩ = some (.int .i64 n0) := HKA.out.cell 1
  have a2 : W0.cell? ⟨G, 2, none⟩ = some (.string (bs t0)) := HKA.out.cell 2
  have a3 : W0.cell? ⟨G, 3, none⟩ = some (.slice nA nn' nc) := HKA.out.cell 3
  have a4 : W0.cell? ⟨G, 4, none⟩ = some (.slice kA kn' kc) := HKA.out.cell 4
  have b0 : W0.cell? ⟨G + 1, 0, none⟩ = some (.int .i64 k0) := HKB.out.cell 0
  have b1 : W0.cell? ⟨G + 1, 1, none⟩ = some (.int .i64 n0) := HKB.out.cell 1
  have b2 : W0.cell? ⟨G + 1, 2, none⟩ = some (.string (bs t0)) := HKB.out.cell 2
  have b3 : W0.cell? ⟨G + 1, 3, none⟩ = some (.slice nA' nn' nc') := HKB.out.cell 3
  have b4 : W0.cell? ⟨G + 1, 4, none⟩ = some (.slice kA' kn' kc') := HKB.out.cell 4
  clear hW0 hb0 hnr1 hnr2 hkr1 hkr2 hkids1 hkids2 hB hsn hsk hsm hkv1 hkv2 IH hn1 hn2 hkn1 hkn2
  rw [hG] at *
  clear hG
  go_enter Try.func13, Try.ntmps13
  go_upto_region 1 with (fail)
  rw [← HW0.out]
  clear HW0
  generalize Value.agg (jvCells ⟨k0, n0, t0, nA, nn', nc, kA, kn', kc⟩) = AV
  generalize Value.agg (jvCells ⟨k0, n0, t0, nA', nn', nc', kA', kn', kc'⟩) = BV
  go_wp2_with fail
  clear a0 a1 a2 b0 b1 b2
  go_loopw [5] (fun x wr => ∃ i : Nat, i ≤ nn' ∧ x = .int .i64 (i : Int) ∧ Below W0.heap.size W0 wr) (fun x _ => nn' - (intOf x).toNat)
  case atStart => exact ⟨0, by omega, rfl, Below.refl _ _⟩
  case round =>
    obtain ⟨i, hi, rfl, hbel⟩ := hrel
    have HBE := Lib.hid hbel
    have a3 : wr.cell? ⟨w.heap.size, 3, none⟩ = some (.slice nA nn' nc) := (HKA.out.below hbel HKA.out.lt).cell 3
    have b3 : wr.cell? ⟨w.heap.size + 1, 3, none⟩ = some (.slice nA' nn' nc') := (HKB.out.below hbel HKB.out.lt).cell 3
    clear hbel a4 b4
    by_cases hlt : i < nn'
    · have hlt' : (i : Int) < (nn' : Int) := by omega
      have HLT := Lib.hid hlt
      have hil : i < ns.length := by rw [← HN.out]; exact hlt
      obtain ⟨ad, hA, hadb, hcell⟩ := rd_rows (f := sCell) (m := 1) (fun _ => rfl) (by decide) HNA.out hil
      obtain ⟨ad', hA', hadb', hcell'⟩ := rd_rows (f := sCell) (m := 1) (fun _ => rfl) (by decide) HNB.out hil
      subst hA hA'
      obtain ⟨X, hX⟩ : ∃ X, X = ns[i] := ⟨_, rfl⟩
      rw [← hX] at hcell hcell'
      have c1 : wr.cell? (ad.add i) = some (.string (bs X)) := by
        rw [(HBE.out.mono HBB.out).cell (p := ad.add i) (by rw [block_of_add]; exact hadb)]
        have h := hcell 0 _ rfl
        rw [Nat.mul_one] at h
        exact h
      have c2 : wr.cell? (ad'.add i) = some (.string (bs X)) := by
        rw [(HBE.out.mono HBB.out).cell (p := ad'.add i) (by rw [block_of_add]; exact hadb')]
        have h := hcell' 0 _ rfl
        rw [Nat.mul_one] at h
        exact h
      clear hX hcell hcell' hil hlt hadb hadb'
      go_wp2_with fail
      go_quiet (fail)
      go_wp2_with fail
      go_roundw
      case rel => exact ⟨i + 1, HLT.out, by go_num, below_drewN HBE.out _⟩
      case measure => have := HLT.out; simp [intOf]; omega
    · obtain rfl : i = nn' := by omega
      go_wp2_with fail
      clear a3 b3
      go_loopw [6] (fun x wr => ∃ q : Nat, q ≤ kn' ∧ x = .int .i64 (q : Int) ∧ Below W0.heap.size W0 wr) (fun x _ => kn' - (intOf x).toNat)
      case atStart => exact ⟨0, by omega, rfl, HBE.out⟩
      case round =>
        obtain ⟨q, hq, rfl, hbel⟩ := hrel
        have HBQ := Lib.hid hbel
        have a4 : wr.cell? ⟨w.heap.size, 4, none⟩ = some (.slice kA kn' kc) := (HKA.out.below hbel HKA.out.lt).cell 4
        clear hbel
        by_cases hlt : q < kn'
        · have hlt' : (q : Int) < (kn' : Int) := by omega
          have HLT := Lib.hid hlt
          have hil : q < ks.length := by rw [← HK.out]; exact hlt
          obtain ⟨ad, hA, hadb, hcell⟩ := rd_rows (f := jvCells) (m := 5) (fun _ => rfl) (by decide) HRA.out (show q < kva.length by rw [HVA.out]; exact hil)
          obtain ⟨ad', hA', hadb', hcell'⟩ := rd_rows (f := jvCells) (m := 5) (fun _ => rfl) (by decide) HRB.out (show q < kvb.length by rw [HVB.out]; exact hil)
          subst hA hA'
          obtain ⟨X, hX⟩ : ∃ X, X = kva[q]'(by rw [HVA.out]; exact hil) := ⟨_, rfl⟩
          obtain ⟨Y, hY⟩ : ∃ Y, Y = kvb[q]'(by rw [HVB.out]; exact hil) := ⟨_, rfl⟩
          rw [← hX] at hcell
          rw [← hY] at hcell'
          have HCA := Lib.hid (show ∀ u, Below W0.heap.size W0 u → ∀ j x, (jvCells X).toList[j]? = some x → u.cell? ((ad.add (q * 5)).add j) = some x from fun u hu j x hx => by
            rw [(hu.mono HBB.out).cell (p := (ad.add (q * 5)).add j) (by rw [block_of_add, block_of_add]; exact hadb)]
            exact hcell j x (by simpa using hx))
          have HCB := Lib.hid (show ∀ u, Below W0.heap.size W0 u → ∀ j x, (jvCells Y).toList[j]? = some x → u.cell? ((ad'.add (q * 5)).add j) = some x from fun u hu j x hx => by
            rw [(hu.mono HBB.out).cell (p := (ad'.add (q * 5)).add j) (by rw [block_of_add, block_of_add]; exact hadb')]
            exact hcell' j x (by simpa using hx))
          have CS := Lib.hid (show ∀ u, Below W0.heap.size W0 u → Calls Try.prog 13 #[.agg (jvCells X), .agg (jvCells Y)] u fun x w' => x = .returned (.bool true) ∧ Below u.heap.size u w' from fun u hu =>
            HIH.out ks[q] (List.getElem_mem hil) X Y B u ((smallsJ_iff _).1 HSM.out _ (List.getElem_mem hil)) (by rw [hX]; exact (HIA.out q hil (by rw [HVA.out]; exact hil)).under (hu.mono HBB.out)) (by rw [hY]; exact (HIB.out q hil (by rw [HVB.out]; exact hil)).under (hu.mono HBB.out)) (Nat.le_trans HBB.out hu.size))
          clear hX hY hcell hcell' hil hlt hadb hadb'
          go_wp2_with fail
          have HC0 : Below W0.heap.size W0 wr.drew := HBQ.out.drew
          clear a4
          refine wp_region_det (fun u => Below W0.heap.size W0 u) (fun u => Below W0.heap.size W0 u) [(0, some 70), (1, some 71), (2, some 72), (3, some 73), (4, some 74), (5, some 75), (6, some 76), (7, some 77), (8, some 78), (9, some 79), (10, some 80), (11, some 7)] (by kernel_rfl) (by kernel_rfl) (by decide) (by kernel_rfl) (fun _ => rfl) HC0 ?_
          apply DetL.next
          · -- 0: Op.fieldAddr 25 (Operand.tmp 2) 4
            apply detStep_plain []
            exact fun _ => rfl
            rfl
            rintro vals - w1 hC1 E hE
            simp only [puts, act_put, act_put_none, List.setIfInBounds_toArray, List.set_cons_zero, List.set_cons_succ] at hE ⊢
            go_wp2
            exact .mk (hE _ hC1)
          apply DetL.next
          · -- 1: Op.load 23 (Operand.tmp 70)
            apply detStep_plain [(0, some 70)]
            exact fun _ => rfl
            rfl
            rintro vals ⟨-, f0⟩ w1 hC1 E hE
            have d4 : w1.cell? ⟨w.heap.size, 4, none⟩ = some (.slice (some ad) kn' kc) := (HKA.out.below hC1 HKA.out.lt).cell 4
            simp only [puts, act_put, act_put_none, List.setIfInBounds_toArray, List.set_cons_zero, List.set_cons_succ, f0] at hE ⊢
            clear f0
            go_wp2
            exact .mk (hE _ hC1)
          apply DetL.next
          · -- 2: Op.move (Operand.tmp 6)
            apply detStep_plain []
            exact fun _ => rfl
            rfl
            rintro vals ⟨⟨-, -⟩, -⟩ w1 hC1 E hE
            simp only [puts, act_put, act_put_none, List.setIfInBounds_toArray, List.set_cons_zero, List.set_cons_succ] at hE ⊢
            go_wp2
            exact .mk (hE _ hC1)
          apply DetL.next
          · -- 3: Op.indexAddr 23 (Operand.tmp 71) (Operand.tmp 72)
            apply detStep_plain [(1, some 71), (2, some 72)]
            exact fun _ => rfl
            rfl
            rintro vals ⟨⟨⟨-, -⟩, f1⟩, f2⟩ w1 hC1 E hE
            simp only [puts, act_put, act_put_none, List.setIfInBounds_toArray, List.set_cons_zero, List.set_cons_succ, f1, f2] at hE ⊢
            clear f1 f2
            go_wp2
            exact .mk (hE _ hC1)
          apply DetL.next
          · -- 4: Op.load 25 (Operand.tmp 73)
            apply detStep_plain [(3, some 73)]
            exact fun _ => rfl
            rfl
            rintro vals ⟨⟨⟨⟨-, -⟩, -⟩, -⟩, f3⟩ w1 hC1 E hE
            simp only [puts, act_put, act_put_none, List.setIfInBounds_toArray, List.set_cons_zero, List.set_cons_succ, f3] at hE ⊢
            clear f3
            go_wp2_with (refine wpList_get_rd (r := (jvCells X).toList) (HCA.out _ hC1) rfl rfl rfl hu rfl jT_size3 ?_)
            exact .mk (hE _ hC1)
          apply DetL.next
          · -- 5: Op.fieldAddr 25 (Operand.tmp 3) 4
            apply detStep_plain []
            exact fun _ => rfl
            rfl
            rintro vals ⟨⟨⟨⟨⟨-, -⟩, -⟩, -⟩, -⟩, -⟩ w1 hC1 E hE
            simp only [puts, act_put, act_put_none, List.setIfInBounds_toArray, List.set_cons_zero, List.set_cons_succ] at hE ⊢
            go_wp2
            exact .mk (hE _ hC1)
          apply DetL.next
          · -- 6: Op.load 23 (Operand.tmp 75)
            apply detStep_plain [(5, some 75)]
            exact fun _ => rfl
            rfl
            rintro vals ⟨⟨⟨⟨⟨⟨-, -⟩, -⟩, -⟩, -⟩, -⟩, f5⟩ w1 hC1 E hE
            have d4 : w1.cell? ⟨w.heap.size + 1, 4, none⟩ = some (.slice (some ad') kn' kc') := (HKB.out.below hC1 HKB.out.lt).cell 4
            simp only [puts, act_put, act_put_none, List.setIfInBounds_toArray, List.set_cons_zero, List.set_cons_succ, f5] at hE ⊢
            clear f5
            go_wp2
            exact .mk (hE _ hC1)
          apply DetL.next
          · -- 7: Op.move (Operand.tmp 6)
            apply detStep_plain []
            exact fun _ => rfl
            rfl
            rintro vals ⟨⟨⟨⟨⟨⟨⟨-, -⟩, -⟩, -⟩, -⟩, -⟩, -⟩, -⟩ w1 hC1 E hE
            simp only [puts, act_put, act_put_none, List.setIfInBounds_toArray, List.set_cons_zero, List.set_cons_succ] at hE ⊢
            go_wp2
            exact .mk (hE _ hC1)
          apply DetL.next
          · -- 8: Op.indexAddr 23 (Operand.tmp 76) (Operand.tmp 77)
            apply detStep_plain [(6, some 76), (7, some 77)]
            exact fun _ => rfl
            rfl
            rintro vals ⟨⟨⟨⟨⟨⟨⟨⟨-, -⟩, -⟩, -⟩, -⟩, -⟩, -⟩, f6⟩, f7⟩ w1 hC1 E hE
            simp only [puts, act_put, act_put_none, List.setIfInBounds_toArray, List.set_cons_zero, List.set_cons_succ, f6, f7] at hE ⊢
            clear f6 f7
            go_wp2
            exact .mk (hE _ hC1)
          apply DetL.next
          · -- 9: Op.load 25 (Operand.tmp 78)
            apply detStep_plain [(8, some 78)]
            exact fun _ => rfl
            rfl
            rintro vals ⟨⟨⟨⟨⟨⟨⟨⟨⟨-, -⟩, -⟩, -⟩, -⟩, -⟩, -⟩, -⟩, -⟩, f8⟩ w1 hC1 E hE
            simp only [puts, act_put, act_put_none, List.setIfInBounds_toArray, List.set_cons_zero, List.set_cons_succ, f8] at hE ⊢
            clear f8
            go_wp2_with (refine wpList_get_rd (r := (jvCells Y).toList) (HCB.out _ hC1) rfl rfl rfl hu rfl jT_size3 ?_)
            exact .mk (hE _ hC1)
          apply DetL.next
          · -- 10: Op.call { callee := Callee.value (Operand.func 13), args := #[Operand.tmp 74, Operand.tmp 79], argTypes := #[2
            apply detStep_plain [(4, some 74), (9, some 79)]
            exact fun _ => rfl
            rfl
            rintro vals ⟨⟨⟨⟨⟨⟨⟨⟨⟨⟨-, -⟩, -⟩, -⟩, -⟩, f4⟩, -⟩, -⟩, -⟩, -⟩, f9⟩ w1 hC1 E hE
            have HC1 := Lib.hid hC1
            simp only [puts, act_put, act_put_none, List.setIfInBounds_toArray, List.set_cons_zero, List.set_cons_succ, f4, f9] at hE ⊢
            clear f4 f9
            go_wp2_with fail
            refine calls_then (CS.out _ HC1.out) ?_
            rintro e w5 ⟨rfl, hb⟩
            go_wp2_with fail
            exact .mk (hE _ (HC1.out.trans (hb.mono HC1.out.size)))
          apply DetL.last
          · -- 11: Op.assign (Operand.tmp 80)
            apply detStep_plain [(10, some 80), (10, some 80), (0, some 70), (1, some 71), (2, some 72), (3, some 73), (4, some 74), (5, some 75), (6, some 76), (7, some 77), (8, some 78), (9, some 79), (10, some 80)]
            exact fun _ => rfl
            rfl
            rintro vals ⟨⟨⟨⟨⟨⟨⟨⟨⟨⟨⟨-, f0⟩, f1⟩, f2⟩, f3⟩, f4⟩, f5⟩, f6⟩, f7⟩, f8⟩, f9⟩, f10⟩ w1 hC1 E hE
            simp only [puts, act_put, act_put_none, List.setIfInBounds_toArray, List.set_cons_zero, List.set_cons_succ, f0, f1, f2, f3, f4, f5, f6, f7, f8, f9, f10] at hE ⊢
            clear f0 f1 f2 f3 f4 f5 f6 f7 f8 f9 f10
            go_wp2
            exact .mk (hE _ hC1)
          rintro vals ⟨⟨⟨⟨⟨⟨⟨⟨⟨⟨⟨⟨-, f0⟩, f1⟩, f2⟩, f3⟩, f4⟩, f5⟩, f6⟩, f7⟩, f8⟩, f9⟩, f10⟩, f11⟩ w1 hC1
          simp only [puts, act_put, act_put_none, List.setIfInBounds_toArray, List.set_cons_zero, List.set_cons_succ, f0, f1, f2, f3, f4, f5, f6, f7, f8, f9, f10, f11]
          clear f0 f1 f2 f3 f4 f5 f6 f7 f8 f9 f10 f11
          have HC2 := Lib.hid hC1
          clear HC0 hC1
          go_wp2_with fail
          go_roundw
          case rel => exact ⟨q + 1, HLT.out, by go_num, HC2.out⟩
          case measure => have := HLT.out; simp [intOf]; omega
        · obtain rfl : q = kn' := by omega
          go_wp2_with fail
          go_ret
          exact ⟨rfl, HB0.out.trans (HBQ.out.mono HB0.out.size)⟩
end Go.Proofs.Ytcfbnjaelniahaa.Js
/-
  Plain: JSON's texts: blanks around.
-/
namespace Go.Proofs.Ytcfbnjaelniahaa.Js
set_option linter.unusedVariables false

-- blanks behind
def allBl (g : Bs) : Prop := ∀ c ∈ g, isBl c = true
/-- the one, and blanks behind it -/
def Ext (r r2 : Bs) : Prop := ∃ g, allBl g ∧ r2 = r ++ g
theorem skip_bl : ∀ {g : Bs}, allBl g → skip g = []
  | [], _ => rfl
  | c :: g, h => by
    have h1 := h c (List.mem_cons_self ..)
    simp only [skip, h1, if_true]
    exact skip_bl (fun x hx => h x (List.mem_cons_of_mem _ hx))
theorem skip_app : ∀ (r g : Bs), allBl g → skip (r ++ g) = skip r ++ (if skip r = [] then [] else g)
  | [], g, h => by simp [skip, skip_bl h]
  | c :: r, g, h => by
    by_cases hc : isBl c = true
    · simp only [List.cons_append, skip, hc, if_true, skip_app r g h]
    · simp [skip, hc]
theorem Ext.skip {r r2 : Bs} (h : Ext r r2) : Ext (skip r) (skip r2) := by
  obtain ⟨g, hg, rfl⟩ := h
  rw [skip_app r g hg]
  refine ⟨_, ?_, rfl⟩
  split
  · intro c hc; simp at hc
  · exact hg
theorem skip_pre {g : Bs} (r : Bs) (h : allBl g) : skip (g ++ r) = skip r := by
  induction g with
  | nil => rfl
  | cons c g ih =>
    have h1 := h c (List.mem_cons_self ..)
    simp only [List.cons_append, skip, h1, if_true]
    exact ih (fun x hx => h x (List.mem_cons_of_mem _ hx))
theorem bl_look {g : Bs} (h : allBl g) {c : UInt8} (hc : isBl c = false) (h0 : c ≠ 0) : look g ≠ c := by
  cases g with
  | nil => exact fun h => h0 h.symm
  | cons x g =>
    rintro rfl
    have := h x (List.mem_cons_self ..)
    simp [look] at hc
    rw [this] at hc
    cases hc
theorem Ext.look {r r2 : Bs} (h : Ext r r2) {c : UInt8} (hc : isBl c = false) (h0 : c ≠ 0) : (look r2 = c ↔ Js.look r = c) := by
  obtain ⟨g, hg, rfl⟩ := h
  cases r with
  | nil =>
    simp only [List.nil_append]
    exact ⟨fun h => absurd h (bl_look hg hc h0), fun h => absurd h.symm h0⟩
  | cons x r => simp [Js.look]
theorem Ext.tail {r r2 : Bs} {c : UInt8} (h : Ext r r2) (hr : Js.look r = c) (h0 : c ≠ 0) : Ext r.tail r2.tail := by
  obtain ⟨g, hg, rfl⟩ := h
  cases r with
  | nil => exact absurd hr.symm h0
  | cons x r => exact ⟨g, hg, rfl⟩
theorem Ext.sign {c : UInt8} {r r2 : Bs} (h : Ext r r2) (hc : isBl c = false) (h0 : c ≠ 0) : (signP c r2).1 = (signP c r).1 ∧ Ext (signP c r).2 (signP c r2).2 := by
  have hl := h.skip.look hc h0
  unfold signP
  by_cases h1 : Js.look (Js.skip r) = c
  · rw [if_pos h1, if_pos (hl.2 h1)]
    exact ⟨rfl, (h.skip.tail h1 h0).skip⟩
  · rw [if_neg h1, if_neg (fun h => h1 (hl.1 h))]
    exact ⟨rfl, h.skip⟩
/-- the same answer, and blanks behind the rest -/
def Same2 {α : Type} (x y : Except Int (α × Bs)) : Prop := match x with
  | .error e => y = .error e
  | .ok (a, r) => ∃ r2, y = .ok (a, r2) ∧ Ext r r2
def Same1 (x y : Except Int Bs) : Prop := match x with
  | .error e => y = .error e
  | .ok r => ∃ r2, y = .ok r2 ∧ Ext r r2
def SameO {α : Type} (x y : Option (α × Bs)) : Prop := match x with
  | none => y = none
  | some (a, r) => ∃ r2, y = some (a, r2) ∧ Ext r r2
theorem Ext.must {c : UInt8} {r r2 : Bs} (h : Ext r r2) (hc : isBl c = false) (h0 : c ≠ 0) : Same1 (mustP c r) (mustP c r2) := by
  have hl := h.skip.look hc h0
  unfold mustP
  by_cases h1 : Js.look (Js.skip r) = c
  · rw [if_pos h1, if_pos (hl.2 h1)]
    exact ⟨_, rfl, (h.skip.tail h1 h0).skip⟩
  · rw [if_neg h1, if_neg (fun h => h1 (hl.1 h))]
    rfl
theorem bl_cases {c : UInt8} (h : isBl c = true) : c = 32 ∨ c = 9 ∨ c = 10 ∨ c = 13 := by
  simpa [isBl, or_assoc] using h
theorem escP_bl {g : Bs} (h : allBl g) : escP g = none := by
  cases g with
  | nil => rfl
  | cons c g =>
    rcases bl_cases (h c (List.mem_cons_self ..)) with rfl | rfl | rfl | rfl <;> simp [escP, esc]
theorem hexP_bl {a0 a1 a2 a3 : UInt8} (h : isBl a0 = true ∨ isBl a1 = true ∨ isBl a2 = true ∨ isBl a3 = true) : hexP a0 a1 a2 a3 = none := by
  have hx : ∀ c, isBl c = true → hexv (low c) = none := fun c hc => by
    rcases bl_cases hc with rfl | rfl | rfl | rfl <;> decide
  unfold hexP
  split
  · rename_i h0
    obtain ⟨rfl, rfl⟩ := h0
    rcases h with h | h | h | h
    · exact absurd h (by decide)
    · exact absurd h (by decide)
    · rw [hx _ h]
    · rw [hx _ h]
      cases hexv (low a2) <;> rfl
  · rfl
theorem Ext.esc {r r2 : Bs} (h : Ext r r2) : SameO (escP r) (escP r2) := by
  obtain ⟨g, hg, rfl⟩ := h
  match r with
  | [] => exact escP_bl hg
  | d :: r =>
    simp only [List.cons_append, escP]
    cases he : Js.esc d with
    | some b => exact ⟨_, rfl, g, hg, rfl⟩
    | none =>
      simp only
      by_cases hd : d = 117
      · simp only [hd, if_true]
        have bl : ∀ {l : Bs}, allBl l → ∀ {x y : UInt8} {r' : Bs}, True := fun _ _ _ _ => trivial
        match r with
        | a0 :: a1 :: a2 :: a3 :: r' =>
          simp only [List.cons_append]
          cases hexP a0 a1 a2 a3 with
          | some b => exact ⟨_, rfl, g, hg, rfl⟩
          | none => rfl
        | [] =>
          show (match [] ++ g with | a0 :: a1 :: a2 :: a3 :: r2 => _ | _ => _) = none
          rw [List.nil_append]
          match g, hg with
          | a0 :: a1 :: a2 :: a3 :: r2, hg => simp only [hexP_bl (.inl (hg a0 (by simp)))]
          | [], _ | [_], _ | [_, _], _ | [_, _, _], _ => rfl
        | [x] =>
          match g, hg with
          | a1 :: a2 :: a3 :: r2, hg => simp only [List.cons_append, List.nil_append, hexP_bl (.inr (.inl (hg a1 (by simp))))]; rfl
          | [], _ | [_], _ | [_, _], _ => rfl
        | [x, y] =>
          match g, hg with
          | a2 :: a3 :: r2, hg => simp only [List.cons_append, List.nil_append, hexP_bl (.inr (.inr (.inl (hg a2 (by simp)))))]; rfl
          | [], _ | [_], _ => rfl
        | [x, y, z] =>
          match g, hg with
          | a3 :: r2, hg => simp only [List.cons_append, List.nil_append, hexP_bl (.inr (.inr (.inr (hg a3 (by simp)))))]; rfl
          | [], _ => rfl
      · simp only [hd, if_false]
        rfl
theorem strA_bl : ∀ (n : Nat) (acc g : Bs), allBl g → strA n acc g = none
  | 0, acc, g, _ => rfl
  | n + 1, acc, [], _ => rfl
  | n + 1, acc, c :: g, h => by
    have ih := strA_bl n (acc ++ [c]) g (fun x hx => h x (List.mem_cons_of_mem _ hx))
    rcases bl_cases (h c (List.mem_cons_self ..)) with rfl | rfl | rfl | rfl <;> simp [strA]
    exact ih
theorem strA_ext : ∀ (n n2 : Nat) (acc r r2 : Bs), r.length < n → r2.length < n2 → Ext r r2 → SameO (strA n acc r) (strA n2 acc r2)
  | 0, _, _, _, _, h, _, _ => by omega
  | _, 0, _, _, _, _, h, _ => by omega
  | n + 1, n2 + 1, acc, [], r2, _, _, h => by
    obtain ⟨g, hg, rfl⟩ := h
    rw [strA_bl _ _ _ hg]
    rfl
  | n + 1, n2 + 1, acc, c :: r, r2, h1, h2, h => by
    have h0 := h
    obtain ⟨g, hg, rfl⟩ := h
    have hr : Ext r (r ++ g) := ⟨g, hg, rfl⟩
    simp only [List.cons_append, List.length_cons] at h1 h2 ⊢
    simp only [strA]
    by_cases c1 : c < 32 ∨ 126 < c
    · simp only [c1, if_true]; rfl
    simp only [c1, if_false]
    by_cases c2 : c = 34
    · simp only [c2, if_true]; exact ⟨_, rfl, hr⟩
    simp only [c2, if_false]
    by_cases c3 : c = 92
    · simp only [c3, if_true]
      have he := hr.esc
      cases hx : escP r with
      | none => rw [hx] at he; rw [he]; rfl
      | some p =>
        obtain ⟨b, r'⟩ := p
        rw [hx] at he
        obtain ⟨r3, e1, e2⟩ := he
        rw [e1]
        have := escP_len hx
        have := escP_len e1
        exact strA_ext n n2 _ _ _ (by omega) (by omega) e2
    · simp only [c3, if_false]
      exact strA_ext n n2 _ _ _ (by omega) (by omega) hr
theorem Ext.text {r r2 : Bs} (h : Ext r r2) : SameO (textP r) (textP r2) := by
  have hl := h.look (c := 34) (by decide) (by decide)
  unfold textP
  by_cases h1 : Js.look r = 34
  · rw [if_pos h1, if_pos (hl.2 h1)]
    have l : ∀ {x : Bs}, Js.look x = 34 → x.tail.length < x.length := fun {x} hx => by
      cases x with
      | nil => exact absurd hx (by decide)
      | cons y x => simp
    exact strA_ext _ _ _ _ _ (l h1) (l (hl.2 h1)) (h.tail h1 (by decide))
  · rw [if_neg h1, if_neg (fun h => h1 (hl.1 h))]
    rfl
theorem takeD_ext : ∀ (n : Nat) (r g : Bs), allBl g → takeD n (r ++ g) = ((takeD n r).1, (takeD n r).2 ++ g)
  | 0, r, g, _ => by simp [takeD]
  | n + 1, [], g, h => by
    cases g with
    | nil => rfl
    | cons c g =>
      have hc := h c (List.mem_cons_self ..)
      have : isDig c = false := by rcases bl_cases hc with rfl | rfl | rfl | rfl <;> decide
      simp [takeD, this]
  | n + 1, c :: r, g, h => by
    simp only [List.cons_append, takeD, takeD_ext n r g h]
    split <;> rfl
theorem Ext.num {r r2 : Bs} (h : Ext r r2) : SameO (numP r) (numP r2) := by
  have hl := h.look (c := 45) (by decide) (by decide)
  have e1 : negP r2 = negP r := by
    unfold negP
    by_cases h1 : Js.look r = 45
    · rw [h1, hl.2 h1]
    · have h2 : Js.look r2 ≠ 45 := fun h => h1 (hl.1 h)
      rw [beq_eq_false_iff_ne.2 h1, beq_eq_false_iff_ne.2 h2]
  have e2 : (digP r2).1 = (digP r).1 ∧ Ext (digP r).2 (digP r2).2 := by
    unfold digP
    rw [e1]
    have key : ∀ {a b : Bs}, Ext a b → (takeD 17 b).1 = (takeD 17 a).1 ∧ Ext (takeD 17 a).2 (takeD 17 b).2 := fun {a b} hab => by
      obtain ⟨g, hg, rfl⟩ := hab
      rw [takeD_ext _ _ _ hg]
      exact ⟨rfl, g, hg, rfl⟩
    by_cases h1 : negP r = true
    · rw [if_pos h1, if_pos h1]
      exact key (h.tail (c := 45) (by simpa [negP] using h1) (by decide))
    · rw [if_neg h1, if_neg h1]
      exact key h
  unfold numP
  rw [e1, e2.1]
  split
  · rfl
  · exact ⟨_, rfl, e2.2⟩
theorem pre_ext : ∀ (w r g : Bs), (∀ c ∈ w, isBl c = false) → allBl g → w.isPrefixOf (r ++ g) = w.isPrefixOf r
  | [], r, g, _, _ => by simp [List.isPrefixOf]
  | c :: w, [], g, hw, hg => by
    cases g with
    | nil => rfl
    | cons x g =>
      have h1 := hw c (List.mem_cons_self ..)
      have h2 := hg x (List.mem_cons_self ..)
      have : c ≠ x := by rintro rfl; rw [h1] at h2; cases h2
      simp [List.isPrefixOf, this]
  | c :: w, x :: r, g, hw, hg => by
    simp only [List.cons_append, List.isPrefixOf, pre_ext w r g (fun x hx => hw x (List.mem_cons_of_mem _ hx)) hg]
theorem Ext.word {r r2 : Bs} (h : Ext r r2) (w : Bs) (v : JT) (hw : ∀ c ∈ w, isBl c = false) : Same2 (wordR w r v) (wordR w r2 v) := by
  obtain ⟨g, hg, rfl⟩ := h
  have e := pre_ext w r g hw hg
  unfold wordR wordP
  rw [e]
  by_cases hp : w.isPrefixOf r = true
  · rw [if_pos hp, if_pos hp]
    have := List.IsPrefix.length_le (List.isPrefixOf_iff_prefix.1 hp)
    exact ⟨_, rfl, g, hg, by rw [List.drop_append_of_le_length this]⟩
  · rw [if_neg hp, if_neg hp]
    rfl
theorem Ext.optR {α : Type} {x y : Option (α × Bs)} (f : α → JT) (h : SameO x y) : Same2 (optR x f) (optR y f) := by
  match x with
  | none => rw [show y = none from h]; rfl
  | some (a, r) =>
    obtain ⟨r2, rfl, h2⟩ := h
    exact ⟨_, rfl, h2⟩
theorem listL_ext (val : Bs → Except Int (JT × Bs)) (m : Bool) (hv : ∀ {r r2}, Ext r r2 → Same2 (val r) (val r2)) (hlen : ∀ {r v r'}, val r = .ok (v, r') → r'.length < r.length) :
    ∀ (n n2 : Nat) (ns : List Bs) (ks : List JT) (r r2 : Bs), r.length < n → r2.length < n2 → Ext r r2 →
      (match listL val m n ns ks r with
        | .error e => listL val m n2 ns ks r2 = .error e
        | .ok (a, b, r') => ∃ r3, listL val m n2 ns ks r2 = .ok (a, b, r3) ∧ Ext r' r3)
  | 0, _, _, _, _, _, h, _, _ => by omega
  | _, 0, _, _, _, _, _, h, _ => by omega
  | n + 1, n2 + 1, ns, ks, r, r2, h1, h2, h => by
    obtain ⟨s1, s2⟩ := h.sign (c := endC m) (endC_nb m).1 (by cases m <;> decide)
    have L1 := signP_len (endC m) r
    have L2 := signP_len (endC m) r2
    rw [listL, listL]
    cases hs : signP (endC m) r with
    | mk b r1 =>
    cases hs2 : signP (endC m) r2 with
    | mk b2 r12 =>
    rw [hs, hs2] at s1 s2
    rw [hs] at L1
    rw [hs2] at L2
    simp only at s1 s2 L1 L2
    subst s1
    cases b2 with
    | true => exact ⟨_, rfl, s2⟩
    | false =>
      have hc : Same1 (commaP ks.isEmpty r1) (commaP ks.isEmpty r12) := by
        unfold commaP
        split
        · exact ⟨_, rfl, s2⟩
        · exact s2.must (by decide) (by decide)
      simp only
      cases hc1 : commaP ks.isEmpty r1 with
      | error e => rw [hc1] at hc; rw [show commaP ks.isEmpty r12 = .error e from hc]
      | ok r3 =>
        rw [hc1] at hc
        obtain ⟨r32, hc2, hc3⟩ := hc
        have Lc : ∀ {a b : Bs}, commaP ks.isEmpty a = .ok b → b.length ≤ a.length := fun {a b} hab => by
          unfold commaP at hab
          split at hab
          · injection hab with hab; subst hab; exact Nat.le_refl _
          · exact mustP_len hab
        have L3 := Lc hc1
        have L4 := Lc hc2
        rw [hc2]
        simp only
        have hk : Same2 (keyP m ns r3) (keyP m ns r32) := by
          unfold keyP
          split
          · unfold nameP
            have ht := hc3.text
            cases ht1 : textP r3 with
            | none => rw [ht1] at ht; rw [show textP r32 = none from ht]; rfl
            | some p =>
              obtain ⟨s, r5⟩ := p
              rw [ht1] at ht
              obtain ⟨r52, ht2, ht3⟩ := ht
              rw [ht2]
              simp only
              split
              · rfl
              · have hm := ht3.must (c := 58) (by decide) (by decide)
                cases hm1 : mustP 58 r5 with
                | error e => rw [hm1] at hm; rw [show mustP 58 r52 = .error e from hm]; rfl
                | ok r6 =>
                  rw [hm1] at hm
                  obtain ⟨r62, hm2, hm3⟩ := hm
                  rw [hm2]
                  exact ⟨_, rfl, hm3⟩
          · exact ⟨_, rfl, hc3⟩
        have Lk : ∀ {a b : Bs} {x : List Bs}, keyP m ns a = .ok (x, b) → b.length ≤ a.length := fun {a b x} hab => by
          unfold keyP at hab
          split at hab
          · exact nameP_len hab
          · injection hab with hab; injection hab with h1 h2; subst h2; exact Nat.le_refl _
        cases hk1 : keyP m ns r3 with
        | error e => rw [hk1] at hk; rw [show keyP m ns r32 = .error e from hk]
        | ok p =>
          obtain ⟨ns', r4⟩ := p
          rw [hk1] at hk
          obtain ⟨r42, hk2, hk3⟩ := hk
          have L5 := Lk hk1
          have L6 := Lk hk2
          rw [hk2]
          simp only
          have hvv := hv hk3
          cases hv1 : val r4 with
          | error e => rw [hv1] at hvv; rw [show val r42 = .error e from hvv]
          | ok p =>
            obtain ⟨k, r7⟩ := p
            rw [hv1] at hvv
            obtain ⟨r72, hv2, hv3⟩ := hvv
            have L7 := hlen hv1
            have L8 := hlen hv2
            rw [hv2]
            simp only
            exact listL_ext val m hv hlen n n2 _ _ _ _ (by omega) (by omega) hv3
theorem listP_ext {val : Bs → Except Int (JT × Bs)} (hv : ∀ {r r2}, Ext r r2 → Same2 (val r) (val r2)) (hlen : ∀ {r v r'}, val r = .ok (v, r') → r'.length < r.length) {r r2 : Bs} (h : Ext r r2) (hr : Js.look r = 91 ∨ Js.look r = 123) : Same2 (listP val r) (listP val r2) := by
  have e1 : (Js.look r2 == 123) = (Js.look r == 123) := by
    have hl := h.look (c := 123) (by decide) (by decide)
    by_cases h1 : Js.look r = 123
    · rw [h1, hl.2 h1]
    · have h2 : Js.look r2 ≠ 123 := fun h => h1 (hl.1 h)
      rw [beq_eq_false_iff_ne.2 h1, beq_eq_false_iff_ne.2 h2]
  have ht : Ext r.tail r2.tail := by
    rcases hr with hr | hr
    · exact h.tail hr (by decide)
    · exact h.tail hr (by decide)
  have hne : r ≠ [] := by rintro rfl; rcases hr with h | h <;> exact absurd h (by decide)
  have hlen1 : (skip r.tail).length < r.length := by
    have := skip_len r.tail
    have := List.length_pos_iff.2 hne
    simp at *
    omega
  have hlen2 : (skip r2.tail).length < r2.length := by
    have := skip_len r2.tail
    obtain ⟨g, hg, rfl⟩ := h
    have := List.length_pos_iff.2 hne
    simp at *
    omega
  have key := listL_ext val (Js.look r == 123) hv hlen r.length r2.length [] [] _ _ hlen1 hlen2 ht.skip
  unfold listP
  rw [e1]
  cases hx : listL val (Js.look r == 123) r.length [] [] (skip r.tail) with
  | error e => rw [hx] at key; simp only at key; rw [key]; rfl
  | ok p =>
    obtain ⟨a, b, r'⟩ := p
    rw [hx] at key
    obtain ⟨r3, k1, k2⟩ := key
    rw [k1]
    exact ⟨_, rfl, k2⟩
theorem rawP_ext {lp : Bs → Except Int (JT × Bs)} (hl : ∀ {r r2}, Ext r r2 → (Js.look r = 91 ∨ Js.look r = 123) → Same2 (lp r) (lp r2)) {r r2 : Bs} (h : Ext r r2) : Same2 (rawP lp r) (rawP lp r2) := by
  have hx : ∀ c : UInt8, isBl c = false → c ≠ 0 → (Js.look r2 = c) = (Js.look r = c) := fun c h1 h2 => propext (h.look h1 h2)
  unfold rawP
  simp only [hx 110 (by decide) (by decide), hx 116 (by decide) (by decide), hx 102 (by decide) (by decide), hx 34 (by decide) (by decide), hx 91 (by decide) (by decide), hx 123 (by decide) (by decide)]
  split
  · exact h.word _ _ (by decide)
  split
  · exact h.word _ _ (by decide)
  split
  · exact h.word _ _ (by decide)
  split
  · exact Ext.optR _ h.text
  split
  · rename_i hq
    exact hl h hq
  · exact Ext.optR _ h.num
theorem skipR_ext {x y : Except Int (JT × Bs)} (h : Same2 x y) : Same2 (skipR x) (skipR y) := by
  match x with
  | .error e => rw [show y = .error e from h]; rfl
  | .ok (a, r) =>
    obtain ⟨r2, rfl, h2⟩ := h
    exact ⟨_, rfl, h2.skip⟩
theorem valueP_ext : ∀ (d : Nat) {r r2 : Bs}, Ext r r2 → Same2 (valueP d r) (valueP d r2)
  | 0, r, r2, h => skipR_ext (rawP_ext (lp := fun _ => .error 9) (fun _ _ => rfl) h.skip)
  | d + 1, r, r2, h => skipR_ext (rawP_ext (fun h hr => listP_ext (valueP_ext d) (valueP_len d) h hr) h.skip)
theorem valueP_pre (d : Nat) {g : Bs} (r : Bs) (h : allBl g) : valueP d (g ++ r) = valueP d r := by
  cases d <;> simp only [valueP, skip_pre r h]
theorem readP_gap {s g g2 : Bs} (hg : allBl g) (hg2 : allBl g2) (hl : (g ++ s ++ g2).length ≤ 2000) : readP (g ++ s ++ g2) = readP s := by
  have h1 : s.length ≤ 2000 := by simp at hl; omega
  have key := valueP_ext 6 (r := s) (r2 := s ++ g2) ⟨g2, hg2, rfl⟩
  rw [readP, readP, if_neg (by omega), if_neg (by omega), List.append_assoc, valueP_pre 6 _ hg]
  cases hx : valueP 6 s with
  | error e => rw [hx] at key; rw [show valueP 6 (s ++ g2) = .error e from key]
  | ok p =>
    obtain ⟨v, r⟩ := p
    rw [hx] at key
    obtain ⟨r2, k1, g3, hg3, rfl⟩ := key
    rw [k1]
    have hs : skip (r ++ g3) = r ++ g3 := by
      have : valueP 6 (s ++ g2) = skipR (rawP (listP (valueP 5)) (skip (s ++ g2))) := rfl
      rw [this] at k1
      obtain ⟨r0, _, e⟩ := skipR_ok k1
      rw [e, skip_skip]
    cases r with
    | nil =>
      rw [List.nil_append, skip_bl hg3] at hs
      rw [List.nil_append, ← hs]
    | cons c r => rfl
end Go.Proofs.Ytcfbnjaelniahaa.Js
/-
  Walk: the law JsonBlanks.
-/
namespace Go.Proofs.Ytcfbnjaelniahaa.Js
set_option linter.unusedSimpArgs false
set_option linter.unusedVariables false
open Go.RowKit

/-- so many blanks -/
def blkC (i : Nat) : UInt8 := if i % 4 = 0 then 32 else if i % 4 = 1 then 9 else if i % 4 = 2 then 10 else 13
def gapL : Nat → Bs
  | 0 => []
  | i + 1 => gapL i ++ [blkC i]
theorem gapL_bl : ∀ i, allBl (gapL i)
  | 0 => fun c h => by cases h
  | i + 1 => fun c h => by
    rcases List.mem_append.1 h with h | h
    · exact gapL_bl i c h
    · rw [List.mem_singleton] at h
      subst h
      unfold blkC
      split
      · decide
      split
      · decide
      split <;> decide
theorem gapL_len : ∀ i, (gapL i).length = i
  | 0 => rfl
  | i + 1 => by rw [gapL, List.length_append, gapL_len i]; rfl
theorem bs_app (a b : Bs) : bs a ++ bs b = bs (a ++ b) := by
  apply ByteArray.ext
  simp [bs]
theorem blk_slice (i : Nat) : (⟨#[32, 9, 10, 13]⟩ : ByteArray).extract (i % 4) (i % 4 + 1) = bs [blkC i] := by
  have h : i % 4 < 4 := Nat.mod_lt _ (by decide)
  have h4 : i % 4 = 0 ∨ i % 4 = 1 ∨ i % 4 = 2 ∨ i % 4 = 3 := by omega
  unfold blkC
  rcases h4 with h4 | h4 | h4 | h4 <;> rw [h4] <;> rfl
set_option maxRecDepth 100000 in
set_option maxHeartbeats 4000000 in
theorem jsonBlanks_any (s : ByteArray) (n : Int) (w : World) (hwf : (Lit.int .i64 n).wf = true) :
    Calls Try.prog 5 #[.string s, .int .i64 n] w fun x w' => x = .returned (.bool true) ∧ Below w.heap.size w w' := by
  have hu := Try.underlying25
  rw [Lit.wf, Bool.and_eq_true, decide_eq_true_iff, decide_eq_true_iff, show IntKind.i64.min = -9223372036854775808 by decide, show IntKind.i64.max = 9223372036854775807 by decide] at hwf
  obtain ⟨hn1, hn2⟩ := hwf
  obtain ⟨t, ht⟩ : ∃ t, t = if 300 < s.size then s.extract 0 300 else s := ⟨_, rfl⟩
  obtain ⟨N, hN⟩ : ∃ N : Nat, (N : Int) = if n < 0 then -(n + 1) else n := ⟨(if n < 0 then -(n + 1) else n).toNat, by split <;> omega⟩
  have HT := Lib.hid (show t.size ≤ 300 by
    rw [ht]
    split
    · rw [ByteArray.size_extract]; omega
    · omega)
  have HTE := Lib.hid ht
  have HNE := Lib.hid hN
  clear ht hN
  go_enter Try.func5, Try.ntmps5
  go_upto_if 15 with (fail)
  go_cut [0] (fun x wx => x = .string t ∧ wx = w)
  case first =>
    have hte := HTE.out
    by_cases hl : 300 < s.size
    · have hl' : (300 : Int) < (s.size : Int) := by omega
      rw [if_pos hl] at hte
      subst hte
      go_wp2_with fail
      go_meet
      exact ⟨rfl, rfl⟩
    · have hl' : ¬ (300 : Int) < (s.size : Int) := by omega
      rw [if_neg hl] at hte
      subst hte
      go_wp2_with fail
      go_meet
      exact ⟨rfl, rfl⟩
  case rest =>
  obtain ⟨rfl, rfl⟩ := hcut
  go_upto_if 19 with (fail)
  go_cut [1] (fun x wx => x = .int .i64 (N : Int) ∧ wx = wc)
  case first =>
    have hne := HNE.out
    by_cases hl : n < 0
    · rw [if_pos hl] at hne
      go_wp2_with fail
      go_meet
      exact ⟨by rw [hne], rfl⟩
    · rw [if_neg hl] at hne
      go_wp2_with fail
      go_meet
      exact ⟨by rw [hne], rfl⟩
  case rest =>
  obtain ⟨rfl, rfl⟩ := hcut
  obtain ⟨M, hM⟩ : ∃ M, M = N % 21 := ⟨_, rfl⟩
  have hm21 : (N : Int).tmod 21 = (M : Int) := by rw [Int.tmod_eq_emod_of_nonneg (by omega), hM]; omega
  have hm0 : (M : Int) ≤ 20 := by omega
  have HM0 := Lib.hid hm0
  have hN9 : (N : Int) ≤ 9223372036854775807 := by have := HNE.out; split at this <;> omega
  clear hM
  go_wp2_with fail
  go_loopw [5, 6] (fun g x wr => ∃ i : Nat, i ≤ M ∧ g = .string (bs (gapL i)) ∧ x = .int .i64 (i : Int) ∧ wr = wc) (fun _ x _ => M - (intOf x).toNat)
  case atStart => exact ⟨0, Nat.zero_le _, rfl, rfl, rfl⟩
  case round =>
    obtain ⟨i, hi, rfl, rfl, rfl⟩ := hrel
    by_cases hlt : i < M
    · have hlt' : (i : Int) < (M : Int) := by omega
      have HLT := Lib.hid hlt
      obtain ⟨k, hk⟩ : ∃ k, k = i % 4 := ⟨_, rfl⟩
      have hk4 : (i : Int).tmod 4 = (k : Int) := by rw [Int.tmod_eq_emod_of_nonneg (by omega), hk]; omega
      have hk0 : (k : Int) ≤ 3 := by omega
      have HK := Lib.hid (show (⟨#[32, 9, 10, 13]⟩ : ByteArray).extract k (k + 1) = bs [blkC i] by rw [hk]; exact blk_slice i)
      have HGL := Lib.hid (show bs (gapL i) ++ bs [blkC i] = bs (gapL (i + 1)) from bs_app _ _)
      have hsz : ¬ 9223372036854775807 < (bs (gapL i)).size + (min (k + 1) 4 - k) := by rw [bs_size, gapL_len]; omega
      clear hk hlt
      go_wp2_with fail
      go_roundw
      case rel => exact ⟨i + 1, HLT.out, by rw [HK.out, HGL.out], by go_num, by first | rfl | trivial⟩
      case measure => have := HLT.out; simp [intOf]; omega
    · obtain rfl : i = M := by omega
      have CR1 := Lib.hid (jread_rep t wr)
      obtain ⟨g, hg⟩ : ∃ g, g = bs (gapL i) := ⟨_, rfl⟩
      have HG := Lib.hid hg
      have hgs : (g.size : Int) ≤ 20 := by rw [hg, bs_size, gapL_len]; exact HM0.out
      have hts : (t.size : Int) ≤ 300 := by have := HT.out; omega
      have hs1 : ¬ 9223372036854775807 < g.size + t.size := by omega
      have hs2 : ¬ 9223372036854775807 < g.size + t.size + g.size := by omega
      obtain ⟨E, hE⟩ : ∃ E, E = readP t.data.toList := ⟨_, rfl⟩
      have HSM := Lib.hid (show smallJ (valJ E) = true by rw [hE]; exact valJ_small _)
      have CR2 := Lib.hid (fun (u : World) => show Calls Try.prog 12 #[.string (g ++ t ++ g)] u fun x w' => ∃ v : JV, x = .returned (.tuple #[.agg (jvCells v), .int .i64 (errE E)]) ∧ Below u.heap.size u w' ∧ JRep w' (fun b => b < w'.heap.size) (valJ E) v from by
        have e1 : (g ++ t ++ g).data.toList = gapL i ++ t.data.toList ++ gapL i := by rw [hg]; simp [bs]
        have e2 : readP (g ++ t ++ g).data.toList = E := by
          rw [e1, hE]
          refine readP_gap (gapL_bl i) (gapL_bl i) ?_
          have h5 : t.data.toList.length = t.size := rfl
          have := HT.out
          rw [List.length_append, List.length_append, gapL_len, h5]
          have := HM0.out
          omega
        have := jread_rep (g ++ t ++ g) u
        rw [e2] at this
        exact this)
      rw [← hE] at CR1
      rw [← hg]
      clear hg hE
      go_wp2_with fail
      refine calls_then CR1.out ?_
      rintro e w1 ⟨va, rfl, hb1, hj1⟩
      have HB1 := Lib.hid hb1
      have HJ1 := Lib.hid hj1
      have HB5 := Lib.hid (show Blk (w1.alloc (.cells #[.int .i64 0, .int .i64 0, .string ⟨#[]⟩, .slice none 0 0, .slice none 0 0] 25)) w1.heap.size 25 (jvCells zJV) from Blk.new _ _ _)
      clear hb1 hj1 CR1
      go_upto_region 12 with (refine wpList_put_box (x := .tmp 8) (cells := jvCells va) HB5.out rfl rfl rfl rfl jT_size3 rfl (jvCells_one _) ?_; intro w2 hb2 hw2)
      have hb5 := (Below.refl w1.heap.size w1).alloc (Nat.le_refl _) (.cells #[.int .i64 0, .int .i64 0, .string ⟨#[]⟩, .slice none 0 0, .slice none 0 0] 25)
      have hbl : Below w1.heap.size w1 w2 := hw2.below hb5 (Nat.le_refl _) (by simp)
      have HB2 := Lib.hid (HB1.out.trans (hbl.mono HB1.out.size))
      have HK2 := Lib.hid hb2
      have HJ2 := Lib.hid (show JRep w2 (fun b => b < w2.heap.size) (valJ E) va from (HJ1.out.under hbl).imp fun b hb _ => hb)
      clear hb5 hbl hb2 hw2 HB5
      have CR3 := Lib.hid (CR2.out w2)
      go_wp2_with fail
      refine calls_then CR3.out ?_
      rintro e w3 ⟨vb, rfl, hb3, hj3⟩
      have HB3 := Lib.hid (HB2.out.trans (hb3.mono HB2.out.size))
      have HK3 := Lib.hid (HK2.out.below hb3 HK2.out.lt)
      have HJ3 := Lib.hid (show JRep w3 (fun b => b < w3.heap.size) (valJ E) va from (HJ2.out.under hb3).imp fun b hb _ => hb)
      have HL3 := Lib.hid hj3
      have HB5 := Lib.hid (show Blk (w3.alloc (.cells #[.int .i64 0, .int .i64 0, .string ⟨#[]⟩, .slice none 0 0, .slice none 0 0] 25)) w3.heap.size 25 (jvCells zJV) from Blk.new _ _ _)
      clear hb3 hj3 CR3 CR2
      go_upto_region 13 with (refine wpList_put_box (x := .tmp 10) (cells := jvCells vb) HB5.out rfl rfl rfl rfl jT_size3 rfl (jvCells_one _) ?_; intro w4 hb4 hw4)
      have hb5 := (Below.refl w3.heap.size w3).alloc (Nat.le_refl _) (.cells #[.int .i64 0, .int .i64 0, .string ⟨#[]⟩, .slice none 0 0, .slice none 0 0] 25)
      have hbl : Below w3.heap.size w3 w4 := hw4.below hb5 (Nat.le_refl _) (by simp)
      have HB4 := Lib.hid (HB3.out.trans (hbl.mono HB3.out.size))
      have HK4 := Lib.hid (HK3.out.below hbl HK3.out.lt)
      have HM4 := Lib.hid hb4
      have HJ4 := Lib.hid (show JRep w4 (fun b => b < w4.heap.size) (valJ E) va from (HJ3.out.under hbl).imp fun b hb _ => hb)
      have HL4 := Lib.hid (show JRep w4 (fun b => b < w4.heap.size) (valJ E) vb from (HL3.out.under hbl).imp fun b hb _ => hb)
      clear hb5 hbl hb4 hw4 HB5
      have CS := Lib.hid (same_any (valJ E) va vb w4.heap.size w4 HSM.out HJ4.out HL4.out (Nat.le_refl _))
      go_wp2_with (first
        | refine wpList_get_box (x := .tmp 8) HK4.out rfl rfl rfl hu rfl jT_size3 ?_
        | refine wpList_get_box (x := .tmp 10) HM4.out rfl rfl rfl hu rfl jT_size3 ?_)
      refine calls_then CS.out ?_
      rintro e w5 ⟨rfl, hb5⟩
      have HB5 := Lib.hid (HB4.out.trans (hb5.mono HB4.out.size))
      have CL := Lib.hid (lives_any w5)
      clear hb5 CS
      generalize errE E = ee
      go_wp2_with fail
      refine calls_then CL.out ?_
      rintro e w6 ⟨rfl, hb6⟩
      have HB6 := Lib.hid (HB5.out.trans (hb6.mono HB5.out.size))
      clear hb6
      go_wp2_with fail
      go_ret
      exact ⟨rfl, HB6.out⟩
end Go.Proofs.Ytcfbnjaelniahaa.Js
/-
  Walks: the reference's letters, Quote, Digits.
-/
namespace Go.Proofs.Ytcfbnjaelniahaa.Js
set_option linter.unusedSimpArgs false
set_option linter.unusedVariables false
open Go.RowKit

theorem okT_take {s : Bs} {i : Nat} (h : i < s.length) : okT (s.take (i + 1)) = (okT (s.take i) && decide (s[i] ≤ 126)) := by
  unfold okT
  rw [List.take_succ_eq_append_getElem h, List.all_append]
  simp
theorem okT_bad {s : Bs} {i : Nat} (h : i < s.length) (hb : ¬ s[i] ≤ 126) : okT s = false := by
  cases hq : okT s with
  | false => rfl
  | true =>
    unfold okT at hq
    rw [List.all_eq_true] at hq
    have := hq _ (List.getElem_mem h)
    simp at this
    exact absurd this hb
set_option maxHeartbeats 2000000 in
theorem letters_any (s : ByteArray) (hs : (s.size : Int) ≤ 100000000) (w : World) :
    Calls Try.prog 18 #[.string s] w fun x w' => x = .returned (.bool (okT s.data.toList)) ∧ w' = w := by
  have h5 : s.data.toList.length = s.size := rfl
  have HS := Lib.hid hs
  go_enter Try.func18, Try.ntmps18
  go_wp2_with fail
  go_loopw [3] (fun x wr => ∃ i : Nat, i ≤ s.size ∧ x = .int .i64 (i : Int) ∧ okT (s.data.toList.take i) = true ∧ wr = w) (fun x _ => s.size - (intOf x).toNat)
  case atStart => exact ⟨0, Nat.zero_le _, rfl, by simp [okT], rfl⟩
  case round =>
    obtain ⟨i, hi, rfl, hok, rfl⟩ := hrel
    have HOK := Lib.hid hok
    clear hok
    by_cases hlt : i < s.size
    · have hlt' : (i : Int) < (s.size : Int) := by omega
      have HLT := Lib.hid hlt
      have HAT := Lib.hid (show s.data.toList[i]'(by rw [h5]; exact hlt) = s[i] from rfl)
      by_cases hb : s[i] ≤ 126
      · have hz : ¬ (126 : Int) < ((s[i].toNat : Nat) : Int) := by
          have : s[i].toNat ≤ 126 := by simpa [UInt8.le_iff_toNat_le] using hb
          omega
        have HT := Lib.hid (show okT (s.data.toList.take (i + 1)) = true by rw [okT_take (by rw [h5]; exact hlt), HOK.out, HAT.out]; simpa using hb)
        clear HAT h5
        go_wp2_with fail
        go_roundw
        case rel => exact ⟨i + 1, HLT.out, by go_num, HT.out, by first | rfl | trivial⟩
        case measure => have := HLT.out; simp [intOf]; omega
      · have hz : (126 : Int) < ((s[i].toNat : Nat) : Int) := by
          have : ¬ s[i].toNat ≤ 126 := by simpa [UInt8.le_iff_toNat_le] using hb
          omega
        have HF := Lib.hid (okT_bad (s := s.data.toList) (i := i) (by rw [h5]; exact hlt) (by rw [HAT.out]; exact hb))
        clear HAT h5
        go_wp2_with fail
        go_ret
        exact ⟨by rw [HF.out]; rfl, rfl⟩
    · have HF := Lib.hid (show okT s.data.toList = true by
        have := HOK.out
        rw [List.take_of_length_le (by rw [h5]; omega)] at this
        exact this)
      clear h5
      have hlt' : ¬ (i : Int) < (s.size : Int) := by omega
      go_wp2_with fail
      go_ret
      exact ⟨by rw [HF.out]; rfl, rfl⟩
/-- a digit of sixteen, as a slice -/
theorem hex_slice {k : Nat} (h : k < 16) : (⟨#[48, 49, 50, 51, 52, 53, 54, 55, 56, 57, 97, 98, 99, 100, 101, 102]⟩ : ByteArray).extract k (k + 1) = bs [hexd k] := by
  have key : ∀ q : Fin 16, (⟨#[48, 49, 50, 51, 52, 53, 54, 55, 56, 57, 97, 98, 99, 100, 101, 102]⟩ : ByteArray).extract q.1 (q.1 + 1) = bs [hexd q.1] := by decide +kernel
  exact key ⟨k, h⟩
theorem quote_big (l : Bs) : (l.flatMap quoteC).length ≤ 6 * l.length := by
  induction l with
  | nil => simp
  | cons c r ih =>
    have : (quoteC c).length ≤ 6 := by
      unfold quoteC
      split
      · simp
      split <;> simp
    rw [List.flatMap_cons, List.length_append, List.length_cons]
    omega
theorem one_slice (s : ByteArray) (i : Nat) (h : i < s.size) : s.extract i (i + 1) = bs [s[i]] := by
  have h5 : i < s.data.toList.length := h
  have e : (s.extract i (i + 1)).data.toList = [s[i]] := by
    rw [Lib.extract_data, List.drop_eq_getElem_cons h5]
    simp
    rfl
  rw [← bs_self (s.extract i (i + 1)), e]
set_option maxRecDepth 100000 in
set_option maxHeartbeats 4000000 in
theorem rquote_any (s : ByteArray) (hs : (s.size : Int) ≤ 100000000) (w : World) :
    Calls Try.prog 20 #[.string s] w fun x w' => x = .returned (.string (bs (quote s.data.toList))) ∧ Below w.heap.size w w' := by
  have h5 : s.data.toList.length = s.size := rfl
  have HS := Lib.hid hs
  go_enter Try.func20, Try.ntmps20
  go_wp2_with fail
  go_loopw [4, 5] (fun o x wr => ∃ i : Nat, i ≤ s.size ∧ o = .string (bs (34 :: (s.data.toList.take i).flatMap quoteC)) ∧ x = .int .i64 (i : Int) ∧ Below w.heap.size w wr) (fun _ x _ => s.size - (intOf x).toNat)
  case atStart => exact ⟨0, Nat.zero_le _, rfl, rfl, Below.refl _ _⟩
  case round =>
    obtain ⟨i, hi, rfl, rfl, hbel⟩ := hrel
    have HBE := Lib.hid hbel
    clear hbel
    by_cases hlt : i < s.size
    · have hlt' : (i : Int) < (s.size : Int) := by omega
      have HLT := Lib.hid hlt
      obtain ⟨o, ho⟩ : ∃ o, o = bs (34 :: (s.data.toList.take i).flatMap quoteC) := ⟨_, rfl⟩
      have HO := Lib.hid (show o ++ bs (quoteC s[i]) = bs (34 :: (s.data.toList.take (i + 1)).flatMap quoteC) by
        rw [ho, bs_app, List.take_succ_eq_append_getElem (by rw [h5]; exact hlt), List.flatMap_append]
        simp
        try rfl)
      have hos : (o.size : Int) ≤ 700000000 := by
        have h2 := quote_big (s.data.toList.take i)
        rw [ho, bs_size, List.length_cons]
        rw [List.length_take] at h2
        omega
      rw [← ho]
      have H1 := Lib.hid (show s.extract i (i + 1) = bs [s[i]] from one_slice s i hlt)
      have hzz : s[i].toNat < 256 := s[i].toNat_lt
      have HQ := Lib.hid (show quoteC s[i] = if s[i].toNat < 32 then [92, 117, 48, 48, hexd (s[i].toNat / 16), hexd (s[i].toNat % 16)] else if s[i].toNat = 34 ∨ s[i].toNat = 92 then [92, s[i]] else [s[i]] by
        unfold quoteC
        have e1 : (s[i] < 32) = (s[i].toNat < 32) := by rw [UInt8.lt_iff_toNat_lt]; rfl
        have e2 : (s[i] = 34) = (s[i].toNat = 34) := propext ⟨fun h => by rw [h]; rfl, fun h => UInt8.toNat.inj h⟩
        have e3 : (s[i] = 92) = (s[i].toNat = 92) := propext ⟨fun h => by rw [h]; rfl, fun h => UInt8.toNat.inj h⟩
        simp only [e1, e2, e3])
      clear h5 ho
      by_cases h32 : s[i].toNat < 32
      · have h32' : ((s[i].toNat : Nat) : Int) < 32 := by omega
        have HQ2 := Lib.hid (show o ++ ⟨#[92, 117, 48, 48]⟩ ++ (⟨#[48, 49, 50, 51, 52, 53, 54, 55, 56, 57, 97, 98, 99, 100, 101, 102]⟩ : ByteArray).extract (s[i].toNat / 16) (s[i].toNat / 16 + 1) ++ (⟨#[48, 49, 50, 51, 52, 53, 54, 55, 56, 57, 97, 98, 99, 100, 101, 102]⟩ : ByteArray).extract (s[i].toNat % 16) (s[i].toNat % 16 + 1) = bs (34 :: (s.data.toList.take (i + 1)).flatMap quoteC) by
          rw [← HO.out, HQ.out, if_pos h32, hex_slice (by omega), hex_slice (by omega), show (⟨#[92, 117, 48, 48]⟩ : ByteArray) = bs [92, 117, 48, 48] from rfl, ByteArray.append_assoc, ByteArray.append_assoc, bs_app, bs_app]
          rfl)
        go_wp2_with fail
        go_quiet (fail)
        go_wp2_with fail
        go_roundw
        case rel => exact ⟨i + 1, HLT.out, congrArg Value.string HQ2.out, by go_num, below_drewN HBE.out _⟩
        case measure => have := HLT.out; simp [intOf]; omega
      · have h32' : ¬ ((s[i].toNat : Nat) : Int) < 32 := by omega
        by_cases hqq : s[i].toNat = 34 ∨ s[i].toNat = 92
        · have HQ2 := Lib.hid (show o ++ ⟨#[92]⟩ ++ s.extract i (i + 1) = bs (34 :: (s.data.toList.take (i + 1)).flatMap quoteC) by
            rw [← HO.out, HQ.out, if_neg h32, if_pos hqq, H1.out, show (⟨#[92]⟩ : ByteArray) = bs [92] from rfl, ByteArray.append_assoc, bs_app]
            rfl)
          have hor : ((s[i].toNat : Nat) : Int) = 34 ∨ (¬ ((s[i].toNat : Nat) : Int) = 34 ∧ ((s[i].toNat : Nat) : Int) = 92) := by omega
          rcases hor with h1 | ⟨h1, h2⟩
          · have h1' : (((s[i].toNat : Nat) : Int) == 34) = true := by simpa using h1
            clear hqq
            go_wp2_with fail
            go_roundw
            case rel => exact ⟨i + 1, HLT.out, congrArg Value.string HQ2.out, by go_num, HBE.out⟩
            case measure => have := HLT.out; simp [intOf]; omega
          · have h1' : (((s[i].toNat : Nat) : Int) == 34) = false := by simpa using h1
            have h2' : (((s[i].toNat : Nat) : Int) == 92) = true := by simpa using h2
            clear hqq
            go_wp2_with fail
            all_goals (rename_i hx; first | (exfalso; simp only [beq_iff_eq, beq_eq_false_iff_ne, ne_eq] at hx; omega) | skip)
            go_roundw
            case rel => exact ⟨i + 1, HLT.out, congrArg Value.string HQ2.out, by go_num, HBE.out⟩
            case measure => have := HLT.out; simp [intOf]; omega
        · have HQ2 := Lib.hid (show o ++ s.extract i (i + 1) = bs (34 :: (s.data.toList.take (i + 1)).flatMap quoteC) by
            rw [← HO.out, HQ.out, if_neg h32, if_neg hqq, H1.out])
          have h1 : ¬ ((s[i].toNat : Nat) : Int) = 34 := by omega
          have h2 : ¬ ((s[i].toNat : Nat) : Int) = 92 := by omega
          have h1' : (((s[i].toNat : Nat) : Int) == 34) = false := by simpa using h1
          have h2' : (((s[i].toNat : Nat) : Int) == 92) = false := by simpa using h2
          clear hqq
          go_wp2_with fail
          all_goals (rename_i hx; first | (exfalso; simp only [beq_iff_eq, beq_eq_false_iff_ne, ne_eq] at hx; omega) | skip)
          go_roundw
          case rel => exact ⟨i + 1, HLT.out, congrArg Value.string HQ2.out, by go_num, HBE.out⟩
          case measure => have := HLT.out; simp [intOf]; omega
    · have HF := Lib.hid (show bs (34 :: (s.data.toList.take i).flatMap quoteC) ++ ⟨#[34]⟩ = bs (quote s.data.toList) by
        rw [List.take_of_length_le (by rw [h5]; omega), show (⟨#[34]⟩ : ByteArray) = bs [34] from rfl, bs_app]
        rfl)
      have hos : ((bs (34 :: (s.data.toList.take i).flatMap quoteC)).size : Int) ≤ 700000000 := by
        have h2 := quote_big (s.data.toList.take i)
        rw [bs_size, List.length_cons]
        rw [List.length_take] at h2
        omega
      clear h5
      have hlt' : ¬ (i : Int) < (s.size : Int) := by omega
      obtain ⟨o, ho⟩ : ∃ o, o = bs (34 :: (s.data.toList.take i).flatMap quoteC) := ⟨_, rfl⟩
      rw [← ho] at HF hos ⊢
      clear ho
      go_wp2_with fail
      go_ret
      exact ⟨congrArg (fun q => Ending.returned (Value.string q)) HF.out, HBE.out⟩
end Go.Proofs.Ytcfbnjaelniahaa.Js
/-
  Walk: the reference's Digits.
-/
namespace Go.Proofs.Ytcfbnjaelniahaa.Js
set_option linter.unusedSimpArgs false
set_option linter.unusedVariables false
open Go.RowKit

theorem dg_val {r : Nat} (h : r ≤ 9) : (((dg r).toNat : Nat) : Int) = 48 + (r : Int) := by
  have key : ∀ q : Fin 10, (dg q.1).toNat = 48 + q.1 := by decide
  have := key ⟨r, by omega⟩
  have h2 : (dg r).toNat = 48 + r := this
  omega
theorem digB_more {f m : Nat} (h : ¬ m < 10) : digB (f + 1) m = digB f (m / 10) ++ [dg (m % 10)] := by rw [digB, if_neg h]
theorem digB_last {f m : Nat} (h : m < 10) : digB (f + 1) m = [dg m] := by rw [digB, if_pos h]
set_option maxRecDepth 100000 in
set_option maxHeartbeats 4000000 in
theorem rdigits_nat (N : Nat) (hN : (N : Int) ≤ 1000000000000000) (w : World) :
    Calls Try.prog 19 #[.int .i64 (N : Int)] w fun x w' => x = .returned (.string (bs (digB 16 N))) ∧ Below w.heap.size w w' := by
  have HN := Lib.hid hN
  have h0 : ¬ (N : Int) < 0 := by omega
  go_enter Try.func19, Try.ntmps19
  go_wp2_with fail
  go_loopw [0, 3] (fun x s wr => ∃ (m f : Nat) (tl : Bs), x = .int .i64 (m : Int) ∧ s = .string (bs tl) ∧ digB (f + 1) m ++ tl = digB 16 N ∧ m < 10 ^ (f + 1) ∧ m ≤ N ∧ tl.length + f = 15 ∧ Below w.heap.size w wr) (fun x _ _ => (intOf x).toNat)
  case atStart => exact ⟨N, 15, [], rfl, rfl, by simp, by omega, Nat.le_refl _, rfl, Below.refl _ _⟩
  case round =>
    obtain ⟨m, f, tl, rfl, rfl, hd, hm, hmN, hl, hbel⟩ := hrel
    have HD := Lib.hid hd
    have HM := Lib.hid hm
    have HB := Lib.hid hbel
    have HMN := Lib.hid hmN
    have HL := Lib.hid hl
    have hm9 : (m : Int) ≤ 1000000000000000 := by omega
    clear hd hm hbel hmN hl h0
    by_cases hlt : 9 < m
    · have hlt' : (9 : Int) < (m : Int) := by omega
      have HLT := Lib.hid hlt
      obtain ⟨r, hr⟩ : ∃ r, r = m % 10 := ⟨_, rfl⟩
      obtain ⟨q, hq⟩ : ∃ q, q = m / 10 := ⟨_, rfl⟩
      have e1 : (m : Int).tmod 10 = (r : Int) := by rw [Int.tmod_eq_emod_of_nonneg (by omega), hr]; omega
      have e2 : (m : Int).tdiv 10 = (q : Int) := by rw [Int.tdiv_eq_ediv_of_nonneg (by omega), hq]; omega
      have hr9 : (r : Int) ≤ 9 := by omega
      have hq9 : (q : Int) ≤ 1000000000000000 := by omega
      have hrw : Rd (wr.alloc (.cells #[.int .u8 (48 + (r : Int))] 5)) (wr.heap.size + 1) (some ⟨wr.heap.size, 0, none⟩) (bytesV [dg r]) := by
        rw [show bytesV [dg r] = [Value.int .u8 (48 + (r : Int))] by simp [bytesV]; exact congrArg (Value.int IntKind.u8) (dg_val (r := r) (by omega))]
        exact Rd.of_blk (l := [.int .u8 (48 + (r : Int))]) (Blk.new _ _ _) (by omega)
      have hconv : (convert 42 9 (.slice (some ⟨wr.heap.size, 0, none⟩) 1 1)).run Try.prog (wr.alloc (.cells #[.int .u8 (48 + (r : Int))] 5)) = .ok (.string (bs [dg r])) (wr.alloc (.cells #[.int .u8 (48 + (r : Int))] 5)) := run_str_of (P := Try.prog) Try.underlying42 Try.underlying5 Try.underlying9 hrw 1
      have HRQ := Lib.hid (show r = m % 10 ∧ q = m / 10 from ⟨hr, hq⟩)
      have hts : ¬ 9223372036854775807 < (bs [dg r]).size + (bs tl).size := by rw [bs_size, bs_size]; have := HL.out; simp; omega
      clear hr hq hrw hlt
      go_wp2_with fail
      go_roundw
      case rel =>
        have h1 := HLT.out
        have h2 := HM.out
        have h3 := HL.out
        have h4 := HRQ.out
        have h5 := HMN.out
        cases f with
        | zero => exact absurd h2 (by omega)
        | succ f =>
          have h6 : 10 ^ (f + 1 + 1) = 10 ^ (f + 1) * 10 := Nat.pow_succ 10 (f + 1)
          refine ⟨q, f, dg r :: tl, rfl, congrArg Value.string (bs_app [dg r] tl), ?_, by omega, by omega, by simp; omega, HB.out.alloc HB.out.size _⟩
          have h7 := HD.out
          rw [digB_more (by omega)] at h7
          rw [← h7, h4.1, h4.2]
          simp
      case measure => have := HLT.out; have := HRQ.out; simp [intOf]; omega
    · have hlt' : ¬ (9 : Int) < (m : Int) := by omega
      have hmm : (m : Int) ≤ 9 := by omega
      have hrw : Rd (wr.alloc (.cells #[.int .u8 (48 + (m : Int))] 5)) (wr.heap.size + 1) (some ⟨wr.heap.size, 0, none⟩) (bytesV [dg m]) := by
        rw [show bytesV [dg m] = [Value.int .u8 (48 + (m : Int))] by simp [bytesV]; exact congrArg (Value.int IntKind.u8) (dg_val (r := m) (by omega))]
        exact Rd.of_blk (l := [.int .u8 (48 + (m : Int))]) (Blk.new _ _ _) (by omega)
      have hconv : (convert 42 9 (.slice (some ⟨wr.heap.size, 0, none⟩) 1 1)).run Try.prog (wr.alloc (.cells #[.int .u8 (48 + (m : Int))] 5)) = .ok (.string (bs [dg m])) (wr.alloc (.cells #[.int .u8 (48 + (m : Int))] 5)) := run_str_of (P := Try.prog) Try.underlying42 Try.underlying5 Try.underlying9 hrw 1
      have hts : ¬ 9223372036854775807 < (bs [dg m]).size + (bs tl).size := by rw [bs_size, bs_size]; have := HL.out; simp; omega
      have HLT := Lib.hid (show m < 10 by omega)
      clear hrw hlt
      go_wp2_with fail
      go_ret
      refine ⟨?_, HB.out.alloc HB.out.size _⟩
      have h7 := HD.out
      rw [digB_last HLT.out] at h7
      rw [← h7]
      exact congrArg (fun q => Ending.returned (Value.string q)) (bs_app [dg m] tl)
set_option maxRecDepth 100000 in
set_option maxHeartbeats 4000000 in
theorem rdigits_any (n : Int) (h1 : -1000000000000000 ≤ n) (h2 : n ≤ 1000000000000000) (w : World) :
    Calls Try.prog 19 #[.int .i64 n] w fun x w' => x = .returned (.string (bs (intB n))) ∧ Below w.heap.size w w' := by
  by_cases hn : n < 0
  · obtain ⟨N, hN⟩ : ∃ N : Nat, N = n.natAbs := ⟨_, rfl⟩
    have e1 : -n = (N : Int) := by omega
    have HE := Lib.hid (show bs [45] ++ bs (digB 16 N) = bs (intB n) by rw [bs_app, intB, if_pos hn, hN]; rfl)
    have CD := Lib.hid (rdigits_nat N (by omega) w)
    have hsz : ¬ 9223372036854775807 < 1 + (bs (digB 16 N)).size := by
      have : ∀ f n : Nat, (digB f n).length ≤ f := by
        intro f
        induction f with
        | zero => intro n; simp [digB]
        | succ f ih =>
          intro n
          have := ih (n / 10)
          unfold digB
          split <;> simp; omega
      have := this 16 N
      rw [bs_size]
      omega
    clear hN
    go_enter Try.func19, Try.ntmps19
    go_wp2_with fail
    refine calls_then CD.out ?_
    rintro e w1 ⟨rfl, hb⟩
    have HB := Lib.hid hb
    clear hb
    go_wp2_with fail
    go_ret
    exact ⟨congrArg (fun q => Ending.returned (Value.string q)) HE.out, HB.out⟩
  · obtain ⟨N, rfl⟩ : ∃ N : Nat, n = (N : Int) := ⟨n.toNat, by omega⟩
    have e : intB (N : Int) = digB 16 N := by rw [intB, if_neg hn]; rfl
    rw [e]
    exact rdigits_nat N h2 w
end Go.Proofs.Ytcfbnjaelniahaa.Js
/-
  Plain: the memory of the reference's Cut.
-/
namespace Go.Proofs.Ytcfbnjaelniahaa.Js
set_option linter.unusedSimpArgs false
set_option linter.unusedVariables false
open Go.RowKit

/-- a tree, cut -/
def cutJ : Nat → JT → JT
  | 0, .mk k n t ns ks => .mk k n (t.take 50) ((ns.take 5).map (·.take 50)) []
  | d + 1, .mk k n t ns ks => .mk k n (t.take 50) ((ns.take 5).map (·.take 50)) ((ks.take 5).map (cutJ d))
theorem cutJ_small : ∀ (d : Nat) (j : JT), smallJ (cutJ d j) = true
  | 0, .mk k n t ns ks => by
    simp only [cutJ, smallJ, smallsJ, List.length_map, List.length_take, List.length_nil, Bool.and_eq_true, decide_eq_true_eq]
    exact ⟨⟨by omega, by omega⟩, trivial⟩
  | d + 1, .mk k n t ns ks => by
    have h : smallsJ ((ks.take 5).map (cutJ d)) = true := (smallsJ_iff _).2 fun x hx => by
      obtain ⟨y, _, rfl⟩ := List.mem_map.1 hx
      exact cutJ_small d y
    simp only [cutJ, smallJ, h, List.length_map, List.length_take, Bool.and_eq_true, decide_eq_true_eq]
    exact ⟨⟨by omega, by omega⟩, trivial⟩
/-- the memory of Cut -/
structure Cs (w0 : World) (G : Nat) (V T : JV) (A1 : Option Addr) (c1 : Nat) (ns : List Bs) (A2 : Option Addr) (c2 : Nat) (ks : List JT) (u : World) : Prop where
  wg : w0.heap.size = G
  low : Below G w0 u
  vbox : Blk u G 25 (jvCells V)
  res : Blk u (G + 1) 25 (jvCells zJV)
  tree : Blk u (G + 2) 25 (jvCells T)
  names : OwnR u (G + 3) 9 1 A1 c1 ns.length (rowsV sCell ns)
  kids : ∃ kv : List JV, kv.length = ks.length ∧ OwnR u (G + 3) 25 5 A2 c2 ks.length (rowsV jvCells kv) ∧
    ∀ i (h : i < ks.length) (h' : i < kv.length), JRep u (KS G (.slice A1 ns.length c1) (.slice A2 ks.length c2)) ks[i] kv[i]
section
variable {w0 : World} {G : Nat} {V T : JV} {A1 : Option Addr} {c1 : Nat} {ns : List Bs} {A2 : Option Addr} {c2 : Nat} {ks : List JT} {u u' : World}
theorem Cs.size (h : Cs w0 G V T A1 c1 ns A2 c2 ks u) : G + 3 ≤ u.heap.size := h.tree.lt
theorem Cs.new (h : Cs w0 G V T A1 c1 ns A2 c2 ks u) (hb : Below u.heap.size u u') : Cs w0 G V T A1 c1 ns A2 c2 ks u' := by
  obtain ⟨kv, h1, h2, h3⟩ := h.kids
  have hs := h.size
  have hlt : ∀ {k cs t}, u.heap[k]? = some (.cells cs t (0, 0)) → k < u.heap.size := fun hq => (Array.getElem?_eq_some_iff.1 hq).1
  exact ⟨h.wg, h.low.trans (hb.mono (by omega)), h.vbox.below hb h.vbox.lt, h.res.below hb h.res.lt, h.tree.below hb h.tree.lt, h.names.heap fun k cs hq _ => (hb.block k (hlt hq)).trans hq,
    kv, h1, h2.heap fun k cs hq _ => (hb.block k (hlt hq)).trans hq, fun i hi hi' => (h3 i hi hi').heap fun b hl _ => hb.block b hl⟩
theorem Cs.drew (h : Cs w0 G V T A1 c1 ns A2 c2 ks u) : Cs w0 G V T A1 c1 ns A2 c2 ks u.drew := h.new (Below.refl _ _).drew
theorem Cs.put {T' : JV} (h : Cs w0 G V T A1 c1 ns A2 c2 ks u) (hw : Wrote (G + 2) u u') (ht : Blk u' (G + 2) 25 (jvCells T')) : Cs w0 G V T' A1 c1 ns A2 c2 ks u' := by
  obtain ⟨kv, h1, h2, h3⟩ := h.kids
  have hs := h.size
  have hk : ∀ b, b < u.heap.size → G + 3 ≤ b → u'.heap[b]? = u.heap[b]? := fun b hb hl => hw.grown.block b hb (by intro h; injection h with h; omega)
  have hlt : ∀ {k cs t}, u.heap[k]? = some (.cells cs t (0, 0)) → k < u.heap.size := fun hq => (Array.getElem?_eq_some_iff.1 hq).1
  exact ⟨h.wg, hw.below h.low (by omega) (by omega), hw.blk h.vbox (by omega), hw.blk h.res (by omega), ht, h.names.heap fun k cs hq hl => (hk k (hlt hq) hl).trans hq, kv, h1, h2.heap fun k cs hq hl => (hk k (hlt hq) hl).trans hq, fun i hi hi' => (h3 i hi hi').heap fun b hb hs => hk b hb hs.le⟩
/-- a name more -/
theorem Cs.name {t : Bs} {A' : Option Addr} {c' : Nat} (h : Cs w0 G V T A1 c1 ns A2 c2 ks u) (ho : OwnR u' (G + 3) 9 1 A' c' (ns.length + 1) (rowsV sCell ns ++ [.string (bs t)])) (hg : u.grownBy u' (Value.slice A1 ns.length c1).ownBlock)
    (hn : Next u (.slice A1 ns.length c1) (.slice A' (ns.length + 1) c')) : Cs w0 G V T A' c' (ns ++ [t]) A2 c2 ks u' := by
  obtain ⟨kv, h1, h2, h3⟩ := h.kids
  have hs := h.size
  have hne : ∀ k, k < G + 3 → some k ≠ (Value.slice A1 ns.length c1).ownBlock := fun k hk he => by have := (h.names.lt k he.symm).1; omega
  refine ⟨h.wg, h.low.grown hg (by omega) (fun k hk => by have := (h.names.lt k hk).1; omega), h.vbox.grown hg (hne _ (by omega)), h.res.grown hg (hne _ (by omega)), h.tree.grown hg (hne _ (by omega)), by rw [rowsV_append, rowsV_one, List.length_append]; exact ho, kv, h1, h2.heap fun k cs hq hl => ?_, fun i hi hi' => ?_⟩
  · refine (hg.block k (Array.getElem?_eq_some_iff.1 hq).1 fun he => ?_).trans hq
    obtain ⟨cs', hq'⟩ := ownR_blk h.names he.symm
    rw [hq] at hq'
    injection hq' with hq'
    injection hq' with _ ht
    exact absurd ht (by decide)
  · have h5 : JRep u (fun b => KS G (.slice A1 ns.length c1) (.slice A2 ks.length c2) b ∧ KS G (.slice A' (ns ++ [t]).length c') (.slice A2 ks.length c2) b) ks[i] kv[i] := (h3 i hi hi').imp fun b hb hs => ⟨hs, hs.1, fun he => by
      rw [List.length_append] at he
      rcases hn with hn | hn
      · exact hs.2.1 (hn.symm.trans he)
      · have := hn b he
        omega, hs.2.2⟩
    exact (h5.grown hg (fun b hb he => hb.1.2.1 he.symm)).imp fun b _ hs => hs.2
/-- a kid more -/
theorem Cs.kid {k : JT} {v : JV} {A' : Option Addr} {c' : Nat} (h : Cs w0 G V T A1 c1 ns A2 c2 ks u) (hv : JRep u (KS G (.slice A1 ns.length c1) (.slice A2 ks.length c2)) k v)
    {kv : List JV} (h1 : kv.length = ks.length) (h2 : OwnR u (G + 3) 25 5 A2 c2 ks.length (rowsV jvCells kv)) (h3 : ∀ i (h : i < ks.length) (h' : i < kv.length), JRep u (KS G (.slice A1 ns.length c1) (.slice A2 ks.length c2)) ks[i] kv[i])
    (ho : OwnR u' (G + 3) 25 5 A' c' (ks.length + 1) (rowsV jvCells kv ++ (jvCells v).toList)) (hg : u.grownBy u' (Value.slice A2 ks.length c2).ownBlock)
    (hn : Next u (.slice A2 ks.length c2) (.slice A' (ks.length + 1) c')) : Cs w0 G V T A1 c1 ns A' c' (ks ++ [k]) u' := by
  have hs := h.size
  have hne : ∀ k, k < G + 3 → some k ≠ (Value.slice A2 ks.length c2).ownBlock := fun k hk he => by have := (h2.lt k he.symm).1; omega
  have hS : ∀ b, b < u.heap.size → KS G (.slice A1 ns.length c1) (.slice A2 ks.length c2) b → KS G (.slice A1 ns.length c1) (.slice A2 ks.length c2) b ∧ KS G (.slice A1 ns.length c1) (.slice A' (ks ++ [k]).length c') b := fun b hb hs => ⟨hs, hs.1, hs.2.1, fun he => by
      rw [List.length_append] at he
      rcases hn with hn | hn
      · exact hs.2.2 (hn.symm.trans he)
      · have := hn b he
        omega⟩
  have hstep : ∀ j x, JRep u (KS G (.slice A1 ns.length c1) (.slice A2 ks.length c2)) j x → JRep u' (KS G (.slice A1 ns.length c1) (.slice A' (ks ++ [k]).length c')) j x := fun j x hj =>
    ((hj.imp hS).grown hg (fun b hb he => hb.1.2.2 he.symm)).imp fun b _ hs => hs.2
  refine ⟨h.wg, h.low.grown hg (by omega) (fun k hk => by have := (h2.lt k hk).1; omega), h.vbox.grown hg (hne _ (by omega)), h.res.grown hg (hne _ (by omega)), h.tree.grown hg (hne _ (by omega)), h.names.heap fun k cs hq hl => ?_, kv ++ [v], by simp [h1], by rw [rowsV_append, rowsV_one, List.length_append]; exact ho, fun i hi hi' => ?_⟩
  · refine (hg.block k (Array.getElem?_eq_some_iff.1 hq).1 fun he => ?_).trans hq
    obtain ⟨cs', hq'⟩ := ownR_blk h2 he.symm
    rw [hq] at hq'
    injection hq' with hq'
    injection hq' with _ ht
    exact absurd ht (by decide)
  · by_cases hl : i < ks.length
    · rw [List.getElem_append_left hl, List.getElem_append_left (by omega)]
      exact hstep _ _ (h3 i hl (by omega))
    · have e1 : i = ks.length := by simp at hi; omega
      subst e1
      rw [List.getElem_append_right (Nat.le_refl _), List.getElem_append_right (by omega)]
      simp only [Nat.sub_self, h1, List.getElem_cons_zero]
      exact hstep _ _ hv
/-- the tree, read -/
theorem Cs.rep {kk n : Int} {t : Bs} (h : Cs w0 G V T A1 c1 ns A2 c2 ks u) : JRep u (fun b => G + 3 ≤ b) (.mk kk n t ns ks) ⟨kk, n, t, A1, ns.length, c1, A2, ks.length, c2⟩ := by
  obtain ⟨kv, h1, h2, h3⟩ := h.kids
  exact .mk ⟨kk, n, t, A1, ns.length, c1, A2, ks.length, c2⟩ ns ks kv rfl h.names.cap (ownR_rds h.names) rfl h2.cap h1 (ownR_rds h2) (fun i hi hi' => (h3 i hi hi').imp fun b _ hs => hs.le)
/-- what was laid since lies beside the rows -/
theorem Cs.fresh (h : Cs w0 G V T A1 c1 ns A2 c2 ks u) {j : JT} {v : JV} (hj : JRep u' (fun b => u.heap.size ≤ b) j v) : JRep u' (KS G (.slice A1 ns.length c1) (.slice A2 ks.length c2)) j v := by
  obtain ⟨kv, h1, h2, h3⟩ := h.kids
  have hs := h.size
  exact hj.imp fun b _ hb => ⟨by omega, fun he => by have := (h.names.lt b he).2; omega, fun he => by have := (h2.lt b he).2; omega⟩
end
end Go.Proofs.Ytcfbnjaelniahaa.Js
/-
  Plain: how long what is written may be.
-/
namespace Go.Proofs.Ytcfbnjaelniahaa.Js
set_option linter.unusedVariables false

theorem quoteC_le (c : UInt8) : (quoteC c).length ≤ 6 := by
  unfold quoteC
  split
  · simp
  split <;> simp
theorem quote_le (s : Bs) : (quote s).length ≤ 6 * s.length + 2 := by
  have h : ∀ l : Bs, (l.flatMap quoteC).length ≤ 6 * l.length := by
    intro l
    induction l with
    | nil => simp
    | cons c r ih =>
      have := quoteC_le c
      rw [List.flatMap_cons, List.length_append, List.length_cons]
      omega
  have := h s
  unfold quote
  simp only [List.length_cons, List.length_append, List.length_nil]
  omega
theorem digB_le : ∀ f n : Nat, (digB f n).length ≤ f
  | 0, n => by simp [digB]
  | f + 1, n => by
    have := digB_le f (n / 10)
    unfold digB
    split <;> simp; omega
theorem intB_le (n : Int) : (intB n).length ≤ 17 := by
  have := digB_le 16 n.natAbs
  unfold intB
  split <;> simp <;> omega
theorem items_len (m : Bool) (L : Nat) : ∀ (ks : List JT) (ns : List Bs) (f : Bool), (∀ s ∈ ns, s.length ≤ 50) → (∀ k ∈ ks, (writeV k).length ≤ L) → (itemsV m ns ks f).length ≤ ks.length * (304 + L)
  | [], ns, f, _, _ => by simp [itemsV]
  | k :: r, ns, f, hn, hk => by
    have h1 := items_len m L r ns.tail false (fun s hs => hn s (List.mem_of_mem_tail hs)) (fun x hx => hk x (List.mem_cons_of_mem _ hx))
    have h2 := hk k List.mem_cons_self
    have h3 : (quote (ns.headD [])).length ≤ 302 := by
      have h4 := quote_le (ns.headD [])
      have h5 : (ns.headD []).length ≤ 50 := by
        cases ns with
        | nil => simp
        | cons s l => exact hn s List.mem_cons_self
      omega
    rw [itemsV]
    simp only [List.length_append, List.length_cons]
    have e : (r.length + 1) * (304 + L) = r.length * (304 + L) + (304 + L) := by rw [Nat.add_mul, Nat.one_mul]
    rw [e]
    have h6 : (if f = true then ([] : Bs) else [44]).length ≤ 1 := by split <;> simp
    have h7 : (if m = true then quote (ns.headD []) ++ [58] else []).length ≤ 303 := by
      split
      · rw [List.length_append]; show _ + 1 ≤ 303; omega
      · simp
    omega
def cutB : Nat → Nat
  | 0 => 310
  | d + 1 => 310 + 5 * (304 + cutB d)
theorem write_len (k n : Int) (t : Bs) (ns : List Bs) (ks : List JT) (I : Nat) (ht : t.length ≤ 50) (hi : (itemsV (k == 5) ns ks true).length ≤ I) : (writeV (.mk k n t ns ks)).length ≤ 310 + I := by
  have h1 := intB_le n
  have h2 := quote_le t
  rw [writeV]
  split
  · simp; omega
  split
  · split <;> simp <;> omega
  split
  · omega
  split
  · omega
  · simp only [List.length_cons, List.length_append, List.length_nil]
    have h3 : (if k = 5 then (125 : UInt8) else 93) = (if k = 5 then (125 : UInt8) else 93) := rfl
    omega
theorem cut_len : ∀ (d : Nat) (j : JT), (writeV (cutJ d j)).length ≤ cutB d
  | 0, .mk k n t ns ks => by
    have := write_len k n (t.take 50) ((ns.take 5).map (·.take 50)) [] 0 (by simp; omega) (by simp [itemsV])
    rw [cutJ]
    exact this
  | d + 1, .mk k n t ns ks => by
    have hI := items_len (k == 5) (cutB d) ((ks.take 5).map (cutJ d)) ((ns.take 5).map (·.take 50)) true (fun s hs => by
      obtain ⟨y, _, rfl⟩ := List.mem_map.1 hs
      simp; omega) (fun x hx => by
      obtain ⟨y, _, rfl⟩ := List.mem_map.1 hx
      exact cut_len d y)
    have hl : ((ks.take 5).map (cutJ d)).length ≤ 5 := by simp; omega
    have hI2 : (itemsV (k == 5) ((ns.take 5).map (·.take 50)) ((ks.take 5).map (cutJ d)) true).length ≤ 5 * (304 + cutB d) := Nat.le_trans hI (Nat.mul_le_mul_right _ hl)
    have := write_len k n (t.take 50) ((ns.take 5).map (·.take 50)) ((ks.take 5).map (cutJ d)) _ (by simp; omega) hI2
    rw [cutJ]
    exact this
-- of what is read
theorem strA_len2 : ∀ (n : Nat) (acc r : Bs) {s r' : Bs}, strA n acc r = some (s, r') → s.length + r'.length + 1 ≤ acc.length + r.length
  | 0, acc, r, s, r', h => by simp [strA] at h
  | n + 1, acc, [], s, r', h => by simp [strA] at h
  | n + 1, acc, c :: r, s, r', h => by
    unfold strA at h
    split at h
    · simp at h
    · split at h
      · injection h with h; injection h with h1 h2; subst h1 h2; simp; omega
      · split at h
        · split at h
          · rename_i b r1 he
            have h1 := escP_len he
            have h2 := strA_len2 n _ _ h
            simp at h2 ⊢; omega
          · simp at h
        · have h2 := strA_len2 n _ _ h
          simp at h2 ⊢; omega
theorem textP_len2 {r s r' : Bs} (h : textP r = some (s, r')) : s.length + r'.length + 2 ≤ r.length := by
  unfold textP at h
  split at h
  · have h1 := strA_len2 _ _ _ h
    cases r with
    | nil => simp [strA] at h
    | cons c l => simp at h1 ⊢; omega
  · simp at h
/-- a name more, a kid more: of at most so many bytes -/
theorem listL_write {d : Nat} {m : Bool} (hv : ∀ {r v r'}, valueP d r = .ok (v, r') → (writeV v).length + 20 * r'.length ≤ 20 * r.length) : ∀ (n : Nat) {ns ns' : List Bs} {ks ks' : List JT} {r r' : Bs}, listL (valueP d) m n ns ks r = .ok (ns', ks', r') →
    (m = true → ns.length = ks.length) → (m = true → ns'.length = ks'.length) ∧ (itemsV m (if m then ns' else []) ks' true).length + 20 * r'.length ≤ (itemsV m (if m then ns else []) ks true).length + 20 * r.length
  | 0, ns, ns', ks, ks', r, r', h, hl => by rw [listL] at h; cases h
  | n + 1, ns, ns', ks, ks', r, r', h, hl => by
    have hsl := signP_len (endC m) r
    rcases hs : signP (endC m) r with ⟨b, r1⟩
    rw [hs] at hsl
    dsimp only at hsl
    cases b with
    | true =>
      rw [listL_end hs] at h
      injection h with h
      injection h with h1 h
      injection h with h2 h3
      subst h1 h2 h3
      exact ⟨hl, by omega⟩
    | false =>
      rw [listL_more hs] at h
      unfold moreK at h
      split at h
      · cases h
      · rename_i x k r4 hc
        unfold kidK at hc
        split at hc
        · cases hc
        · rename_i y r3 hn
          split at hc
          · cases hc
          · rename_i k' r4' hv'
            injection hc with hc
            injection hc with e1 hc
            injection hc with e2 e3
            subst e1 e2 e3
            have hw := hv hv'
            unfold nameK at hn
            split at hn
            · cases hn
            · rename_i r2 hcm
              have l2 : r2.length + (if ks.isEmpty then 0 else 1) ≤ r1.length := by
                unfold commaP at hcm
                split at hcm
                · rename_i he
                  injection hcm with hcm
                  subst hcm
                  rw [he]
                  simp
                · rename_i he
                  rw [if_neg he]
                  unfold mustP at hcm
                  split at hcm
                  · rename_i hlk
                    injection hcm with hcm
                    subst hcm
                    have h1 := skip_len (skip r1).tail
                    have h2 := skip_len r1
                    have h3 : (skip r1) ≠ [] := fun h => by rw [h] at hlk; exact absurd hlk (by decide)
                    have h4 := List.length_pos_iff.2 h3
                    simp only [List.length_tail] at h1
                    omega
                  · cases hcm
              cases m with
              | false =>
                unfold keyP at hn
                rw [if_neg (by decide)] at hn
                injection hn with hn
                injection hn with e1 e2
                subst e1 e2
                obtain ⟨h1, h2⟩ := listL_write hv n h (fun h => by cases h)
                refine ⟨h1, ?_⟩
                have h3 := itemsV_snoc false ks [] k' [] true (fun h => by cases h)
                simp only [Bool.false_eq_true, if_false, Bool.true_and, List.nil_append] at h3 h2 ⊢
                rw [h3, List.length_append, List.length_append] at h2
                have h4 : (if ks.isEmpty = true then ([] : Bs) else [44]).length ≤ (if ks.isEmpty then 0 else 1) := by split <;> simp
                have h5 : (if ks.isEmpty = true then 0 else 1) ≤ 1 := by split <;> omega
                omega
              | true =>
                unfold keyP at hn
                rw [if_pos rfl] at hn
                unfold nameP at hn
                split at hn
                · cases hn
                · rename_i t r5 ht
                  have ht2 := textP_len2 ht
                  split at hn
                  · cases hn
                  · split at hn
                    · cases hn
                    · rename_i r6 hm
                      injection hn with hn
                      injection hn with e1 e2
                      subst e1 e2
                      have hm2 := mustP_len hm
                      obtain ⟨h1, h2⟩ := listL_write hv n h (fun _ => by simp [hl rfl])
                      refine ⟨h1, ?_⟩
                      have h3 := itemsV_snoc true ks ns k' t true hl
                      simp only [if_true, Bool.true_and] at h3 h2 ⊢
                      rw [h3, List.length_append, List.length_append, List.length_append, List.length_append] at h2
                      have h4 : (if ks.isEmpty = true then ([] : Bs) else [44]).length ≤ (if ks.isEmpty then 0 else 1) := by split <;> simp
                      have h5 : (if ks.isEmpty = true then 0 else 1) ≤ 1 := by split <;> omega
                      have h6 := quote_le t
                      simp only [List.length_cons, List.length_nil] at h2
                      omega
theorem valueP_write_len : ∀ (d : Nat) {r : Bs} {v : JT} {r' : Bs}, valueP d r = .ok (v, r') → (writeV v).length + 20 * r'.length ≤ 20 * r.length := by
  have hraw : ∀ {lp : Bs → Except Int (JT × Bs)}, (∀ {r v r'}, lp r = .ok (v, r') → r ≠ [] → (writeV v).length + 20 * r'.length ≤ 20 * r.length) → ∀ {r v r'}, rawP lp r = .ok (v, r') → (writeV v).length + 20 * r'.length ≤ 20 * r.length := by
    intro lp hl r v r' h
    have hlen : r'.length < r.length → (writeV v).length ≤ 20 → (writeV v).length + 20 * r'.length ≤ 20 * r.length := fun h1 h2 => by omega
    unfold rawP at h
    have hw : ∀ {w : Bs} {v0 : JT}, w ≠ [] → (writeV v0).length ≤ 20 → wordR w r v0 = .ok (v, r') → (writeV v).length + 20 * r'.length ≤ 20 * r.length := by
      intro w v0 h0 h1 h2
      have h3 := wordR_len h0 h2
      unfold wordR at h2
      split at h2
      · cases h2
      · injection h2 with h2
        injection h2 with e1 e2
        subst e1
        exact hlen h3 h1
    split at h
    · exact hw (by simp) (by decide) h
    split at h
    · exact hw (by simp) (by decide) h
    split at h
    · exact hw (by simp) (by decide) h
    split at h
    · unfold optR at h
      split at h
      · cases h
      · rename_i t r0 ht
        injection h with h
        injection h with e1 e2
        subst e1 e2
        have h1 := textP_len2 ht
        have h2 := quote_le t
        have h3 : writeV (jtext t) = quote t := rfl
        rw [h3]
        omega
    split at h
    · rename_i hq
      exact hl h (by rintro rfl; simp [look] at hq)
    · unfold optR at h
      split at h
      · cases h
      · rename_i t r0 ht
        injection h with h
        injection h with e1 e2
        subst e1 e2
        have h1 := numP_len ht
        have h2 := intB_le t
        have h3 : writeV (jint t) = intB t := rfl
        rw [h3]
        omega
  have hskip : ∀ {lp : Bs → Except Int (JT × Bs)} {r v r'}, (∀ {v r'}, rawP lp (skip r) = .ok (v, r') → (writeV v).length + 20 * r'.length ≤ 20 * (skip r).length) → skipR (rawP lp (skip r)) = .ok (v, r') → (writeV v).length + 20 * r'.length ≤ 20 * r.length := by
    intro lp r v r' h h2
    obtain ⟨r0, h3, rfl⟩ := skipR_ok h2
    have h4 := h h3
    have h5 := skip_len r
    have h6 := skip_len r0
    omega
  intro d
  induction d with
  | zero =>
    intro r v r' h
    exact hskip (lp := fun _ => .error 9) (fun h => hraw (lp := fun _ => .error 9) (fun h _ => by cases h) h) h
  | succ d ih =>
    intro r v r' h
    refine hskip (lp := listP (valueP d)) (fun h => hraw (lp := listP (valueP d)) (fun {r v r'} h hr => ?_) h) h
    rw [listP_lres] at h
    unfold lres at h
    split at h
    · cases h
    · rename_i ns ks r2 hc
      injection h with h
      injection h with h1 h2
      subst h1 h2
      obtain ⟨h3, h4⟩ := listL_write ih _ hc (fun _ => rfl)
      have h5 : itemsV (isMap r) (if isMap r = true then [] else []) [] true = [] := by simp [itemsV]
      rw [h5] at h4
      have hs := skip_len r.tail
      have hr0 := List.length_pos_iff.2 hr
      simp only [List.length_tail, List.length_nil] at hs h4
      rw [writeV]
      cases hm : isMap r with
      | true =>
        rw [hm] at h4
        simp [kindV] at h4 ⊢
        omega
      | false =>
        rw [hm] at h4
        have hns : ∀ ns ns2 f, itemsV false ns ks f = itemsV false ns2 ks f := by
          clear h4 h3 hc
          induction ks with
          | nil => intro ns ns2 f; simp [itemsV]
          | cons k l ihk => intro ns ns2 f; rw [itemsV, itemsV, ihk ns.tail ns2.tail]; simp
        simp [kindV] at h4 ⊢
        rw [hns ns []]
        omega
theorem readP_write_len {s : Bs} {j : JT} (h : readP s = .ok j) : (writeV j).length ≤ 40000 := by
  unfold readP at h
  split at h
  · cases h
  · split at h
    · cases h
    · rename_i hv
      injection h with h
      subst h
      have := valueP_write_len 6 hv
      omega
    · cases h
end Go.Proofs.Ytcfbnjaelniahaa.Js
/-
  Walk: the reference's Write.
-/
namespace Go.Proofs.Ytcfbnjaelniahaa.Js
set_option linter.unusedSimpArgs false
set_option linter.unusedVariables false
open Go.RowKit

/-- what Write does with a tree that may be -/
def RwP (j : JT) : Prop := ∀ (d : Nat) (v : JV) (B : Nat) (w : World), rightV d j = true → (writeV j).length ≤ 100000000 → JRep w (fun b => b < B) j v → B ≤ w.heap.size →
  Calls Try.prog 11 #[.agg (jvCells v)] w fun x w' => x = .returned (.string (bs (writeV j))) ∧ Below w.heap.size w w'
/-- a comma ahead of a kid that is not the first; a name ahead of a map's -/
def comK (i : Nat) : Bs := if i = 0 then [] else [44]
def nmK (m : Bool) (s : Bs) : Bs := if m then quote s ++ [58] else []
theorem comK_z : comK 0 = [] := rfl
theorem comK_s {i : Nat} (h : i ≠ 0) : comK i = [44] := if_neg h
theorem kidsB_step (m : Bool) {ns : List Bs} {ks : List JT} {i : Nat} (hl : if m then ns.length = ks.length else ns = []) (hi : i < ks.length) :
    kidsB m ns ks (i + 1) = kidsB m ns ks i ++ (comK i ++ (nmK m (ns.getD i []) ++ writeV ks[i])) := by
  unfold comK nmK
  cases m with
  | true =>
    have h : ns.length = ks.length := hl
    have e := kidsB_map h hi
    rw [e]
    simp [List.getD, List.getElem?_eq_getElem (show i < ns.length by omega)]
  | false =>
    have h : ns = [] := hl
    subst h
    rw [kidsB_list hi]
    simp
theorem quote_in {k n : Int} {t : Bs} (h : (writeV (.mk 3 n t [] [])).length ≤ 100000000) : t.length ≤ 100000000 := by
  have e : writeV (.mk 3 n t [] []) = quote t := by rw [writeV]; rfl
  rw [e] at h
  have := quote_len t
  omega
set_option maxRecDepth 100000 in
set_option maxHeartbeats 4000000 in
theorem rw_kids (m : Bool) (ns : List Bs) (ks : List JT) (IH : ∀ x ∈ ks, RwP x) (d : Nat) (v : JV) (hvk : v.k = kindV m) (kv : List JV) (B : Nat) (w : World) (hlen : if m then ns.length = ks.length else ns = [])
    (hnr : RdS w (fun b => b < B) v.nA (rowsV sCell ns)) (hn : v.nn = ns.length) (hkn : v.kn = ks.length) (hkv : kv.length = ks.length) (hkr : RdS w (fun b => b < B) v.kA (rowsV jvCells kv))
    (hkids : ∀ i (h : i < ks.length) (h' : i < kv.length), JRep w (fun b => b < B) ks[i] kv[i]) (hright : ∀ x ∈ ks, rightV d x = true) (hB : B ≤ w.heap.size) (hl : (itemsV m ns ks true).length ≤ 100000000) :
    Calls Try.prog 11 #[.agg (jvCells v)] w fun x w' => x = .returned (.string (bs ((if m then 123 else 91) :: (itemsV m ns ks true ++ [if m then 125 else 93])))) ∧ Below w.heap.size w w' := by
  have hu := Try.underlying25
  obtain ⟨vk, vn, vt, nA, nn, nc, kA, kn, kc⟩ := v
  dsimp only at *
  subst hvk
  obtain ⟨G, hG⟩ : ∃ G, G = w.heap.size := ⟨_, rfl⟩
  obtain ⟨W0, hW0⟩ : ∃ W0, W0 = w.alloc (.cells (jvCells ⟨kindV m, vn, vt, nA, nn, nc, kA, kn, kc⟩) 25) := ⟨_, rfl⟩
  have hb0 : Below w.heap.size w W0 := by rw [hW0]; exact (Below.refl _ w).alloc (Nat.le_refl _) _
  have HB0 := Lib.hid hb0
  have HKU := Lib.hid (show Blk W0 G 25 (jvCells ⟨kindV m, vn, vt, nA, nn, nc, kA, kn, kc⟩) by rw [hW0, hG]; exact Blk.new _ _ _)
  have HNR := Lib.hid (show Rd W0 B nA (rowsV sCell ns) from (hnr.rd (fun _ _ h => h)).below (hb0.mono hB))
  have HKR := Lib.hid (show Rd W0 B kA (rowsV jvCells kv) from (hkr.rd (fun _ _ h => h)).below (hb0.mono hB))
  have HKI := Lib.hid (show ∀ i (h : i < ks.length) (h' : i < kv.length), JRep W0 (fun b => b < B) ks[i] kv[i] from fun i h h' => (hkids i h h').under (hb0.mono hB))
  have HBB := Lib.hid (show B ≤ W0.heap.size from Nat.le_trans hB hb0.size)
  have HW0 := Lib.hid hW0
  have HLN := Lib.hid hlen
  have HN := Lib.hid hn
  have HK := Lib.hid hkn
  have HKV := Lib.hid hkv
  have HRI := Lib.hid hright
  have HIH := Lib.hid IH
  have HL := Lib.hid hl
  have HKS := Lib.hid (show (kn : Int) ≤ 100000001 by
    have h1 := itemsV_len m ks ns true
    omega)
  have a0 : W0.cell? ⟨G, 0, none⟩ = some (.int .i64 (kindV m)) := HKU.out.cell 0
  clear hW0 hb0 hnr hkr hkids hB hl hlen hn hkn hkv hright IH
  rw [hG] at *
  clear hG
  go_enter Try.func11, Try.ntmps11
  go_upto_region 1 with (fail)
  rw [← HW0.out]
  clear HW0
  generalize Value.agg (jvCells ⟨kindV m, vn, vt, nA, nn, nc, kA, kn, kc⟩) = AV
  have hk1 : (kindV m == 1) = false := by cases m <;> rfl
  have hk2 : (kindV m == 2) = false := by cases m <;> rfl
  have hk3 : (kindV m == 3) = false := by cases m <;> rfl
  go_upto_if 22 with (fail)
  go_cut [22] from 22 to 24 (fun x wx => x = .bool true ∧ wx = W0)
  case first =>
    cases m with
    | true =>
      have h4 : (kindV true == 4) = false := rfl
      have h5 : (kindV true == 5) = true := rfl
      go_wp2_with fail
      go_meet
      exact ⟨rfl, rfl⟩
    | false =>
      have h4 : (kindV false == 4) = true := rfl
      have h5 : (kindV false == 5) = false := rfl
      go_wp2_with fail
      go_meet
      exact ⟨rfl, rfl⟩
  case rest =>
  obtain ⟨rfl, hwc⟩ := hcut
  have hwc2 := hwc.symm
  subst hwc2
  clear a0 hk1 hk2 hk3
  go_wp2_with fail
  go_loopw [3, 4] (fun o x wr => ∃ i : Nat, i ≤ kn ∧ o = .string (bs (kidsB m ns ks i)) ∧ x = .int .i64 (i : Int) ∧ Below W0.heap.size W0 wr) (fun _ x _ => kn - (intOf x).toNat)
  case atStart => exact ⟨0, Nat.zero_le _, by simp [kidsB, itemsV]; rfl, rfl, Below.refl _ _⟩
  case round =>
    obtain ⟨i, hi, rfl, rfl, hbel⟩ := hrel
    have HBE := Lib.hid hbel
    clear hbel
    have a4 : wr.cell? ⟨w.heap.size, 4, none⟩ = some (.slice kA kn kc) := (HKU.out.below HBE.out HKU.out.lt).cell 4
    have hkl := HKS.out
    by_cases hlt : i < kn
    · have hlt' : (i : Int) < (kn : Int) := by omega
      have HLT := Lib.hid hlt
      have hil : i < ks.length := by rw [← HK.out]; exact hlt
      obtain ⟨ad, hA, hadb, hcell⟩ := rd_rows (f := jvCells) (m := 5) (fun _ => rfl) (by decide) HKR.out (show i < kv.length by rw [HKV.out]; exact hil)
      subst hA
      obtain ⟨X, hX⟩ : ∃ X, X = kv[i]'(by rw [HKV.out]; exact hil) := ⟨_, rfl⟩
      obtain ⟨Y, hY⟩ : ∃ Y, Y = ks[i] := ⟨_, rfl⟩
      have HST := Lib.hid (kidsB_step m HLN.out hil)
      rw [← hX] at hcell
      rw [← hY] at HST
      have HCE := Lib.hid (show ∀ u, Below W0.heap.size W0 u → ∀ j x, (jvCells X).toList[j]? = some x → u.cell? ((ad.add (i * 5)).add j) = some x from fun u hu j x hx => by
        rw [(hu.mono HBB.out).cell (p := (ad.add (i * 5)).add j) (by rw [block_of_add, block_of_add]; exact hadb)]
        exact hcell j x (by simpa using hx))
      have HSZ := Lib.hid (show (kidsB m ns ks (i + 1)).length ≤ 100000000 by have := kidsB_len m ns ks (i + 1); have := HL.out; omega)
      have CV := Lib.hid (fun (u : World) (h : Below W0.heap.size W0 u) =>
        show Calls Try.prog 11 #[.agg (jvCells X)] u fun x w' => x = .returned (.string (bs (writeV Y))) ∧ Below u.heap.size u w' from by
          refine HIH.out Y (by rw [hY]; exact List.getElem_mem hil) d X B u (by rw [hY]; exact HRI.out _ (List.getElem_mem hil)) ?_ (by rw [hY, hX]; exact (HKI.out i hil (by rw [HKV.out]; exact hil)).under (h.mono HBB.out)) (Nat.le_trans HBB.out h.size)
          have h1 := HSZ.out
          rw [HST.out] at h1
          simp only [List.length_append] at h1
          omega)
      have HNI := Lib.hid (show m = true → ∃ ad2 : Addr, nA = some ad2 ∧ (i : Int) < (nn : Int) ∧ ∀ u, Below W0.heap.size W0 u → u.cell? (ad2.add i) = some (.string (bs (ns.getD i []))) from fun hm => by
        have hle := HLN.out
        rw [hm, if_pos rfl] at hle
        have hin : i < ns.length := by omega
        obtain ⟨ad2, hA2, hadb2, hcell2⟩ := rd_rows (f := sCell) (m := 1) (fun _ => rfl) (by decide) HNR.out hin
        refine ⟨ad2, hA2, by rw [HN.out]; omega, fun u hu => ?_⟩
        rw [(hu.mono HBB.out).cell (p := ad2.add i) (by rw [block_of_add]; exact hadb2)]
        have h := hcell2 0 _ rfl
        rw [Nat.mul_one] at h
        simp [List.getD, List.getElem?_eq_getElem hin]
        exact h)
      clear hX hY hcell hil hlt hadb
      obtain ⟨o, ho⟩ : ∃ o, o = bs (kidsB m ns ks i) := ⟨_, rfl⟩
      have hos : (o.size : Int) ≤ 100000000 := by rw [ho, bs_size]; have := HSZ.out; rw [HST.out] at this; simp only [List.length_append] at this; omega
      rw [← ho]
      have HO := Lib.hid ho
      clear ho
      go_upto_if 33 with (fail)
      go_cut [3] (fun x wx => x = .string (o ++ bs (comK i)) ∧ wx = wr)
      case first =>
        by_cases h0 : i = 0
        · subst h0
          have HE := Lib.hid (show o ++ bs ([] : Bs) = o by
            apply ByteArray.ext
            simp [bs])
          go_wp2_with fail
          go_meet
          exact ⟨by rw [comK_z, HE.out], rfl⟩
        · have h0' : (0 : Int) < (i : Int) := by omega
          have H0 := Lib.hid h0
          clear h0
          go_wp2_with fail
          go_meet
          exact ⟨by rw [comK_s H0.out]; rfl, rfl⟩
      case rest =>
      obtain ⟨rfl, hwc⟩ := hcut
      have hwc2 := hwc.symm
      subst hwc2
      have a0 : wr.cell? ⟨w.heap.size, 0, none⟩ = some (.int .i64 (kindV m)) := (HKU.out.below HBE.out HKU.out.lt).cell 0
      have a3 : wr.cell? ⟨w.heap.size, 3, none⟩ = some (.slice nA nn nc) := (HKU.out.below HBE.out HKU.out.lt).cell 3
      obtain ⟨o2, ho2⟩ : ∃ o2, o2 = o ++ bs (comK i) := ⟨_, rfl⟩
      have HO2 := Lib.hid ho2
      have HSZ2 := Lib.hid (show o2.size + ((nmK m (ns.getD i [])).length + (writeV Y).length) ≤ 100000000 by
        have h1 := HSZ.out
        rw [HST.out] at h1
        simp only [List.length_append] at h1
        rw [ho2, HO.out, bs_app, bs_size, List.length_append]
        omega)
      rw [← ho2]
      clear ho2 hos
      go_upto_if 38 with (fail)
      go_cut [3] (fun x wx => x = .string (o2 ++ bs (nmK m (ns.getD i []))) ∧ Below wr.heap.size wr wx)
      case first =>
        cases m with
        | false =>
          have hk5 : (kindV false == 5) = false := rfl
          have HE := Lib.hid (show o2 ++ bs (nmK false (ns.getD i [])) = o2 by
            apply ByteArray.ext
            simp [nmK, bs])
          go_wp2_with fail
          go_meet
          exact ⟨by rw [HE.out], Below.refl _ _⟩
        | true =>
          have hk5 : (kindV true == 5) = true := rfl
          obtain ⟨ad2, hA2, hin, hcl⟩ := HNI.out rfl
          subst hA2
          have c1 := hcl wr HBE.out
          obtain ⟨Sx, hSx⟩ : ∃ s, s = ns.getD i [] := ⟨_, rfl⟩
          rw [← hSx] at c1 HSZ2
          have HSX := Lib.hid hSx
          have hqs := quote_len Sx
          have CQ := Lib.hid (show Calls Try.prog 20 #[.string (bs Sx)] wr fun x w' => x = .returned (.string (bs (quote Sx))) ∧ Below wr.heap.size wr w' from by
            have h1 := HSZ2.out
            simp only [nmK, if_true, List.length_append] at h1
            exact rquote_any (bs Sx) (by rw [bs_size]; omega) wr)
          obtain ⟨Qx, hQx⟩ : ∃ q, q = bs (quote Sx) := ⟨_, rfl⟩
          have HE := Lib.hid (show o2 ++ Qx ++ ⟨#[58]⟩ = o2 ++ bs (nmK true Sx) by
            rw [hQx, ByteArray.append_assoc, show (⟨#[58]⟩ : ByteArray) = bs [58] from rfl, bs_app]
            rfl)
          have hz1 : ¬ 9223372036854775807 < o2.size + Qx.size := by
            have h1 := HSZ2.out
            simp only [nmK, if_true, List.length_append] at h1
            rw [hQx, bs_size]
            omega
          have hz2 : ¬ 9223372036854775807 < o2.size + Qx.size + 1 := by
            have h1 := HSZ2.out
            simp only [nmK, if_true, List.length_append] at h1
            rw [hQx, bs_size]
            omega
          rw [← hQx] at CQ
          clear hSx hcl hqs hQx
          go_wp2_with fail
          refine calls_then CQ.out ?_
          rintro e w3 ⟨rfl, hb3⟩
          have HB3 := Lib.hid hb3
          clear hb3
          go_wp2_with fail
          go_meet
          exact ⟨by rw [← HSX.out]; exact congrArg Value.string HE.out, HB3.out⟩
      case rest =>
      obtain ⟨rfl, hb5⟩ := hcut
      have HB5 := Lib.hid (HBE.out.trans (hb5.mono HBE.out.size))
      have b4 : wc.cell? ⟨w.heap.size, 4, none⟩ = some (.slice (some ad) kn kc) := (HKU.out.below HB5.out HKU.out.lt).cell 4
      obtain ⟨o3, ho3⟩ : ∃ o3, o3 = o2 ++ bs (nmK m (ns.getD i [])) := ⟨_, rfl⟩
      have HO3 := Lib.hid (show o3 ++ bs (writeV Y) = bs (kidsB m ns ks (i + 1)) by
        rw [ho3, HO2.out, HO.out, HST.out, bs_app, bs_app, bs_app]
        simp only [List.append_assoc])
      obtain ⟨Wx, hWx⟩ : ∃ q, q = bs (writeV Y) := ⟨_, rfl⟩
      have hz : ¬ 9223372036854775807 < o3.size + Wx.size := by
        have h1 := HSZ2.out
        rw [ho3, hWx, ByteArray.size_append, bs_size, bs_size]
        omega
      have CW := Lib.hid (CV.out wc HB5.out)
      rw [← hWx] at HO3 CW
      rw [← ho3]
      clear hb5 ho3 hWx a0 a3 a4
      go_wp2_with (refine wpList_get_rd (r := (jvCells X).toList) (HCE.out _ HB5.out) rfl rfl rfl hu rfl jT_size3 ?_)
      refine calls_then CW.out ?_
      rintro e w6 ⟨rfl, hb6⟩
      have HB6 := Lib.hid (HB5.out.trans (hb6.mono HB5.out.size))
      clear hb6
      go_wp2_with fail
      go_roundw
      case rel => exact ⟨i + 1, HLT.out, congrArg Value.string HO3.out, by go_num, HB6.out⟩
      case measure => have := HLT.out; simp [intOf]; omega
    · obtain rfl : i = kn := by omega
      have hall : kidsB m ns ks i = itemsV m ns ks true := by
        rw [kidsB, HK.out, List.take_length]
        have h1 := HLN.out
        cases m with
        | true =>
          have h2 : ns.length = ks.length := h1
          rw [← h2, List.take_length]
        | false =>
          have h2 : ns = [] := h1
          rw [h2]
          simp
      rw [hall]
      have a0 : wr.cell? ⟨w.heap.size, 0, none⟩ = some (.int .i64 (kindV m)) := (HKU.out.below HBE.out HKU.out.lt).cell 0
      obtain ⟨I, hI⟩ : ∃ I, I = itemsV m ns ks true := ⟨_, rfl⟩
      have hz1 : ¬ 9223372036854775807 < 1 + (bs I).size := by rw [bs_size, hI]; have := HL.out; omega
      have hz2 : ¬ 9223372036854775807 < 1 + (bs I).size + 1 := by rw [bs_size, hI]; have := HL.out; omega
      rw [← hI]
      have HE := Lib.hid (fun (a b : UInt8) => show bs [a] ++ bs I ++ bs [b] = bs (a :: (I ++ [b])) by rw [bs_app, bs_app]; rfl)
      have HI := Lib.hid hI
      clear hall hI
      cases m with
      | true =>
        have hk5 : (kindV true == 5) = true := rfl
        go_wp2_with fail
        go_ret
        exact ⟨by rw [← HI.out]; exact congrArg (fun q => Ending.returned (Value.string q)) (HE.out 123 125), HB0.out.trans (HBE.out.mono HB0.out.size)⟩
      | false =>
        have hk5 : (kindV false == 5) = false := rfl
        go_wp2_with fail
        go_ret
        exact ⟨by rw [← HI.out]; exact congrArg (fun q => Ending.returned (Value.string q)) (HE.out 91 93), HB0.out.trans (HBE.out.mono HB0.out.size)⟩
set_option maxRecDepth 100000 in
set_option maxHeartbeats 4000000 in
theorem rwrite_any : ∀ j, RwP j := by
  refine JT.ind ?_
  intro k0 n0 t0 ns0 ks0 IH d v B w hr hl hj hB
  have hu := Try.underlying25
  obtain ⟨ns, ks, kv, e1, hn, _, hnr, hkn, _, hkv, hkr, hkids⟩ := hj.inv
  injection e1 with x1 x2 x3 x4 x5
  subst x1 x2 x3 x4 x5
  have hr0 := hr
  rw [rightV] at hr
  simp only [plainJ, Bool.and_eq_true, Bool.or_eq_true, Bool.not_eq_true', beq_iff_eq, decide_eq_true_eq, List.isEmpty_iff, bne_iff_ne] at hr
  obtain ⟨⟨⟨⟨⟨⟨⟨⟨⟨⟨⟨hvn, hvk⟩, hvns⟩, hvt⟩, hd⟩, hk0⟩, hlen⟩, hot⟩, _⟩, hint⟩, _⟩, hks⟩ := hr
  have hk6 : v.k = 0 ∨ v.k = 1 ∨ v.k = 2 ∨ v.k = 3 ∨ v.k = 4 ∨ v.k = 5 := by omega
  have hlist : ∀ m : Bool, v.k = kindV m → (if m then ns0.length = ks0.length else ns0 = []) → Calls Try.prog 11 #[.agg (jvCells v)] w fun x w' => x = .returned (.string (bs (writeV (.mk v.k v.n v.t ns0 ks0)))) ∧ Below w.heap.size w w' := by
    intro m hm hlm
    have hwv : writeV (.mk v.k v.n v.t ns0 ks0) = (if m then 123 else 91) :: (itemsV m ns0 ks0 true ++ [if m then 125 else 93]) := by
      rw [hm, writeV]
      cases m <;> rfl
    have hil : (itemsV m ns0 ks0 true).length ≤ 100000000 := by
      rw [hwv] at hl
      simp only [List.length_cons, List.length_append, List.length_nil] at hl
      omega
    rw [hwv]
    exact rw_kids m ns0 ks0 IH (d - 1) v hm kv B w hlm hnr hn hkn hkv hkr hkids ((rightsV_iff _ _).1 hks) hB hil
  obtain ⟨vk, vn, vt, nA, nn, nc, kA, kn, kc⟩ := v
  dsimp only at *
  obtain ⟨G, hG⟩ : ∃ G, G = w.heap.size := ⟨_, rfl⟩
  obtain ⟨W0, hW0⟩ : ∃ W0, W0 = w.alloc (.cells (jvCells ⟨vk, vn, vt, nA, nn, nc, kA, kn, kc⟩) 25) := ⟨_, rfl⟩
  have hb0 : Below w.heap.size w W0 := by rw [hW0]; exact (Below.refl _ w).alloc (Nat.le_refl _) _
  have HB0 := Lib.hid hb0
  have hkb : Blk W0 G 25 (jvCells ⟨vk, vn, vt, nA, nn, nc, kA, kn, kc⟩) := by rw [hW0, hG]; exact Blk.new _ _ _
  have a0 : W0.cell? ⟨G, 0, none⟩ = some (.int .i64 vk) := hkb.cell 0
  have a1 : W0.cell? ⟨G, 1, none⟩ = some (.int .i64 vn) := hkb.cell 1
  have a2 : W0.cell? ⟨G, 2, none⟩ = some (.string (bs vt)) := hkb.cell 2
  have HW0 := Lib.hid hW0
  have HLI := Lib.hid hlist
  have HINT := Lib.hid hint
  have HVN := Lib.hid hvn
  have HVNS := Lib.hid hvns
  have HVK := Lib.hid hvk
  have HLEN := Lib.hid hlen
  have HL := Lib.hid hl
  rw [hG] at a0 a1 a2
  clear hW0 hb0 hkb hG hj hnr hkr hkids hn hkn hkv hr0 hl hlist hint hvn hvk hvns hvt hd hot hks hlen hk0 IH hB
  rcases hk6 with hk | hk | hk | hk | hk | hk
  · subst hk
    clear HLI
    go_enter Try.func11, Try.ntmps11
    go_upto_region 1 with (fail)
    rw [← HW0.out]
    clear HW0
    generalize Value.agg (jvCells ⟨0, vn, vt, nA, nn, nc, kA, kn, kc⟩) = AV
    go_wp2_with fail
    go_ret
    exact ⟨by rw [writeV, if_pos rfl]; rfl, HB0.out⟩
  · subst hk
    clear HLI
    have hvn' : vn = 0 ∨ vn = 1 := by have := HVN.out; omega
    go_enter Try.func11, Try.ntmps11
    go_upto_region 1 with (fail)
    rw [← HW0.out]
    clear HW0
    generalize Value.agg (jvCells ⟨1, vn, vt, nA, nn, nc, kA, kn, kc⟩) = AV
    rcases hvn' with rfl | rfl
    · go_wp2_with fail
      go_ret
      exact ⟨by rw [writeV, if_neg (by decide), if_pos rfl]; rfl, HB0.out⟩
    · go_wp2_with fail
      go_ret
      exact ⟨by rw [writeV, if_neg (by decide), if_pos rfl]; rfl, HB0.out⟩
  · subst hk
    clear HLI
    have CD := Lib.hid (rdigits_any vn (by have := HINT.out; omega) (by have := HINT.out; omega) W0)
    go_enter Try.func11, Try.ntmps11
    go_upto_region 1 with (fail)
    rw [← HW0.out]
    clear HW0
    generalize Value.agg (jvCells ⟨2, vn, vt, nA, nn, nc, kA, kn, kc⟩) = AV
    go_wp2_with fail
    refine calls_then CD.out ?_
    rintro e w1 ⟨rfl, hb1⟩
    have HB1 := Lib.hid (HB0.out.trans (hb1.mono HB0.out.size))
    clear hb1
    go_wp2_with fail
    go_ret
    exact ⟨by rw [writeV, if_neg (by decide), if_neg (by decide), if_pos rfl]; rfl, HB1.out⟩
  · subst hk
    clear HLI
    have CQ := Lib.hid (rquote_any (bs vt) (by
      have h := HL.out
      rw [writeV, if_neg (by decide), if_neg (by decide), if_neg (by decide), if_pos rfl] at h
      have := quote_len vt
      rw [bs_size]
      omega) W0)
    go_enter Try.func11, Try.ntmps11
    go_upto_region 1 with (fail)
    rw [← HW0.out]
    clear HW0
    generalize Value.agg (jvCells ⟨3, vn, vt, nA, nn, nc, kA, kn, kc⟩) = AV
    go_wp2_with fail
    refine calls_then CQ.out ?_
    rintro e w1 ⟨rfl, hb1⟩
    have HB1 := Lib.hid (HB0.out.trans (hb1.mono HB0.out.size))
    clear hb1
    go_wp2_with fail
    go_ret
    exact ⟨by rw [writeV, if_neg (by decide), if_neg (by decide), if_neg (by decide), if_pos rfl]; rfl, HB1.out⟩
  · exact HLI.out false hk (by
      have h1 : ns0 = [] := by
        rcases HVNS.out with h | h
        · exact h
        · omega
      simpa using h1)
  · exact HLI.out true hk (by
      have h1 : ns0.length = ks0.length := by
        rcases HLEN.out with h | h
        · exact absurd hk h
        · exact h
      simpa using h1)
end Go.Proofs.Ytcfbnjaelniahaa.Js
/-
  Walk: the reference's Is.
-/
namespace Go.Proofs.Ytcfbnjaelniahaa.Js
set_option linter.unusedSimpArgs false
set_option linter.unusedVariables false
open Go.RowKit

mutual
/-- texts are short -/
def shortJ : JT → Bool
  | .mk _ _ t ns ks => decide (t.length ≤ 1000) && ns.all (fun s => decide (s.length ≤ 1000)) && shortsJ ks
def shortsJ : List JT → Bool
  | [] => true
  | k :: r => shortJ k && shortsJ r
end
theorem shortsJ_iff : ∀ ks : List JT, shortsJ ks = true ↔ ∀ k ∈ ks, shortJ k = true
  | [] => by simp [shortsJ]
  | k :: r => by simp [shortsJ, shortsJ_iff r]
theorem cutJ_short : ∀ (d : Nat) (j : JT), shortJ (cutJ d j) = true
  | 0, .mk k n t ns ks => by
    simp only [cutJ, shortJ, shortsJ, Bool.and_eq_true, decide_eq_true_eq, List.all_eq_true]
    refine ⟨⟨by simp; omega, fun s hs => ?_⟩, trivial⟩
    obtain ⟨y, _, rfl⟩ := List.mem_map.1 hs
    simp
    omega
  | d + 1, .mk k n t ns ks => by
    have h : shortsJ ((ks.take 5).map (cutJ d)) = true := (shortsJ_iff _).2 fun x hx => by
      obtain ⟨y, _, rfl⟩ := List.mem_map.1 hx
      exact cutJ_short d y
    simp only [cutJ, shortJ, h, Bool.and_eq_true, decide_eq_true_eq, List.all_eq_true]
    refine ⟨⟨by simp; omega, fun s hs => ?_⟩, trivial⟩
    obtain ⟨y, _, rfl⟩ := List.mem_map.1 hs
    simp
    omega
theorem isVs_take {d : Nat} {ks : List JT} {i : Nat} (h : i < ks.length) : isVs d (ks.take (i + 1)) = (isVs d (ks.take i) && isV d ks[i]) := by
  rw [List.take_succ_eq_append_getElem h]
  have key : ∀ (l : List JT) (x : JT), isVs d (l ++ [x]) = (isVs d l && isV d x) := by
    intro l x
    induction l with
    | nil => simp [isVs]
    | cons a r ih => rw [List.cons_append, isVs, isVs, ih, Bool.and_assoc]
  exact key _ _
theorem isVs_bad {d : Nat} {ks : List JT} {i : Nat} (h : isVs d (ks.take i) = false) : isVs d ks = false := by
  have key : ∀ (l r : List JT), isVs d (l ++ r) = (isVs d l && isVs d r) := by
    intro l r
    induction l with
    | nil => simp [isVs]
    | cons a q ih => rw [List.cons_append, isVs, isVs, ih, Bool.and_assoc]
  have e := key (ks.take i) (ks.drop i)
  rw [List.take_append_drop, h] at e
  exact e
/-- what is so far said of the names -/
def nmsB (ns : List Bs) (i : Nat) : Bool := (ns.take i).all okT && distinct (ns.take i)
theorem distinct_app {l : List Bs} {x : Bs} : distinct (l ++ [x]) = (distinct l && l.all (· != x)) := by
  induction l with
  | nil => simp [distinct]
  | cons a r ih =>
    rw [List.cons_append, distinct, distinct, ih]
    have e : (r ++ [x]).contains a = (r.contains a || (x == a)) := by
      rw [Bool.eq_iff_iff, Bool.or_eq_true, List.contains_iff_mem, List.contains_iff_mem, List.mem_append, List.mem_singleton, beq_iff_eq]
      exact ⟨fun h => h.imp id Eq.symm, fun h => h.imp id Eq.symm⟩
    rw [e]
    have e2 : (a != x) = !(x == a) := by
      rw [bne, Bool.beq_comm]
    rw [List.all_cons, e2]
    cases r.contains a <;> cases (x == a) <;> cases distinct r <;> simp
theorem nmsB_step {ns : List Bs} {i : Nat} (h : i < ns.length) : nmsB ns (i + 1) = (nmsB ns i && okT ns[i] && (ns.take i).all (· != ns[i])) := by
  unfold nmsB
  rw [List.take_succ_eq_append_getElem h, List.all_append, distinct_app]
  simp only [List.all_cons, List.all_nil, Bool.and_true]
  cases (ns.take i).all okT <;> cases distinct (ns.take i) <;> cases okT ns[i] <;> simp
/-- what Is does -/
def IsP (j : JT) : Prop := ∀ (d : Nat) (v : JV) (B : Nat) (w : World), (d : Int) ≤ 1000 → smallJ j = true → shortJ j = true → JRep w (fun b => b < B) j v → B ≤ w.heap.size →
  Calls Try.prog 9 #[.agg (jvCells v), .int .i64 (d : Int)] w fun x w' => x = .returned (.bool (isV d j)) ∧ Below w.heap.size w w'
/-- what is asked ahead of the texts, question by question -/
structure IsQ (d : Nat) (k n : Int) (t : Bs) (ns : List Bs) (ks : List JT) (V : Bool) : Prop where
  q1 : (k < 0 ∨ 5 < k ∨ (d = 0 ∧ 3 < k)) → V = false
  q2 : ¬ (k < 0 ∨ 5 < k ∨ (d = 0 ∧ 3 < k)) → k ≠ 3 ∧ t ≠ [] → V = false
  q3 : ¬ (k < 0 ∨ 5 < k ∨ (d = 0 ∧ 3 < k)) → ¬ (k ≠ 3 ∧ t ≠ []) → k ≠ 5 ∧ ns ≠ [] → V = false
  q4 : ¬ (k < 0 ∨ 5 < k ∨ (d = 0 ∧ 3 < k)) → ¬ (k ≠ 3 ∧ t ≠ []) → ¬ (k ≠ 5 ∧ ns ≠ []) → k ≠ 5 ∧ k ≠ 4 ∧ ks ≠ [] → V = false
  q5 : ¬ (k ≠ 3 ∧ t ≠ []) → ¬ (k ≠ 5 ∧ ns ≠ []) → ¬ (k ≠ 5 ∧ k ≠ 4 ∧ ks ≠ []) → k = 2 → V = (decide (-1000000000000000 ≤ n) && decide (n ≤ 1000000000000000))
  q6 : ¬ (k ≠ 3 ∧ t ≠ []) → ¬ (k ≠ 5 ∧ ns ≠ []) → ¬ (k ≠ 5 ∧ k ≠ 4 ∧ ks ≠ []) → k = 1 → V = (n == 0 || n == 1)
  q7 : ¬ (k < 0 ∨ 5 < k ∨ (d = 0 ∧ 3 < k)) → ¬ (k ≠ 3 ∧ t ≠ []) → ¬ (k ≠ 5 ∧ ns ≠ []) → ¬ (k ≠ 5 ∧ k ≠ 4 ∧ ks ≠ []) → k ≠ 2 → k ≠ 1 → n ≠ 0 ∨ (k = 5 ∧ ns.length ≠ ks.length) → V = false
  q8 : ¬ (k < 0 ∨ 5 < k ∨ (d = 0 ∧ 3 < k)) → ¬ (k ≠ 3 ∧ t ≠ []) → ¬ (k ≠ 5 ∧ ns ≠ []) → ¬ (k ≠ 5 ∧ k ≠ 4 ∧ ks ≠ []) → k ≠ 2 → k ≠ 1 → ¬ (n ≠ 0 ∨ (k = 5 ∧ ns.length ≠ ks.length)) → V = (okT t && nmsB ns ns.length && isVs (d - 1) ks)
theorem isQ (d : Nat) (k n : Int) (t : Bs) (ns : List Bs) (ks : List JT) : IsQ d k n t ns ks (isV d (.mk k n t ns ks)) := by
  refine ⟨fun h => by rw [isV, if_pos h], fun h1 h => by rw [isV, if_neg h1, if_pos h], fun h1 h2 h => by rw [isV, if_neg h1, if_neg h2, if_pos h], fun h1 h2 h3 h => by rw [isV, if_neg h1, if_neg h2, if_neg h3, if_pos h],
    fun h2 h3 h4 h => ?_, fun h2 h3 h4 h => ?_, fun h1 h2 h3 h4 h5 h6 h => by rw [isV, if_neg h1, if_neg h2, if_neg h3, if_neg h4, if_neg h5, if_neg h6, if_pos h],
    fun h1 h2 h3 h4 h5 h6 h => by rw [isV, if_neg h1, if_neg h2, if_neg h3, if_neg h4, if_neg h5, if_neg h6, if_neg h, nmsB, List.take_length]⟩
  · rw [isV, if_neg (by omega), if_neg h2, if_neg h3, if_neg h4, if_pos h]
  · rw [isV, if_neg (by omega), if_neg h2, if_neg h3, if_neg h4, if_neg (by omega), if_pos h]
end Go.Proofs.Ytcfbnjaelniahaa.Js
