/-
  PROVED: 'brevetlaw08.JsonRound': at every input the law returns true; what came in reads as before.
-/
import Derived.Deep.CutBlock
import Derived.ChangeMaps5
import Derived.Test.YtcfbnjaelniahaaR3
import Derived.Test.YtcfbnjaelniahaaR2
import Derived.Test.YtcfbnjaelniahaaR1
/-
  Walk: the reference's Cut.
-/
namespace Go.Proofs.Ytcfbnjaelniahaa.Js
set_option linter.unusedSimpArgs false
set_option linter.unusedVariables false
open Go.RowKit

theorem bs_take (t : Bs) : (bs t).extract 0 50 = bs (t.take 50) := by
  apply ByteArray.ext
  simp [bs, ByteArray.data_extract]
/-- what Cut does, so deep -/
def CutP (d : Nat) : Prop := ∀ (j : JT) (v : JV) (B : Nat) (w : World), JRep w (fun b => b < B) j v → FitJ j → B ≤ w.heap.size →
  Calls Try.prog 7 #[.agg (jvCells v), .int .i64 (d : Int)] w fun x w' => ∃ v' : JV, x = .returned (.agg (jvCells v')) ∧ Below w.heap.size w w' ∧ JRep w' (fun b => w.heap.size ≤ b) (cutJ d j) v'
/-- so many kids of it -/
def cutK (d : Nat) (ks : List JT) (n : Nat) : List JT := if d = 0 then [] else (ks.take n).map (cutJ (d - 1))
theorem cutJ_eq (d : Nat) (k n : Int) (t : Bs) (ns : List Bs) (ks : List JT) : cutJ d (.mk k n t ns ks) = .mk k n (t.take 50) ((ns.take 5).map (·.take 50)) (cutK d ks 5) := by
  cases d <;> rfl
set_option maxRecDepth 100000 in
set_option maxHeartbeats 4000000 in
theorem cut_step (d : Nat) (hd9 : (d : Int) ≤ 100) (IH : ∀ d', d = d' + 1 → CutP d') : CutP d := by
  intro j v B w hj hfit hB
  have hu := Try.underlying25
  obtain ⟨ns, ks, kv, rfl, hn, hnc, hnr, hkn, hkc, hkv, hkr, hkids⟩ := hj.inv
  obtain ⟨vk, vn, vt, nA, nn, nc, kA, kn, kc⟩ := v
  dsimp only at *
  cases hfit with
  | mk _ _ _ _ _ hik hin hit hins hiks hint hifk =>
  obtain ⟨G, hG⟩ : ∃ G, G = w.heap.size := ⟨_, rfl⟩
  obtain ⟨W1, hW1⟩ : ∃ W1, W1 = ((w.alloc (.cells (jvCells ⟨vk, vn, vt, nA, nn, nc, kA, kn, kc⟩) 25)).alloc (.cells (jvCells zJV) 25)).alloc (.cells (jvCells ⟨vk, vn, vt, none, 0, 0, none, 0, 0⟩) 25) := ⟨_, rfl⟩
  have hb1 : Below w.heap.size w W1 := by rw [hW1]; exact (((Below.refl _ w).alloc (Nat.le_refl _) _).alloc (by simp) _).alloc (by simp; omega) _
  have HC := Lib.hid (show Cs w G ⟨vk, vn, vt, nA, nn, nc, kA, kn, kc⟩ ⟨vk, vn, vt, none, 0, 0, none, 0, 0⟩ none 0 [] none 0 [] W1 from by
    refine ⟨hG.symm, by rw [hG]; exact hb1, ?_, ?_, ?_, OwnR.nil _ _ _ _, [], rfl, OwnR.nil _ _ _ _, fun i hi _ => by simp at hi⟩
    · rw [hW1, hG]
      exact ((Blk.new _ _ _).alloc _).alloc _
    · have := (Blk.new (w.alloc (.cells (jvCells ⟨vk, vn, vt, nA, nn, nc, kA, kn, kc⟩) 25)) 25 (jvCells zJV)).alloc (.cells (jvCells ⟨vk, vn, vt, none, 0, 0, none, 0, 0⟩) 25)
      rw [hW1, hG]
      simpa using this
    · have := Blk.new ((w.alloc (.cells (jvCells ⟨vk, vn, vt, nA, nn, nc, kA, kn, kc⟩) 25)).alloc (.cells (jvCells zJV) 25)) 25 (jvCells ⟨vk, vn, vt, none, 0, 0, none, 0, 0⟩)
      rw [hW1, hG]
      simpa [Nat.add_assoc] using this)
  have HW1 := Lib.hid hW1
  have HN := Lib.hid hn
  have HK := Lib.hid hkn
  have HKV := Lib.hid hkv
  have HNR := Lib.hid (show Rd w B nA (rowsV sCell ns) from hnr.rd (fun _ _ h => h))
  have HKR := Lib.hid (show Rd w B kA (rowsV jvCells kv) from hkr.rd (fun _ _ h => h))
  have HKI := Lib.hid hkids
  have HIF := Lib.hid hifk
  have HIH := Lib.hid IH
  have HBB := Lib.hid hB
  have htl : (vt.length : Int) ≤ 9223372036854775807 := by unfold maxLen at hit; omega
  have hnl : (nn : Int) ≤ 9223372036854775807 := by unfold maxLen at hins; omega
  have hkl : (kn : Int) ≤ 9223372036854775807 := by unfold maxLen at hiks; omega
  have HNT := Lib.hid hint
  have hsz : ((bs vt).size : Int) = (vt.length : Int) := by rw [bs_size]
  have HSZ := Lib.hid hsz
  obtain ⟨W0, hW0⟩ : ∃ W0, W0 = (w.alloc (.cells (jvCells ⟨vk, vn, vt, nA, nn, nc, kA, kn, kc⟩) 25)).alloc (.cells (jvCells zJV) 25) := ⟨_, rfl⟩
  have hk0 : Blk W0 G 25 (jvCells ⟨vk, vn, vt, nA, nn, nc, kA, kn, kc⟩) := by rw [hW0, hG]; exact (Blk.new _ _ _).alloc _
  have a0 : W0.cell? ⟨G, 0, none⟩ = some (.int .i64 vk) := hk0.cell 0
  have a1 : W0.cell? ⟨G, 1, none⟩ = some (.int .i64 vn) := hk0.cell 1
  have a2 : W0.cell? ⟨G, 2, none⟩ = some (.string (bs vt)) := hk0.cell 2
  have HW0 := Lib.hid hW0
  have HWS := Lib.hid (show W0.heap.size = G + 2 by rw [hW0, hG]; simp)
  have HW01 := Lib.hid (show W1 = W0.alloc (.cells (jvCells ⟨vk, vn, vt, none, 0, 0, none, 0, 0⟩) 25) by rw [hW1, hW0])
  clear hW1 hb1 hj hnr hkr hkids hn hnc hkn hkc hkv hB hik hin hit hins hiks hint hifk IH hsz hW0 hk0
  rw [hG] at *
  clear hG
  go_enter Try.func7, Try.ntmps7
  go_upto_region 1 with (fail)
  rw [show ((w.alloc (.cells (jvCells ⟨vk, vn, vt, nA, nn, nc, kA, kn, kc⟩) 25)).alloc (.cells #[.int .i64 0, .int .i64 0, .string ⟨#[]⟩, .slice none 0 0, .slice none 0 0] 25)) = W0 from HW0.out.symm]
  generalize Value.agg (jvCells ⟨vk, vn, vt, nA, nn, nc, kA, kn, kc⟩) = AV
  have hws := HWS.out
  go_upto_region 2 with (fail)
  rw [show W0.alloc (.cells #[.int .i64 vk, .int .i64 vn, .string (bs vt), .slice none 0 0, .slice none 0 0] 25) = W1 from HW01.out.symm]
  clear hws a0 a1 a2 HW01 HW0 HW1
  have a2 : W1.cell? ⟨w.heap.size + 2, 2, none⟩ = some (.string (bs vt)) := HC.out.tree.cell 2
  have hsz := HSZ.out
  go_upto_if 19 with (fail)
  go_cut [] (fun wx => Cs w w.heap.size ⟨vk, vn, vt, nA, nn, nc, kA, kn, kc⟩ ⟨vk, vn, vt.take 50, none, 0, 0, none, 0, 0⟩ none 0 [] none 0 [] wx)
  case first =>
    by_cases hl : 50 < vt.length
    · have hl' : (50 : Int) < ((bs vt).size : Int) := by omega
      go_wp2_with (refine wpList_put_cell (x := .tmp 23) (i := 2) HC.out.tree rfl rfl rfl rfl (by kernel_rfl) (by simp [jvCells]) rfl ?_; intro w5 hb5 hw5)
      go_meet
      exact HC.out.put hw5 (by show Blk w5 _ _ #[.int .i64 vk, .int .i64 vn, .string (bs (vt.take 50)), .slice none 0 0, .slice none 0 0]; rw [← bs_take]; exact hb5)
    · have hl' : ¬ (50 : Int) < ((bs vt).size : Int) := by omega
      have HT := Lib.hid (show vt.take 50 = vt from List.take_of_length_le (by omega))
      go_wp2_with fail
      go_meet
      rw [HT.out]
      exact HC.out
  case rest =>
  have HC1 := Lib.hid hcut
  clear hcut a2 hsz
  have hlow : ∀ u, Below w.heap.size w u → True := fun _ _ => trivial
  clear hlow
  obtain ⟨mn, hmn⟩ : ∃ mn, mn = min nn 5 := ⟨_, rfl⟩
  have HMN := Lib.hid hmn
  clear hmn
  go_upto_block 0 with fail
  go_cut [6, 7] (fun _ _ wx => ∃ (A1 : Option Addr) (c1 : Nat), Cs w w.heap.size ⟨vk, vn, vt, nA, nn, nc, kA, kn, kc⟩ ⟨vk, vn, vt.take 50, A1, ((ns.take 5).map (·.take 50)).length, c1, none, 0, 0⟩ A1 c1 ((ns.take 5).map (·.take 50)) none 0 [] wx)
  case first =>
    go_wp2_with fail
    go_loopw [6, 7] (fun x _ wr => ∃ (i : Nat) (A1 : Option Addr) (c1 : Nat), i ≤ mn ∧ x = .int .i64 (i : Int) ∧
      Cs w w.heap.size ⟨vk, vn, vt, nA, nn, nc, kA, kn, kc⟩ ⟨vk, vn, vt.take 50, A1, ((ns.take i).map (·.take 50)).length, c1, none, 0, 0⟩ A1 c1 ((ns.take i).map (·.take 50)) none 0 [] wr) (fun x _ _ => mn - (intOf x).toNat)
    case atStart => exact ⟨0, none, 0, Nat.zero_le _, rfl, HC1.out⟩
    case round =>
      obtain ⟨i, A1, c1, hi, rfl, hcs⟩ := hrel
      have HCS := Lib.hid hcs
      clear hcs
      have a3 : wr.cell? ⟨w.heap.size, 3, none⟩ = some (.slice nA nn nc) := HCS.out.vbox.cell 3
      by_cases hlt : i < mn
      · have HLT := Lib.hid hlt
        have h1 : (i : Int) < (nn : Int) := by have := HMN.out; omega
        have h2 : (i : Int) < 5 := by have := HMN.out; omega
        have hil : i < ns.length := by rw [← HN.out]; omega
        obtain ⟨ad, hA, hadb, hcell⟩ := rd_rows (f := sCell) (m := 1) (fun _ => rfl) (by decide) HNR.out hil
        subst hA
        obtain ⟨X, hX⟩ : ∃ X, X = ns[i] := ⟨_, rfl⟩
        rw [← hX] at hcell
        have c1' : wr.cell? (ad.add i) = some (.string (bs X)) := by
          rw [(HCS.out.low.mono HBB.out).cell (p := ad.add i) (by rw [block_of_add]; exact hadb)]
          have h := hcell 0 _ rfl
          rw [Nat.mul_one] at h
          exact h
        have HXS := Lib.hid (show (ns.take (i + 1)).map (·.take 50) = (ns.take i).map (·.take 50) ++ [X.take 50] by rw [List.take_succ_eq_append_getElem hil, List.map_append, hX]; rfl)
        have HXL := Lib.hid (show ((bs X).size : Int) = (X.length : Int) by rw [bs_size])
        have hxm : ((bs X).size : Int) ≤ 9223372036854775807 := by rw [bs_size, hX]; have := HNT.out _ (List.getElem_mem hil); unfold maxLen at this; omega
        obtain ⟨N, hN⟩ : ∃ N, N = (ns.take i).map (·.take 50) := ⟨_, rfl⟩
        have HNL := Lib.hid (show N.length ≤ 5 by rw [hN]; simp; have := HMN.out; omega)
        rw [← hN] at HCS HXS
        clear hX hcell hil hlt hadb hN
        have hxl := HXL.out
        go_upto_if 42 with (fail)
        go_cut [7] (fun s wx => s = .string (bs (X.take 50)) ∧ wx = wr)
        case first =>
          by_cases hl : 50 < X.length
          · have hl' : (50 : Int) < ((bs X).size : Int) := by omega
            go_wp2_with fail
            go_meet
            exact ⟨by rw [← bs_take], rfl⟩
          · have hl' : ¬ (50 : Int) < ((bs X).size : Int) := by omega
            have HT := Lib.hid (show X.take 50 = X from List.take_of_length_le (by omega))
            go_wp2_with fail
            go_meet
            exact ⟨by rw [HT.out], rfl⟩
        case rest =>
        obtain ⟨rfl, rfl⟩ := hcut
        have b3 : wc.cell? ⟨w.heap.size + 2, 3, none⟩ = some (.slice A1 N.length c1) := HCS.out.tree.cell 3
        have hNL : (N.length : Int) ≤ 5 := by have := HNL.out; omega
        clear a3 c1' hxl h1
        go_upto_region 6 with (first
          | (refine wpList_append_r1 (ys := [.string (bs (X.take 50))]) sl_strz rfl rfl HCS.out.names rfl rfl rfl rfl (by simp [Value.oneCell']) (by unfold maxLen; omega) (by omega) HCS.out.size ?_; intro A5 c5 w5 hown5 hgr5 hn5; have HC5 := Lib.hid (HCS.out.name hown5 hgr5 hn5))
          | (refine wpList_put_cell (x := .tmp 50) (i := 3) HC5.out.tree rfl rfl rfl rfl (by kernel_rfl) (by simp [jvCells]) rfl ?_; intro w6 hb6 hw6))
        have HC6 := Lib.hid (HC5.out.put (T' := ⟨vk, vn, vt.take 50, A5, (N ++ [X.take 50]).length, c5, none, 0, 0⟩) hw6 (by rw [List.length_append]; exact hb6))
        clear hown5 hgr5 hn5 hb6 hw6 b3
        go_wp2_with fail
        go_roundw
        case rel => exact ⟨i + 1, A5, c5, HLT.out, by go_num, by rw [HXS.out]; exact HC6.out⟩
        case measure => have := HLT.out; simp [intOf]; omega
      · obtain rfl : i = mn := by omega
        have hor : ¬ ((i : Int) < (nn : Int)) ∨ ((i : Int) < (nn : Int) ∧ ¬ (i : Int) < 5) := by have := HMN.out; omega
        have HNS := Lib.hid (show (ns.take i).map (·.take 50) = (ns.take 5).map (·.take 50) by
          have h1 := HMN.out
          have h2 := HN.out
          by_cases h5 : nn ≤ 5
          · have e1 : i = ns.length := by omega
            rw [e1, List.take_of_length_le (Nat.le_refl _), List.take_of_length_le (by omega)]
          · have e1 : i = 5 := by omega
            rw [e1])
        rw [HNS.out] at HCS
        obtain ⟨N, hN⟩ : ∃ N, N = (ns.take 5).map (·.take 50) := ⟨_, rfl⟩
        rw [← hN] at HCS
        have HNE := Lib.hid hN
        clear hN
        rcases hor with hor | ⟨hor, hor2⟩
        · go_wp2_with fail
          go_meet
          exact ⟨A1, c1, by rw [← HNE.out]; exact HCS.out⟩
        · go_wp2_with fail
          go_meet
          exact ⟨A1, c1, by rw [← HNE.out]; exact HCS.out⟩
  case rest =>
  obtain ⟨A1, c1, hcs⟩ := hcut
  have HCS := Lib.hid hcs
  clear hcs
  obtain ⟨N, hN⟩ : ∃ N, N = (ns.take 5).map (·.take 50) := ⟨_, rfl⟩
  rw [← hN] at HCS
  have HNE := Lib.hid hN
  obtain ⟨T, hT⟩ : ∃ T, T = vt.take 50 := ⟨_, rfl⟩
  rw [← hT] at HCS
  have HTE := Lib.hid hT
  clear hN hT htl hnl
  obtain ⟨mk, hmk⟩ : ∃ mk, mk = if d = 0 then 0 else min kn 5 := ⟨_, rfl⟩
  have HMK := Lib.hid hmk
  have HMK5 := Lib.hid (show mk ≤ 5 by rw [hmk]; split <;> omega)
  clear hmk
  go_wp2_with fail
  go_loopw [8] (fun x wr => ∃ (i : Nat) (A2 : Option Addr) (c2 : Nat), i ≤ mk ∧ x = .int .i64 (i : Int) ∧
    Cs w w.heap.size ⟨vk, vn, vt, nA, nn, nc, kA, kn, kc⟩ ⟨vk, vn, T, A1, N.length, c1, A2, (cutK d ks i).length, c2⟩ A1 c1 N A2 c2 (cutK d ks i) wr) (fun x _ => mk - (intOf x).toNat)
  case atStart => exact ⟨0, none, 0, Nat.zero_le _, rfl, by rw [show cutK d ks 0 = [] by unfold cutK; split <;> simp]; exact HCS.out⟩
  case round =>
    obtain ⟨i, A2, c2, hi, rfl, hcs⟩ := hrel
    have HCS := Lib.hid hcs
    clear hcs
    have a4 : wr.cell? ⟨w.heap.size, 4, none⟩ = some (.slice kA kn kc) := HCS.out.vbox.cell 4
    by_cases hlt : i < mk
    · have HLT := Lib.hid hlt
      have hd0 : d ≠ 0 := fun h => by have := HMK.out; rw [if_pos h] at this; omega
      have hmk : mk = min kn 5 := by have := HMK.out; rw [if_neg hd0] at this; exact this
      have h1 : (i : Int) < (kn : Int) := by omega
      have h2 : (i : Int) < 5 := by omega
      have h3 : (0 : Int) < (d : Int) := by omega
      have h3n : 0 < d := by omega
      obtain ⟨d', hd'⟩ : ∃ d', d = d' + 1 := ⟨d - 1, by omega⟩
      have hdi : (d : Int) - 1 = (d' : Int) := by omega
      have hil : i < ks.length := by rw [← HK.out]; omega
      have HPD := Lib.hid (HIH.out d' hd')
      have HKS := Lib.hid (show cutK d ks (i + 1) = cutK d ks i ++ [cutJ d' ks[i]] by
        unfold cutK
        rw [if_neg hd0, if_neg hd0, List.take_succ_eq_append_getElem hil, List.map_append, show d - 1 = d' by omega]
        rfl)
      have HKL := Lib.hid (show (cutK d ks i).length ≤ 5 by unfold cutK; rw [if_neg hd0]; simp; omega)
      obtain ⟨ad, hA, hadb, hcell⟩ := rd_rows (f := jvCells) (m := 5) (fun _ => rfl) (by decide) HKR.out (show i < kv.length by rw [HKV.out]; exact hil)
      subst hA
      obtain ⟨X, hX⟩ : ∃ X, X = kv[i]'(by rw [HKV.out]; exact hil) := ⟨_, rfl⟩
      obtain ⟨Y, hY⟩ : ∃ Y, Y = ks[i] := ⟨_, rfl⟩
      rw [← hX] at hcell
      rw [← hY] at HKS
      have HRX := Lib.hid (show JRep w (fun b => b < B) Y X by rw [hX, hY]; exact HKI.out i hil (by rw [HKV.out]; exact hil))
      have HFX := Lib.hid (show FitJ Y by rw [hY]; exact HIF.out _ (List.getElem_mem hil))
      have HCE := Lib.hid (show ∀ u, Below w.heap.size w u → ∀ j x, (jvCells X).toList[j]? = some x → u.cell? ((ad.add (i * 5)).add j) = some x from fun u hu j x hx => by
        rw [(hu.mono HBB.out).cell (p := (ad.add (i * 5)).add j) (by rw [block_of_add, block_of_add]; exact hadb)]
        exact hcell j x (by simpa using hx))
      obtain ⟨K, hK⟩ : ∃ K, K = cutK d ks i := ⟨_, rfl⟩
      rw [← hK] at HCS HKS HKL
      have CV := Lib.hid (fun (u : World) (h : Cs w w.heap.size ⟨vk, vn, vt, nA, nn, nc, some ad, kn, kc⟩ ⟨vk, vn, T, A1, N.length, c1, A2, K.length, c2⟩ A1 c1 N A2 c2 K u) =>
        show Calls Try.prog 7 #[.agg (jvCells X), .int .i64 (d' : Int)] u fun x w' => ∃ v : JV, x = .returned (.agg (jvCells v)) ∧
          Cs w w.heap.size ⟨vk, vn, vt, nA, nn, nc, some ad, kn, kc⟩ ⟨vk, vn, T, A1, N.length, c1, A2, K.length, c2⟩ A1 c1 N A2 c2 K w' ∧ JRep w' (KS w.heap.size (.slice A1 N.length c1) (.slice A2 K.length c2)) (cutJ d' Y) v ∧ Below u.heap.size u w' from by
            refine (HPD.out Y X B u (HRX.out.under (h.low.mono HBB.out)) HFX.out (Nat.le_trans HBB.out h.low.size)).mono ?_
            rintro x w' ⟨v, rfl, hb, hj⟩
            exact ⟨v, rfl, h.new hb, h.fresh hj, hb⟩)
      have HMKI := Lib.hid hmk
      have hkl5 : (K.length : Int) ≤ 5 := by have := HKL.out; omega
      clear hX hY hcell hil hlt hadb hK hmk hd0 hd'
      go_wp2_with fail
      have HI0 : wr.drew.cell? ⟨w.heap.size + 2, 4, none⟩ = some (.slice A2 K.length c2) ∧ wr.drew.cell? ⟨w.heap.size, 4, none⟩ = some (.slice (some ad) kn kc) ∧ Below w.heap.size w wr.drew := ⟨HCS.out.tree.cell 4, HCS.out.vbox.cell 4, HCS.out.low.drew⟩
      have HJ0 : Cs w w.heap.size ⟨vk, vn, vt, nA, nn, nc, some ad, kn, kc⟩ ⟨vk, vn, T, A1, N.length, c1, A2, K.length, c2⟩ A1 c1 N A2 c2 K wr.drew := HCS.out.drew
      clear a4
      refine wp_region_list (fun _ => True) (fun | false => (fun u => u.cell? ⟨w.heap.size + 2, 4, none⟩ = some (.slice A2 K.length c2) ∧ u.cell? ⟨w.heap.size, 4, none⟩ = some (.slice (some ad) kn kc) ∧ Below w.heap.size w u) | true => (fun u => Cs w w.heap.size ⟨vk, vn, vt, nA, nn, nc, some ad, kn, kc⟩ ⟨vk, vn, T, A1, N.length, c1, A2, K.length, c2⟩ A1 c1 N A2 c2 K u)) (fun | false, i => i == 13 | true, i => i == 9 || i == 10 || i == 11 || i == 13)
        [fun z _ => z 0 = .pointer (some ⟨w.heap.size + 2, 4, none⟩),
         fun z _ => z 1 = .slice A2 K.length c2,
         fun z _ => z 2 = .pointer (some ⟨w.heap.size, 4, none⟩),
         fun z _ => z 3 = .slice (some ad) kn kc,
         fun z _ => z 4 = .int .i64 (i : Int),
         fun z _ => z 5 = .pointer (some (ad.add (i * 5))),
         fun z _ => z 6 = .agg (jvCells X),
         fun z _ => z 7 = .int .i64 (d : Int),
         fun z _ => z 8 = .int .i64 (d' : Int),
         fun z u => ∃ v : JV, z 9 = .agg (jvCells v) ∧ Cs w w.heap.size ⟨vk, vn, vt, nA, nn, nc, some ad, kn, kc⟩ ⟨vk, vn, T, A1, N.length, c1, A2, K.length, c2⟩ A1 c1 N A2 c2 K u ∧ JRep u (KS w.heap.size (.slice A1 N.length c1) (.slice A2 K.length c2)) (cutJ d' Y) v,
         fun z u => ∃ (v : JV) (g : Nat), z 10 = .slice (some ⟨g, 0, none⟩) 1 1 ∧ Blk u g 25 (jvCells v) ∧ Cs w w.heap.size ⟨vk, vn, vt, nA, nn, nc, some ad, kn, kc⟩ ⟨vk, vn, T, A1, N.length, c1, A2, K.length, c2⟩ A1 c1 N A2 c2 K u ∧ JRep u (KS w.heap.size (.slice A1 N.length c1) (.slice A2 K.length c2)) (cutJ d' Y) v,
         fun z u => ∃ (A' : Option Addr) (c' : Nat), z 11 = .slice A' (K.length + 1) c' ∧ Cs w w.heap.size ⟨vk, vn, vt, nA, nn, nc, some ad, kn, kc⟩ ⟨vk, vn, T, A1, N.length, c1, A2, K.length, c2⟩ A1 c1 N A' c' (K ++ [cutJ d' Y]) u,
         fun z _ => z 12 = .pointer (some ⟨w.heap.size + 2, 4, none⟩),
         fun z u => ∃ (A' : Option Addr) (c' : Nat), Cs w w.heap.size ⟨vk, vn, vt, nA, nn, nc, some ad, kn, kc⟩ ⟨vk, vn, T, A1, N.length, c1, A', (K ++ [cutJ d' Y]).length, c'⟩ A1 c1 N A' c' (K ++ [cutJ d' Y]) u]
        [Eq, Eq, Eq, Eq, Eq, Eq, Eq, Eq, Eq, fun u u' => Below u.heap.size u u', fun u u' => Below u.heap.size u u', fun u u' => ∃ g : Option Nat, u.grownBy u' g ∧ ∀ k, g = some k → w.heap.size + 3 ≤ k, Eq, fun _ _ => True]
        (fun i k => (i == 10 && k == 9) || (i == 11 && k == 9) || (i == 11 && k == 10) || (i == 13 && k == 9) || (i == 13 && k == 10) || (i == 13 && k == 11)) [(0, some 66), (1, some 67), (2, some 68), (3, some 69), (4, some 70), (5, some 71), (6, some 72), (7, some 73), (8, some 74), (9, some 75), (10, some 76), (11, some 77), (12, some 78), (13, none)] (by kernel_rfl) (by kernel_rfl) rfl (fun _ => rfl) ?_ ?_ ?_ ?_ ?_ ?_
      · exact (by first | trivial | assumption)
      · intro m; cases m; exact HI0; exact HJ0
      · intro m; cases m
        · exact ⟨.inr (fun _ _ h h0 => h ▸ h0), .inr (fun _ _ h h0 => h ▸ h0), .inr (fun _ _ h h0 => h ▸ h0), .inr (fun _ _ h h0 => h ▸ h0), .inr (fun _ _ h h0 => h ▸ h0), .inr (fun _ _ h h0 => h ▸ h0), .inr (fun _ _ h h0 => h ▸ h0), .inr (fun _ _ h h0 => h ▸ h0), .inr (fun _ _ h h0 => h ▸ h0), .inr (fun _ _ h h0 => ⟨(grown_of_below h none).cell h0.1 (by simp), (grown_of_below h none).cell h0.2.1 (by simp), h0.2.2.trans (h.mono h0.2.2.size)⟩), .inr (fun _ _ h h0 => ⟨(grown_of_below h none).cell h0.1 (by simp), (grown_of_below h none).cell h0.2.1 (by simp), h0.2.2.trans (h.mono h0.2.2.size)⟩), .inr (fun _ _ h h0 => by obtain ⟨g, hg, hk⟩ := h; exact ⟨hg.cell h0.1 (by intro e; have : w.heap.size + 3 ≤ w.heap.size + 2 := hk _ e.symm; omega), hg.cell h0.2.1 (by intro e; have : w.heap.size + 3 ≤ w.heap.size := hk _ e.symm; omega), h0.2.2.grown hg h0.2.2.size (fun k hk' => by have := hk k hk'; omega)⟩), .inr (fun _ _ h h0 => h ▸ h0), .inl rfl, trivial⟩
        · exact ⟨.inr (fun _ _ h h0 => h ▸ h0), .inr (fun _ _ h h0 => h ▸ h0), .inr (fun _ _ h h0 => h ▸ h0), .inr (fun _ _ h h0 => h ▸ h0), .inr (fun _ _ h h0 => h ▸ h0), .inr (fun _ _ h h0 => h ▸ h0), .inr (fun _ _ h h0 => h ▸ h0), .inr (fun _ _ h h0 => h ▸ h0), .inr (fun _ _ h h0 => h ▸ h0), .inl rfl, .inl rfl, .inl rfl, .inr (fun _ _ h h0 => h ▸ h0), .inl rfl, trivial⟩
      · exact ⟨⟨.inl rfl, .inr (.inr (.inl rfl)), .inr (.inr (.inr (fun _ _ _ _ _ h => h))), .inr (.inr (.inr (fun _ _ _ _ _ h => h))), .inr (.inr (.inr (fun _ _ _ _ _ h => h))), .inr (.inr (.inr (fun _ _ _ _ _ h => h))), .inr (.inr (.inr (fun _ _ _ _ _ h => h))), .inr (.inr (.inr (fun _ _ _ _ _ h => h))), .inr (.inr (.inr (fun _ _ _ _ _ h => h))), .inr (.inr (.inr (fun _ _ _ _ h h0 => by cases h; exact h0))), .inr (.inr (.inr (fun _ _ _ _ h h0 => by cases h; exact h0))), .inr (.inr (.inl rfl)), .inr (.inr (.inl rfl)), .inr (.inr (.inl rfl)), trivial⟩,
          ⟨.inr (.inr (.inr (fun _ _ _ _ _ h => h))), .inl rfl, .inr (.inr (.inr (fun _ _ _ _ _ h => h))), .inr (.inr (.inr (fun _ _ _ _ _ h => h))), .inr (.inr (.inr (fun _ _ _ _ _ h => h))), .inr (.inr (.inr (fun _ _ _ _ _ h => h))), .inr (.inr (.inr (fun _ _ _ _ _ h => h))), .inr (.inr (.inr (fun _ _ _ _ _ h => h))), .inr (.inr (.inr (fun _ _ _ _ _ h => h))), .inr (.inr (.inr (fun _ _ _ _ h h0 => by cases h; exact h0))), .inr (.inr (.inr (fun _ _ _ _ h h0 => by cases h; exact h0))), .inr (.inr (.inl rfl)), .inr (.inr (.inl rfl)), .inr (.inr (.inl rfl)), trivial⟩,
          ⟨.inr (.inr (.inr (fun _ _ _ _ _ h => h))), .inr (.inr (.inr (fun _ _ _ _ _ h => h))), .inl rfl, .inr (.inr (.inl rfl)), .inr (.inr (.inr (fun _ _ _ _ _ h => h))), .inr (.inr (.inl rfl)), .inr (.inr (.inl rfl)), .inr (.inr (.inr (fun _ _ _ _ _ h => h))), .inr (.inr (.inr (fun _ _ _ _ _ h => h))), .inr (.inr (.inr (fun _ _ _ _ h h0 => by cases h; exact h0))), .inr (.inr (.inr (fun _ _ _ _ h h0 => by cases h; exact h0))), .inr (.inr (.inr (fun _ _ _ _ h h0 => by cases h; exact h0))), .inr (.inr (.inl rfl)), .inr (.inr (.inl rfl)), trivial⟩,
          ⟨.inr (.inr (.inr (fun _ _ _ _ _ h => h))), .inr (.inr (.inr (fun _ _ _ _ _ h => h))), .inr (.inr (.inr (fun _ _ _ _ _ h => h))), .inl rfl, .inr (.inr (.inr (fun _ _ _ _ _ h => h))), .inr (.inr (.inl rfl)), .inr (.inr (.inl rfl)), .inr (.inr (.inr (fun _ _ _ _ _ h => h))), .inr (.inr (.inr (fun _ _ _ _ _ h => h))), .inr (.inr (.inl rfl)), .inr (.inr (.inr (fun _ _ _ _ h h0 => by cases h; exact h0))), .inr (.inr (.inr (fun _ _ _ _ h h0 => by cases h; exact h0))), .inr (.inr (.inl rfl)), .inr (.inr (.inl rfl)), trivial⟩,
          ⟨.inr (.inr (.inr (fun _ _ _ _ _ h => h))), .inr (.inr (.inr (fun _ _ _ _ _ h => h))), .inr (.inr (.inr (fun _ _ _ _ _ h => h))), .inr (.inr (.inr (fun _ _ _ _ _ h => h))), .inl rfl, .inr (.inr (.inl rfl)), .inr (.inr (.inl rfl)), .inr (.inr (.inr (fun _ _ _ _ _ h => h))), .inr (.inr (.inr (fun _ _ _ _ _ h => h))), .inr (.inr (.inl rfl)), .inr (.inr (.inr (fun _ _ _ _ h h0 => by cases h; exact h0))), .inr (.inr (.inr (fun _ _ _ _ h h0 => by cases h; exact h0))), .inr (.inr (.inl rfl)), .inr (.inr (.inl rfl)), trivial⟩,
          ⟨.inr (.inr (.inr (fun _ _ _ _ _ h => h))), .inr (.inr (.inr (fun _ _ _ _ _ h => h))), .inr (.inr (.inr (fun _ _ _ _ _ h => h))), .inr (.inr (.inr (fun _ _ _ _ _ h => h))), .inr (.inr (.inr (fun _ _ _ _ _ h => h))), .inl rfl, .inr (.inr (.inl rfl)), .inr (.inr (.inr (fun _ _ _ _ _ h => h))), .inr (.inr (.inr (fun _ _ _ _ _ h => h))), .inr (.inr (.inl rfl)), .inr (.inr (.inl rfl)), .inr (.inr (.inl rfl)), .inr (.inr (.inl rfl)), .inr (.inr (.inl rfl)), trivial⟩,
          ⟨.inr (.inr (.inr (fun _ _ _ _ _ h => h))), .inr (.inr (.inr (fun _ _ _ _ _ h => h))), .inr (.inr (.inr (fun _ _ _ _ _ h => h))), .inr (.inr (.inr (fun _ _ _ _ _ h => h))), .inr (.inr (.inr (fun _ _ _ _ _ h => h))), .inr (.inr (.inr (fun _ _ _ _ _ h => h))), .inl rfl, .inr (.inr (.inr (fun _ _ _ _ _ h => h))), .inr (.inr (.inr (fun _ _ _ _ _ h => h))), .inr (.inr (.inl rfl)), .inr (.inr (.inl rfl)), .inr (.inr (.inl rfl)), .inr (.inr (.inl rfl)), .inr (.inr (.inl rfl)), trivial⟩,
          ⟨.inr (.inr (.inr (fun _ _ _ _ _ h => h))), .inr (.inr (.inr (fun _ _ _ _ _ h => h))), .inr (.inr (.inr (fun _ _ _ _ _ h => h))), .inr (.inr (.inr (fun _ _ _ _ _ h => h))), .inr (.inr (.inr (fun _ _ _ _ _ h => h))), .inr (.inr (.inr (fun _ _ _ _ _ h => h))), .inr (.inr (.inr (fun _ _ _ _ _ h => h))), .inl rfl, .inr (.inr (.inl rfl)), .inr (.inr (.inl rfl)), .inr (.inr (.inl rfl)), .inr (.inr (.inl rfl)), .inr (.inr (.inl rfl)), .inr (.inr (.inl rfl)), trivial⟩,
          ⟨.inr (.inr (.inr (fun _ _ _ _ _ h => h))), .inr (.inr (.inr (fun _ _ _ _ _ h => h))), .inr (.inr (.inr (fun _ _ _ _ _ h => h))), .inr (.inr (.inr (fun _ _ _ _ _ h => h))), .inr (.inr (.inr (fun _ _ _ _ _ h => h))), .inr (.inr (.inr (fun _ _ _ _ _ h => h))), .inr (.inr (.inr (fun _ _ _ _ _ h => h))), .inr (.inr (.inr (fun _ _ _ _ _ h => h))), .inl rfl, .inr (.inr (.inl rfl)), .inr (.inr (.inl rfl)), .inr (.inr (.inl rfl)), .inr (.inr (.inl rfl)), .inr (.inr (.inl rfl)), trivial⟩,
          ⟨.inr (.inr (.inr (fun _ _ _ _ _ h => h))), .inr (.inr (.inr (fun _ _ _ _ _ h => h))), .inr (.inr (.inr (fun _ _ _ _ _ h => h))), .inr (.inr (.inr (fun _ _ _ _ _ h => h))), .inr (.inr (.inr (fun _ _ _ _ _ h => h))), .inr (.inr (.inr (fun _ _ _ _ _ h => h))), .inr (.inr (.inr (fun _ _ _ _ _ h => h))), .inr (.inr (.inr (fun _ _ _ _ _ h => h))), .inr (.inr (.inr (fun _ _ _ _ _ h => h))), .inl rfl, .inr (.inr (.inl rfl)), .inr (.inr (.inl rfl)), .inr (.inr (.inl rfl)), .inr (.inr (.inl rfl)), trivial⟩,
          ⟨.inr (.inr (.inr (fun _ _ _ _ _ h => h))), .inr (.inr (.inr (fun _ _ _ _ _ h => h))), .inr (.inr (.inr (fun _ _ _ _ _ h => h))), .inr (.inr (.inr (fun _ _ _ _ _ h => h))), .inr (.inr (.inr (fun _ _ _ _ _ h => h))), .inr (.inr (.inr (fun _ _ _ _ _ h => h))), .inr (.inr (.inr (fun _ _ _ _ _ h => h))), .inr (.inr (.inr (fun _ _ _ _ _ h => h))), .inr (.inr (.inr (fun _ _ _ _ _ h => h))), .inr (.inl rfl), .inl rfl, .inr (.inr (.inl rfl)), .inr (.inr (.inl rfl)), .inr (.inr (.inl rfl)), trivial⟩,
          ⟨.inr (.inr (.inr (fun _ _ _ _ _ h => h))), .inr (.inr (.inr (fun _ _ _ _ _ h => h))), .inr (.inr (.inr (fun _ _ _ _ _ h => h))), .inr (.inr (.inr (fun _ _ _ _ _ h => h))), .inr (.inr (.inr (fun _ _ _ _ _ h => h))), .inr (.inr (.inr (fun _ _ _ _ _ h => h))), .inr (.inr (.inr (fun _ _ _ _ _ h => h))), .inr (.inr (.inr (fun _ _ _ _ _ h => h))), .inr (.inr (.inr (fun _ _ _ _ _ h => h))), .inr (.inl rfl), .inr (.inl rfl), .inl rfl, .inr (.inr (.inl rfl)), .inr (.inr (.inl rfl)), trivial⟩,
          ⟨.inr (.inr (.inr (fun _ _ _ _ _ h => h))), .inr (.inr (.inr (fun _ _ _ _ _ h => h))), .inr (.inr (.inr (fun _ _ _ _ _ h => h))), .inr (.inr (.inr (fun _ _ _ _ _ h => h))), .inr (.inr (.inr (fun _ _ _ _ _ h => h))), .inr (.inr (.inr (fun _ _ _ _ _ h => h))), .inr (.inr (.inr (fun _ _ _ _ _ h => h))), .inr (.inr (.inr (fun _ _ _ _ _ h => h))), .inr (.inr (.inr (fun _ _ _ _ _ h => h))), .inr (.inr (.inr (fun _ _ _ _ h h0 => by cases h; exact h0))), .inr (.inr (.inr (fun _ _ _ _ h h0 => by cases h; exact h0))), .inr (.inr (.inr (fun _ _ _ _ h h0 => by cases h; exact h0))), .inl rfl, .inr (.inr (.inl rfl)), trivial⟩,
          ⟨.inr (.inr (.inr (fun _ _ _ _ _ h => h))), .inr (.inr (.inr (fun _ _ _ _ _ h => h))), .inr (.inr (.inr (fun _ _ _ _ _ h => h))), .inr (.inr (.inr (fun _ _ _ _ _ h => h))), .inr (.inr (.inr (fun _ _ _ _ _ h => h))), .inr (.inr (.inr (fun _ _ _ _ _ h => h))), .inr (.inr (.inr (fun _ _ _ _ _ h => h))), .inr (.inr (.inr (fun _ _ _ _ _ h => h))), .inr (.inr (.inr (fun _ _ _ _ _ h => h))), .inr (.inl rfl), .inr (.inl rfl), .inr (.inl rfl), .inr (.inr (.inr (fun _ _ _ _ _ h => h))), .inl rfl, trivial⟩, trivial⟩
      · refine ⟨?_, ?_, ?_, ?_, ?_, ?_, ?_, ?_, ?_, ?_, ?_, ?_, ?_, ?_, trivial⟩
        · -- 0: Op.fieldAddr 25 (Operand.tmp 5) 4
          refine step_plain [] (fun _ => rfl) rfl ?_
          intro w1 vals hC1 hi0 hf E hE
          have hI1 : (fun u => u.cell? ⟨w.heap.size + 2, 4, none⟩ = some (.slice A2 K.length c2) ∧ u.cell? ⟨w.heap.size, 4, none⟩ = some (.slice (some ad) kn kc) ∧ Below w.heap.size w u) w1 := hi0 false rfl
          try dsimp only at hI1
          clear hi0
          clear hf
          simp only [puts, act_put, act_put_none, List.setIfInBounds_toArray, List.set_cons_zero, List.set_cons_succ] at hE ⊢
          go_wp2
          exact .mk (hE _ _ rfl hC1 rfl)
        · -- 1: Op.load 23 (Operand.tmp 66)
          refine step_plain [(0, some 66)] (fun _ => rfl) rfl ?_
          intro w1 vals hC1 hi0 hf E hE
          have hI1 : (fun u => u.cell? ⟨w.heap.size + 2, 4, none⟩ = some (.slice A2 K.length c2) ∧ u.cell? ⟨w.heap.size, 4, none⟩ = some (.slice (some ad) kn kc) ∧ Below w.heap.size w u) w1 := hi0 false rfl
          try dsimp only at hI1
          clear hi0
          have f0 : vals 0 = .pointer (some ⟨w.heap.size + 2, 4, none⟩) := hf 0 rfl
          try dsimp only at f0
          clear hf
          obtain ⟨d1, d0, d2⟩ := hI1
          have D2 := Lib.hid d2
          clear d2
          simp only [puts, act_put, act_put_none, List.setIfInBounds_toArray, List.set_cons_zero, List.set_cons_succ, f0] at hE ⊢
          clear f0
          go_wp2
          exact .mk (hE _ _ rfl hC1 rfl)
        · -- 2: Op.fieldAddr 25 (Operand.tmp 2) 4
          refine step_plain [] (fun _ => rfl) rfl ?_
          intro w1 vals hC1 hi0 hf E hE
          have hI1 : (fun u => u.cell? ⟨w.heap.size + 2, 4, none⟩ = some (.slice A2 K.length c2) ∧ u.cell? ⟨w.heap.size, 4, none⟩ = some (.slice (some ad) kn kc) ∧ Below w.heap.size w u) w1 := hi0 false rfl
          try dsimp only at hI1
          clear hi0
          clear hf
          simp only [puts, act_put, act_put_none, List.setIfInBounds_toArray, List.set_cons_zero, List.set_cons_succ] at hE ⊢
          go_wp2
          exact .mk (hE _ _ rfl hC1 rfl)
        · -- 3: Op.load 23 (Operand.tmp 68)
          refine step_plain [(2, some 68)] (fun _ => rfl) rfl ?_
          intro w1 vals hC1 hi0 hf E hE
          have hI1 : (fun u => u.cell? ⟨w.heap.size + 2, 4, none⟩ = some (.slice A2 K.length c2) ∧ u.cell? ⟨w.heap.size, 4, none⟩ = some (.slice (some ad) kn kc) ∧ Below w.heap.size w u) w1 := hi0 false rfl
          try dsimp only at hI1
          clear hi0
          have f2 : vals 2 = .pointer (some ⟨w.heap.size, 4, none⟩) := hf 2 rfl
          try dsimp only at f2
          clear hf
          obtain ⟨d1, d0, d2⟩ := hI1
          have D2 := Lib.hid d2
          clear d2
          simp only [puts, act_put, act_put_none, List.setIfInBounds_toArray, List.set_cons_zero, List.set_cons_succ, f2] at hE ⊢
          clear f2
          go_wp2
          exact .mk (hE _ _ rfl hC1 rfl)
        · -- 4: Op.move (Operand.tmp 8)
          refine step_plain [] (fun _ => rfl) rfl ?_
          intro w1 vals hC1 hi0 hf E hE
          have hI1 : (fun u => u.cell? ⟨w.heap.size + 2, 4, none⟩ = some (.slice A2 K.length c2) ∧ u.cell? ⟨w.heap.size, 4, none⟩ = some (.slice (some ad) kn kc) ∧ Below w.heap.size w u) w1 := hi0 false rfl
          try dsimp only at hI1
          clear hi0
          clear hf
          simp only [puts, act_put, act_put_none, List.setIfInBounds_toArray, List.set_cons_zero, List.set_cons_succ] at hE ⊢
          go_wp2
          exact .mk (hE _ _ rfl hC1 rfl)
        · -- 5: Op.indexAddr 23 (Operand.tmp 69) (Operand.tmp 70)
          refine step_plain [(3, some 69), (4, some 70)] (fun _ => rfl) rfl ?_
          intro w1 vals hC1 hi0 hf E hE
          have hI1 : (fun u => u.cell? ⟨w.heap.size + 2, 4, none⟩ = some (.slice A2 K.length c2) ∧ u.cell? ⟨w.heap.size, 4, none⟩ = some (.slice (some ad) kn kc) ∧ Below w.heap.size w u) w1 := hi0 false rfl
          try dsimp only at hI1
          have hJ1 : (fun u => Cs w w.heap.size ⟨vk, vn, vt, nA, nn, nc, some ad, kn, kc⟩ ⟨vk, vn, T, A1, N.length, c1, A2, K.length, c2⟩ A1 c1 N A2 c2 K u) w1 := hi0 true rfl
          try dsimp only at hJ1
          clear hi0
          have f3 : vals 3 = .slice (some ad) kn kc := hf 3 rfl
          have f4 : vals 4 = .int .i64 (i : Int) := hf 4 rfl
          try dsimp only at f3 f4
          clear hf
          simp only [puts, act_put, act_put_none, List.setIfInBounds_toArray, List.set_cons_zero, List.set_cons_succ, f3, f4] at hE ⊢
          clear f3 f4
          go_wp2
          exact .mk (hE _ _ rfl hC1 rfl)
        · -- 6: Op.load 25 (Operand.tmp 71)
          refine step_plain [(5, some 71)] (fun _ => rfl) rfl ?_
          intro w1 vals hC1 hi0 hf E hE
          have hI1 : (fun u => u.cell? ⟨w.heap.size + 2, 4, none⟩ = some (.slice A2 K.length c2) ∧ u.cell? ⟨w.heap.size, 4, none⟩ = some (.slice (some ad) kn kc) ∧ Below w.heap.size w u) w1 := hi0 false rfl
          try dsimp only at hI1
          have hJ1 : (fun u => Cs w w.heap.size ⟨vk, vn, vt, nA, nn, nc, some ad, kn, kc⟩ ⟨vk, vn, T, A1, N.length, c1, A2, K.length, c2⟩ A1 c1 N A2 c2 K u) w1 := hi0 true rfl
          try dsimp only at hJ1
          clear hi0
          have f5 : vals 5 = .pointer (some (ad.add (i * 5))) := hf 5 rfl
          try dsimp only at f5
          clear hf
          obtain ⟨d1, d0, d2⟩ := hI1
          have D2 := Lib.hid d2
          clear d2
          simp only [puts, act_put, act_put_none, List.setIfInBounds_toArray, List.set_cons_zero, List.set_cons_succ, f5] at hE ⊢
          clear f5
          go_wp2_with (refine wpList_get_rd (r := (jvCells X).toList) (HCE.out _ D2.out) rfl rfl rfl hu rfl jT_size3 ?_)
          exact .mk (hE _ _ rfl hC1 rfl)
        · -- 7: Op.move (Operand.tmp 1)
          refine step_plain [] (fun _ => rfl) rfl ?_
          intro w1 vals hC1 hi0 hf E hE
          have hI1 : (fun u => u.cell? ⟨w.heap.size + 2, 4, none⟩ = some (.slice A2 K.length c2) ∧ u.cell? ⟨w.heap.size, 4, none⟩ = some (.slice (some ad) kn kc) ∧ Below w.heap.size w u) w1 := hi0 false rfl
          try dsimp only at hI1
          have hJ1 : (fun u => Cs w w.heap.size ⟨vk, vn, vt, nA, nn, nc, some ad, kn, kc⟩ ⟨vk, vn, T, A1, N.length, c1, A2, K.length, c2⟩ A1 c1 N A2 c2 K u) w1 := hi0 true rfl
          try dsimp only at hJ1
          clear hi0
          clear hf
          simp only [puts, act_put, act_put_none, List.setIfInBounds_toArray, List.set_cons_zero, List.set_cons_succ] at hE ⊢
          go_wp2
          exact .mk (hE _ _ rfl hC1 rfl)
        · -- 8: Op.binOp BinOp.sub 3 (Operand.tmp 73) (Operand.const (Value.int IntKind.i64 1)) 3
          refine step_plain [(7, some 73)] (fun _ => rfl) rfl ?_
          intro w1 vals hC1 hi0 hf E hE
          have hI1 : (fun u => u.cell? ⟨w.heap.size + 2, 4, none⟩ = some (.slice A2 K.length c2) ∧ u.cell? ⟨w.heap.size, 4, none⟩ = some (.slice (some ad) kn kc) ∧ Below w.heap.size w u) w1 := hi0 false rfl
          try dsimp only at hI1
          have hJ1 : (fun u => Cs w w.heap.size ⟨vk, vn, vt, nA, nn, nc, some ad, kn, kc⟩ ⟨vk, vn, T, A1, N.length, c1, A2, K.length, c2⟩ A1 c1 N A2 c2 K u) w1 := hi0 true rfl
          try dsimp only at hJ1
          clear hi0
          have f7 : vals 7 = .int .i64 (d : Int) := hf 7 rfl
          try dsimp only at f7
          clear hf
          simp only [puts, act_put, act_put_none, List.setIfInBounds_toArray, List.set_cons_zero, List.set_cons_succ, f7] at hE ⊢
          clear f7
          go_wp2
          exact .mk (hE _ _ rfl hC1 rfl)
        · -- 9: Op.call { callee := Callee.value (Operand.func 7), args := #[Operand.tmp 72, Operand.tmp 74], argTypes := #[25
          refine step_plain [(6, some 72), (8, some 74)] (fun _ => rfl) rfl ?_
          intro w1 vals hC1 hi0 hf E hE
          have hI1 : (fun u => u.cell? ⟨w.heap.size + 2, 4, none⟩ = some (.slice A2 K.length c2) ∧ u.cell? ⟨w.heap.size, 4, none⟩ = some (.slice (some ad) kn kc) ∧ Below w.heap.size w u) w1 := hi0 false rfl
          try dsimp only at hI1
          have hJ1 : (fun u => Cs w w.heap.size ⟨vk, vn, vt, nA, nn, nc, some ad, kn, kc⟩ ⟨vk, vn, T, A1, N.length, c1, A2, K.length, c2⟩ A1 c1 N A2 c2 K u) w1 := hi0 true rfl
          try dsimp only at hJ1
          clear hi0
          have f6 : vals 6 = .agg (jvCells X) := hf 6 rfl
          have f8 : vals 8 = .int .i64 (d' : Int) := hf 8 rfl
          try dsimp only at f6 f8
          clear hf
          have HJ1 := Lib.hid hJ1
          clear hJ1
          simp only [puts, act_put, act_put_none, List.setIfInBounds_toArray, List.set_cons_zero, List.set_cons_succ, f6, f8] at hE ⊢
          clear f6 f8
          go_wp2_with fail
          refine calls_then (CV.out _ HJ1.out) ?_
          rintro y w5 ⟨v, rfl, hl, hj, hg⟩
          have HL := Lib.hid hl
          have HJ := Lib.hid hj
          have HG := Lib.hid hg
          clear hl hg hj
          go_wp2_with fail
          exact .mk (hE _ _ ⟨v, rfl, HL.out, HJ.out⟩ hC1 HG.out)
        · -- 10: Op.buildSlice 23 1 #[(0, Operand.tmp 75)]
          refine step_plain [(9, some 75)] (fun _ => rfl) rfl ?_
          intro w1 vals hC1 hi0 hf E hE
          have hI1 : (fun u => u.cell? ⟨w.heap.size + 2, 4, none⟩ = some (.slice A2 K.length c2) ∧ u.cell? ⟨w.heap.size, 4, none⟩ = some (.slice (some ad) kn kc) ∧ Below w.heap.size w u) w1 := hi0 false rfl
          try dsimp only at hI1
          clear hi0
          have f9 : (fun z u => ∃ v : JV, z 9 = .agg (jvCells v) ∧ Cs w w.heap.size ⟨vk, vn, vt, nA, nn, nc, some ad, kn, kc⟩ ⟨vk, vn, T, A1, N.length, c1, A2, K.length, c2⟩ A1 c1 N A2 c2 K u ∧ JRep u (KS w.heap.size (.slice A1 N.length c1) (.slice A2 K.length c2)) (cutJ d' Y) v) vals w1 := hf 9 rfl
          try dsimp only at f9
          clear hf
          obtain ⟨v, hx, hl, hj⟩ := f9
          have HL := Lib.hid hl
          have HJ := Lib.hid hj
          clear hl hj
          simp only [puts, act_put, act_put_none, List.setIfInBounds_toArray, List.set_cons_zero, List.set_cons_succ, hx] at hE ⊢
          clear hx
          unfold jvCells
          go_wp2
          exact .mk (hE _ _ ⟨v, _, rfl, Blk.new _ _ _, HL.out.new ((Below.refl _ _).alloc (Nat.le_refl _) _), HJ.out.heap fun b hb _ => Below.heap_alloc _ _ _ hb⟩ hC1 ((Below.refl _ _).alloc (Nat.le_refl _) _))
        · -- 11: Op.call { callee := Callee.builtin Builtin.append, args := #[Operand.tmp 67, Operand.tmp 76], argTypes := #[23
          refine step_plain [(1, some 67), (10, some 76), (9, some 75)] (fun _ => rfl) rfl ?_
          intro w1 vals hC1 hi0 hf E hE
          have hI1 : (fun u => u.cell? ⟨w.heap.size + 2, 4, none⟩ = some (.slice A2 K.length c2) ∧ u.cell? ⟨w.heap.size, 4, none⟩ = some (.slice (some ad) kn kc) ∧ Below w.heap.size w u) w1 := hi0 false rfl
          try dsimp only at hI1
          clear hi0
          have f1 : vals 1 = .slice A2 K.length c2 := hf 1 rfl
          have f10 : (fun z u => ∃ (v : JV) (g : Nat), z 10 = .slice (some ⟨g, 0, none⟩) 1 1 ∧ Blk u g 25 (jvCells v) ∧ Cs w w.heap.size ⟨vk, vn, vt, nA, nn, nc, some ad, kn, kc⟩ ⟨vk, vn, T, A1, N.length, c1, A2, K.length, c2⟩ A1 c1 N A2 c2 K u ∧ JRep u (KS w.heap.size (.slice A1 N.length c1) (.slice A2 K.length c2)) (cutJ d' Y) v) vals w1 := hf 10 rfl
          try dsimp only at f1 f10
          clear hf
          obtain ⟨v, ad2, hx, hk, hl, hj⟩ := f10
          have HL := Lib.hid hl
          have HKK := Lib.hid hk
          have HJ := Lib.hid hj
          obtain ⟨kw, hv1, hv2, hv3⟩ := HL.out.kids
          have HO := Lib.hid hv2
          have HV1 := Lib.hid hv1
          have HV3 := Lib.hid hv3
          clear hl hk hj hv1 hv2 hv3
          simp only [puts, act_put, act_put_none, List.setIfInBounds_toArray, List.set_cons_zero, List.set_cons_succ, f1, hx] at hE ⊢
          clear f1
          clear hx
          go_wp2_with (refine wpList_append_r (news := (jvCells v).toList) (m := 1) sl_jsons rfl rfl HO.out rfl rfl rfl (Rd.of_blk (l := (jvCells v).toList) HKK.out (HKK.out.lt)) (by simp [jvCells, Value.oneCell']) (by unfold maxLen; omega) (by omega) (HL.out.size) ?_; intro A' c' w5 ho hg hn)
          exact .mk (hE _ _ ⟨A', c', rfl, HL.out.kid HJ.out HV1.out HO.out HV3.out ho hg hn⟩ hC1 ⟨_, hg, fun k hk => (HO.out.lt k hk).1⟩)
        · -- 12: Op.fieldAddr 25 (Operand.tmp 5) 4
          refine step_plain [(0, some 66), (1, some 67), (2, some 68), (3, some 69), (4, some 70), (5, some 71), (6, some 72), (7, some 73), (8, some 74), (9, some 75), (10, some 76), (11, some 77)] (fun _ => rfl) rfl ?_
          intro w1 vals hC1 hi0 hf E hE
          have hI1 : (fun u => u.cell? ⟨w.heap.size + 2, 4, none⟩ = some (.slice A2 K.length c2) ∧ u.cell? ⟨w.heap.size, 4, none⟩ = some (.slice (some ad) kn kc) ∧ Below w.heap.size w u) w1 := hi0 false rfl
          try dsimp only at hI1
          clear hi0
          have f0 : vals 0 = .pointer (some ⟨w.heap.size + 2, 4, none⟩) := hf 0 rfl
          have f1 : vals 1 = .slice A2 K.length c2 := hf 1 rfl
          have f2 : vals 2 = .pointer (some ⟨w.heap.size, 4, none⟩) := hf 2 rfl
          have f3 : vals 3 = .slice (some ad) kn kc := hf 3 rfl
          have f4 : vals 4 = .int .i64 (i : Int) := hf 4 rfl
          have f5 : vals 5 = .pointer (some (ad.add (i * 5))) := hf 5 rfl
          have f6 : vals 6 = .agg (jvCells X) := hf 6 rfl
          have f7 : vals 7 = .int .i64 (d : Int) := hf 7 rfl
          have f8 : vals 8 = .int .i64 (d' : Int) := hf 8 rfl
          have f11 : (fun z u => ∃ (A' : Option Addr) (c' : Nat), z 11 = .slice A' (K.length + 1) c' ∧ Cs w w.heap.size ⟨vk, vn, vt, nA, nn, nc, some ad, kn, kc⟩ ⟨vk, vn, T, A1, N.length, c1, A2, K.length, c2⟩ A1 c1 N A' c' (K ++ [cutJ d' Y]) u) vals w1 := hf 11 rfl
          try dsimp only at f0 f1 f2 f3 f4 f5 f6 f7 f8 f11
          clear hf
          simp only [puts, act_put, act_put_none, List.setIfInBounds_toArray, List.set_cons_zero, List.set_cons_succ, f0, f1, f2, f3, f4, f5, f6, f7, f8] at hE ⊢
          clear f0 f1 f2 f3 f4 f5 f6 f7 f8
          go_wp2
          exact .mk (hE _ _ rfl hC1 rfl)
        · -- 13: Op.store 23 (Operand.tmp 78) (Operand.tmp 77)
          refine step_plain [(12, some 78), (11, some 77), (11, some 77), (0, some 66), (1, some 67), (2, some 68), (3, some 69), (4, some 70), (5, some 71), (6, some 72), (7, some 73), (8, some 74), (9, some 75), (10, some 76), (11, some 77)] (fun _ => rfl) rfl ?_
          intro w1 vals hC1 hi0 hf E hE
          have hI1 : (fun u => u.cell? ⟨w.heap.size + 2, 4, none⟩ = some (.slice A2 K.length c2) ∧ u.cell? ⟨w.heap.size, 4, none⟩ = some (.slice (some ad) kn kc) ∧ Below w.heap.size w u) w1 := hi0 false rfl
          try dsimp only at hI1
          clear hi0
          have f0 : vals 0 = .pointer (some ⟨w.heap.size + 2, 4, none⟩) := hf 0 rfl
          have f1 : vals 1 = .slice A2 K.length c2 := hf 1 rfl
          have f2 : vals 2 = .pointer (some ⟨w.heap.size, 4, none⟩) := hf 2 rfl
          have f3 : vals 3 = .slice (some ad) kn kc := hf 3 rfl
          have f4 : vals 4 = .int .i64 (i : Int) := hf 4 rfl
          have f5 : vals 5 = .pointer (some (ad.add (i * 5))) := hf 5 rfl
          have f6 : vals 6 = .agg (jvCells X) := hf 6 rfl
          have f7 : vals 7 = .int .i64 (d : Int) := hf 7 rfl
          have f8 : vals 8 = .int .i64 (d' : Int) := hf 8 rfl
          have f11 : (fun z u => ∃ (A' : Option Addr) (c' : Nat), z 11 = .slice A' (K.length + 1) c' ∧ Cs w w.heap.size ⟨vk, vn, vt, nA, nn, nc, some ad, kn, kc⟩ ⟨vk, vn, T, A1, N.length, c1, A2, K.length, c2⟩ A1 c1 N A' c' (K ++ [cutJ d' Y]) u) vals w1 := hf 11 rfl
          have f12 : vals 12 = .pointer (some ⟨w.heap.size + 2, 4, none⟩) := hf 12 rfl
          try dsimp only at f0 f1 f2 f3 f4 f5 f6 f7 f8 f11 f12
          clear hf
          obtain ⟨A', c', hx, hl⟩ := f11
          have HL := Lib.hid hl
          clear hl
          simp only [puts, act_put, act_put_none, List.setIfInBounds_toArray, List.set_cons_zero, List.set_cons_succ, f0, f1, f2, f3, f4, f5, f6, f7, f8, f12, hx] at hE ⊢
          clear f0 f1 f2 f3 f4 f5 f6 f7 f8 f12
          clear hx
          go_wp2_with (refine wpList_put_cell (x := .tmp 78) (i := 4) HL.out.tree rfl rfl rfl rfl (by kernel_rfl) (by simp [jvCells]) rfl ?_; intro w5 hb5 hw5)
          exact .mk (hE undef _ ⟨A', c', HL.out.put hw5 (by rw [List.length_append]; exact hb5)⟩ hC1 trivial)
      intro w1 vals hC1 hf
      have f0 : vals 0 = .pointer (some ⟨w.heap.size + 2, 4, none⟩) := hf 0 (by decide) rfl
      have f1 : vals 1 = .slice A2 K.length c2 := hf 1 (by decide) rfl
      have f2 : vals 2 = .pointer (some ⟨w.heap.size, 4, none⟩) := hf 2 (by decide) rfl
      have f3 : vals 3 = .slice (some ad) kn kc := hf 3 (by decide) rfl
      have f4 : vals 4 = .int .i64 (i : Int) := hf 4 (by decide) rfl
      have f5 : vals 5 = .pointer (some (ad.add (i * 5))) := hf 5 (by decide) rfl
      have f6 : vals 6 = .agg (jvCells X) := hf 6 (by decide) rfl
      have f7 : vals 7 = .int .i64 (d : Int) := hf 7 (by decide) rfl
      have f8 : vals 8 = .int .i64 (d' : Int) := hf 8 (by decide) rfl
      have f12 : vals 12 = .pointer (some ⟨w.heap.size + 2, 4, none⟩) := hf 12 (by decide) rfl
      have f13 : (fun z u => ∃ (A' : Option Addr) (c' : Nat), Cs w w.heap.size ⟨vk, vn, vt, nA, nn, nc, some ad, kn, kc⟩ ⟨vk, vn, T, A1, N.length, c1, A', (K ++ [cutJ d' Y]).length, c'⟩ A1 c1 N A' c' (K ++ [cutJ d' Y]) u) vals w1 := hf 13 (by decide) rfl
      try dsimp only at f0 f1 f2 f3 f4 f5 f6 f7 f8 f12 f13
      clear hf
      simp only [puts, act_put, act_put_none, List.setIfInBounds_toArray, List.set_cons_zero, List.set_cons_succ, f0, f1, f2, f3, f4, f5, f6, f7, f8, f12]
      clear f0 f1 f2 f3 f4 f5 f6 f7 f8 f12
      generalize vals 9 = x9 at *
      generalize vals 10 = x10 at *
      generalize vals 11 = x11 at *
      obtain ⟨A', c', hl⟩ := f13
      have HL := Lib.hid hl
      clear hl HI0 HJ0 hC1 CV
      go_wp2_with fail
      go_roundw
      case rel => exact ⟨i + 1, A', c', HLT.out, by go_num, by rw [HKS.out]; exact HL.out⟩
      case measure => have := HLT.out; simp [intOf]; omega
    · obtain rfl : i = mk := by omega
      have HKE := Lib.hid (show cutK d ks i = cutK d ks 5 by
        have h1 := HMK.out
        have h2 := HK.out
        unfold cutK
        by_cases h0 : d = 0
        · rw [if_pos h0, if_pos h0]
        · rw [if_neg h0, if_neg h0]
          rw [if_neg h0] at h1
          by_cases h5 : kn ≤ 5
          · have e1 : i = ks.length := by omega
            rw [e1, List.take_of_length_le (Nat.le_refl _), List.take_of_length_le (by omega)]
          · have e1 : i = 5 := by omega
            rw [e1])
      rw [HKE.out] at HCS
      have hor : ¬ ((i : Int) < (kn : Int)) ∨ ((i : Int) < (kn : Int) ∧ ¬ (i : Int) < 5) ∨ ((i : Int) < (kn : Int) ∧ (i : Int) < 5 ∧ d = 0) := by
        have := HMK.out
        split at this <;> omega
      obtain ⟨K, hK⟩ : ∃ K, K = cutK d ks 5 := ⟨_, rfl⟩
      rw [← hK] at HCS
      have HE := Lib.hid (show cutJ d (.mk vk vn vt ns ks) = .mk vk vn T N K by rw [cutJ_eq, hK, HNE.out, HTE.out])
      clear hK hi hlt
      have HF := Lib.hid (fun (w9 : World) (hw9 : Wrote (w.heap.size + 1) wr w9) => show Below w.heap.size w w9 ∧ JRep w9 (fun b => w.heap.size ≤ b) (cutJ d (.mk vk vn vt ns ks)) ⟨vk, vn, T, A1, N.length, c1, A2, K.length, c2⟩ from
        ⟨hw9.below HCS.out.low (by omega) HCS.out.low.size, by rw [HE.out]; exact (HCS.out.rep.heap fun b hb hs => hw9.grown.block b hb (by intro h; injection h with h; omega)).imp fun b _ hs => by omega⟩)
      rcases hor with h1 | ⟨h1, h2⟩ | ⟨h1, h2, h3⟩
      · go_wp2_with (first
          | refine wpList_get_box (x := .tmp 5) HCS.out.tree rfl rfl rfl hu rfl jT_size3 ?_
          | (refine wpList_put_box (x := .tmp 4) (cells := jvCells ⟨vk, vn, T, A1, N.length, c1, A2, K.length, c2⟩) HCS.out.res rfl rfl rfl rfl jT_size3 rfl (jvCells_one _) ?_; intro w9 hb9 hw9))
        have HB9 := Lib.hid hb9
        refine bodyPost_ret (results_box (P := Try.prog) rfl rfl HB9.out hu rfl jT_size3) rfl ?_
        exact ⟨_, rfl, HF.out w9 hw9⟩
      · go_wp2_with (first
          | refine wpList_get_box (x := .tmp 5) HCS.out.tree rfl rfl rfl hu rfl jT_size3 ?_
          | (refine wpList_put_box (x := .tmp 4) (cells := jvCells ⟨vk, vn, T, A1, N.length, c1, A2, K.length, c2⟩) HCS.out.res rfl rfl rfl rfl jT_size3 rfl (jvCells_one _) ?_; intro w9 hb9 hw9))
        have HB9 := Lib.hid hb9
        refine bodyPost_ret (results_box (P := Try.prog) rfl rfl HB9.out hu rfl jT_size3) rfl ?_
        exact ⟨_, rfl, HF.out w9 hw9⟩
      · subst h3
        go_wp2_with (first
          | refine wpList_get_box (x := .tmp 5) HCS.out.tree rfl rfl rfl hu rfl jT_size3 ?_
          | (refine wpList_put_box (x := .tmp 4) (cells := jvCells ⟨vk, vn, T, A1, N.length, c1, A2, K.length, c2⟩) HCS.out.res rfl rfl rfl rfl jT_size3 rfl (jvCells_one _) ?_; intro w9 hb9 hw9))
        have HB9 := Lib.hid hb9
        refine bodyPost_ret (results_box (P := Try.prog) rfl rfl HB9.out hu rfl jT_size3) rfl ?_
        exact ⟨_, rfl, HF.out w9 hw9⟩
theorem cut_any : ∀ d : Nat, (d : Int) ≤ 100 → CutP d
  | 0, h => cut_step 0 h fun d' hd => by cases hd
  | d + 1, h => cut_step (d + 1) h fun d' hd => by
    have e : d' = d := by omega
    subst e
    exact cut_any d' (by omega)
end Go.Proofs.Ytcfbnjaelniahaa.Js
/-
  Walk: the law JsonRound. (Printed by gen/jround.py.)
-/
namespace Go.Proofs.Ytcfbnjaelniahaa.Js
set_option linter.unusedSimpArgs false
set_option linter.unusedVariables false
open Go.RowKit

theorem low_trans {G : Nat} {a b c : World} (h : Below G a b) (h2 : Below b.heap.size b c) (hG : G ≤ b.heap.size) : Below G a c := h.trans (h2.mono hG)
theorem wr_small {j : JT} (h : smallJ j = true) (hl : (writeV j).length ≤ 100000000) (v : JV) (u : World) (hj : JRep u (fun b => b < u.heap.size) j v) :
    Calls Try.prog 8 #[.agg (jvCells v)] u fun e w' => e = .returned (.tuple #[.string (bs (wrE j).1), .int .i64 (wrE j).2]) ∧ Below u.heap.size u w' :=
  jwrite_any j v u.heap.size u h hj (Nat.le_refl _) (by omega)
theorem bs_take400 (s : ByteArray) : (s.extract 0 400).size ≤ 400 := by rw [ByteArray.size_extract]; omega
set_option maxRecDepth 100000 in
set_option maxHeartbeats 4000000 in
theorem jsonRound_any (j : JT) (u : JV) (s : ByteArray) (w : World) (hin : JRep w (fun b => b < w.heap.size) j u ∧ FitJ j) :
    Calls Try.prog 4 #[.agg (jvCells u), .string s] w fun x w' => x = .returned (.bool true) ∧ Below w.heap.size w w' := by
  have hu := Try.underlying25
  obtain ⟨hj, hfit⟩ := hin
  obtain ⟨G, hG⟩ : ∃ G, G = w.heap.size := ⟨_, rfl⟩
  obtain ⟨W0, hW0⟩ : ∃ W0, W0 = w.alloc (.cells (jvCells u) 25) := ⟨_, rfl⟩
  have hb0 : Below w.heap.size w W0 := by rw [hW0]; exact (Below.refl _ w).alloc (Nat.le_refl _) _
  have HB0 := Lib.hid hb0
  have HKU := Lib.hid (show Blk W0 G 25 (jvCells u) by rw [hW0, hG]; exact Blk.new _ _ _)
  have HS0 := Lib.hid (show W0.heap.size = G + 1 by rw [hW0, hG]; simp)
  have CC := Lib.hid (cut_any 6 (by decide) j u w.heap.size W0 (hj.under hb0) hfit hb0.size)
  obtain ⟨C, hC⟩ : ∃ C, C = cutJ 6 j := ⟨_, rfl⟩
  rw [← hC] at CC
  have HSM := Lib.hid (show smallJ C = true by rw [hC]; exact cutJ_small _ _)
  have HLN := Lib.hid (show (writeV C).length ≤ 100000000 by rw [hC]; have := cut_len 6 j; have h2 : cutB 6 ≤ 100000000 := by decide
                                                             omega)
  have HW0 := Lib.hid hW0
  obtain ⟨t, ht⟩ : ∃ t, t = if 400 < s.size then s.extract 0 400 else s := ⟨_, rfl⟩
  have HTE := Lib.hid ht
  clear hW0 hb0 hC hj hfit ht
  rw [hG] at *
  clear hG
  go_enter Try.func4, Try.ntmps4
  go_upto_region 1 with (fail)
  rw [← HW0.out]
  clear HW0
  generalize Value.agg (jvCells u) = AU
  go_wp2_with (refine wpList_get_box (x := .tmp 2) HKU.out rfl rfl rfl hu rfl jT_size3 ?_)
  refine calls_then CC.out ?_
  rintro e w1 ⟨v, rfl, hb1, hj1⟩
  have HK1 := Lib.hid (HKU.out.below hb1 HKU.out.lt)
  have HB1 := Lib.hid (low_trans HB0.out hb1 HB0.out.size)
  have HJ1 := Lib.hid (show JRep w1 (fun b => b < w1.heap.size ∧ b ≠ w.heap.size) C v from hj1.imp fun b hb hs => ⟨hb, by have := HS0.out; omega⟩)
  clear hb1 hj1 CC
  go_upto_region 2 with (refine wpList_put_box (x := .tmp 2) (cells := jvCells v) HK1.out rfl rfl rfl rfl jT_size3 rfl (jvCells_one _) ?_; intro w2 hb2 hw2)
  have HN2 := Lib.hid (show NJ w2 w.heap.size C v from ⟨hb2, (HJ1.out.heap fun b hb hs => hw2.grown.block b hb (by intro h; injection h with h; exact hs.2 h)).imp fun b hb hs => ⟨hb, hs.2⟩⟩)
  have HB2 := Lib.hid (show Below w.heap.size w w2 from hw2.below HB1.out (Nat.le_refl _) HB1.out.size)
  clear hb2 hw2
  have CW := Lib.hid (wr_small HSM.out HLN.out v w2 (HN2.out.2.imp fun b hb _ => hb))
  go_wp2_with (refine wpList_get_box (x := .tmp 2) HN2.out.1 rfl rfl rfl hu rfl jT_size3 ?_)
  refine calls_then CW.out ?_
  rintro e w3 ⟨rfl, hb3⟩
  have HN3 := Lib.hid (HN2.out.below hb3)
  have HB3 := Lib.hid (low_trans HB2.out hb3 HB2.out.size)
  clear hb3 CW
  obtain ⟨we, hwe⟩ : ∃ we, we = wrE C := ⟨_, rfl⟩
  rw [← hwe]
  have HWE := Lib.hid hwe
  clear hwe
  obtain ⟨wt, wn⟩ := we
  dsimp only
  go_upto_if 25 with (fail)
  go_cut [] (fun wx => Below w.heap.size w wx)
  case first =>
    by_cases hn : wn = 0
    · subst hn
      have hr : rightV 6 C = true ∧ (writeV C).length ≤ 2000 ∧ wt = writeV C := by
        have h := HWE.out
        unfold wrE at h
        split at h
        · injection h with _ h; omega
        · split at h
          · injection h with _ h; omega
          · injection h with h _
            exact ⟨by cases hb : rightV 6 C with | true => rfl | false => contradiction, by omega, h⟩
      have HRP := Lib.hid (show readP (bs wt).data.toList = .ok C by rw [hr.2.2]; exact readP_write C hr.1 hr.2.1)
      have CR := Lib.hid (jread_rep (bs wt) w3)
      rw [HRP.out] at CR
      clear hr
      go_wp2_with fail
      refine calls_then CR.out ?_
      rintro e w4 ⟨x, rfl, hb4, hj4⟩
      have HN4 := Lib.hid (HN3.out.below hb4)
      have HB4 := Lib.hid (low_trans HB3.out hb4 HB3.out.size)
      have HJ4 := Lib.hid (show JRep w4 (fun b => b < w4.heap.size) C x from hj4)
      rw [show errE (Except.ok C) = 0 from rfl]
      clear hb4 hj4 CR
      have HBX := Lib.hid (show Blk (w4.alloc (.cells #[.int .i64 0, .int .i64 0, .string ⟨#[]⟩, .slice none 0 0, .slice none 0 0] 25)) w4.heap.size 25 (jvCells zJV) from Blk.new _ _ _)
      go_upto_region 5 with (refine wpList_put_box (x := .tmp 7) (cells := jvCells x) HBX.out rfl rfl rfl rfl jT_size3 rfl (jvCells_one _) ?_; intro w5 hbx hwx)
      have hax := (Below.refl w4.heap.size w4).alloc (Nat.le_refl _) (.cells #[.int .i64 0, .int .i64 0, .string ⟨#[]⟩, .slice none 0 0, .slice none 0 0] 25)
      have hlx : Below w4.heap.size w4 w5 := hwx.below hax (Nat.le_refl _) (by simp)
      have HLw5 := Lib.hid hlx
      have HXw5 := Lib.hid hbx
      clear hax hlx hbx hwx HBX
      have HN5 := Lib.hid (HN4.out.below HLw5.out)
      have HB5 := Lib.hid (low_trans HB4.out HLw5.out HB4.out.size)
      have HJ5 := Lib.hid (show JRep w5 (fun b => b < w5.heap.size) C x from (HJ4.out.under HLw5.out).imp fun b hb _ => hb)
      have CS := Lib.hid (same_any C v x w5.heap.size w5 HSM.out (HN5.out.2.imp fun b hb _ => hb) HJ5.out (Nat.le_refl _))
      go_wp2_with (first
        | refine wpList_get_box (x := .tmp 2) HN5.out.1 rfl rfl rfl hu rfl jT_size3 ?_
        | refine wpList_get_box (x := .tmp 7) HXw5.out rfl rfl rfl hu rfl jT_size3 ?_)
      refine calls_then CS.out ?_
      rintro e w6 ⟨rfl, hb6⟩
      have HB6 := Lib.hid (low_trans HB5.out hb6 HB5.out.size)
      clear hb6 CS
      go_wp2_with fail
      go_meet
      exact HB6.out
    · go_wp2_with fail
      go_meet
      exact HB3.out
  case rest =>
  have HB7 := Lib.hid hcut
  clear hcut
  go_upto_if 42 with (fail)
  go_cut [1] (fun x wx => x = .string t ∧ wx = wc)
  case first =>
    have hte := HTE.out
    by_cases hl : 400 < s.size
    · have hl' : (400 : Int) < (s.size : Int) := by omega
      rw [if_pos hl] at hte
      subst hte
      go_wp2_with fail
      go_meet
      exact ⟨rfl, rfl⟩
    · have hl' : ¬ (400 : Int) < (s.size : Int) := by omega
      rw [if_neg hl] at hte
      subst hte
      go_wp2_with fail
      go_meet
      exact ⟨rfl, rfl⟩
  case rest =>
  obtain ⟨rfl, rfl⟩ := hcut
  have CR := Lib.hid (jread_rep t wc)
  obtain ⟨E, hE⟩ : ∃ E, E = readP t.data.toList := ⟨_, rfl⟩
  rw [← hE] at CR
  have HE := Lib.hid hE.symm
  clear hE
  go_wp2_with fail
  refine calls_then CR.out ?_
  rintro e w8 ⟨x, rfl, hb8, hj8⟩
  have HB8 := Lib.hid (low_trans HB7.out hb8 HB7.out.size)
  have HJ8 := Lib.hid hj8
  clear hb8 hj8 CR
  have HBX := Lib.hid (show Blk (w8.alloc (.cells #[.int .i64 0, .int .i64 0, .string ⟨#[]⟩, .slice none 0 0, .slice none 0 0] 25)) w8.heap.size 25 (jvCells zJV) from Blk.new _ _ _)
  go_upto_region 11 with (refine wpList_put_box (x := .tmp 10) (cells := jvCells x) HBX.out rfl rfl rfl rfl jT_size3 rfl (jvCells_one _) ?_; intro w9 hbx hwx)
  have hax := (Below.refl w8.heap.size w8).alloc (Nat.le_refl _) (.cells #[.int .i64 0, .int .i64 0, .string ⟨#[]⟩, .slice none 0 0, .slice none 0 0] 25)
  have hlx : Below w8.heap.size w8 w9 := hwx.below hax (Nat.le_refl _) (by simp)
  have HLw9 := Lib.hid hlx
  have HXw9 := Lib.hid hbx
  clear hax hlx hbx hwx HBX
  have HB9 := Lib.hid (low_trans HB8.out HLw9.out HB8.out.size)
  have HJ9 := Lib.hid (show JRep w9 (fun b => b < w9.heap.size) (valJ E) x from (HJ8.out.under HLw9.out).imp fun b hb _ => hb)
  cases hq : E with
  | error e =>
    have hne : e ≠ 0 := by
      have h := HE.out
      rw [hq] at h
      unfold readP at h
      split at h
      · injection h with h; omega
      · split at h
        · rename_i hv
          injection h with h
          subst h
          exact valueP_err 6 hv
        · cases h
        · injection h with h; omega
    have hne' : (e != 0) = true := by simpa using hne
    have CL := Lib.hid (lives_any w9)
    rw [show errE (Except.error e : Except Int JT) = e from rfl]
    clear hq hne
    go_wp2_with fail
    refine calls_then CL.out ?_
    rintro e2 w10 ⟨rfl, hb10⟩
    have HB10 := Lib.hid (low_trans HB9.out hb10 HB9.out.size)
    clear hb10
    go_wp2_with fail
    go_ret
    exact ⟨rfl, HB10.out⟩
  | ok y =>
    have HY := Lib.hid (show readP t.data.toList = .ok y by rw [HE.out, hq])
    have HJY := Lib.hid (show JRep w9 (fun b => b < w9.heap.size) y x by have := HJ9.out; rw [hq] at this; exact this)
    have HYS := Lib.hid (readP_small HY.out)
    have CW := Lib.hid (wr_small HYS.out (by have := readP_write_len HY.out; omega) x w9 HJY.out)
    have hwy : wrE y = if 2000 < (writeV y).length then ([], 4) else (writeV y, 0) := by rw [wrE, if_neg (by rw [readP_right HY.out]; decide)]
    rw [show errE (Except.ok y) = 0 from rfl]
    clear hq
    go_wp2_with (refine wpList_get_box (x := .tmp 10) HXw9.out rfl rfl rfl hu rfl jT_size3 ?_)
    refine calls_then CW.out ?_
    rintro e w10 ⟨rfl, hb10⟩
    have HB10 := Lib.hid (low_trans HB9.out hb10 HB9.out.size)
    have HX10 := Lib.hid (HXw9.out.below hb10 HXw9.out.lt)
    have HJ10 := Lib.hid (show JRep w10 (fun b => b < w10.heap.size) y x from (HJY.out.under hb10).imp fun b hb _ => hb)
    rw [hwy]
    clear hb10 CW hwy
    by_cases hl : 2000 < (writeV y).length
    · rw [if_pos hl]
      dsimp only
      have CL := Lib.hid (lives_any w10)
      clear hl
      go_wp2_with fail
      refine calls_then CL.out ?_
      rintro e2 w11 ⟨rfl, hb11⟩
      have HB11 := Lib.hid (low_trans HB10.out hb11 HB10.out.size)
      clear hb11
      go_wp2_with fail
      go_ret
      exact ⟨rfl, HB11.out⟩
    · rw [if_neg hl]
      dsimp only
      have HRP := Lib.hid (show readP (bs (writeV y)).data.toList = .ok y from readP_write y (readP_right HY.out) (by omega))
      have CR := Lib.hid (jread_rep (bs (writeV y)) w10)
      rw [HRP.out] at CR
      generalize bs (writeV y) = tx at *
      clear hl
      go_wp2_with fail
      refine calls_then CR.out ?_
      rintro e w11 ⟨z, rfl, hb11, hj11⟩
      have HB11 := Lib.hid (low_trans HB10.out hb11 HB10.out.size)
      have HX11 := Lib.hid (HX10.out.below hb11 HX10.out.lt)
      have HJ11 := Lib.hid (show JRep w11 (fun b => b < w11.heap.size) y x from (HJ10.out.under hb11).imp fun b hb _ => hb)
      have HZ11 := Lib.hid (show JRep w11 (fun b => b < w11.heap.size) y z from hj11)
      rw [show errE (Except.ok y) = 0 from rfl]
      clear hb11 hj11 CR
      have HBX := Lib.hid (show Blk (w11.alloc (.cells #[.int .i64 0, .int .i64 0, .string ⟨#[]⟩, .slice none 0 0, .slice none 0 0] 25)) w11.heap.size 25 (jvCells zJV) from Blk.new _ _ _)
      go_upto_region 17 with (refine wpList_put_box (x := .tmp 14) (cells := jvCells z) HBX.out rfl rfl rfl rfl jT_size3 rfl (jvCells_one _) ?_; intro w12 hbx hwx)
      have hax := (Below.refl w11.heap.size w11).alloc (Nat.le_refl _) (.cells #[.int .i64 0, .int .i64 0, .string ⟨#[]⟩, .slice none 0 0, .slice none 0 0] 25)
      have hlx : Below w11.heap.size w11 w12 := hwx.below hax (Nat.le_refl _) (by simp)
      have HLw12 := Lib.hid hlx
      have HXw12 := Lib.hid hbx
      clear hax hlx hbx hwx HBX
      have HB12 := Lib.hid (low_trans HB11.out HLw12.out HB11.out.size)
      have HX12 := Lib.hid (HX11.out.below HLw12.out HX11.out.lt)
      have HJ12 := Lib.hid (show JRep w12 (fun b => b < w12.heap.size) y x from (HJ11.out.under HLw12.out).imp fun b hb _ => hb)
      have HZ12 := Lib.hid (show JRep w12 (fun b => b < w12.heap.size) y z from (HZ11.out.under HLw12.out).imp fun b hb _ => hb)
      have CS := Lib.hid (same_any y x z w12.heap.size w12 HYS.out HJ12.out HZ12.out (Nat.le_refl _))
      go_wp2_with (first
        | refine wpList_get_box (x := .tmp 10) HX12.out rfl rfl rfl hu rfl jT_size3 ?_
        | refine wpList_get_box (x := .tmp 14) HXw12.out rfl rfl rfl hu rfl jT_size3 ?_)
      refine calls_then CS.out ?_
      rintro e w13 ⟨rfl, hb13⟩
      have HB13 := Lib.hid (low_trans HB12.out hb13 HB12.out.size)
      have CL := Lib.hid (lives_any w13)
      clear hb13 CS
      go_wp2_with fail
      refine calls_then CL.out ?_
      rintro e2 w14 ⟨rfl, hb14⟩
      have HB14 := Lib.hid (low_trans HB13.out hb14 HB13.out.size)
      clear hb14
      go_wp2_with fail
      go_ret
      exact ⟨rfl, HB14.out⟩
end Go.Proofs.Ytcfbnjaelniahaa.Js
namespace Go.Proofs.Ytcfbnjaelniahaa.jsonRound
set_option linter.unusedSimpArgs false
set_option linter.unusedVariables false
open Go.ChangeShapes Go.WideShapes Go.ChangeAt Go.RowKit Go.Joins

set_option maxRecDepth 100000 in
theorem lifted (os : Os) (started : os.Started) (H : Type) (enc : TypeId × Value → H) :
    ReturnsInHanded {} Try.checked os 4 .any (Rows.jsonRoundSpec.pre6 enc Try.prog Try.f4 Rows.jsonRoundRow.domain false) (Rows.jsonRoundSpec.post enc Try.prog Try.f4 false true false false) := by
  refine returnsInHanded_of_change (C := Try.checked) own started (by kernel_rfl) Try.func4
    (ChangeSpec.witness6 (enc := enc) (C := Try.checked) false ⟨#[], #[.agg #[.int .i64 0, .int .i64 0, .string .empty, .slice none 0 0, .slice none 0 0], .string .empty], []⟩ 8 (by kernel_rfl) (by kernel_rfl) (by kernel_rfl) (by kernel_rfl)) ?_
  intro W base args ds gs before hval0 hW hcnd _
  have hval : ∀ (j : Nat) t v, Try.f4.params[j]? = some t → args[j]? = some v → Value.okWide Try.prog W .any base t v := hval0
  have hW' := hW
  obtain ⟨p, q, hA0, hV, rfl, hfz, hnd⟩ := hW
  have hA : DataW.TrodAll enc Try.prog W 0 (fun _ => true) true Try.f4.params.toList args.toList ds p := hA0
  rw [Try.params4] at hA hval
  obtain ⟨v0, v1, d0, d1, p0, p1, rfl, rfl, rfl, h0, h1⟩ := trodAll_two hA
  obtain ⟨rfl, rfl⟩ := trodVars_none hV
  have h0k := h0
  have h1k := h1
  obtain ⟨j0, u0, rfl, r0⟩ := Js.open_json_arg (hval 0 25 v0 rfl rfl) h0
  obtain ⟨s1, rfl, _, rfl, m1⟩ := ChangeMaps.open_string Try.underlying9 (hval 1 9 v1 rfl rfl) h1
  clear hA0 hval0
  try simp only [List.append_nil, List.nil_append] at hW'
  refine (Js.jsonRound_any j0 u0 s1 W r0).mono fun e W' ⟨he, hb⟩ => ?_
  subst he
  have hlt : ∀ x ∈ (p0 ++ [] : List MemPlace), x.block < W.heap.size := fun x hx => hW'.lt x (by first | (simp at hx; done) | simpa using hx)
  exact ⟨_, rfl, post_of_below (pa := p0 ++ []) (pv := []) hW' (fun _ _ _ => trodAll_mk1 (shut_bool Try.underlying4 _))
    (fun sp hsp => trodAll_mk2 (stays laidOut (by kernel_rfl) (of_decide_eq_true (by kernel_rfl)) h0k hb (fun x hx => hlt x (by first | (simp at hx; done) | simpa using hx)) (fun x hx => hsp x (by first | (simp at hx; done) | simpa using hx)))
      (stays laidOut (by kernel_rfl) (of_decide_eq_true (by kernel_rfl)) h1k hb (fun x hx => hlt x (by first | (simp at hx; done) | simpa using hx)) (fun x hx => hsp x (by first | (simp at hx; done) | simpa using hx))))
    (fun _ _ => rfl) (by simp) hb (ok_one (by kernel_rfl) rfl (okWide_bool_mk Try.underlying4 _))⟩

theorem holds : Rows.JsonRoundSaid :=
  OpenClaim.holds_of_wide 4 Try.f4 rfl rfl rfl rfl rfl rfl rfl ⟨rfl, rfl, rfl, rfl, rfl⟩ rfl rfl rfl rfl rfl (by kernel_rfl) Try.func4 (by kernel_rfl)
    (of_decide_eq_true (by kernel_rfl)) (by unfold Func.isWrapper; first | (rw [if_pos (by decide +kernel)]; kernel_rfl) | (rw [if_neg (by decide +kernel)]; exact ⟨rfl, rfl⟩))
    (fun os started H enc _ => lifted os started H enc)

#print axioms holds
end Go.Proofs.Ytcfbnjaelniahaa.jsonRound
