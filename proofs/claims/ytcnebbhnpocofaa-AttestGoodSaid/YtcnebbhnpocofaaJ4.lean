/-
  Joined texts: Jy2 Lw2 Jz2 Lsn Nd2 Sl2 Cp2 Ky2 Jn2 Lsb Nm2 Lsu Mps Jmy Jky Rda Rmy.
-/
import Derived.Great.Walk
import Derived.Test.YtcnebbhnpocofaaProg
import Derived.MapKept
import Derived.Deep.QuietTactic
import Derived.BigQuiet
import Derived.Laws.Runes
import Derived.Deep.DeepCutAuto
import Derived.Lib.SlTrimSet
import Derived.Test.YtcnebbhnpocofaaJ3
import Derived.Test.YtcnebbhnpocofaaJ1
import Derived.Test.YtcnebbhnpocofaaJ2
/-
  Walks: attest.Join and the document's. (Printed by gen/jy20.py.)
-/
namespace Go.Proofs.Ytcnebbhnpocofaa
set_option linter.unusedSimpArgs false
set_option linter.unusedVariables false
open Go.RowKit

def zNo : NodeD := ⟨⟨#[]⟩, ⟨#[]⟩, 0, 0, ⟨#[]⟩⟩
theorem op_zero : Try.prog.built 47 [] = some (opN 0 0 ⟨#[]⟩ zNo) := by kernel_rfl
theorem node_three (ag key : ByteArray) (u : Int) : Try.prog.built 40 [(0, .string ag), (1, .string key), (2, .int .i64 u)] = some (nodeCells ⟨ag, key, u, 0, ⟨#[]⟩⟩) := by kernel_rfl
theorem op_four (tok : ByteArray) (k : NodeD) : Try.prog.built 47 [(0, .int .i64 4), (2, .string tok), (5, .agg (nodeCells k))] = some (opN 4 0 tok k) := by kernel_rfl
def opV (o : Option NodeD) (tok : ByteArray) : Array Value := match o with
  | none => opN 0 0 ⟨#[]⟩ zNo
  | some k => opN 4 0 tok k
/-- what is done with a join token -/
def joinX (d : LedD) (tok ag key : ByteArray) (now ttl : Int) : Option NodeD × Int :=
  match d.joins.l.find? (eqJ tok) with
  | none => (none, 7)
  | some j => if j.used = true then (none, 20) else if j.exp ≤ now then (none, 15) else if ¬ ((ag.toList == j.name.toList) = true ∧ soundB key now ttl = true) then (none, 1) else if hasB d.bans.l ag = true then (none, 21) else (some ⟨ag, key, timeC now ttl, 0, ⟨#[]⟩⟩, 0)
def JxPost (d : LedD) (tok ag key : ByteArray) (now ttl : Int) (w : World) (e : Ending) (w' : World) : Prop := e = .returned (.tuple #[.agg (opV (joinX d tok ag key now ttl).1 tok), .int .i64 (joinX d tok ag key now ttl).2]) ∧ Below w.heap.size w w'
theorem opQ2_size : (Try.prog.info? 47).map (·.size) = some 24 := by kernel_rfl
set_option maxRecDepth 100000 in
set_option maxHeartbeats 8000000 in
theorem ajoin_any (d : LedD) (tok ag key : ByteArray) (now ttl : Int) (w : World) (h : LedOk w 900 d) :
    Calls Try.prog 7 #[.agg (ledCells d), .string tok, .string ag, .string key, .int .i64 now, .int .i64 ttl] w (JxPost d tok ag key now ttl w) := by
  have huo := Try.underlying47
  have huj := Try.underlying38
  have hmf : ∀ (fn : Fn) (first cap : Array Value) (u : World), (Instr.makeFunc fn first cap).run Try.prog u = .ok (.func fn first cap) u := fun _ _ _ _ => rfl
  obtain ⟨W0, hW0⟩ : ∃ W0, W0 = ((w.alloc (.cells (ledCells d) 33)).alloc (.cells #[.string tok] 9)).alloc (.cells (opN 0 0 ⟨#[]⟩ zNo) 47) := ⟨_, rfl⟩
  have hb0 : Below w.heap.size w W0 := by rw [hW0]; exact (((Below.refl _ w).alloc (Nat.le_refl _) _).alloc (by simp) _).alloc (by simp; omega) _
  have HB0 := Lib.hid hb0
  have HK0 := Lib.hid (show Blk W0 w.heap.size 33 (ledCells d) by rw [hW0]; exact ((Blk.new _ _ _).alloc _).alloc _)
  have HS0 := Lib.hid (show Blk W0 (w.heap.size + 1) 9 #[.string tok] by rw [hW0]; have := (Blk.new (w.alloc (.cells (ledCells d) 33)) 9 #[.string tok]).alloc (.cells (opN 0 0 ⟨#[]⟩ zNo) 47); simpa using this)
  have HO0 := Lib.hid (show Blk W0 (w.heap.size + 2) 47 (opN 0 0 ⟨#[]⟩ zNo) by rw [hW0]; have := Blk.new ((w.alloc (.cells (ledCells d) 33)).alloc (.cells #[.string tok] 9)) 47 (opN 0 0 ⟨#[]⟩ zNo); simpa using this)
  have HW0 := Lib.hid hW0
  have hok := h.grow hb0
  have HOK := Lib.hid hok
  have HC := Lib.hid (jfind_any d.joins.l tok d.joins.A d.joins.c W0.heap.size (w.heap.size + 1) W0 hok.joins.row.rd (Nat.le_refl _) (by have := hok.joins.len; omega) HS0.out)
  have a3 : W0.cell? ⟨w.heap.size, 3, none⟩ = some (.slice d.joins.A d.joins.l.length d.joins.c) := HK0.out.cell 3
  have HX := Lib.hid (show JxPost d tok ag key now ttl w = fun e w' => e = .returned (.tuple #[.agg (opV (joinX d tok ag key now ttl).1 tok), .int .i64 (joinX d tok ag key now ttl).2]) ∧ Below w.heap.size w w' from rfl)
  have HJX := Lib.hid (show joinX d tok ag key now ttl = match d.joins.l.find? (eqJ tok) with
    | none => (none, 7)
    | some j => if j.used = true then (none, 20) else if j.exp ≤ now then (none, 15) else if ¬ ((ag.toList == j.name.toList) = true ∧ soundB key now ttl = true) then (none, 1) else if hasB d.bans.l ag = true then (none, 21) else (some ⟨ag, key, timeC now ttl, 0, ⟨#[]⟩⟩, 0) from rfl)
  have HJF := Lib.hid (show jfind d.joins.l tok = match d.joins.l.find? (eqJ tok) with | some k => (k, true) | none => (zJn, false) from rfl)
  have CH := Lib.hid (show ∀ u, Below W0.heap.size W0 u → Calls Try.prog 22 #[.slice d.bans.A d.bans.l.length d.bans.c, .string ag] u fun e w' => e = .returned (.bool (hasB d.bans.l ag)) ∧ w' = u from fun u hu => by
    have := (HOK.out.grow hu).bans
    exact has15c_any d.bans.l ag d.bans.A d.bans.c u.heap.size u this.row.rd (by have := this.len; omega))
  have CU := Lib.hid (fun (u : World) => cuntil_any now ttl u)
  have CS := Lib.hid (fun (u : World) => csound_any key now ttl u)
  have a2 : ∀ u, Below W0.heap.size W0 u → u.cell? ⟨w.heap.size, 2, none⟩ = some (.slice d.bans.A d.bans.l.length d.bans.c) := fun u hu => (HK0.out.below hu HK0.out.lt).cell 2
  have HA2 := Lib.hid a2
  obtain ⟨J0, hJ0⟩ : ∃ J, J = jfind d.joins.l tok := ⟨_, rfl⟩
  rw [← hJ0] at HC HJF
  obtain ⟨F, hF⟩ : ∃ F, F = d.joins.l.find? (eqJ tok) := ⟨_, rfl⟩
  rw [← hF] at HJX HJF
  obtain ⟨RX, hRX⟩ : ∃ R, R = joinX d tok ag key now ttl := ⟨_, rfl⟩
  rw [← hRX] at HJX HX
  rw [HX.out]
  obtain ⟨hb, hhb⟩ : ∃ b, b = hasB d.bans.l ag := ⟨_, rfl⟩
  rw [← hhb] at HJX CH
  obtain ⟨sb, hsb⟩ : ∃ b, b = soundB key now ttl := ⟨_, rfl⟩
  rw [← hsb] at HJX CS
  obtain ⟨un, hun⟩ : ∃ b, b = timeC now ttl := ⟨_, rfl⟩
  rw [← hun] at HJX CU
  clear hW0 hb0 h hok a2 hJ0 hF hRX hhb hsb hun
  go_enter Try.func7, Try.ntmps7
  go_upto_region 1 with (fail)
  rw [show ((w.alloc (.cells (ledCells d) 33)).alloc (.cells #[.string tok] 9)).alloc (.cells #[.int .i64 0, .int .i64 0, .string ⟨#[]⟩, .int .i64 0, .string ⟨#[]⟩, .string ⟨#[]⟩, .int .i64 0, .slice none 0 0, .string ⟨#[]⟩, .string ⟨#[]⟩, .int .i64 0, .bool false, .string ⟨#[]⟩, .string ⟨#[]⟩, .int .i64 0, .int .i64 0, .string ⟨#[]⟩, .string ⟨#[]⟩, .string ⟨#[]⟩, .int .i64 0, .int .i64 0, .string ⟨#[]⟩, .int .i64 0, .slice none 0 0] 47) = W0 from HW0.out.symm]
  generalize Value.agg (ledCells d) = AV
  go_wp2_with fail
  refine calls_then HC.out ?_
  rintro e w1 ⟨rfl, hb1⟩
  have HB1 := Lib.hid hb1
  clear hb1 a3 HC
  go_upto_region 2 with (refine wpList_put_box (cells := joinCells J0.1) (Blk.new _ _ _) rfl rfl rfl rfl joinT_size rfl (joinCells_one _) ?_; intro w2 hb2 hw2)
  have hbw2 : Below w1.heap.size w1 w2 := box_low9 hw2
  obtain ⟨H, hH⟩ : ∃ H, H = w1.heap.size := ⟨_, rfl⟩
  rw [← hH] at hb2 ⊢
  have HJ2 := Lib.hid hb2
  have HB2 := Lib.hid (HB1.out.trans (hbw2.mono HB1.out.size))
  have HO2 := Lib.hid (HO0.out.below HB2.out HO0.out.lt)
  have HBW := Lib.hid (HB0.out.trans (HB2.out.mono HB0.out.size))
  clear hb2 hw2 hbw2 hH
  obtain ⟨JD, JB⟩ := J0
  dsimp only at HJ2 ⊢
  cases F with
  | none =>
    have hJ : (JD, JB) = (zJn, false) := HJF.out
    injection hJ with hJ1 hJ2
    subst hJ2
    have HRX := Lib.hid (show RX = (none, 7) from HJX.out)
    go_wp2_with (first
      | (refine wpList_build_any (cells := opN 0 0 ⟨#[]⟩ zNo) rfl #[] rfl op_zero ?_)
      | (refine wpList_put_box (x := .tmp 12) (cells := opN 0 0 ⟨#[]⟩ zNo) HO2.out rfl rfl rfl rfl opQ2_size rfl (opN_one _ _ _ _) ?_; intro w9 hb9 hw9))
    have HB9 := Lib.hid hb9
    have HF9 := Lib.hid (hw9.below HBW.out (by omega) (HBW.out).size)
    refine bodyPost_ret (results_box_tmp (P := Try.prog) rfl rfl HB9.out huo rfl opQ2_size) rfl ?_
    exact ⟨by rw [HRX.out]; rfl, HF9.out⟩
  | some j =>
    have hJ : (JD, JB) = (j, true) := HJF.out
    injection hJ with hJ1 hJ2
    subst hJ1 hJ2
    have HJ1 := Lib.hid (show RX = if JD.used = true then (none, 20) else if JD.exp ≤ now then (none, 15) else if ¬ ((ag.toList == JD.name.toList) = true ∧ sb = true) then (none, 1) else if hb = true then (none, 21) else (some ⟨ag, key, un, 0, ⟨#[]⟩⟩, 0) from HJX.out)
    obtain ⟨us, hus⟩ : ∃ us, us = JD.used := ⟨_, rfl⟩
    have c3 : w2.cell? ⟨H, 3, none⟩ = some (.bool us) := by rw [hus]; exact HJ2.out.cell 3
    have c2 : w2.cell? ⟨H, 2, none⟩ = some (.int .i64 JD.exp) := HJ2.out.cell 2
    have c1 : w2.cell? ⟨H, 1, none⟩ = some (.string JD.name) := HJ2.out.cell 1
    have HUS := Lib.hid hus
    clear hus
    cases us with
    | true =>
      have HRX := Lib.hid (show RX = (none, 20) by rw [HJ1.out, if_pos HUS.out.symm])
      go_wp2_with (first
        | (refine wpList_build_any (cells := opN 0 0 ⟨#[]⟩ zNo) rfl #[] rfl op_zero ?_)
        | (refine wpList_put_box (x := .tmp 12) (cells := opN 0 0 ⟨#[]⟩ zNo) HO2.out rfl rfl rfl rfl opQ2_size rfl (opN_one _ _ _ _) ?_; intro w9 hb9 hw9))
      have HB9 := Lib.hid hb9
      have HF9 := Lib.hid (hw9.below HBW.out (by omega) (HBW.out).size)
      refine bodyPost_ret (results_box_tmp (P := Try.prog) rfl rfl HB9.out huo rfl opQ2_size) rfl ?_
      exact ⟨by rw [HRX.out]; rfl, HF9.out⟩
    | false =>
      have HU0 := Lib.hid (show ¬ JD.used = true by rw [← HUS.out]; simp)
      obtain ⟨ov, hov⟩ : ∃ ov, ov = decide (JD.exp ≤ now) := ⟨_, rfl⟩
      have CO := Lib.hid (show Calls Try.prog 20 #[.int .i64 now, .int .i64 JD.exp] w2 (fun e w' => e = .returned (.bool ov) ∧ w' = w2) by rw [hov]; exact cover_any now JD.exp w2)
      have HOV := Lib.hid hov
      clear hov
      go_wp2_with fail
      refine calls_then CO.out ?_
      rintro e w3 ⟨rfl, rfl⟩
      cases ov with
      | true =>
        have HRX := Lib.hid (show RX = (none, 15) by rw [HJ1.out, if_neg HU0.out, if_pos (of_decide_eq_true HOV.out.symm)])
        go_wp2_with (first
          | (refine wpList_build_any (cells := opN 0 0 ⟨#[]⟩ zNo) rfl #[] rfl op_zero ?_)
          | (refine wpList_put_box (x := .tmp 12) (cells := opN 0 0 ⟨#[]⟩ zNo) HO2.out rfl rfl rfl rfl opQ2_size rfl (opN_one _ _ _ _) ?_; intro w9 hb9 hw9))
        have HB9 := Lib.hid hb9
        have HF9 := Lib.hid (hw9.below HBW.out (by omega) (HBW.out).size)
        refine bodyPost_ret (results_box_tmp (P := Try.prog) rfl rfl HB9.out huo rfl opQ2_size) rfl ?_
        exact ⟨by rw [HRX.out]; rfl, HF9.out⟩
      | false =>
        have HE0 := Lib.hid (show ¬ JD.exp ≤ now from of_decide_eq_false HOV.out.symm)
        obtain ⟨qn, hqn⟩ : ∃ q, (ag.toList == JD.name.toList) = q := ⟨_, rfl⟩
        cases qn with
        | false =>
          have HRX := Lib.hid (show RX = (none, 1) by rw [HJ1.out, if_neg HU0.out, if_neg (show ¬ JD.exp ≤ now by have := HE0.out; omega), if_pos (by rw [hqn]; simp)])
          go_wp2_with (first
            | (refine wpList_build_any (cells := opN 0 0 ⟨#[]⟩ zNo) rfl #[] rfl op_zero ?_)
            | (refine wpList_put_box (x := .tmp 12) (cells := opN 0 0 ⟨#[]⟩ zNo) HO2.out rfl rfl rfl rfl opQ2_size rfl (opN_one _ _ _ _) ?_; intro w9 hb9 hw9))
          have HB9 := Lib.hid hb9
          have HF9 := Lib.hid (hw9.below HBW.out (by omega) (HBW.out).size)
          refine bodyPost_ret (results_box_tmp (P := Try.prog) rfl rfl HB9.out huo rfl opQ2_size) rfl ?_
          exact ⟨by rw [HRX.out]; rfl, HF9.out⟩
        | true =>
          have HQN := Lib.hid hqn
          go_wp2_with fail
          refine calls_then (CS.out _) ?_
          rintro e w4 ⟨rfl, rfl⟩
          cases sb with
          | false =>
            have HRX := Lib.hid (show RX = (none, 1) by rw [HJ1.out, if_neg HU0.out, if_neg (show ¬ JD.exp ≤ now by have := HE0.out; omega), if_pos (by simp)])
            go_wp2_with (first
              | (refine wpList_build_any (cells := opN 0 0 ⟨#[]⟩ zNo) rfl #[] rfl op_zero ?_)
              | (refine wpList_put_box (x := .tmp 12) (cells := opN 0 0 ⟨#[]⟩ zNo) HO2.out rfl rfl rfl rfl opQ2_size rfl (opN_one _ _ _ _) ?_; intro w9 hb9 hw9))
            have HB9 := Lib.hid hb9
            have HF9 := Lib.hid (hw9.below HBW.out (by omega) (HBW.out).size)
            refine bodyPost_ret (results_box_tmp (P := Try.prog) rfl rfl HB9.out huo rfl opQ2_size) rfl ?_
            exact ⟨by rw [HRX.out]; rfl, HF9.out⟩
          | true =>
            have b2 := HA2.out _ HB2.out
            go_wp2_with fail
            refine calls_then (CH.out _ HB2.out) ?_
            rintro e w5 ⟨rfl, rfl⟩
            cases hb with
            | true =>
              have HRX := Lib.hid (show RX = (none, 21) by rw [HJ1.out, if_neg HU0.out, if_neg (show ¬ JD.exp ≤ now by have := HE0.out; omega), if_neg (by rw [HQN.out]; simp), if_pos rfl])
              go_wp2_with (first
                | (refine wpList_build_any (cells := opN 0 0 ⟨#[]⟩ zNo) rfl #[] rfl op_zero ?_)
                | (refine wpList_put_box (x := .tmp 12) (cells := opN 0 0 ⟨#[]⟩ zNo) HO2.out rfl rfl rfl rfl opQ2_size rfl (opN_one _ _ _ _) ?_; intro w9 hb9 hw9))
              have HB9 := Lib.hid hb9
              have HF9 := Lib.hid (hw9.below HBW.out (by omega) (HBW.out).size)
              refine bodyPost_ret (results_box_tmp (P := Try.prog) rfl rfl HB9.out huo rfl opQ2_size) rfl ?_
              exact ⟨by rw [HRX.out]; rfl, HF9.out⟩
            | false =>
              have HRX := Lib.hid (show RX = (some ⟨ag, key, un, 0, ⟨#[]⟩⟩, 0) by rw [HJ1.out, if_neg HU0.out, if_neg (show ¬ JD.exp ≤ now by have := HE0.out; omega), if_neg (by rw [HQN.out]; simp), if_neg (by simp)])
              obtain ⟨wq, hwq⟩ : ∃ wq, wq = w5 := ⟨_, rfl⟩
              rw [← hwq] at HB2 HO2 HBW ⊢
              have HT := Lib.hid (show Blk wq (w.heap.size + 1) 9 #[.string tok] from HS0.out.below HB2.out HS0.out.lt)
              have t0 : wq.cell? ⟨w.heap.size + 1, 0, none⟩ = some (.string tok) := HT.out.cell 0
              clear hwq c1 c2 c3 b2 hqn CO
              go_wp2_with fail
              have HC0 : Below wq.heap.size wq wq.drew := (Below.refl _ _).drew
              apply wp_region_seqh (fun u => Below wq.heap.size wq u) (fun u u' => Below u.heap.size u u') [_, _, _, _, _, _, .agg (nodeCells ⟨ag, key, un, 0, ⟨#[]⟩⟩), .agg (opN 4 0 tok ⟨ag, key, un, 0, ⟨#[]⟩⟩)] (gOf []) 8 (by kernel_rfl) (by kernel_rfl) (by decide) (by kernel_rfl) (stabL_of _ trivial) HC0
              simp only [List.take_succ_cons, List.take_zero, List.drop_succ_cons, List.drop_zero]
              apply SeqG.next
              · rfl
              · rfl
              · rfl
              · simp only [act_put, act_put_none, List.setIfInBounds_toArray, List.set_cons_zero, List.set_cons_succ]
                rfl
              · intro w1 hC1 hf E hE
                have d0 := (hC1.cell (p := ⟨w.heap.size + 1, 0, none⟩) HT.out.lt).trans t0
                go_wp2
                exact .mk (hE _ hC1 (Below.refl _ _))
              iterate 4
                ((first | (apply SeqG.next; rfl; rfl; rfl)); (simp only [act_put, act_put_none, List.setIfInBounds_toArray, List.set_cons_zero, List.set_cons_succ]; rfl); (intro w1 hC1 hf E hE; go_wp2; exact .mk (hE _ hC1 (Below.refl _ _))))
              apply SeqG.next
              · rfl
              · rfl
              · rfl
              · simp only [act_put, act_put_none, List.setIfInBounds_toArray, List.set_cons_zero, List.set_cons_succ]
                rfl
              · intro w1 hC1 hf E hE
                go_wp2_with fail
                refine calls_then (CU.out _) ?_
                rintro e w7 ⟨rfl, hb7⟩
                go_wp2_with fail
                exact .mk (hE _ (hC1.trans (hb7.mono hC1.size)) hb7)
              apply SeqG.next
              · rfl
              · rfl
              · rfl
              · simp only [act_put, act_put_none, List.setIfInBounds_toArray, List.set_cons_zero, List.set_cons_succ]
                rfl
              · intro w1 hC1 hf E hE
                refine wpList_build_any (cells := nodeCells ⟨ag, key, un, 0, ⟨#[]⟩⟩) rfl _ rfl (by kernel_rfl) ?_
                go_wp2_with fail
                exact .mk (hE _ hC1 (Below.refl _ _))
              apply SeqG.next
              · rfl
              · rfl
              · rfl
              · simp only [act_put, act_put_none, List.setIfInBounds_toArray, List.set_cons_zero, List.set_cons_succ]
                rfl
              · intro w1 hC1 hf E hE
                refine wpList_build_any (cells := opN 4 0 tok ⟨ag, key, un, 0, ⟨#[]⟩⟩) rfl _ rfl (by kernel_rfl) ?_
                go_wp2_with fail
                exact .mk (hE _ hC1 (Below.refl _ _))
              refine SeqG.nil ?_
              intro w1 hC1 hf
              clear hf
              refine SeqT.step rfl ?_
              intro E hE
              simp only [act_put, act_put_none, List.setIfInBounds_toArray, List.set_cons_zero, List.set_cons_succ] at hE
              have HBC := Lib.hid hC1
              refine wpList_put_box (cells := opN 4 0 tok ⟨ag, key, un, 0, ⟨#[]⟩⟩) (HO2.out.below hC1 HO2.out.lt) rfl rfl rfl rfl opQ2_size rfl (opN_one _ _ _ _) ?_
              intro w9 hb9 hw9
              have HB9 := Lib.hid hb9
              have HW9 := Lib.hid hw9
              clear hb9 hw9
              go_wp2_with fail
              refine .mk (hE undef _ ?_)
              clear hE E
              refine SeqT.step rfl ?_
              intro E hE
              simp only [act_put, act_put_none, List.setIfInBounds_toArray, List.set_cons_zero, List.set_cons_succ] at hE
              go_wp2
              refine .mk (hE _ _ ?_)
              clear hE E
              refine SeqT.nil ?_
              have HF9 := Lib.hid (HW9.out.below (HBW.out.trans (HBC.out.mono HBW.out.size)) (by omega) (HBW.out.trans (HBC.out.mono HBW.out.size)).size)
              clear hC1 HC0
              go_wp2_with fail
              refine bodyPost_ret (results_box_tmp (P := Try.prog) rfl rfl HB9.out huo rfl opQ2_size) rfl ?_
              exact ⟨by rw [HRX.out]; rfl, HF9.out⟩
end Go.Proofs.Ytcnebbhnpocofaa
/-
  Walks: brevetlaw20.few, cut, lives.
-/
namespace Go.Proofs.Ytcnebbhnpocofaa
set_option linter.unusedSimpArgs false
set_option linter.unusedVariables false
open Go.RowKit

set_option maxHeartbeats 2000000 in
theorem few20_any (s : ByteArray) (w : World) : Calls Try.prog 15 #[.string s] w fun e w' => e = .returned (.string (few60 s)) ∧ w' = w := by
  go_enter Try.func15, Try.ntmps15
  by_cases hl : 60 < s.size
  · have hl' : (60 : Int) < (s.size : Int) := by omega
    have hl2 : 60 ≤ s.size := by omega
    have HF := Lib.hid (show few60 s = s.extract 0 60 by rw [few60, if_pos hl])
    clear hl
    go_wp2_with fail
    go_ret
    exact ⟨by rw [HF.out]; rfl, rfl⟩
  · have hl' : ¬ (60 : Int) < (s.size : Int) := by omega
    have HF := Lib.hid (show few60 s = s by rw [few60, if_neg hl])
    clear hl
    go_wp2_with fail
    go_ret
    exact ⟨by rw [HF.out]; rfl, rfl⟩
def zAsk : AskD := ⟨⟨#[]⟩, ⟨#[]⟩, ⟨#[]⟩, 0, 0⟩
def cutA (k : AskD) : AskD := ⟨few60 k.name, few60 k.agent, few60 k.key, k.now, k.ttl⟩
theorem askC_one (k : AskD) : (askC k).all (·.oneCell') = true := by simp [askC, Value.oneCell']
theorem askT_size : (Try.prog.info? 24).map (·.size) = some 5 := by kernel_rfl
set_option maxRecDepth 100000 in
set_option maxHeartbeats 4000000 in
theorem cut20_any (k : AskD) (w : World) : Calls Try.prog 5 #[.agg (askC k)] w fun e w' => e = .returned (.agg (askC (cutA k))) ∧ Below w.heap.size w w' := by
  have hua := Try.underlying24
  obtain ⟨W0, hW0⟩ : ∃ W0, W0 = (w.alloc (.cells (askC k) 24)).alloc (.cells (askC zAsk) 24) := ⟨_, rfl⟩
  have hb0 : Below w.heap.size w W0 := by rw [hW0]; exact ((Below.refl _ w).alloc (Nat.le_refl _) _).alloc (by simp) _
  have HB0 := Lib.hid hb0
  have HK0 := Lib.hid (show Blk W0 w.heap.size 24 (askC k) by rw [hW0]; exact (Blk.new _ _ _).alloc _)
  have HZ0 := Lib.hid (show Blk W0 (w.heap.size + 1) 24 (askC zAsk) by rw [hW0]; have := Blk.new (w.alloc (.cells (askC k) 24)) 24 (askC zAsk); simpa using this)
  have HW0 := Lib.hid hW0
  have HF := Lib.hid few20_any
  obtain ⟨R, hR⟩ : ∃ R, R = askC (cutA k) := ⟨_, rfl⟩
  have HRE := Lib.hid (show R = askC ⟨few60 k.name, few60 k.agent, few60 k.key, k.now, k.ttl⟩ from hR)
  rw [← hR]
  clear hW0 hb0 hR
  go_enter Try.func5, Try.ntmps5
  go_upto_region 1 with (fail)
  rw [show (w.alloc (.cells (askC k) 24)).alloc (.cells #[.string ⟨#[]⟩, .string ⟨#[]⟩, .string ⟨#[]⟩, .int .i64 0, .int .i64 0] 24) = W0 from HW0.out.symm]
  generalize Value.agg (askC k) = AV
  go_wp2_with fail
  have HC0 : Below W0.heap.size W0 W0.drew := (Below.refl _ _).drew
  apply wp_region_seqh (fun u => Below W0.heap.size W0 u) (fun u u' => Below u.heap.size u u') [_, _, _, _, _, _, _, _, _, _, _, _, _, .agg (askC ⟨few60 k.name, few60 k.agent, few60 k.key, k.now, k.ttl⟩)] (gOf []) 14 (by kernel_rfl) (by kernel_rfl) (by decide) (by kernel_rfl) (stabL_of _ trivial) HC0
  simp only [List.take_succ_cons, List.take_zero, List.drop_succ_cons, List.drop_zero]
  iterate 1
    ((first | (apply SeqG.next; rfl; rfl; rfl)); (simp only [act_put, act_put_none, List.setIfInBounds_toArray, List.set_cons_zero, List.set_cons_succ]; rfl); (intro w1 hC1 hf E hE; go_wp2; exact .mk (hE _ hC1 (Below.refl _ _))))
  apply SeqG.next
  · rfl
  · rfl
  · rfl
  · simp only [act_put, act_put_none, List.setIfInBounds_toArray, List.set_cons_zero, List.set_cons_succ]
    rfl
  · intro w1 hC1 hf E hE
    have d0 : w1.cell? ⟨w.heap.size, 0, none⟩ = some (.string k.name) := (HK0.out.below hC1 HK0.out.lt).cell 0
    go_wp2
    exact .mk (hE _ hC1 (Below.refl _ _))
  apply SeqG.next
  · rfl
  · rfl
  · rfl
  · simp only [act_put, act_put_none, List.setIfInBounds_toArray, List.set_cons_zero, List.set_cons_succ]
    rfl
  · intro w1 hC1 hf E hE
    go_wp2_with fail
    refine calls_then (HF.out _ _) ?_
    rintro e w7 ⟨rfl, rfl⟩
    go_wp2_with fail
    exact .mk (hE _ hC1 (Below.refl _ _))
  iterate 1
    ((first | (apply SeqG.next; rfl; rfl; rfl)); (simp only [act_put, act_put_none, List.setIfInBounds_toArray, List.set_cons_zero, List.set_cons_succ]; rfl); (intro w1 hC1 hf E hE; go_wp2; exact .mk (hE _ hC1 (Below.refl _ _))))
  apply SeqG.next
  · rfl
  · rfl
  · rfl
  · simp only [act_put, act_put_none, List.setIfInBounds_toArray, List.set_cons_zero, List.set_cons_succ]
    rfl
  · intro w1 hC1 hf E hE
    have d0 : w1.cell? ⟨w.heap.size, 1, none⟩ = some (.string k.agent) := (HK0.out.below hC1 HK0.out.lt).cell 1
    go_wp2
    exact .mk (hE _ hC1 (Below.refl _ _))
  apply SeqG.next
  · rfl
  · rfl
  · rfl
  · simp only [act_put, act_put_none, List.setIfInBounds_toArray, List.set_cons_zero, List.set_cons_succ]
    rfl
  · intro w1 hC1 hf E hE
    go_wp2_with fail
    refine calls_then (HF.out _ _) ?_
    rintro e w7 ⟨rfl, rfl⟩
    go_wp2_with fail
    exact .mk (hE _ hC1 (Below.refl _ _))
  iterate 1
    ((first | (apply SeqG.next; rfl; rfl; rfl)); (simp only [act_put, act_put_none, List.setIfInBounds_toArray, List.set_cons_zero, List.set_cons_succ]; rfl); (intro w1 hC1 hf E hE; go_wp2; exact .mk (hE _ hC1 (Below.refl _ _))))
  apply SeqG.next
  · rfl
  · rfl
  · rfl
  · simp only [act_put, act_put_none, List.setIfInBounds_toArray, List.set_cons_zero, List.set_cons_succ]
    rfl
  · intro w1 hC1 hf E hE
    have d0 : w1.cell? ⟨w.heap.size, 2, none⟩ = some (.string k.key) := (HK0.out.below hC1 HK0.out.lt).cell 2
    go_wp2
    exact .mk (hE _ hC1 (Below.refl _ _))
  apply SeqG.next
  · rfl
  · rfl
  · rfl
  · simp only [act_put, act_put_none, List.setIfInBounds_toArray, List.set_cons_zero, List.set_cons_succ]
    rfl
  · intro w1 hC1 hf E hE
    go_wp2_with fail
    refine calls_then (HF.out _ _) ?_
    rintro e w7 ⟨rfl, rfl⟩
    go_wp2_with fail
    exact .mk (hE _ hC1 (Below.refl _ _))
  iterate 1
    ((first | (apply SeqG.next; rfl; rfl; rfl)); (simp only [act_put, act_put_none, List.setIfInBounds_toArray, List.set_cons_zero, List.set_cons_succ]; rfl); (intro w1 hC1 hf E hE; go_wp2; exact .mk (hE _ hC1 (Below.refl _ _))))
  apply SeqG.next
  · rfl
  · rfl
  · rfl
  · simp only [act_put, act_put_none, List.setIfInBounds_toArray, List.set_cons_zero, List.set_cons_succ]
    rfl
  · intro w1 hC1 hf E hE
    have d0 : w1.cell? ⟨w.heap.size, 3, none⟩ = some (.int .i64 k.now) := (HK0.out.below hC1 HK0.out.lt).cell 3
    go_wp2
    exact .mk (hE _ hC1 (Below.refl _ _))
  iterate 1
    ((first | (apply SeqG.next; rfl; rfl; rfl)); (simp only [act_put, act_put_none, List.setIfInBounds_toArray, List.set_cons_zero, List.set_cons_succ]; rfl); (intro w1 hC1 hf E hE; go_wp2; exact .mk (hE _ hC1 (Below.refl _ _))))
  apply SeqG.next
  · rfl
  · rfl
  · rfl
  · simp only [act_put, act_put_none, List.setIfInBounds_toArray, List.set_cons_zero, List.set_cons_succ]
    rfl
  · intro w1 hC1 hf E hE
    have d0 : w1.cell? ⟨w.heap.size, 4, none⟩ = some (.int .i64 k.ttl) := (HK0.out.below hC1 HK0.out.lt).cell 4
    go_wp2
    exact .mk (hE _ hC1 (Below.refl _ _))
  apply SeqG.next
  · rfl
  · rfl
  · rfl
  · simp only [act_put, act_put_none, List.setIfInBounds_toArray, List.set_cons_zero, List.set_cons_succ]
    rfl
  · intro w1 hC1 hf E hE
    refine wpList_build_any (cells := askC ⟨few60 k.name, few60 k.agent, few60 k.key, k.now, k.ttl⟩) rfl _ rfl (by kernel_rfl) ?_
    go_wp2_with fail
    exact .mk (hE _ hC1 (Below.refl _ _))
  refine SeqG.nil ?_
  intro w1 hC1 hf
  clear hf
  refine SeqT.step rfl ?_
  intro E hE
  simp only [act_put, act_put_none, List.setIfInBounds_toArray, List.set_cons_zero, List.set_cons_succ] at hE
  have HBC := Lib.hid hC1
  refine wpList_put_box (cells := askC ⟨few60 k.name, few60 k.agent, few60 k.key, k.now, k.ttl⟩) (HZ0.out.below hC1 HZ0.out.lt) rfl rfl rfl rfl askT_size rfl (askC_one _) ?_
  intro w9 hb9 hw9
  have HB9 := Lib.hid hb9
  have HW9 := Lib.hid hw9
  clear hb9 hw9
  go_wp2_with fail
  refine .mk (hE undef _ ?_)
  clear hE E
  refine SeqT.nil ?_
  have HF9 := Lib.hid (HW9.out.below (HB0.out.trans (HBC.out.mono HB0.out.size)) (by omega) (HB0.out.trans (HBC.out.mono HB0.out.size)).size)
  clear hC1 HC0
  go_wp2_with fail
  refine bodyPost_ret (results_box (P := Try.prog) rfl rfl HB9.out hua rfl askT_size) rfl ?_
  exact ⟨by rw [HRE.out], HF9.out⟩
theorem row_one {w : World} {g : Nat} {s : ByteArray} (h : Blk w g 9 #[.string s]) : Row w w.heap.size 9 (some ⟨g, 0, none⟩) (rowsV strCell [s]) := fun i u hu => by
  match i with
  | 0 =>
    have e : u = .string s := by simpa [rowsV, strCell] using hu.symm
    subst e
    exact ⟨⟨g, 0, none⟩, _, _, rfl, h.lt, h.cell 0, h⟩
  | i + 1 => simp [rowsV, strCell] at hu
/-- the example's ledger -/
def exD (g : Nat) (a : ByteArray) : LedD := { zLed with bans := ⟨some ⟨g, 0, none⟩, 1, [a]⟩ }
theorem exD_ok {w : World} {g : Nat} {a : ByteArray} (h : Blk w g 9 #[.string a]) : LedOk w 900 (exD g a) := by
  have z := (zLed_ok w).more (K' := 900) (by omega)
  exact ⟨z.ents, z.nodes, ⟨row_one h, by show 1 ≤ 900; omega, Nat.le_refl _⟩, z.joins, z.keys, z.buns, z.entOk, z.bunOk⟩
theorem exD_good (g : Nat) (a : ByteArray) (now : Int) : goodX (exD g a) a now = (zNd, 21) := by
  rw [goodX, if_pos]
  show hasB [a] a = true
  simp [hasB]
theorem led_none : Try.prog.built 33 [] = some (ledCells zLed) := by kernel_rfl
theorem led_bans (g : Nat) (a : ByteArray) : Try.prog.built 33 [(2, .slice (some ⟨g, 0, none⟩) 1 1)] = some (ledCells (exD g a)) := by kernel_rfl
set_option maxRecDepth 100000 in
set_option maxHeartbeats 4000000 in
theorem lives20_any (w : World) : Calls Try.prog 10 #[] w fun e w' => e = .returned (.bool true) ∧ Below w.heap.size w w' := by
  have hus := Try.underlying28
  obtain ⟨ag, hag⟩ : ∃ a : ByteArray, a = ⟨#[47, 97, 103, 101, 110, 116, 47, 97]⟩ := ⟨_, rfl⟩
  have HJ := Lib.hid (show ∀ tok key u, Calls Try.prog 7 #[.agg (ledCells zLed), .string tok, .string ag, .string key, .int .i64 1, .int .i64 1] u (fun e w' => e = .returned (.tuple #[.agg (opN 0 0 ⟨#[]⟩ zNo), .int .i64 7]) ∧ Below u.heap.size u w') from
    fun tok key u => ajoin_any zLed tok ag key 1 1 u ((zLed_ok u).more (by omega)))
  have HG := Lib.hid (show ∀ g u, Blk u g 9 #[.string ag] → Calls Try.prog 11 #[.agg (ledCells (exD g ag)), .string ag, .int .i64 1] u (fun e w' => e = .returned (.tuple #[.agg (nodeCells zNd), .int .i64 21]) ∧ Below u.heap.size u w') from
    fun g u h => (agood_any (exD g ag) ag 1 u (exD_ok h)).mono fun e w' h2 => by
      obtain ⟨h2, h3⟩ := h2
      rw [exD_good] at h2
      exact ⟨h2, h3⟩)
  rw [show ag = ⟨#[47, 97, 103, 101, 110, 116, 47, 97]⟩ from hag] at HJ HG
  have HAG := Lib.hid hag
  clear hag
  go_enter Try.func10, Try.ntmps10
  go_wp2_with (refine wpList_build_any (cells := ledCells zLed) rfl #[] rfl led_none ?_)
  refine calls_then (HJ.out _ _ _) ?_
  rintro e w1 ⟨rfl, hb1⟩
  have HB1 := Lib.hid hb1
  clear hb1
  go_upto_region 2 with (refine wpList_put_box (cells := opN 0 0 ⟨#[]⟩ zNo) (Blk.new _ _ _) rfl rfl rfl rfl opQ2_size rfl (opN_one _ _ _ _) ?_; intro w2 hb2 hw2)
  have hbw2 : Below w1.heap.size w1 w2 := box_low9 hw2
  have HB2 := Lib.hid (HB1.out.trans (hbw2.mono HB1.out.size))
  clear hb2 hw2 hbw2
  obtain ⟨W3, hW3⟩ : ∃ W, W = w2.alloc (.cells #[.string ⟨#[47, 97, 103, 101, 110, 116, 47, 97]⟩] 9) := ⟨_, rfl⟩
  have HK3 := Lib.hid (show Blk W3 w2.heap.size 9 #[.string ⟨#[47, 97, 103, 101, 110, 116, 47, 97]⟩] by rw [hW3]; exact Blk.new _ _ _)
  have HB3 := Lib.hid (show Below w.heap.size w W3 by rw [hW3]; exact HB2.out.alloc HB2.out.size _)
  have HW3 := Lib.hid hW3
  clear hW3
  go_wp2_with (first
    | (refine Great.wpList_buildSliceTo rfl _ _ 1 _ rfl _ rfl _ rfl hus #[.string ⟨#[47, 97, 103, 101, 110, 116, 47, 97]⟩] (by kernel_rfl) ?_; rw [show w2.alloc (.cells #[.string ⟨#[47, 97, 103, 101, 110, 116, 47, 97]⟩] 9) = W3 from HW3.out.symm])
    | (refine wpList_build_any (cells := ledCells (exD w2.heap.size ⟨#[47, 97, 103, 101, 110, 116, 47, 97]⟩)) rfl _ rfl (by kernel_rfl) ?_))
  refine calls_then (HG.out _ _ HK3.out) ?_
  rintro e w4 ⟨rfl, hb4⟩
  have HB4 := Lib.hid (HB3.out.trans (hb4.mono HB3.out.size))
  clear hb4
  go_upto_region 3 with (refine wpList_put_box (cells := nodeCells zNd) (Blk.new _ _ _) rfl rfl rfl rfl nodeT_size rfl (nodeCells_one _) ?_; intro w5 hb5 hw5)
  have hbw5 : Below w4.heap.size w4 w5 := box_low9 hw5
  have HB5 := Lib.hid (HB4.out.trans (hbw5.mono HB4.out.size))
  clear hb5 hw5 hbw5
  go_wp2_with fail
  go_ret
  exact ⟨rfl, HB5.out⟩
end Go.Proofs.Ytcnebbhnpocofaa
/-
  Walk: brevetref20.Join. (Printed by gen/jz20.py.)
-/
namespace Go.Proofs.Ytcnebbhnpocofaa
set_option linter.unusedSimpArgs false
set_option linter.unusedVariables false
open Go.RowKit

set_option maxRecDepth 100000 in
set_option maxHeartbeats 8000000 in
theorem rjoin_any (d : LedD) (tok ag key : ByteArray) (now ttl : Int) (w : World) (h : LedOk w 900 d) (hnow : InR now) (httl : InR ttl) :
    Calls Try.prog 8 #[.agg (ledCells d), .string tok, .string ag, .string key, .int .i64 now, .int .i64 ttl] w (JxPost d tok ag key now ttl w) := by
  have huo := Try.underlying47
  have huj := Try.underlying38
  obtain ⟨W0, hW0⟩ : ∃ W0, W0 = ((w.alloc (.cells (ledCells d) 33)).alloc (.cells (opN 0 0 ⟨#[]⟩ zNo) 47)).alloc (.cells (opN 0 0 ⟨#[]⟩ zNo) 47) := ⟨_, rfl⟩
  have hb0 : Below w.heap.size w W0 := by rw [hW0]; exact (((Below.refl _ w).alloc (Nat.le_refl _) _).alloc (by simp) _).alloc (by simp; omega) _
  have HB0 := Lib.hid hb0
  have HK0 := Lib.hid (show Blk W0 w.heap.size 33 (ledCells d) by rw [hW0]; exact ((Blk.new _ _ _).alloc _).alloc _)
  have HO0 := Lib.hid (show Blk W0 (w.heap.size + 1) 47 (opN 0 0 ⟨#[]⟩ zNo) by rw [hW0]; have := (Blk.new (w.alloc (.cells (ledCells d) 33)) 47 (opN 0 0 ⟨#[]⟩ zNo)).alloc (.cells (opN 0 0 ⟨#[]⟩ zNo) 47); simpa using this)
  have HZ0 := Lib.hid (show Blk W0 (w.heap.size + 2) 47 (opN 0 0 ⟨#[]⟩ zNo) by rw [hW0]; have := Blk.new ((w.alloc (.cells (ledCells d) 33)).alloc (.cells (opN 0 0 ⟨#[]⟩ zNo) 47)) 47 (opN 0 0 ⟨#[]⟩ zNo); simpa using this)
  have HW0 := Lib.hid hW0
  have hok := h.grow hb0
  have HOK := Lib.hid hok
  obtain ⟨lj, hlj⟩ : ∃ lj, lj = d.joins := ⟨_, rfl⟩
  have HL := Lib.hid (show (lj.l.length : Int) ≤ 900 by rw [hlj]; have := hok.joins.len; omega)
  have HR := Lib.hid (show ∀ u, Below W0.heap.size W0 u → Rd u u.heap.size lj.A (rowsV joinCells lj.l) from fun u hu => by rw [hlj]; exact (hok.grow hu).joins.row.rd)
  have HA3 := Lib.hid (show ∀ u, Below W0.heap.size W0 u → u.cell? ⟨w.heap.size, 3, none⟩ = some (.slice lj.A lj.l.length lj.c) from fun u hu => by rw [hlj]; exact (HK0.out.below hu HK0.out.lt).cell 3)
  have HA2 := Lib.hid (show ∀ u, Below W0.heap.size W0 u → u.cell? ⟨w.heap.size, 2, none⟩ = some (.slice d.bans.A d.bans.l.length d.bans.c) from fun u hu => (HK0.out.below hu HK0.out.lt).cell 2)
  have HX := Lib.hid (show JxPost d tok ag key now ttl w = fun e w' => e = .returned (.tuple #[.agg (opV (joinX d tok ag key now ttl).1 tok), .int .i64 (joinX d tok ag key now ttl).2]) ∧ Below w.heap.size w w' from rfl)
  have HJX := Lib.hid (show joinX d tok ag key now ttl = match lj.l.find? (eqJ tok) with
    | none => (none, 7)
    | some j => if j.used = true then (none, 20) else if j.exp ≤ now then (none, 15) else if ¬ ((ag.toList == j.name.toList) = true ∧ soundB key now ttl = true) then (none, 1) else if hasB d.bans.l ag = true then (none, 21) else (some ⟨ag, key, timeC now ttl, 0, ⟨#[]⟩⟩, 0) from by rw [hlj]; rfl)
  have CH := Lib.hid (show ∀ u, Below W0.heap.size W0 u → Calls Try.prog 25 #[.slice d.bans.A d.bans.l.length d.bans.c, .string ag] u fun e w' => e = .returned (.bool (hasB d.bans.l ag)) ∧ w' = u from fun u hu => by
    have := (HOK.out.grow hu).bans
    exact (has9_any d.bans.l (by have := this.len; omega) ag d.bans.A d.bans.c u.heap.size u (by have h := this.row.rd; rw [show rowsV strCell d.bans.l = d.bans.l.map Value.string from rowsV_str _] at h; exact h)).mono fun e w' h => ⟨h.1, h.2.symm⟩)
  have CU := Lib.hid (fun (u : World) => runtil_any now ttl hnow httl u)
  have CS := Lib.hid (fun (u : World) => rsound_any key now ttl u)
  obtain ⟨RX, hRX⟩ : ∃ R, R = joinX d tok ag key now ttl := ⟨_, rfl⟩
  rw [← hRX] at HJX HX
  rw [HX.out]
  obtain ⟨hb, hhb⟩ : ∃ b, b = hasB d.bans.l ag := ⟨_, rfl⟩
  rw [← hhb] at HJX CH
  obtain ⟨sb, hsb⟩ : ∃ b, b = soundB key now ttl := ⟨_, rfl⟩
  rw [← hsb] at HJX CS
  obtain ⟨un, hun⟩ : ∃ b, b = timeC now ttl := ⟨_, rfl⟩
  rw [← hun] at HJX CU
  clear hW0 hb0 h hok hRX hhb hsb hun hlj hnow httl
  go_enter Try.func8, Try.ntmps8
  go_upto_region 2 with (fail)
  rw [show ((w.alloc (.cells (ledCells d) 33)).alloc (.cells #[.int .i64 0, .int .i64 0, .string ⟨#[]⟩, .int .i64 0, .string ⟨#[]⟩, .string ⟨#[]⟩, .int .i64 0, .slice none 0 0, .string ⟨#[]⟩, .string ⟨#[]⟩, .int .i64 0, .bool false, .string ⟨#[]⟩, .string ⟨#[]⟩, .int .i64 0, .int .i64 0, .string ⟨#[]⟩, .string ⟨#[]⟩, .string ⟨#[]⟩, .int .i64 0, .int .i64 0, .string ⟨#[]⟩, .int .i64 0, .slice none 0 0] 47)).alloc (.cells #[.int .i64 0, .int .i64 0, .string ⟨#[]⟩, .int .i64 0, .string ⟨#[]⟩, .string ⟨#[]⟩, .int .i64 0, .slice none 0 0, .string ⟨#[]⟩, .string ⟨#[]⟩, .int .i64 0, .bool false, .string ⟨#[]⟩, .string ⟨#[]⟩, .int .i64 0, .int .i64 0, .string ⟨#[]⟩, .string ⟨#[]⟩, .string ⟨#[]⟩, .int .i64 0, .int .i64 0, .string ⟨#[]⟩, .int .i64 0, .slice none 0 0] 47) = W0 from HW0.out.symm]
  generalize Value.agg (ledCells d) = AV
  go_wp2_with fail
  go_loopw [15] (fun x wr => ∃ i : Nat, i ≤ lj.l.length ∧ x = .int .i64 (i : Int) ∧ (∀ k ∈ lj.l.take i, eqJ tok k = false) ∧ Below W0.heap.size W0 wr) (fun x _ => lj.l.length - (intOf x).toNat)
  case atStart => exact ⟨0, Nat.zero_le _, rfl, by simp, Below.refl _ _⟩
  case round =>
    obtain ⟨i, hi, rfl, hok, hbw⟩ := hrel
    have HNK := Lib.hid hok
    have HBR := Lib.hid hbw
    have a3 := HA3.out _ hbw
    clear hok hbw
    have hns := HL.out
    by_cases hlt : i < lj.l.length
    · have hlt' : (i : Int) < (lj.l.length : Int) := by omega
      have hi0 : (0 : Int) ≤ (i : Int) := by omega
      obtain ⟨ad, hA, -, hcell⟩ := rd_rows (f := joinCells) (m := 4) (fun _ => rfl) (by decide) (HR.out wr HBR.out) hlt
      rw [hA] at a3
      obtain ⟨JD, hX⟩ : ∃ X, X = lj.l[i] := ⟨_, rfl⟩
      rw [← hX] at hcell
      have HCL := Lib.hid (show ∀ j u, (joinCells JD).toList[j]? = some u → wr.cell? ((ad.add (i * 4)).add j) = some u from fun j u hu => hcell j u (by simpa using hu))
      have HLT := Lib.hid hlt
      have HXE := Lib.hid (show ∀ h : i < lj.l.length, JD = lj.l[i]'h from fun _ => hX)
      clear hX hcell hA hlt
      go_upto_region 6 with (first
        | (refine wpList_get_rd (r := (joinCells JD).toList) HCL.out rfl rfl rfl huj rfl joinT_size ?_)
        | (refine wpList_put_box (cells := joinCells JD) (Blk.new _ _ _) rfl rfl rfl rfl joinT_size rfl (joinCells_one _) ?_; intro w2 hb2 hw2))
      have hbw2 : Below wr.heap.size wr w2 := box_low9 hw2
      obtain ⟨H, hH⟩ : ∃ H, H = wr.heap.size := ⟨_, rfl⟩
      rw [← hH] at hb2 ⊢
      have HJ2 := Lib.hid hb2
      have HB2 := Lib.hid (HBR.out.trans (hbw2.mono HBR.out.size))
      have HO2 := Lib.hid (HO0.out.below HB2.out HO0.out.lt)
      have HZ2 := Lib.hid (HZ0.out.below HB2.out HZ0.out.lt)
      have HBW := Lib.hid (HB0.out.trans (HB2.out.mono HB0.out.size))
      have c0 : w2.cell? ⟨H, 0, none⟩ = some (.string JD.text) := hb2.cell 0
      clear hb2 hw2 hbw2 hH a3
      obtain ⟨q, hq⟩ : ∃ q, (JD.text.toList == tok.toList) = q := ⟨_, rfl⟩
      cases q with
      | false =>
        have HNN := Lib.hid (show ∀ k ∈ lj.l.take (i + 1), eqJ tok k = false by
          intro k hk
          rw [List.take_succ_eq_append_getElem HLT.out] at hk
          rcases List.mem_append.1 hk with hk | hk
          · exact HNK.out k hk
          · rw [List.mem_singleton] at hk
            rw [hk, ← HXE.out HLT.out]
            exact hq)
        go_wp2_with fail
        go_roundw
        case rel => exact ⟨i + 1, HLT.out, by go_num, HNN.out, HB2.out⟩
        case measure => have := HLT.out; simp [intOf]; omega
      | true =>
        have HJ1 := Lib.hid (show RX = if JD.used = true then (none, 20) else if JD.exp ≤ now then (none, 15) else if ¬ ((ag.toList == JD.name.toList) = true ∧ sb = true) then (none, 1) else if hb = true then (none, 21) else (some ⟨ag, key, un, 0, ⟨#[]⟩⟩, 0) by
          rw [HJX.out, find_at (eqJ tok) HNK.out HLT.out (by rw [← HXE.out HLT.out]; exact hq), ← HXE.out HLT.out])
        obtain ⟨us, hus⟩ : ∃ us, us = JD.used := ⟨_, rfl⟩
        have c3 : w2.cell? ⟨H, 3, none⟩ = some (.bool us) := by rw [hus]; exact HJ2.out.cell 3
        have c2 : w2.cell? ⟨H, 2, none⟩ = some (.int .i64 JD.exp) := HJ2.out.cell 2
        have c1 : w2.cell? ⟨H, 1, none⟩ = some (.string JD.name) := HJ2.out.cell 1
        have HUS := Lib.hid hus
        clear hus
        cases us with
        | true =>
          have HRX := Lib.hid (show RX = (none, 20) by rw [HJ1.out, if_pos HUS.out.symm])
          go_wp2_with (first
            | (refine wpList_get_box HZ2.out rfl rfl rfl huo rfl opQ2_size ?_)
            | (refine wpList_put_box (x := .tmp 12) (cells := opN 0 0 ⟨#[]⟩ zNo) HO2.out rfl rfl rfl rfl opQ2_size rfl (opN_one _ _ _ _) ?_; intro w9 hb9 hw9))
          have HB9 := Lib.hid hb9
          have HF9 := Lib.hid (hw9.below HBW.out (by omega) (HBW.out).size)
          refine bodyPost_ret (results_box_tmp (P := Try.prog) rfl rfl HB9.out huo rfl opQ2_size) rfl ?_
          exact ⟨by rw [HRX.out]; rfl, HF9.out⟩
        | false =>
          have HU0 := Lib.hid (show ¬ JD.used = true by rw [← HUS.out]; simp)
          by_cases hov : JD.exp ≤ now
          · have HE1 := Lib.hid hov
            have HRX := Lib.hid (show RX = (none, 15) by rw [HJ1.out, if_neg HU0.out, if_pos HE1.out])
            go_wp2_with (first
              | (refine wpList_get_box HZ2.out rfl rfl rfl huo rfl opQ2_size ?_)
              | (refine wpList_put_box (x := .tmp 12) (cells := opN 0 0 ⟨#[]⟩ zNo) HO2.out rfl rfl rfl rfl opQ2_size rfl (opN_one _ _ _ _) ?_; intro w9 hb9 hw9))
            have HB9 := Lib.hid hb9
            have HF9 := Lib.hid (hw9.below HBW.out (by omega) (HBW.out).size)
            refine bodyPost_ret (results_box_tmp (P := Try.prog) rfl rfl HB9.out huo rfl opQ2_size) rfl ?_
            exact ⟨by rw [HRX.out]; rfl, HF9.out⟩
          · have HE0 := Lib.hid hov
            obtain ⟨qn, hqn⟩ : ∃ q, (ag.toList == JD.name.toList) = q := ⟨_, rfl⟩
            go_wp2_with fail
            refine calls_then (CS.out _) ?_
            rintro e w4 ⟨rfl, rfl⟩
            cases qn with
            | false =>
              have HRX := Lib.hid (show RX = (none, 1) by rw [HJ1.out, if_neg HU0.out, if_neg (show ¬ JD.exp ≤ now by have := HE0.out; omega), if_pos (by rw [hqn]; simp)])
              go_wp2_with (first
                | (refine wpList_get_box HZ2.out rfl rfl rfl huo rfl opQ2_size ?_)
                | (refine wpList_put_box (x := .tmp 12) (cells := opN 0 0 ⟨#[]⟩ zNo) HO2.out rfl rfl rfl rfl opQ2_size rfl (opN_one _ _ _ _) ?_; intro w9 hb9 hw9))
              have HB9 := Lib.hid hb9
              have HF9 := Lib.hid (hw9.below HBW.out (by omega) (HBW.out).size)
              refine bodyPost_ret (results_box_tmp (P := Try.prog) rfl rfl HB9.out huo rfl opQ2_size) rfl ?_
              exact ⟨by rw [HRX.out]; rfl, HF9.out⟩
            | true =>
              have HQN := Lib.hid hqn
              cases sb with
              | false =>
                have HRX := Lib.hid (show RX = (none, 1) by rw [HJ1.out, if_neg HU0.out, if_neg (show ¬ JD.exp ≤ now by have := HE0.out; omega), if_pos (by simp)])
                go_wp2_with (first
                  | (refine wpList_get_box HZ2.out rfl rfl rfl huo rfl opQ2_size ?_)
                  | (refine wpList_put_box (x := .tmp 12) (cells := opN 0 0 ⟨#[]⟩ zNo) HO2.out rfl rfl rfl rfl opQ2_size rfl (opN_one _ _ _ _) ?_; intro w9 hb9 hw9))
                have HB9 := Lib.hid hb9
                have HF9 := Lib.hid (hw9.below HBW.out (by omega) (HBW.out).size)
                refine bodyPost_ret (results_box_tmp (P := Try.prog) rfl rfl HB9.out huo rfl opQ2_size) rfl ?_
                exact ⟨by rw [HRX.out]; rfl, HF9.out⟩
              | true =>
                have b2 := HA2.out _ HB2.out
                go_wp2_with fail
                refine calls_then (CH.out _ HB2.out) ?_
                rintro e w5 ⟨rfl, rfl⟩
                cases hb with
                | true =>
                  have HRX := Lib.hid (show RX = (none, 21) by rw [HJ1.out, if_neg HU0.out, if_neg (show ¬ JD.exp ≤ now by have := HE0.out; omega), if_neg (by rw [HQN.out]; simp), if_pos rfl])
                  go_wp2_with (first
                    | (refine wpList_get_box HZ2.out rfl rfl rfl huo rfl opQ2_size ?_)
                    | (refine wpList_put_box (x := .tmp 12) (cells := opN 0 0 ⟨#[]⟩ zNo) HO2.out rfl rfl rfl rfl opQ2_size rfl (opN_one _ _ _ _) ?_; intro w9 hb9 hw9))
                  have HB9 := Lib.hid hb9
                  have HF9 := Lib.hid (hw9.below HBW.out (by omega) (HBW.out).size)
                  refine bodyPost_ret (results_box_tmp (P := Try.prog) rfl rfl HB9.out huo rfl opQ2_size) rfl ?_
                  exact ⟨by rw [HRX.out]; rfl, HF9.out⟩
                | false =>
                  have HRX := Lib.hid (show RX = (some ⟨ag, key, un, 0, ⟨#[]⟩⟩, 0) by rw [HJ1.out, if_neg HU0.out, if_neg (show ¬ JD.exp ≤ now by have := HE0.out; omega), if_neg (by rw [HQN.out]; simp), if_neg (by simp)])
                  go_wp2_with fail
                  refine calls_then (CU.out _) ?_
                  rintro e w6 ⟨rfl, rfl⟩
                  go_wp2_with (first
                    | (refine wpList_build_any (T := 40) (cells := nodeCells ⟨ag, key, un, 0, ⟨#[]⟩⟩) rfl _ rfl (by kernel_rfl) ?_)
                    | (refine wpList_build_any (T := 47) (cells := opN 4 0 tok ⟨ag, key, un, 0, ⟨#[]⟩⟩) rfl _ rfl (by kernel_rfl) ?_)
                    | (refine wpList_put_box (x := .tmp 12) (cells := opN 4 0 tok ⟨ag, key, un, 0, ⟨#[]⟩⟩) HO2.out rfl rfl rfl rfl opQ2_size rfl (opN_one _ _ _ _) ?_; intro w9 hb9 hw9))
                  have HB9 := Lib.hid hb9
                  have HF9 := Lib.hid (hw9.below HBW.out (by omega) (HBW.out).size)
                  refine bodyPost_ret (results_box_tmp (P := Try.prog) rfl rfl HB9.out huo rfl opQ2_size) rfl ?_
                  exact ⟨by rw [HRX.out]; rfl, HF9.out⟩
    · have hlt' : ¬ (i : Int) < (lj.l.length : Int) := by omega
      have HRX := Lib.hid (show RX = (none, 7) by
        rw [HJX.out, List.find?_eq_none.2 (fun x hx => by
          have := HNK.out x (by rw [List.take_of_length_le (by omega)]; exact hx)
          simp [this])])
      have HO2 := Lib.hid (HO0.out.below HBR.out HO0.out.lt)
      have HZ2 := Lib.hid (HZ0.out.below HBR.out HZ0.out.lt)
      have HBW := Lib.hid (HB0.out.trans (HBR.out.mono HB0.out.size))
      go_wp2_with (first
        | (refine wpList_get_box HZ2.out rfl rfl rfl huo rfl opQ2_size ?_)
        | (refine wpList_put_box (x := .tmp 12) (cells := opN 0 0 ⟨#[]⟩ zNo) HO2.out rfl rfl rfl rfl opQ2_size rfl (opN_one _ _ _ _) ?_; intro w9 hb9 hw9))
      have HB9 := Lib.hid hb9
      have HF9 := Lib.hid (hw9.below HBW.out (by omega) (HBW.out).size)
      refine bodyPost_ret (results_box_tmp (P := Try.prog) rfl rfl HB9.out huo rfl opQ2_size) rfl ?_
      exact ⟨by rw [HRX.out]; rfl, HF9.out⟩
end Go.Proofs.Ytcnebbhnpocofaa
/-
  Walk: brevetref15.nodes (a list with one in its place, or more). (Printed by gen/lst20.py.)
-/
namespace Go.Proofs.Ytcnebbhnpocofaa
set_option linter.unusedSimpArgs false
set_option linter.unusedVariables false
open Go.RowKit

def ListPost {α : Type} (t : TypeId) (m : Nat) (f : α → Array Value) (l : List α) (z : α) (w : World) (e : Ending) (w' : World) : Prop :=
  ∃ A c, ∃ xs : List α, e = .returned (.slice A xs.length c) ∧ xs.length ≤ l.length + 1 ∧ (∀ x ∈ xs, x ∈ l ∨ x = z) ∧ OwnR w' w.heap.size t m A c xs.length (rowsV f xs) ∧ Below w.heap.size w w'

set_option maxRecDepth 100000 in
set_option maxHeartbeats 4000000 in
theorem nodes15_any (l : List NodeD) (hl : l.length ≤ 1000) (z : NodeD) (gone : Bool) (A : Option Addr) (c B : Nat) (w : World) (hr : Rd w B A (rowsV nodeCells l)) (hB : B ≤ w.heap.size) :
    Calls Try.prog 58 #[.slice A l.length c, .agg (nodeCells z), .bool gone] w (ListPost 40 5 nodeCells l z w) := by
  have hu := Try.underlying40
  obtain ⟨W0, hW0⟩ : ∃ W0, W0 = w.alloc (.cells (nodeCells z) 40) := ⟨_, rfl⟩
  have HB0 := Lib.hid (show Below w.heap.size w W0 by rw [hW0]; exact (Below.refl _ w).alloc (Nat.le_refl _) _)
  have HK := Lib.hid (show Blk W0 w.heap.size 40 (nodeCells z) by rw [hW0]; exact Blk.new _ _ _)
  have HW0 := Lib.hid hW0
  obtain ⟨n, hn⟩ : ∃ n, n = l.length := ⟨_, rfl⟩
  have HN := Lib.hid hn
  have HR := Lib.hid (hr.below (HB0.out.mono hB))
  have HBB := Lib.hid (Nat.le_trans hB HB0.out.size)
  have hn' : (n : Int) ≤ 1000 := by omega
  rw [← hn]
  clear hW0 hr hB hl hn
  go_enter Try.func58, Try.ntmps58
  go_upto_region 1 with (fail)
  rw [show w.alloc (.cells (nodeCells z) 40) = W0 from HW0.out.symm]
  generalize Value.agg (nodeCells z) = AV
  go_wp2_with fail
  go_loopw [7, 8, 9] (fun out dv i wr => ∃ (k : Nat) (A1 : Option Addr) (c1 : Nat) (xs : List NodeD) (dn : Bool), k ≤ n ∧ out = .slice A1 xs.length c1 ∧ dv = .bool dn ∧ i = .int .i64 (k : Int) ∧ OwnR wr W0.heap.size 40 5 A1 c1 xs.length (rowsV nodeCells xs) ∧ Below W0.heap.size W0 wr ∧ xs.length ≤ k + dn.toNat ∧ ∀ x ∈ xs, x ∈ l ∨ x = z) (fun _ _ i _ => n - (intOf i).toNat)
  case atStart => exact ⟨0, none, 0, [], gone, by omega, rfl, rfl, rfl, OwnR.nil _ _ _ _, Below.refl _ _, by simp, fun x hx => by cases hx⟩
  case round =>
    obtain ⟨k, A1, c1, xs, dn, hk, rfl, rfl, rfl, hown, hbel, hlen, hmem⟩ := hrel
    have HOWN := Lib.hid hown
    have HBEL := Lib.hid hbel
    have HLEN := Lib.hid hlen
    have HMEM := Lib.hid hmem
    have hxl : xs.length ≤ 1001 := by have : dn.toNat ≤ 1 := by cases dn <;> simp
                                      omega
    clear hown hbel hlen hmem
    by_cases hlt : k < n
    · have hkl : k < l.length := by rw [← HN.out]; exact hlt
      have hi1 : (0 : Int) ≤ (k : Int) := by omega
      have hi2 : (k : Int) < (n : Int) := by omega
      obtain ⟨ad, hA, hadb, hcell⟩ := rd_rows (f := nodeCells) (m := 5) (fun _ => rfl) (by decide) HR.out hkl
      subst hA
      obtain ⟨X, hX⟩ : ∃ X, X = l[k] := ⟨_, rfl⟩
      rw [← hX] at hcell
      have HX := Lib.hid (show X ∈ l by rw [hX]; exact List.getElem_mem hkl)
      have HC := Lib.hid (show ∀ u, Below W0.heap.size W0 u → ∀ j v, (nodeCells X).toList[j]? = some v → u.cell? ((ad.add (k * 5)).add j) = some v from fun u hu j v hv => by
        rw [hu.cell (p := (ad.add (k * 5)).add j) (by rw [block_of_add, block_of_add]; exact Nat.lt_of_lt_of_le hadb HBB.out)]
        exact hcell j v (by simpa using hv))
      have HD := Lib.hid (show ∀ u, Below W0.heap.size W0 u → u.cell? (ad.add (k * 5)) = some (.string X.name) ∧ u.cell? ⟨w.heap.size, 0, none⟩ = some (.string z.name) from fun u hu => ⟨HC.out u hu 0 _ rfl, (HK.out.below hu HK.out.lt).cell 0⟩)
      obtain ⟨q, hqq⟩ : ∃ q, Op.bytesLess X.name.toList z.name.toList = q := ⟨_, rfl⟩
      obtain ⟨r, hrr⟩ : ∃ r, (X.name.toList == z.name.toList) = r := ⟨_, rfl⟩
      have HLT := Lib.hid hlt
      clear hX hcell hadb hkl hlt
      go_upto_region 6 with (fail)
      go_cut [28] (fun v wx => (∃ b, v = .bool b ∧ (b = true → dn = false)) ∧ ∃ m, wx = wr.drewN m)
      case first =>
        obtain ⟨d0, d2⟩ := HD.out wr HBEL.out
        cases dn with
        | true =>
          go_wp2_with fail
          go_quiet (fail)
          go_wp2_with fail
          go_meet
          exact ⟨⟨false, rfl, by simp⟩, _, rfl⟩
        | false =>
          cases q with
          | true =>
            go_wp2_with fail
            go_quiet (fail)
            go_wp2_with fail
            go_meet
            exact ⟨⟨false, rfl, by simp⟩, _, rfl⟩
          | false =>
            go_wp2_with fail
            go_quiet (fail)
            go_wp2_with fail
            go_meet
            exact ⟨⟨true, rfl, by simp⟩, _, rfl⟩
      case rest =>
      obtain ⟨⟨b, rfl, hb⟩, md, rfl⟩ := hcut
      have HBD := Lib.hid (below_drewN9 HBEL.out md)
      have HOD := Lib.hid (show OwnR (wr.drewN md) W0.heap.size 40 5 A1 c1 xs.length (rowsV nodeCells xs) from HOWN.out)
      have HBF := Lib.hid hb
      clear hb hqq
      go_upto_if 28 with (fail)
      go_cut [7, 8] (fun out dv wx => ∃ (A2 : Option Addr) (c2 : Nat) (ys : List NodeD) (dn2 : Bool), out = .slice A2 ys.length c2 ∧ dv = .bool dn2 ∧ OwnR wx W0.heap.size 40 5 A2 c2 ys.length (rowsV nodeCells ys) ∧ Below W0.heap.size W0 wx ∧ ys.length ≤ k + dn2.toNat ∧ ∀ x ∈ ys, x ∈ l ∨ x = z)
      case first =>
        cases b with
        | false =>
          go_wp2_with fail
          go_meet
          exact ⟨A1, c1, xs, dn, rfl, rfl, HOD.out, HBD.out, HLEN.out, HMEM.out⟩
        | true =>
          obtain rfl : dn = false := HBF.out rfl
          go_wp2_with (first
            | (refine wpList_get_box (x := .tmp 4) (cs := #[.string z.name, .string z.key, .int .i64 z.exp, .int .i64 z.seq, .string z.doc]) (HK.out.below HBD.out HK.out.lt) rfl rfl rfl hu rfl nodeT_size ?_)
            | (refine wpList_append_r1 (ys := [.string z.name, .string z.key, .int .i64 z.exp, .int .i64 z.seq, .string z.doc]) sl_nodes rfl rfl HOD.out rfl rfl rfl rfl (by simp [Value.oneCell']) (by unfold maxLen; omega) (by omega) HBD.out.size ?_; intro A5 c5 w5 hown5 hgr5 hn5))
          go_meet
          exact ⟨A5, c5, xs ++ [z], true, by simp, rfl, by rw [rowsV_append, rowsV_one, List.length_append]; exact hown5, HBD.out.grown hgr5 HBD.out.size (fun j hj => (HOD.out.lt j hj).1), by have := HLEN.out; simp at this ⊢; omega, fun x hx => by
            rcases List.mem_append.1 hx with h | h
            · exact HMEM.out x h
            · exact .inr (by simpa using h)⟩
      case rest =>
      obtain ⟨A2, c2, ys, dn2, rfl, rfl, hown2, hbel2, hlen2, hmem2⟩ := hcut
      have HOWN2 := Lib.hid hown2
      have HBEL2 := Lib.hid hbel2
      have HLEN2 := Lib.hid hlen2
      have HMEM2 := Lib.hid hmem2
      have hyl : ys.length ≤ 1001 := by have : dn2.toNat ≤ 1 := by cases dn2 <;> simp
                                        omega
      clear hown2 hbel2 hlen2 hmem2
      obtain ⟨d0, d2⟩ := HD.out _ HBEL2.out
      cases r with
      | true =>
          go_wp2_with fail
          go_quiet (fail)
          go_wp2_with fail
          go_roundw
          case rel => exact ⟨k + 1, A2, c2, ys, dn2, HLT.out, rfl, rfl, by go_num, HOWN2.out, (below_drewN9 HBEL2.out _), by have := HLEN2.out; omega, HMEM2.out⟩
          case measure => have := HLT.out; simp [intOf]; omega
      | false =>
          go_wp2_with fail
          go_quiet (fail)
          go_wp2_with (first
            | (refine wpList_get_rd (r := [.string X.name, .string X.key, .int .i64 X.exp, .int .i64 X.seq, .string X.doc]) (fun j u hj => HC.out _ (below_drewN9 HBEL2.out _) j u hj) rfl rfl rfl hu rfl nodeT_size ?_)
            | (refine wpList_append_r1 (ys := [.string X.name, .string X.key, .int .i64 X.exp, .int .i64 X.seq, .string X.doc]) sl_nodes rfl rfl (show OwnR (World.drewN _ _) W0.heap.size 40 5 A2 c2 ys.length (rowsV nodeCells ys) from HOWN2.out) rfl rfl rfl rfl (by simp [Value.oneCell']) (by unfold maxLen; omega) (by omega) (below_drewN9 HBEL2.out _).size ?_; intro A5 c5 w5 hown5 hgr5 hn5))
          go_roundw
          case rel => exact ⟨k + 1, A5, c5, ys ++ [X], dn2, HLT.out, by simp, rfl, by go_num, by rw [rowsV_append, rowsV_one, List.length_append]; exact hown5, Below.grown (below_drewN9 HBEL2.out _) hgr5 (Below.size (below_drewN9 HBEL2.out _)) (fun j hj => (HOWN2.out.lt j hj).1), by have := HLEN2.out; simp; omega, fun x hx => by
            rcases List.mem_append.1 hx with h | h
            · exact HMEM2.out x h
            · exact .inl (by have e : x = X := by simpa using h
                             rw [e]; exact HX.out)⟩
          case measure => have := HLT.out; simp [intOf]; omega
    · obtain rfl : k = n := by omega
      clear hlt
      cases dn with
      | true =>
        go_wp2_with fail
        go_ret
        exact ⟨A1, c1, xs, rfl, by have := HLEN.out; have := HN.out; simp at *; omega, HMEM.out, HOWN.out.mono HB0.out.size, HB0.out.trans (HBEL.out.mono HB0.out.size)⟩
      | false =>
        go_wp2_with (first
          | (refine wpList_get_box (x := .tmp 4) (cs := #[.string z.name, .string z.key, .int .i64 z.exp, .int .i64 z.seq, .string z.doc]) (HK.out.below HBEL.out HK.out.lt) rfl rfl rfl hu rfl nodeT_size ?_)
          | (refine wpList_append_r1 (ys := [.string z.name, .string z.key, .int .i64 z.exp, .int .i64 z.seq, .string z.doc]) sl_nodes rfl rfl HOWN.out rfl rfl rfl rfl (by simp [Value.oneCell']) (by unfold maxLen; omega) (by omega) HBEL.out.size ?_; intro A5 c5 w5 hown5 hgr5 hn5))
        go_ret
        exact ⟨A5, c5, xs ++ [z], by simp, by have := HLEN.out; have := HN.out; simp at *; omega, fun x hx => by
          rcases List.mem_append.1 hx with h | h
          · exact HMEM.out x h
          · exact .inr (by simpa using h), OwnR.mono (by rw [rowsV_append, rowsV_one, List.length_append]; exact hown5) HB0.out.size, HB0.out.trans ((HBEL.out.grown hgr5 HBEL.out.size (fun j hj => (HOWN.out.lt j hj).1)).mono HB0.out.size)⟩
end Go.Proofs.Ytcnebbhnpocofaa
/-
  Walks: brevetref15.hasNode, putNode.
-/
namespace Go.Proofs.Ytcnebbhnpocofaa
set_option linter.unusedSimpArgs false
set_option linter.unusedVariables false
open Go.RowKit

def ixN (l : List NodeD) (s : ByteArray) : Nat := (l.takeWhile fun x => !(x.name.toList == s.toList)).length
/-- where the node of a name stands -/
def atN (l : List NodeD) (s : ByteArray) : Int := if ixN l s < l.length then (ixN l s : Int) else -1
theorem atN_or (l : List NodeD) (s : ByteArray) : atN l s = -1 ∨ ∃ i : Nat, i < l.length ∧ atN l s = (i : Int) := by
  unfold atN
  split
  · rename_i h
    exact .inr ⟨_, h, rfl⟩
  · exact .inl rfl
theorem ixN_eq {l : List NodeD} {s : ByteArray} {i : Nat} (h0 : ∀ x ∈ l.take i, (x.name.toList == s.toList) = false) (h : i < l.length) (h1 : ((l[i]).name.toList == s.toList) = true) : ixN l s = i := by
  have e : l = l.take i ++ l[i] :: l.drop (i + 1) := by rw [← List.drop_eq_getElem_cons h, List.take_append_drop]
  have e2 : l.takeWhile (fun x => !(x.name.toList == s.toList)) = l.take i := by
    conv => lhs; rw [e]
    rw [List.takeWhile_append_of_pos (by intro x hx; simp only [h0 x hx]; rfl), List.takeWhile_cons, h1]
    simp
  rw [ixN, e2, List.length_take]
  omega
theorem ixN_all {l : List NodeD} {s : ByteArray} (h0 : ∀ x ∈ l, (x.name.toList == s.toList) = false) : ixN l s = l.length := by
  have := List.takeWhile_append_of_pos (p := fun x : NodeD => !(x.name.toList == s.toList)) (l₁ := l) (l₂ := []) (by intro x hx; simp only [h0 x hx]; rfl)
  rw [ixN]
  simp only [List.append_nil, List.takeWhile_nil] at this
  rw [this]
set_option maxRecDepth 100000 in
set_option maxHeartbeats 2000000 in
theorem hasNode_any (l : List NodeD) (s : ByteArray) (A : Option Addr) (c B : Nat) (w : World) (hr : Rd w B A (rowsV nodeCells l)) (hl : l.length ≤ 1000) :
    Calls Try.prog 57 #[.slice A l.length c, .string s] w fun e w' => e = .returned (.int .i64 (atN l s)) ∧ w' = w := by
  obtain ⟨n, hn⟩ : ∃ n, n = l.length := ⟨_, rfl⟩
  have HN := Lib.hid hn
  have hnl : (n : Int) ≤ 1000 := by omega
  rw [← hn]
  have HR := Lib.hid hr
  obtain ⟨z, hz⟩ : ∃ z, z = atN l s := ⟨_, rfl⟩
  rw [← hz]
  have HZ := Lib.hid hz
  clear hr hl hn hz
  go_enter Try.func57, Try.ntmps57
  go_wp2_with fail
  go_loopw [5] (fun x wr => ∃ i : Nat, i ≤ n ∧ x = .int .i64 (i : Int) ∧ (∀ k ∈ l.take i, (k.name.toList == s.toList) = false) ∧ wr = w) (fun x _ => n - (intOf x).toNat)
  case atStart => exact ⟨0, Nat.zero_le _, rfl, by simp, rfl⟩
  case round =>
    obtain ⟨i, hi, rfl, hok, rfl⟩ := hrel
    have HOK := Lib.hid hok
    clear hok
    by_cases hlt : i < n
    · have hil : i < l.length := by rw [← HN.out]; exact hlt
      have hlt' : (i : Int) < (n : Int) := by omega
      have hi0 : (0 : Int) ≤ (i : Int) := by omega
      obtain ⟨ad, hA, -, hcell⟩ := rd_rows (f := nodeCells) (m := 5) (fun _ => rfl) (by decide) HR.out hil
      subst hA
      obtain ⟨X, hX⟩ : ∃ X, X = l[i] := ⟨_, rfl⟩
      rw [← hX] at hcell
      have d0 : wr.cell? (ad.add (i * 5)) = some (.string X.name) := hcell 0 _ rfl
      have HLT := Lib.hid hlt
      obtain ⟨q, hq⟩ : ∃ q, (X.name.toList == s.toList) = q := ⟨_, rfl⟩
      cases q with
      | true =>
        have HP := Lib.hid (show z = (i : Int) by rw [HZ.out, atN, ixN_eq HOK.out hil (by rw [← hX]; exact hq), if_pos hil])
        clear hX hcell hil hlt
        go_wp2_with fail
        go_ret
        exact ⟨by rw [HP.out]; rfl, rfl⟩
      | false =>
        have HP := Lib.hid (show ∀ k ∈ l.take (i + 1), (k.name.toList == s.toList) = false from fun k hk => by
          rw [List.take_succ_eq_append_getElem hil, List.mem_append] at hk
          rcases hk with hk | hk
          · exact HOK.out k hk
          · have e : k = X := by rw [hX]; simpa using hk
            rw [e]
            exact hq)
        clear hX hcell hil hlt
        go_wp2_with fail
        go_roundw
        case rel => exact ⟨i + 1, HLT.out, by go_num, HP.out, by trivial⟩
        case measure => have := HLT.out; simp [intOf]; omega
    · obtain rfl : i = n := by omega
      have HP := Lib.hid (show z = -1 by
        have h0 : l.take i = l := List.take_of_length_le (by rw [← HN.out]; exact Nat.le_refl _)
        have h := HOK.out
        rw [h0] at h
        rw [HZ.out, atN, ixN_all h, if_neg (by omega)])
      clear hlt
      go_wp2_with fail
      go_ret
      exact ⟨by rw [HP.out]; rfl, rfl⟩
theorem ledT2_size : (Try.prog.info? 33).map (·.size) = some 6 := by kernel_rfl
/-- a list of nodes is put into the box -/
theorem LW.nodes_put {u u' : World} {base g K : Nat} {d : LedD} {s : Sl NodeD} (h : LW u base g K d) (hs : s.Own u base 40 5 nodeCells K) (hw : Wrote g u u') (hb : Blk u' g 33 ((ledCells d).setIfInBounds 1 s.v)) : LW u' base g K { d with nodes := s } :=
  LW.put h.box h.hg (h.ll.setNodes hs) hw hb
/-- what putNode leaves: but for the nodes all is as it was -/
def NdPost (d : LedD) (base g K : Nat) (w : World) (e : Ending) (w' : World) : Prop := ∃ (s : Sl NodeD) (f : Int), e = .returned (.int .i64 f) ∧ LW w' base g (K + 1) { d with nodes := s } ∧ Below base w w'
theorem NdPost.no {base g K : Nat} {d : LedD} {w u : World} (h : LW u base g K d) (hb : Below base w u) (f : Int) : NdPost d base g K w (.returned (.int .i64 f)) u := ⟨d.nodes, f, rfl, h.more (Nat.le_succ _), hb⟩
theorem NdPost.post {base g K : Nat} {d : LedD} {w w' : World} {e : Ending} (h : NdPost d base g K w e w') : DoPost base g K w e w' := by
  obtain ⟨s, f, h1, h2, h3⟩ := h
  exact ⟨_, f, h1, h2, h3⟩
set_option maxRecDepth 100000 in
set_option maxHeartbeats 4000000 in
theorem putNode_any (d : LedD) (k : NodeD) (base g K : Nat) (w : World) (h : LW w base g K d) (hK : K ≤ 900) (hn : k.name.size ≤ 1000) :
    Calls Try.prog 45 #[.pointer (some ⟨g, 0, none⟩), .agg (nodeCells k)] w (NdPost d base g K w) := by
  have hu := Try.underlying40
  obtain ⟨W0, hW0⟩ : ∃ W0, W0 = w.alloc (.cells (nodeCells k) 40) := ⟨_, rfl⟩
  have hb0 : Below w.heap.size w W0 := by rw [hW0]; exact (Below.refl _ w).alloc (Nat.le_refl _) _
  have hbs : base ≤ w.heap.size := Nat.le_of_lt (Nat.lt_of_le_of_lt h.hg h.box.lt)
  have HBS := Lib.hid hbs
  have HB0 := Lib.hid (hb0.mono hbs)
  have HKB := Lib.hid (show Blk W0 w.heap.size 40 (nodeCells k) by rw [hW0]; exact Blk.new _ _ _)
  have H0 := Lib.hid (h.below hb0)
  have HW0 := Lib.hid hW0
  have CN := Lib.hid (node15_any k hn W0)
  have HKK := Lib.hid hK
  clear hW0 hb0 h hn hbs
  go_enter Try.func45, Try.ntmps45
  go_upto_region 1 with (fail)
  rw [show w.alloc (.cells (nodeCells k) 40) = W0 from HW0.out.symm]
  generalize hAV : Value.agg (nodeCells k) = AV
  rw [hAV] at CN
  go_wp2_with (refine wpList_get_box (x := .tmp 3) (cs := nodeCells k) HKB.out rfl rfl rfl hu rfl nodeT_size ?_)
  refine calls_then CN.out ?_
  rintro e w1 ⟨⟨b, rfl⟩, hb1⟩
  have H1 := Lib.hid (H0.out.below hb1)
  have HB1 := Lib.hid (HB0.out.trans (hb1.mono (Nat.le_trans HBS.out HB0.out.size)))
  have HK1 := Lib.hid (HKB.out.below hb1 HKB.out.lt)
  clear hb1 CN
  cases b with
  | false =>
    go_wp2_with fail
    go_ret
    exact NdPost.no H1.out HB1.out _
  | true =>
    obtain ⟨lb, hlb⟩ : ∃ lb, lb = d.bans := ⟨_, rfl⟩
    obtain ⟨ln, hln⟩ : ∃ ln, ln = d.nodes := ⟨_, rfl⟩
    have a1 : w1.cell? ⟨g, 1, none⟩ = some (.slice ln.A ln.l.length ln.c) := by rw [hln]; exact H1.out.box.cell 1
    have a2 : w1.cell? ⟨g, 2, none⟩ = some (.slice lb.A lb.l.length lb.c) := by rw [hlb]; exact H1.out.box.cell 2
    have b0 : w1.cell? ⟨w.heap.size, 0, none⟩ = some (.string k.name) := HK1.out.cell 0
    have HNO := Lib.hid (show ln.Own w1 base 40 5 nodeCells K by rw [hln]; exact H1.out.ll.nodes)
    have HBO := Lib.hid (show lb.Own w1 base 9 1 strCell K by rw [hlb]; exact H1.out.ll.bans)
    have CH := Lib.hid (fun (m : Nat) => show Calls Try.prog 25 #[.slice lb.A lb.l.length lb.c, .string k.name] (w1.drewN m) (fun e w' => e = .returned (.bool (hasB lb.l k.name)) ∧ w' = w1.drewN m) from (has9_any lb.l (by have := HBO.out.len; have := HKK.out; omega) k.name lb.A lb.c w1.heap.size (w1.drewN m) (by rw [← rowsV_str]; exact HBO.out.own.row.rd)).mono fun e w' h => ⟨h.1, h.2.symm⟩)
    obtain ⟨q, hq⟩ : ∃ q, q = hasB lb.l k.name := ⟨_, rfl⟩
    rw [← hq] at CH
    obtain ⟨z, hz⟩ : ∃ z, z = atN ln.l k.name := ⟨_, rfl⟩
    have HZ := Lib.hid (show z = -1 ∨ ∃ i : Nat, i < ln.l.length ∧ z = (i : Int) by rw [hz]; exact atN_or _ _)
    have hnl : (ln.l.length : Int) ≤ 900 := by have := HNO.out.len; have := HKK.out; omega
    have HLN := Lib.hid hln
    have HZE := Lib.hid hz
    clear hlb hln hq hz
    go_wp2_with fail
    go_quiet (refine Calls.quiet_of_same (CH.out _))
    cases q with
    | true =>
      go_wp2_with fail
      go_ret
      exact NdPost.no (H1.out.below (below_drewN9 (Below.refl _ _) _)) (below_drewN9 HB1.out _) _
    | false =>
      obtain ⟨w2, hw2⟩ : ∃ w2, w2 = w1.drewN nq := ⟨_, rfl⟩
      rw [← hw2]
      have H2 := Lib.hid (show LW w2 base g K d by rw [hw2]; exact H1.out.below (below_drewN9 (Below.refl _ _) _))
      have HB2 := Lib.hid (show Below base w w2 by rw [hw2]; exact below_drewN9 HB1.out _)
      have HK2 := Lib.hid (show Blk w2 w.heap.size 40 (nodeCells k) by rw [hw2]; exact HK1.out)
      have HNO2 := Lib.hid (show ln.Own w2 base 40 5 nodeCells K by rw [HLN.out]; exact H2.out.ll.nodes)
      have CA := Lib.hid (fun (m : Nat) => show Calls Try.prog 57 #[.slice ln.A ln.l.length ln.c, .string k.name] (w2.drewN m) (fun e w' => e = .returned (.int .i64 z) ∧ w' = w2.drewN m) by
        have h := hasNode_any ln.l k.name ln.A ln.c w2.heap.size (w2.drewN m) HNO2.out.own.row.rd (by have := HNO2.out.len; have := HKK.out; omega)
        rw [← HZE.out] at h
        exact h)
      have a1' : w2.cell? ⟨g, 1, none⟩ = some (.slice ln.A ln.l.length ln.c) := by rw [HLN.out]; exact H2.out.box.cell 1
      have b0' : w2.cell? ⟨w.heap.size, 0, none⟩ = some (.string k.name) := HK2.out.cell 0
      clear hw2 a1 a2 b0
      by_cases hfull : z < 0 ∧ (4 : Int) ≤ (ln.l.length : Int)
      · obtain ⟨h1, h2⟩ := hfull
        go_wp2_with fail
        go_quiet (refine Calls.quiet_of_same (CA.out _))
        go_wp2_with fail
        go_ret
        exact NdPost.no (H2.out.below (below_drewN9 (Below.refl _ _) _)) (below_drewN9 HB2.out _) _
      · go_wp2_with fail
        go_cut [34] (fun v wx => v = .bool false ∧ ∃ m, wx = w2.drewN m)
        case first =>
          by_cases h1 : z < 0
          · have h2 : ¬ (4 : Int) ≤ (ln.l.length : Int) := fun h => hfull ⟨h1, h⟩
            clear hfull
            go_wp2_with fail
            go_quiet (refine Calls.quiet_of_same (CA.out _))
            go_wp2_with fail
            go_meet
            exact ⟨by simp [h2], _, rfl⟩
          · have h1' : decide (z < 0) = false := decide_eq_false h1
            clear hfull
            go_wp2_with fail
            go_quiet (refine Calls.quiet_of_same (CA.out _))
            go_wp2_with fail
            go_meet
            exact ⟨by simp, _, rfl⟩
        case rest =>
        obtain ⟨rfl, md, hwc⟩ := hcut
        have H3 := Lib.hid (show LW wc base g K d by rw [hwc]; exact H2.out.below (below_drewN9 (Below.refl _ _) _))
        have HB3 := Lib.hid (show Below base w wc by rw [hwc]; exact below_drewN9 HB2.out _)
        have HK3 := Lib.hid (show Blk wc w.heap.size 40 (nodeCells k) by rw [hwc]; exact HK2.out)
        have a1 : wc.cell? ⟨g, 1, none⟩ = some (.slice ln.A ln.l.length ln.c) := by rw [HLN.out]; exact H3.out.box.cell 1
        have CL := Lib.hid (show ∀ u, Below wc.heap.size wc u → Calls Try.prog 58 #[.slice ln.A ln.l.length ln.c, AV, .bool false] u (ListPost 40 5 nodeCells ln.l k u) from fun u hu => by
          rw [← hAV]
          have hno : ln.Own wc base 40 5 nodeCells K := by rw [HLN.out]; exact H3.out.ll.nodes
          exact nodes15_any ln.l (by have := hno.len; have := HKK.out; omega) k false ln.A ln.c wc.heap.size u (hno.own.row.rd.below hu) hu.size)
        have HLL := Lib.hid (show ln.l.length ≤ K by rw [HLN.out]; exact H3.out.ll.nodes.len)
        clear hwc hfull a1' b0' HNO2 H2 HB2 HK2 CA
        go_wp2_with fail
        have HC0 : Below wc.heap.size wc wc.drew := (Below.refl _ _).drew
        apply wp_region_seqp (fun u => Below wc.heap.size wc u) (fun i => i == 0) (fun u u' => Below u.heap.size u u') [_, _, _, _, _, _] (gOf []) 6 (by kernel_rfl) (by kernel_rfl) (by decide) (by kernel_rfl) (fun i h => by simp only [beq_iff_eq] at h; subst h; rfl) (stabL_of _ trivial) HC0
        simp only [List.take_succ_cons, List.take_zero, List.drop_succ_cons, List.drop_zero]
        iterate 4
          first
          | (apply SeqH.pure; rfl; rfl; rfl; rfl; (simp only [act_put, act_put_none, List.setIfInBounds_toArray, List.set_cons_zero, List.set_cons_succ]; rfl); (intro w1 E hE; go_wp2; exact .mk hE))
          | (apply SeqH.step; rfl; (first | (apply SeqG.next; rfl; rfl; rfl)); (simp only [act_put, act_put_none, List.setIfInBounds_toArray, List.set_cons_zero, List.set_cons_succ]; rfl); (intro w1 hC1 hf E hE; go_wp2; exact .mk (hE _ hC1 (Below.refl _ _))); refine SeqG.nil ?_)
        apply SeqH.step
        · rfl
        apply SeqG.next
        · rfl
        · rfl
        · rfl
        · simp only [act_put, act_put_none, List.setIfInBounds_toArray, List.set_cons_zero, List.set_cons_succ]
          rfl
        · intro w1 hC1 hf E hE
          have d0 := (hC1.cell (p := ⟨g, 1, none⟩) H3.out.box.lt).trans a1
          go_wp2
          exact .mk (hE _ hC1 (Below.refl _ _))
        refine SeqG.nil ?_
        apply SeqH.step
        · rfl
        apply SeqG.next
        · rfl
        · rfl
        · rfl
        · simp only [act_put, act_put_none, List.setIfInBounds_toArray, List.set_cons_zero, List.set_cons_succ]
          rfl
        · intro w1 hC1 hf E hE
          refine wpList_get_box (cs := nodeCells k) (HK3.out.below hC1 HK3.out.lt) rfl rfl rfl hu rfl nodeT_size ?_
          rw [hAV]
          go_wp2_with fail
          exact .mk (hE _ hC1 (Below.refl _ _))
        refine SeqG.nil ?_
        refine SeqH.nil ?_
        intro w1 hC1 hf
        clear hf
        refine SeqT.step rfl ?_
        intro E hE
        simp only [act_put, act_put_none, List.setIfInBounds_toArray, List.set_cons_zero, List.set_cons_succ] at hE
        go_wp2_with fail
        refine calls_then (CL.out _ hC1) ?_
        rintro e w5 ⟨A5, c5, xs, rfl, hlen5, _, hown5, hb5⟩
        have HL5 := Lib.hid hlen5
        have HO5 := Lib.hid (hown5.mono hC1.size)
        have HB5 := Lib.hid (hC1.trans (hb5.mono hC1.size))
        clear hlen5 hown5 hb5
        go_wp2_with fail
        refine .mk (hE _ _ ?_)
        clear hE E
        refine SeqT.step rfl ?_
        intro E hE
        simp only [act_put, act_put_none, List.setIfInBounds_toArray, List.set_cons_zero, List.set_cons_succ] at hE
        go_wp2
        refine .mk (hE _ _ ?_)
        clear hE E
        refine SeqT.step rfl ?_
        intro E hE
        simp only [act_put, act_put_none, List.setIfInBounds_toArray, List.set_cons_zero, List.set_cons_succ] at hE
        go_wp2
        refine .mk (hE _ _ ?_)
        clear hE E
        refine SeqT.step rfl ?_
        intro E hE
        simp only [act_put, act_put_none, List.setIfInBounds_toArray, List.set_cons_zero, List.set_cons_succ] at hE
        have H5 := Lib.hid (H3.out.below HB5.out)
        refine wpList_put_cell (i := 1) H5.out.box rfl rfl rfl rfl (by kernel_rfl) (by simp [ledCells]) rfl ?_
        intro w6 hb6 hw6
        have HB6 := Lib.hid hb6
        have HW6 := Lib.hid hw6
        clear hb6 hw6
        go_wp2_with fail
        refine .mk (hE undef _ ?_)
        clear hE E
        refine SeqT.nil ?_
        have HFN := Lib.hid (show NdPost d base g K w (.returned (.int .i64 0)) w6 from
          ⟨⟨A5, c5, xs⟩, 0, rfl, (H5.out.more (Nat.le_succ K)).nodes_put ⟨HO5.out.mono (Nat.le_trans HBS.out HB3.out.size), by have := HL5.out; have := HLL.out; show xs.length ≤ K + 1; omega⟩ HW6.out HB6.out,
            HW6.out.below (HB3.out.trans (HB5.out.mono (Nat.le_trans HBS.out HB3.out.size))) H3.out.hg (Nat.le_trans HBS.out (HB3.out.trans (HB5.out.mono (Nat.le_trans HBS.out HB3.out.size))).size)⟩)
        clear hC1 HC0
        go_wp2_with fail
        go_ret
        exact HFN.out
end Go.Proofs.Ytcnebbhnpocofaa
/-
  Laws: a slice of a slice, by an equation; fields of a key's row; a row without one of its elements.
-/
namespace Go.Proofs.Ytcnebbhnpocofaa
set_option linter.unusedSimpArgs false
set_option linter.unusedVariables false
open Go.RowKit

section
variable {P : Program}
theorem wpList_slice_k {w : World} {ops : Array Oper} {rest : List Oper} {o : Oper} {a : Act} {Q : Exit → Act → World → Prop} {t : TypeId} {x : Operand} {lo hi mx : Option Operand} {r : Value}
    (hgd : o.guard = none) (ho : o.op = .slice t x lo hi mx) (hr : (Instr.sliceAt t (a.eval x) (lo.map a.eval) (hi.map a.eval) (mx.map a.eval)).run P w = .ok r w) (h : wpList P ops Q rest (a.put o.dst r) w) : wpList P ops Q (o :: rest) a w := by
  refine wpList_plain hgd fun K hK => ?_
  unfold Oper.wp execOp
  simp only [ho, Sem.run_bind, Sem.run_pure, Result.andThen_ok, hr]
  exact hK _ _ h
def cutM (m : Nat) (A : Option Addr) (c k : Nat) : Option Addr := if c = k then A else A.map (·.add (k * m))
theorem add_zero_r (a : Addr) : a.add 0 = a := by unfold Addr.add; simp
theorem add_add_r (a : Addr) (i j : Nat) : (a.add i).add j = a.add (i + j) := by
  unfold Addr.add
  by_cases h1 : i = 0 <;> by_cases h2 : j = 0 <;> simp [h1, h2, Nat.add_assoc]
theorem slice_h_r {t : TypeId} {m : Nat} (hu : P.underlying t = some (.slice (P.elem t))) (hs : ∀ w, (sizeOf (P.elem t)).run P w = .ok m w) (A : Option Addr) (L c k : Nat) (hk : k ≤ c) (w : World) : (Instr.sliceAt t (.slice A L c) none (some (.int .i64 (k : Int))) none).run P w = .ok (.slice A k c) w := by
  have h := run_slice_h (P := P) w t A L c hu .i64 (k : Int) (by omega) (by omega)
  rw [run_sliceAt_slice w _ _ _ _ _ hu, h, hs]
  simp only [Result.andThen_ok, sliced, Int.toNat_natCast, Nat.zero_mul, Nat.sub_zero]
  by_cases h0 : c = 0
  · rw [if_pos h0]
  · rw [if_neg h0]
    cases A with
    | none => rfl
    | some a => rw [show Option.map (fun x : Addr => x.add 0) (some a) = some (a.add 0) from rfl, add_zero_r]
theorem slice_l_r {t : TypeId} {m : Nat} (hu : P.underlying t = some (.slice (P.elem t))) (hs : ∀ w, (sizeOf (P.elem t)).run P w = .ok m w) (A : Option Addr) (L c k : Nat) (hk : k ≤ L) (w : World) : (Instr.sliceAt t (.slice A L c) (some (.int .i64 (k : Int))) none none).run P w = .ok (.slice (cutM m A c k) (L - k) (c - k)) w := by
  have h := run_slice_l (P := P) w t A L c hu .i64 (k : Int) (by omega) (by omega)
  rw [run_sliceAt_slice w _ _ _ _ _ hu, h, hs]
  simp only [Result.andThen_ok, sliced, Int.toNat_natCast, cutM]
end
section
variable {α : Type} {f : α → Array Value} {m : Nat} {w : World} {B : Nat} {A : Option Addr} {c : Nat} {l : List α}
theorem rd_take_r (hf : ∀ x, (f x).size = m) (h : Rd w B A (rowsV f l)) (k : Nat) : Rd w B A (rowsV f (l.take k)) := fun j v hv => by
  rw [rowsV_take hf l k] at hv
  rw [List.getElem?_take] at hv
  split at hv
  · exact h j v hv
  · simp at hv
theorem rd_drop_r (hf : ∀ x, (f x).size = m) (h : Rd w B A (rowsV f l)) (hc : l.length ≤ c) {k : Nat} (hk : k ≤ l.length) : Rd w B (cutM m A c k) (rowsV f (l.drop k)) := fun j v hv => by
  have hkl : k ≠ c := fun he => by
    have : l.drop k = [] := List.drop_of_length_le (by omega)
    rw [this] at hv
    simp [rowsV] at hv
  rw [rowsV_drop hf l k, List.getElem?_drop] at hv
  obtain ⟨ad, h1, h2, h3⟩ := h _ v hv
  refine ⟨ad.add (k * m), ?_, by rw [block_of_add]; exact h2, by rw [add_add_r]; exact h3⟩
  rw [cutM, if_neg (fun he => hkl he.symm), h1]
  rfl
end
theorem und_keys : Try.prog.underlying 30 = some (.slice (Try.prog.elem 30)) := by kernel_rfl
theorem size_keys (w : World) : (sizeOf (Try.prog.elem 30)).run Try.prog w = .ok 4 w := by kernel_rfl
theorem und_ents : Try.prog.underlying 26 = some (.slice (Try.prog.elem 26)) := by kernel_rfl
theorem size_ents (w : World) : (sizeOf (Try.prog.elem 26)).run Try.prog w = .ok 5 w := by kernel_rfl
def Zok (n : Nat) (z : Int) : Prop := z = -1 ∨ ∃ j : Nat, j < n ∧ z = (j : Int)
theorem Zok.nat {n : Nat} {z : Int} (h : Zok n z) (h0 : ¬ z < 0) : ∃ j : Nat, j < n ∧ z = (j : Int) := by
  rcases h with h | h
  · omega
  · exact h
/-- the same list of keys, but for what is written in it -/
structure KW (u : World) (base g K : Nat) (d : LedD) (lk s : Sl SkeyD) : Prop where
  lw : LW u base g K { d with keys := s }
  hA : s.A = lk.A
  hc : s.c = lk.c
  hn : s.l.length = lk.l.length
section
variable {u u' : World} {base g K : Nat} {d : LedD} {lk s : Sl SkeyD}
theorem KW.below (h : KW u base g K d lk s) (hb : Below u.heap.size u u') : KW u' base g K d lk s := ⟨h.lw.below hb, h.hA, h.hc, h.hn⟩
theorem KW.cell (h : KW u base g K d lk s) : u.cell? ⟨g, 4, none⟩ = some (.slice lk.A lk.l.length lk.c) := by
  have := h.lw.box.cell 4
  rw [← h.hA, ← h.hc, ← h.hn]
  exact this
theorem KW.put (h : KW u base g K d lk s) {i : Nat} (hi : i < lk.l.length) {j : Nat} (hj : j < 4) (v : Value) (f : SkeyD → SkeyD) (hf : ∀ x, skeyCells (f x) = (skeyCells x).setIfInBounds j v) :
    ∃ ad cur, lk.A = some ad ∧ base ≤ (ad.add (i * 4)).block ∧ Blk u (ad.add (i * 4)).block 42 cur ∧ (ad.add (i * 4)).off + j < cur.size ∧
      ∀ u', Blk u' (ad.add (i * 4)).block 42 (cur.setIfInBounds ((ad.add (i * 4)).off + j) v) → Wrote (ad.add (i * 4)).block u u' → ∃ s', KW u' base g K d lk s' := by
  have hi' : i < s.l.length := by rw [h.hn]; exact hi
  obtain ⟨ad, cur, hA, hbase, hblt, hblk, hoff, hput⟩ := ownR_ad_r (f := skeyCells) (m := 4) (fun _ => rfl) h.lw.ll.keys.own hi' hj
  refine ⟨ad, cur, by rw [← h.hA]; exact hA, hbase, hblk, hoff, fun u' hb hw => ⟨⟨s.A, s.c, s.l.set i (f s.l[i])⟩, ⟨?_, h.lw.hg, ?_⟩, h.hA, h.hc, by show (s.l.set i _).length = _; rw [List.length_set]; exact h.hn⟩⟩
  · have h1 := h.lw.box.keep (KeepBut.of_wrote hw hblk) (by decide)
    unfold ledCells at h1 ⊢
    have e : (⟨s.A, s.c, s.l.set i (f s.l[i])⟩ : Sl SkeyD).v = s.v := by
      show Value.slice s.A (s.l.set i _).length s.c = _
      rw [List.length_set]
      rfl
    dsimp only at h1 ⊢
    rw [e]
    exact h1
  · refine LL.keepK (d := { d with keys := s }) h.lw.ll (KeepBut.of_wrote hw hblk) ⟨?_, ?_⟩
    · have h2 := hput v (f s.l[i]) u' (hf _) hb
      show OwnR u' base _ 4 s.A s.c (s.l.set i _).length _
      rw [List.length_set]
      exact h2
    · show (s.l.set i _).length ≤ K
      rw [List.length_set]
      exact h.lw.ll.keys.len
end
/-- a key more -/
theorem LW.key_add {u u' v : World} {base g K : Nat} {d : LedD} {k : SkeyD} {A' : Option Addr} {c' : Nat} (h : LW u base g K d) (ho : OwnR u' base 42 4 A' c' (d.keys.l.length + 1) (rowsV skeyCells d.keys.l ++ (skeyCells k).toList))
    (hg : u.grownBy u' (Value.slice d.keys.A d.keys.l.length d.keys.c).ownBlock) (hw : Wrote g u' v) (hb : Blk v g 33 ((ledCells d).setIfInBounds 4 (.slice A' (d.keys.l.length + 1) c'))) : LW v base g (K + 1) { d with keys := ⟨A', c', d.keys.l ++ [k]⟩ } := by
  have hk := keepBut_grown h.ll.keys.own hg
  have hl : LL u' base (K + 1) { d with keys := ⟨A', c', d.keys.l ++ [k]⟩ } := (h.ll.more (Nat.le_succ K)).keepK hk ⟨by
    rw [rowsV_append, rowsV_one, List.length_append]
    exact ho, by have := h.ll.keys.len; show (d.keys.l ++ [k]).length ≤ K + 1; rw [List.length_append, List.length_singleton]; omega⟩
  refine LW.put (h.box.keep hk (by decide)) h.hg hl hw ?_
  unfold ledCells
  have e : (⟨A', c', d.keys.l ++ [k]⟩ : Sl SkeyD).v = .slice A' (d.keys.l.length + 1) c' := by
    show Value.slice A' (d.keys.l ++ [k]).length c' = _
    rw [List.length_append]
    rfl
  rw [e]
  exact hb
/-- another list of keys is put into the box -/
theorem LW.keys_put {u u' v : World} {base g K : Nat} {d : LedD} {s : Sl SkeyD} (h : LW u base g K d) (hk : KeepBut 42 u u') (hs : s.Own u' base 42 4 skeyCells K) (hw : Wrote g u' v) (hb : Blk v g 33 ((ledCells d).setIfInBounds 4 s.v)) : LW v base g K { d with keys := s } :=
  LW.put (h.box.keep hk (by decide)) h.hg (h.ll.keepK hk hs) hw hb
end Go.Proofs.Ytcnebbhnpocofaa
/-
  Walk: brevetref15.Copy.
-/
namespace Go.Proofs.Ytcnebbhnpocofaa
set_option linter.unusedSimpArgs false
set_option linter.unusedVariables false
open Go.RowKit

section
variable {u u' : World} {base g K : Nat} {d : LedD}
theorem LW.nodes_set {s : Sl NodeD} (h : LW u base g K d) (hs : s.Own u base 40 5 nodeCells K) (hw : Wrote g u u') (hb : Blk u' g 33 ((ledCells d).setIfInBounds 1 s.v)) : LW u' base g K { d with nodes := s } := LW.put h.box h.hg (h.ll.setNodes hs) hw hb
theorem LW.bans_set {s : Sl ByteArray} (h : LW u base g K d) (hs : s.Own u base 9 1 strCell K) (hw : Wrote g u u') (hb : Blk u' g 33 ((ledCells d).setIfInBounds 2 s.v)) : LW u' base g K { d with bans := s } := LW.put h.box h.hg (h.ll.setBans hs) hw hb
theorem LW.joins_set {s : Sl JoinD} (h : LW u base g K d) (hs : s.Own u base 38 4 joinCells K) (hw : Wrote g u u') (hb : Blk u' g 33 ((ledCells d).setIfInBounds 3 s.v)) : LW u' base g K { d with joins := s } := LW.put h.box h.hg (h.ll.keepJ (KeepBut.refl _ _) hs) hw hb
theorem LW.keys_set {s : Sl SkeyD} (h : LW u base g K d) (hs : s.Own u base 42 4 skeyCells K) (hw : Wrote g u u') (hb : Blk u' g 33 ((ledCells d).setIfInBounds 4 s.v)) : LW u' base g K { d with keys := s } := LW.put h.box h.hg (h.ll.keepK (KeepBut.refl _ _) hs) hw hb
theorem LW.buns_set {s : Sl BunD} (h : LW u base g K d) (hs : s.Own u base 45 3 bunCells K) (ho : ∀ x ∈ s.l, BunOk u x) (hw : Wrote g u u') (hb : Blk u' g 33 ((ledCells d).setIfInBounds 5 s.v)) : LW u' base g K { d with buns := s } := LW.put h.box h.hg (h.ll.setBuns hs ho) hw hb
theorem LW.ents_set {v : World} {s : Sl EntD} (h : LW u base g K d) (hk : KeepBut 36 u u') (hs : s.Own u' base 36 5 entCells K) (ho : ∀ x ∈ s.l, EntOk u' x) (hw : Wrote g u' v) (hb : Blk v g 33 ((ledCells d).setIfInBounds 0 s.v)) : LW v base g K { d with ents := s } :=
  LW.put (h.box.keep hk (by decide)) h.hg ⟨hs, h.ll.nodes.keep hk (by decide), h.ll.bans.keep hk (by decide), h.ll.joins.keep hk (by decide), h.ll.keys.keep hk (by decide), h.ll.buns.keep hk (by decide), ho, fun x hx => (h.ll.bunOk x hx).keep hk (by decide)⟩ hw hb
end
theorem below_of_nil {u u' : World} {K : Nat} (h : u.grownBy u' (Value.slice none 0 0).ownBlock) : Below u.heap.size u u' := ⟨h.os, h.tape, h.output, h.size, fun b hb => h.block b hb (by simp [Value.ownBlock])⟩
theorem zLed_ll (u : World) (base K : Nat) : LL u base K zLed := ⟨.nil _ _ _ _ _ _, .nil _ _ _ _ _ _, .nil _ _ _ _ _ _, .nil _ _ _ _ _ _, .nil _ _ _ _ _ _, .nil _ _ _ _ _ _, fun x hx => (by cases hx), fun x hx => (by cases hx)⟩
/-- what Copy gives -/
def CpPost (K : Nat) (w : World) (e : Ending) (w' : World) : Prop := ∃ d' : LedD, e = .returned (.agg (ledCells d')) ∧ LL w' w.heap.size K d' ∧ Below w.heap.size w w'
set_option maxRecDepth 100000 in
set_option maxHeartbeats 8000000 in
theorem copy15_any (d : LedD) (K : Nat) (w : World) (h : LedOk w K d) (hK : K ≤ 900) :
    Calls Try.prog 30 #[.agg (ledCells d)] w (CpPost K w) := by
  have hul := Try.underlying33
  have hue := Try.underlying36
  obtain ⟨W0, hW0⟩ : ∃ W0, W0 = (w.alloc (.cells (ledCells d) 33)).alloc (.cells (ledCells zLed) 33) := ⟨_, rfl⟩
  have hb0 : Below w.heap.size w W0 := by rw [hW0]; exact ((Below.refl _ w).alloc (Nat.le_refl _) _).alloc (by simp) _
  have HB0 := Lib.hid hb0
  have HK0 := Lib.hid (show Blk W0 w.heap.size 33 (ledCells d) by rw [hW0]; exact (Blk.new _ _ _).alloc _)
  have HZ0 := Lib.hid (show Blk W0 (w.heap.size + 1) 33 (ledCells zLed) by rw [hW0]; have := Blk.new (w.alloc (.cells (ledCells d) 33)) 33 (ledCells zLed); simpa using this)
  have HS0 := Lib.hid (show W0.heap.size = w.heap.size + 2 by rw [hW0]; simp)
  have HW0 := Lib.hid hW0
  have HOK := Lib.hid h
  have HKK := Lib.hid hK
  obtain ⟨le, hle⟩ : ∃ le, le = d.ents := ⟨_, rfl⟩
  have HLE := Lib.hid hle
  have hel : (le.l.length : Int) ≤ 900 := by rw [hle]; have := h.ents.len; omega
  have HEL := Lib.hid (show le.l.length ≤ K by rw [hle]; exact h.ents.len)
  clear hW0 h hb0 hK hle
  go_enter Try.func30, Try.ntmps30
  go_upto_region 1 with (fail)
  rw [show (w.alloc (.cells (ledCells d) 33)).alloc (.cells #[.slice none 0 0, .slice none 0 0, .slice none 0 0, .slice none 0 0, .slice none 0 0, .slice none 0 0] 33) = W0 from HW0.out.symm]
  generalize Value.agg (ledCells d) = AV
  obtain ⟨W1, hW1⟩ : ∃ W1, W1 = W0.alloc (.cells (ledCells zLed) 33) := ⟨_, rfl⟩
  have hbw : Below W0.heap.size W0 W1 := by rw [hW1]; exact (Below.refl _ _).alloc (Nat.le_refl _) _
  have HB1 := Lib.hid (HB0.out.trans (hbw.mono HB0.out.size))
  have HK1 := Lib.hid (HK0.out.below hbw HK0.out.lt)
  have HZ1 := Lib.hid (HZ0.out.below hbw HZ0.out.lt)
  have HL1 := Lib.hid (show LW W1 w.heap.size (w.heap.size + 2) K zLed from ⟨by rw [← HS0.out, hW1]; exact Blk.new _ _ _, by omega, zLed_ll _ _ _⟩)
  have HW1 := Lib.hid hW1
  clear hW1 hbw
  go_upto_region 2 with (fail)
  rw [show W0.alloc (.cells #[.slice none 0 0, .slice none 0 0, .slice none 0 0, .slice none 0 0, .slice none 0 0, .slice none 0 0] 33) = W1 from HW1.out.symm, HS0.out]
  go_wp2_with fail
  go_loopw [4] (fun x wr => ∃ (i : Nat) (s : Sl EntD), i ≤ le.l.length ∧ x = .int .i64 (i : Int) ∧ s.l.length = i ∧ LW wr w.heap.size (w.heap.size + 2) K { zLed with ents := s } ∧ Below w.heap.size w wr ∧ Blk wr w.heap.size 33 (ledCells d) ∧ Blk wr (w.heap.size + 1) 33 (ledCells zLed)) (fun x _ => le.l.length - (intOf x).toNat)
  case atStart => exact ⟨0, .nil, Nat.zero_le _, rfl, rfl, HL1.out, HB1.out, HK1.out, HZ1.out⟩
  case round =>
    obtain ⟨i, s, hi, rfl, hsl, hlw, hbw, hkb, hzb⟩ := hrel
    have HSL := Lib.hid hsl
    have HLW := Lib.hid hlw
    have HBW := Lib.hid hbw
    have HKB := Lib.hid hkb
    have HZB := Lib.hid hzb
    have HOR := Lib.hid (HOK.out.grow hbw)
    have a0 : wr.cell? ⟨w.heap.size, 0, none⟩ = some (.slice le.A le.l.length le.c) := by rw [HLE.out]; exact hkb.cell 0
    have c0 : wr.cell? ⟨w.heap.size + 2, 0, none⟩ = some (.slice s.A s.l.length s.c) := hlw.box.cell 0
    clear hsl hlw hbw hkb hzb
    by_cases hlt : i < le.l.length
    · have hlt' : (i : Int) < (le.l.length : Int) := by omega
      have hi0 : (0 : Int) ≤ (i : Int) := by omega
      have hre : le.Ok wr 36 entCells K := by rw [HLE.out]; exact HOR.out.ents
      obtain ⟨ad, hA, -, hcell⟩ := rd_rows (f := entCells) (m := 5) (fun _ => rfl) (by decide) hre.row.rd hlt
      rw [hA] at a0
      obtain ⟨X, hX⟩ : ∃ X, X = le.l[i] := ⟨_, rfl⟩
      have HXO := Lib.hid (show EntOk wr X from HOR.out.entOk X (by rw [hX, ← HLE.out]; exact List.getElem_mem hlt))
      rw [← hX] at hcell
      have HCL := Lib.hid (show ∀ j u, (entCells X).toList[j]? = some u → wr.cell? ((ad.add (i * 5)).add j) = some u from fun j u hu => hcell j u (by simpa using hu))
      have HLT := Lib.hid hlt
      clear hX hcell hre hlt hA c0
      go_upto_region 6 with (first
        | refine wpList_get_rd (r := (entCells X).toList) HCL.out rfl rfl rfl hue rfl entT_size ?_
        | (refine wpList_put_box (cells := entCells X) (Blk.new _ _ _) rfl rfl rfl rfl entT_size rfl (entCells_one X) ?_; intro w5 hb5 hw5))
      have hbw5 : Below wr.heap.size wr w5 := box_low9 hw5
      obtain ⟨H, hH⟩ : ∃ H, H = wr.heap.size := ⟨_, rfl⟩
      rw [← hH] at hb5 ⊢
      have HK5 := Lib.hid hb5
      have HB5 := Lib.hid hbw5
      have HHE := Lib.hid hH
      have a4 : w5.cell? ⟨H, 4, none⟩ = some (.slice X.sA X.sn X.sc) := hb5.cell 4
      obtain ⟨hx1, hx2, l, hl, hrow⟩ := HXO.out.grow hbw5
      have HROW := Lib.hid hrow
      have HLL := Lib.hid (show (rowsV strCell l).length = X.sn * 1 by rw [rowsV_len (f := strCell) (m := 1) (fun _ => rfl), hl])
      have HNL := Lib.hid (OwnR.nil w5 w5.heap.size 9 1)
      have hsn : X.sn ≤ 1000 := hx2
      clear hb5 hw5 hbw5 hH hx1 hx2 hl hrow a0
      go_upto_region 9 with (first
        | (refine wpList_append_r (m := X.sn) (news := rowsV strCell l) sl_strz rfl rfl HNL.out rfl rfl HLL.out HROW.out.rd (rowsV_mem strCell_one _) (by unfold maxLen; omega) (by omega) (Nat.le_refl _) ?_; intro A6 c6 w6 ho6 hg6 hn6; rw [Nat.zero_add] at ho6; have HO6 := Lib.hid ho6; have HB6 := Lib.hid (below_of_nil (K := 0) hg6); have HK6 := Lib.hid (HK5.out.below HB6.out HK5.out.lt); clear ho6 hg6 hn6)
        | (refine wpList_put_cell (i := 4) HK6.out rfl rfl rfl rfl (by kernel_rfl) (by simp [entCells]) rfl ?_; intro w7 hb7 hw7))
      obtain ⟨Y, hY⟩ : ∃ Y : EntD, Y = ⟨X.n, X.path, X.parent, X.ttl, A6, X.sn, c6⟩ := ⟨_, rfl⟩
      have HK7 := Lib.hid (show Blk w7 H 36 (entCells Y) by rw [hY]; exact hb7)
      have HLW7 := Lib.hid ((HLW.out.below HB5.out).below HB6.out)
      have hbw7 : Below wr.heap.size wr w7 := hw7.below (HB5.out.trans (HB6.out.mono HB5.out.size)) (by rw [HHE.out]; exact Nat.le_refl _) (HB5.out.trans (HB6.out.mono HB5.out.size)).size
      have HB7 := Lib.hid hbw7
      have HYO := Lib.hid (show EntOk w7 Y by
        rw [hY]
        have hkb := KeepBut.of_wrote hw7 HK6.out
        refine ⟨?_, by show X.sn ≤ 1000; omega, l, by show l.length = X.sn; have := HLL.out; rw [rowsV_len (f := strCell) (m := 1) (fun _ => rfl)] at this; omega, ?_⟩
        · have := HO6.out.cap
          show X.sn ≤ c6
          omega
        · have h := HO6.out.row
          rw [List.nil_append] at h
          exact (h.keep hkb (by decide)).mono hkb.1)
      have HW8 := Lib.hid (HLW.out.below hbw7)
      have HKB7 := Lib.hid (HKB.out.below hbw7 HKB.out.lt)
      have HZB7 := Lib.hid (HZB.out.below hbw7 HZB.out.lt)
      have c0 : w7.cell? ⟨w.heap.size + 2, 0, none⟩ = some (.slice s.A s.l.length s.c) := HW8.out.box.cell 0
      have hsl9 : (s.l.length : Int) ≤ 900 := by have := HSL.out; omega
      have HEO := Lib.hid (show OwnR w7 w.heap.size 36 5 s.A s.c s.l.length (rowsV entCells s.l) from HW8.out.ll.ents.own)
      have HSN := Lib.hid (show s.l.length + 1 ≤ K by have := HSL.out; have := HLT.out; have := HEL.out; omega)
      have HLO := Lib.hid (show w.heap.size ≤ w7.heap.size from Nat.le_trans HBW.out.size hbw7.size)
      clear hb7 hw7 hbw7 hY a4
      go_wp2_with (first
        | refine wpList_get_box (cs := #[.int .i64 Y.n, .string Y.path, .string Y.parent, .int .i64 Y.ttl, .slice Y.sA Y.sn Y.sc]) HK7.out rfl rfl rfl hue rfl entT_size ?_
        | (refine wpList_append_r1 (ys := [.int .i64 Y.n, .string Y.path, .string Y.parent, .int .i64 Y.ttl, .slice Y.sA Y.sn Y.sc]) sl_ents rfl rfl HEO.out rfl rfl rfl rfl (by simp [Value.oneCell']) (by unfold maxLen; omega) (by omega) HLO.out ?_; intro A9 c9 w9 hown9 hgr9 hn9; have HO9 := Lib.hid hown9; have HG9 := Lib.hid hgr9; have HKE := Lib.hid (keepBut_grown HEO.out hgr9); clear hown9 hgr9 hn9)
        | (refine wpList_put_cell (i := 0) (HW8.out.box.keep HKE.out (by decide)) rfl rfl rfl rfl (by kernel_rfl) (by simp [ledCells]) rfl ?_; intro wa hba hwa))
      have HFN := Lib.hid (show LW wa w.heap.size (w.heap.size + 2) K { zLed with ents := ⟨A9, c9, s.l ++ [Y]⟩ } from HW8.out.ents_set (s := ⟨A9, c9, s.l ++ [Y]⟩) HKE.out ⟨by
          show OwnR w9 w.heap.size _ 5 A9 c9 (s.l ++ [Y]).length _
          rw [rowsV_append, rowsV_one, List.length_append]
          exact HO9.out, by show (s.l ++ [Y]).length ≤ K; rw [List.length_append, List.length_singleton]; exact HSN.out⟩ (fun x hx => by
          rcases List.mem_append.1 hx with hx | hx
          · exact (HW8.out.ll.entOk x hx).keep HKE.out (by decide)
          · have e : x = Y := by simpa using hx
            rw [e]
            exact HYO.out.keep HKE.out (by decide)) hwa (by
          have e : (⟨A9, c9, s.l ++ [Y]⟩ : Sl EntD).v = .slice A9 (s.l.length + 1) c9 := by
            show Value.slice A9 (s.l ++ [Y]).length c9 = _
            rw [List.length_append]
            rfl
          rw [e]
          exact hba))
      have HBA := Lib.hid (show Below w.heap.size w wa from hwa.below ((HBW.out.trans (HB7.out.mono HBW.out.size)).grown HG9.out (HBW.out.trans (HB7.out.mono HBW.out.size)).size fun j hj => (HEO.out.lt j hj).1) (by omega) (Nat.le_trans HLO.out HKE.out.1))
      have HKA := Lib.hid (hwa.blk (HKB7.out.keep HKE.out (by decide)) (by omega))
      have HZA := Lib.hid (hwa.blk (HZB7.out.keep HKE.out (by decide)) (by omega))
      clear hba hwa
      go_roundw
      case rel => exact ⟨i + 1, ⟨A9, c9, s.l ++ [Y]⟩, HLT.out, by go_num, by have := HSL.out; show (s.l ++ [Y]).length = _; rw [List.length_append, List.length_singleton]; omega, HFN.out, HBA.out, HKA.out, HZA.out⟩
      case measure => have := HLT.out; simp [intOf]; omega
    · have hlt' : ¬ (i : Int) < (le.l.length : Int) := by omega
      clear hlt c0
      -- nodes
      obtain ⟨lnodes, hlnodes⟩ : ∃ l, l = d.nodes := ⟨_, rfl⟩
      have HOR0 := Lib.hid (HOK.out.grow HBW.out)
      have HR0 := Lib.hid (show lnodes.Ok wr 40 nodeCells K by rw [hlnodes]; exact HOR0.out.nodes)
      have anodes : wr.cell? ⟨w.heap.size, 1, none⟩ = some (.slice lnodes.A lnodes.l.length lnodes.c) := by rw [hlnodes]; exact HKB.out.cell 1
      have cnodes : wr.cell? ⟨w.heap.size + 2, 1, none⟩ = some (.slice none 0 0) := HLW.out.box.cell 1
      have HN0 := Lib.hid (OwnR.nil wr w.heap.size 40 5)
      have HT0 := Lib.hid (show (rowsV nodeCells lnodes.l).length = lnodes.l.length * 5 by rw [rowsV_len (f := nodeCells) (m := 5) (fun _ => rfl)])
      have hm0 : lnodes.l.length ≤ 900 := by have := HR0.out.len; have := HKK.out; omega
      have HD0 := Lib.hid hlnodes
      clear hlnodes
      have HLO0 := Lib.hid (HBW.out.size)
      go_upto_region 11 with (first
        | (refine wpList_append_r (m := lnodes.l.length) (news := rowsV nodeCells lnodes.l) sl_nodes rfl rfl HN0.out rfl rfl HT0.out HR0.out.row.rd (rowsV_mem nodeCells_one _) (by unfold maxLen; omega) (by omega) HLO0.out ?_; intro A6 c6 w6 ho6 hg6 hn6; rw [Nat.zero_add] at ho6; have HO0 := Lib.hid ho6; have HB50 := Lib.hid (below_of_nil (K := 0) hg6); have HX0 := Lib.hid (HLW.out.below HB50.out); clear ho6 hg6 hn6)
        | (refine wpList_put_cell (i := 1) HX0.out.box rfl rfl rfl rfl (by kernel_rfl) (by simp [ledCells]) rfl ?_; intro v0 hb7 hw7))
      obtain ⟨snodes, hsnodes⟩ : ∃ s : Sl NodeD, s = ⟨A6, c6, lnodes.l⟩ := ⟨_, rfl⟩
      have HL20 := Lib.hid (show LW v0 w.heap.size (w.heap.size + 2) K { zLed with ents := s, nodes := snodes } from HX0.out.nodes_set (s := snodes) (by rw [hsnodes]; exact ⟨by rw [List.nil_append] at HO0; exact HO0.out, HR0.out.len⟩) hw7 (by rw [hsnodes]; exact hb7))
      have HM0 := Lib.hid (hw7.below (HBW.out.trans (HB50.out.mono HBW.out.size)) (by omega) (HBW.out.trans (HB50.out.mono HBW.out.size)).size)
      have HKc0 := Lib.hid (hw7.blk (HKB.out.below HB50.out HKB.out.lt) (by omega))
      have HZc0 := Lib.hid (hw7.blk (HZB.out.below HB50.out HZB.out.lt) (by omega))
      clear hb7 hw7 hsnodes anodes cnodes
      -- bans
      obtain ⟨lbans, hlbans⟩ : ∃ l, l = d.bans := ⟨_, rfl⟩
      have HOR1 := Lib.hid (HOK.out.grow HM0.out)
      have HR1 := Lib.hid (show lbans.Ok v0 9 strCell K by rw [hlbans]; exact HOR1.out.bans)
      have abans : v0.cell? ⟨w.heap.size, 2, none⟩ = some (.slice lbans.A lbans.l.length lbans.c) := by rw [hlbans]; exact HKc0.out.cell 2
      have cbans : v0.cell? ⟨w.heap.size + 2, 2, none⟩ = some (.slice none 0 0) := HL20.out.box.cell 2
      have HN1 := Lib.hid (OwnR.nil v0 w.heap.size 9 1)
      have HT1 := Lib.hid (show (rowsV strCell lbans.l).length = lbans.l.length * 1 by rw [rowsV_len (f := strCell) (m := 1) (fun _ => rfl)])
      have hm1 : lbans.l.length ≤ 900 := by have := HR1.out.len; have := HKK.out; omega
      have HD1 := Lib.hid hlbans
      clear hlbans
      have HLO1 := Lib.hid (HM0.out.size)
      go_upto_region 12 with (first
        | (refine wpList_append_r (m := lbans.l.length) (news := rowsV strCell lbans.l) sl_strz rfl rfl HN1.out rfl rfl HT1.out HR1.out.row.rd (rowsV_mem strCell_one _) (by unfold maxLen; omega) (by omega) HLO1.out ?_; intro A6 c6 w6 ho6 hg6 hn6; rw [Nat.zero_add] at ho6; have HO1 := Lib.hid ho6; have HB51 := Lib.hid (below_of_nil (K := 0) hg6); have HX1 := Lib.hid (HL20.out.below HB51.out); clear ho6 hg6 hn6)
        | (refine wpList_put_cell (i := 2) HX1.out.box rfl rfl rfl rfl (by kernel_rfl) (by simp [ledCells]) rfl ?_; intro v1 hb7 hw7))
      obtain ⟨sbans, hsbans⟩ : ∃ s : Sl ByteArray, s = ⟨A6, c6, lbans.l⟩ := ⟨_, rfl⟩
      have HL21 := Lib.hid (show LW v1 w.heap.size (w.heap.size + 2) K { zLed with ents := s, nodes := snodes, bans := sbans } from HX1.out.bans_set (s := sbans) (by rw [hsbans]; exact ⟨by rw [List.nil_append] at HO1; exact HO1.out, HR1.out.len⟩) hw7 (by rw [hsbans]; exact hb7))
      have HM1 := Lib.hid (hw7.below (HM0.out.trans (HB51.out.mono HM0.out.size)) (by omega) (HM0.out.trans (HB51.out.mono HM0.out.size)).size)
      have HKc1 := Lib.hid (hw7.blk (HKc0.out.below HB51.out HKc0.out.lt) (by omega))
      have HZc1 := Lib.hid (hw7.blk (HZc0.out.below HB51.out HZc0.out.lt) (by omega))
      clear hb7 hw7 hsbans abans cbans
      -- joins
      obtain ⟨ljoins, hljoins⟩ : ∃ l, l = d.joins := ⟨_, rfl⟩
      have HOR2 := Lib.hid (HOK.out.grow HM1.out)
      have HR2 := Lib.hid (show ljoins.Ok v1 38 joinCells K by rw [hljoins]; exact HOR2.out.joins)
      have ajoins : v1.cell? ⟨w.heap.size, 3, none⟩ = some (.slice ljoins.A ljoins.l.length ljoins.c) := by rw [hljoins]; exact HKc1.out.cell 3
      have cjoins : v1.cell? ⟨w.heap.size + 2, 3, none⟩ = some (.slice none 0 0) := HL21.out.box.cell 3
      have HN2 := Lib.hid (OwnR.nil v1 w.heap.size 38 4)
      have HT2 := Lib.hid (show (rowsV joinCells ljoins.l).length = ljoins.l.length * 4 by rw [rowsV_len (f := joinCells) (m := 4) (fun _ => rfl)])
      have hm2 : ljoins.l.length ≤ 900 := by have := HR2.out.len; have := HKK.out; omega
      have HD2 := Lib.hid hljoins
      clear hljoins
      have HLO2 := Lib.hid (HM1.out.size)
      go_upto_region 13 with (first
        | (refine wpList_append_r (m := ljoins.l.length) (news := rowsV joinCells ljoins.l) sl_joins rfl rfl HN2.out rfl rfl HT2.out HR2.out.row.rd (rowsV_mem joinCells_one _) (by unfold maxLen; omega) (by omega) HLO2.out ?_; intro A6 c6 w6 ho6 hg6 hn6; rw [Nat.zero_add] at ho6; have HO2 := Lib.hid ho6; have HB52 := Lib.hid (below_of_nil (K := 0) hg6); have HX2 := Lib.hid (HL21.out.below HB52.out); clear ho6 hg6 hn6)
        | (refine wpList_put_cell (i := 3) HX2.out.box rfl rfl rfl rfl (by kernel_rfl) (by simp [ledCells]) rfl ?_; intro v2 hb7 hw7))
      obtain ⟨sjoins, hsjoins⟩ : ∃ s : Sl JoinD, s = ⟨A6, c6, ljoins.l⟩ := ⟨_, rfl⟩
      have HL22 := Lib.hid (show LW v2 w.heap.size (w.heap.size + 2) K { zLed with ents := s, nodes := snodes, bans := sbans, joins := sjoins } from HX2.out.joins_set (s := sjoins) (by rw [hsjoins]; exact ⟨by rw [List.nil_append] at HO2; exact HO2.out, HR2.out.len⟩) hw7 (by rw [hsjoins]; exact hb7))
      have HM2 := Lib.hid (hw7.below (HM1.out.trans (HB52.out.mono HM1.out.size)) (by omega) (HM1.out.trans (HB52.out.mono HM1.out.size)).size)
      have HKc2 := Lib.hid (hw7.blk (HKc1.out.below HB52.out HKc1.out.lt) (by omega))
      have HZc2 := Lib.hid (hw7.blk (HZc1.out.below HB52.out HZc1.out.lt) (by omega))
      clear hb7 hw7 hsjoins ajoins cjoins
      -- keys
      obtain ⟨lkeys, hlkeys⟩ : ∃ l, l = d.keys := ⟨_, rfl⟩
      have HOR3 := Lib.hid (HOK.out.grow HM2.out)
      have HR3 := Lib.hid (show lkeys.Ok v2 42 skeyCells K by rw [hlkeys]; exact HOR3.out.keys)
      have akeys : v2.cell? ⟨w.heap.size, 4, none⟩ = some (.slice lkeys.A lkeys.l.length lkeys.c) := by rw [hlkeys]; exact HKc2.out.cell 4
      have ckeys : v2.cell? ⟨w.heap.size + 2, 4, none⟩ = some (.slice none 0 0) := HL22.out.box.cell 4
      have HN3 := Lib.hid (OwnR.nil v2 w.heap.size 42 4)
      have HT3 := Lib.hid (show (rowsV skeyCells lkeys.l).length = lkeys.l.length * 4 by rw [rowsV_len (f := skeyCells) (m := 4) (fun _ => rfl)])
      have hm3 : lkeys.l.length ≤ 900 := by have := HR3.out.len; have := HKK.out; omega
      have HD3 := Lib.hid hlkeys
      clear hlkeys
      have HLO3 := Lib.hid (HM2.out.size)
      go_upto_region 14 with (first
        | (refine wpList_append_r (m := lkeys.l.length) (news := rowsV skeyCells lkeys.l) sl_skeys rfl rfl HN3.out rfl rfl HT3.out HR3.out.row.rd (rowsV_mem skeyCells_one _) (by unfold maxLen; omega) (by omega) HLO3.out ?_; intro A6 c6 w6 ho6 hg6 hn6; rw [Nat.zero_add] at ho6; have HO3 := Lib.hid ho6; have HB53 := Lib.hid (below_of_nil (K := 0) hg6); have HX3 := Lib.hid (HL22.out.below HB53.out); clear ho6 hg6 hn6)
        | (refine wpList_put_cell (i := 4) HX3.out.box rfl rfl rfl rfl (by kernel_rfl) (by simp [ledCells]) rfl ?_; intro v3 hb7 hw7))
      obtain ⟨skeys, hskeys⟩ : ∃ s : Sl SkeyD, s = ⟨A6, c6, lkeys.l⟩ := ⟨_, rfl⟩
      have HL23 := Lib.hid (show LW v3 w.heap.size (w.heap.size + 2) K { zLed with ents := s, nodes := snodes, bans := sbans, joins := sjoins, keys := skeys } from HX3.out.keys_set (s := skeys) (by rw [hskeys]; exact ⟨by rw [List.nil_append] at HO3; exact HO3.out, HR3.out.len⟩) hw7 (by rw [hskeys]; exact hb7))
      have HM3 := Lib.hid (hw7.below (HM2.out.trans (HB53.out.mono HM2.out.size)) (by omega) (HM2.out.trans (HB53.out.mono HM2.out.size)).size)
      have HKc3 := Lib.hid (hw7.blk (HKc2.out.below HB53.out HKc2.out.lt) (by omega))
      have HZc3 := Lib.hid (hw7.blk (HZc2.out.below HB53.out HZc2.out.lt) (by omega))
      clear hb7 hw7 hskeys akeys ckeys
      -- buns
      obtain ⟨lbuns, hlbuns⟩ : ∃ l, l = d.buns := ⟨_, rfl⟩
      have HOR4 := Lib.hid (HOK.out.grow HM3.out)
      have HR4 := Lib.hid (show lbuns.Ok v3 45 bunCells K by rw [hlbuns]; exact HOR4.out.buns)
      have abuns : v3.cell? ⟨w.heap.size, 5, none⟩ = some (.slice lbuns.A lbuns.l.length lbuns.c) := by rw [hlbuns]; exact HKc3.out.cell 5
      have cbuns : v3.cell? ⟨w.heap.size + 2, 5, none⟩ = some (.slice none 0 0) := HL23.out.box.cell 5
      have HN4 := Lib.hid (OwnR.nil v3 w.heap.size 45 3)
      have HT4 := Lib.hid (show (rowsV bunCells lbuns.l).length = lbuns.l.length * 3 by rw [rowsV_len (f := bunCells) (m := 3) (fun _ => rfl)])
      have hm4 : lbuns.l.length ≤ 900 := by have := HR4.out.len; have := HKK.out; omega
      have HD4 := Lib.hid hlbuns
      clear hlbuns
      have HLO4 := Lib.hid (HM3.out.size)
      go_upto_region 15 with (first
        | (refine wpList_append_r (m := lbuns.l.length) (news := rowsV bunCells lbuns.l) sl_buns rfl rfl HN4.out rfl rfl HT4.out HR4.out.row.rd (rowsV_mem bunCells_one _) (by unfold maxLen; omega) (by omega) HLO4.out ?_; intro A6 c6 w6 ho6 hg6 hn6; rw [Nat.zero_add] at ho6; have HO4 := Lib.hid ho6; have HB54 := Lib.hid (below_of_nil (K := 0) hg6); have HX4 := Lib.hid (HL23.out.below HB54.out); clear ho6 hg6 hn6)
        | (refine wpList_put_cell (i := 5) HX4.out.box rfl rfl rfl rfl (by kernel_rfl) (by simp [ledCells]) rfl ?_; intro v4 hb7 hw7))
      obtain ⟨sbuns, hsbuns⟩ : ∃ s : Sl BunD, s = ⟨A6, c6, lbuns.l⟩ := ⟨_, rfl⟩
      have HL24 := Lib.hid (show LW v4 w.heap.size (w.heap.size + 2) K { zLed with ents := s, nodes := snodes, bans := sbans, joins := sjoins, keys := skeys, buns := sbuns } from HX4.out.buns_set (s := sbuns) (by rw [hsbuns]; exact ⟨by rw [List.nil_append] at HO4; exact HO4.out, HR4.out.len⟩) (fun x hx => by rw [hsbuns] at hx; exact (HOR4.out.bunOk x (by rw [← HD4.out]; exact hx)).grow HB54.out) hw7 (by rw [hsbuns]; exact hb7))
      have HM4 := Lib.hid (hw7.below (HM3.out.trans (HB54.out.mono HM3.out.size)) (by omega) (HM3.out.trans (HB54.out.mono HM3.out.size)).size)
      have HKc4 := Lib.hid (hw7.blk (HKc3.out.below HB54.out HKc3.out.lt) (by omega))
      have HZc4 := Lib.hid (hw7.blk (HZc3.out.below HB54.out HZc3.out.lt) (by omega))
      clear hb7 hw7 hsbuns abuns cbuns
      go_wp2_with (first
        | refine wpList_get_box (x := .tmp 3) (cs := ledCells { zLed with ents := s, nodes := snodes, bans := sbans, joins := sjoins, keys := skeys, buns := sbuns }) HL24.out.box rfl rfl rfl hul rfl ledT2_size ?_
        | (refine wpList_put_box (x := .tmp 2) (cells := ledCells { zLed with ents := s, nodes := snodes, bans := sbans, joins := sjoins, keys := skeys, buns := sbuns }) HZc4.out rfl rfl rfl rfl ledT2_size rfl (ledCells_one _) ?_; intro w9 hb9 hw9))
      have HB9 := Lib.hid hb9
      have HFN := Lib.hid (show CpPost K w (.returned (.agg (ledCells { zLed with ents := s, nodes := snodes, bans := sbans, joins := sjoins, keys := skeys, buns := sbuns }))) w9 from ⟨_, rfl, HL24.out.ll.wrote HZc4.out hw9, hw9.below HM4.out (by omega) HM4.out.size⟩)
      refine bodyPost_ret (results_box (P := Try.prog) rfl rfl HB9.out hul rfl ledT2_size) rfl ?_
      exact HFN.out
end Go.Proofs.Ytcnebbhnpocofaa
/-
  Walk: brevetref15.keys (OpPrepare, OpActive, OpDrop). (Printed by gen/ky20.py.)
-/
namespace Go.Proofs.Ytcnebbhnpocofaa
set_option linter.unusedSimpArgs false
set_option linter.unusedVariables false
open Go.RowKit

theorem opC_key (o : OpD) : (((opC o).toList.drop 17).take 4).toArray = skeyCells o.key := rfl
theorem box_neK {u : World} {g g' : Nat} {t t' : TypeId} {cs cs' : Array Value} (h : Blk u g t cs) (h' : Blk u g' t' cs') (ht : t ≠ t') : g ≠ g' := fun he => by
  subst he
  unfold Blk at h h'
  rw [h] at h'
  injection h' with h'
  injection h' with _ h' _
  exact ht h'
set_option maxRecDepth 100000 in
set_option maxHeartbeats 8000000 in
theorem keys15_any (d : LedD) (o : OpD) (base g K : Nat) (w : World) (h : LW w base g K d) (hK : K ≤ 900) :
    Calls Try.prog 47 #[.pointer (some ⟨g, 0, none⟩), .agg (opC o)] w (DoPost base g K w) := by
  have huk := Try.underlying42
  obtain ⟨W0, hW0⟩ : ∃ W0, W0 = w.alloc (.cells (opC o) 47) := ⟨_, rfl⟩
  have hb0 : Below w.heap.size w W0 := by rw [hW0]; exact (Below.refl _ w).alloc (Nat.le_refl _) _
  have hbs : base ≤ w.heap.size := Nat.le_of_lt (Nat.lt_of_le_of_lt h.hg h.box.lt)
  have HBS := Lib.hid hbs
  have HB0 := Lib.hid (hb0.mono hbs)
  have HBW := Lib.hid hb0
  have HK0 := Lib.hid (show Blk W0 w.heap.size 47 (opC o) by rw [hW0]; exact Blk.new _ _ _)
  have H0 := Lib.hid (h.below hb0)
  have HW0 := Lib.hid hW0
  have HKK := Lib.hid hK
  obtain ⟨lk, hlk⟩ : ∃ lk, lk = d.keys := ⟨_, rfl⟩
  have HLK := Lib.hid hlk
  have HKL := Lib.hid (show lk.l.length ≤ K by rw [hlk]; exact H0.out.ll.keys.len)
  have hkl : (lk.l.length : Int) ≤ 900 := by have := HKL.out; omega
  have HRD := Lib.hid (show ∀ u, Below W0.heap.size W0 u → Rd u W0.heap.size lk.A (rowsV skeyCells lk.l) from fun u hu => by rw [hlk]; exact H0.out.ll.keys.own.row.rd.below hu)
  have a4 : W0.cell? ⟨g, 4, none⟩ = some (.slice lk.A lk.l.length lk.c) := by rw [hlk]; exact H0.out.box.cell 4
  clear hW0 hb0 h hbs hK hlk
  go_enter Try.func47, Try.ntmps47
  go_upto_region 1 with (fail)
  rw [show w.alloc (.cells (opC o) 47) = W0 from HW0.out.symm]
  generalize Value.agg (opC o) = AV
  obtain ⟨kd, hkd⟩ : ∃ kd, kd = o.kind := ⟨_, rfl⟩
  have HKD := Lib.hid hkd
  clear hkd
  go_wp2_with fail
  go_loopw [5, 6, 7, 8, 9] (fun p1 p2 p3 p4 x wr => ∃ (xi z1 z2 z3 z4 : Int), -1 ≤ xi ∧ xi < (lk.l.length : Int) ∧ x = .int .i64 xi ∧ p1 = .int .i64 z1 ∧ p2 = .int .i64 z2 ∧ p3 = .int .i64 z3 ∧ p4 = .int .i64 z4 ∧ (Zok lk.l.length z1 ∧ Zok lk.l.length z2 ∧ Zok lk.l.length z3 ∧ Zok lk.l.length z4) ∧ Below W0.heap.size W0 wr) (fun _ _ _ _ x _ => (intOf x + 1).toNat)
  case atStart => exact ⟨(lk.l.length : Int) - 1, -1, -1, -1, -1, by omega, by omega, by go_num, rfl, rfl, rfl, rfl, ⟨.inl rfl, .inl rfl, .inl rfl, .inl rfl⟩, Below.refl _ _⟩
  case round =>
    obtain ⟨xi, z1, z2, z3, z4, hx1, hx2, rfl, rfl, rfl, rfl, rfl, ⟨hz1, hz2, hz3, hz4⟩, hbw⟩ := hrel
    have HZ1 := Lib.hid hz1
    have HZ2 := Lib.hid hz2
    have HZ3 := Lib.hid hz3
    have HZ4 := Lib.hid hz4
    have HBR := Lib.hid hbw
    have a4 : wr.cell? ⟨g, 4, none⟩ = some (.slice lk.A lk.l.length lk.c) := by rw [HLK.out]; exact (H0.out.box.below hbw H0.out.box.lt).cell 4
    clear hz1 hz2 hz3 hz4 hbw
    by_cases hx0 : 0 ≤ xi
    · obtain ⟨i, rfl⟩ : ∃ i : Nat, xi = (i : Int) := ⟨xi.toNat, by omega⟩
      have hlt : i < lk.l.length := by omega
      obtain ⟨ad, hA, -, hcell⟩ := rd_rows (f := skeyCells) (m := 4) (fun _ => rfl) (by decide) (HRD.out wr HBR.out) hlt
      rw [hA] at a4
      obtain ⟨X, hX⟩ : ∃ X, X = lk.l[i] := ⟨_, rfl⟩
      rw [← hX] at hcell
      have d0 : wr.cell? (ad.add (i * 4)) = some (.string X.kid) := hcell 0 _ rfl
      have d2 : wr.cell? ⟨(ad.add (i * 4)).block, (ad.add (i * 4)).off + 2, none⟩ = some (.int .i64 X.state) := hcell 2 _ rfl
      have b17 : wr.cell? ⟨w.heap.size, 17, none⟩ = some (.string o.key.kid) := (HK0.out.below HBR.out HK0.out.lt).cell 17
      have b2 : wr.cell? ⟨w.heap.size, 2, none⟩ = some (.string o.name) := (HK0.out.below HBR.out HK0.out.lt).cell 2
      have HLT := Lib.hid hlt
      clear hX hcell hlt hA hx1
      go_upto_if 30 with (fail)
      go_cut [5] (fun v wx => (∃ z, v = .int .i64 z ∧ Zok lk.l.length z) ∧ wx = wr)
      case first =>
        by_cases hs : X.state = 1
        · have hs' : (X.state == (1 : Int)) = true := by simp [hs]
          go_wp2_with fail
          go_meet
          exact ⟨⟨_, rfl, .inr ⟨i, HLT.out, rfl⟩⟩, rfl⟩
        · have hs' : (X.state == (1 : Int)) = false := by simpa using hs
          go_wp2_with fail
          go_meet
          exact ⟨⟨_, rfl, HZ1.out⟩, rfl⟩
      case rest =>
      obtain ⟨⟨y1, rfl, y1h⟩, rfl⟩ := hcut
      have HY1 := Lib.hid y1h
      clear y1h
      go_upto_if 40 with (fail)
      go_cut [6] (fun v wx => (∃ z, v = .int .i64 z ∧ Zok lk.l.length z) ∧ wx = wc)
      case first =>
        by_cases hs : X.state = 2
        · have hs' : (X.state == (2 : Int)) = true := by simp [hs]
          go_wp2_with fail
          go_meet
          exact ⟨⟨_, rfl, .inr ⟨i, HLT.out, rfl⟩⟩, rfl⟩
        · have hs' : (X.state == (2 : Int)) = false := by simpa using hs
          go_wp2_with fail
          go_meet
          exact ⟨⟨_, rfl, HZ2.out⟩, rfl⟩
      case rest =>
      obtain ⟨⟨y2, rfl, y2h⟩, rfl⟩ := hcut
      have HY2 := Lib.hid y2h
      clear y2h
      have HBQ := Lib.hid HBR.out
      obtain ⟨q1, hq1⟩ : ∃ q, (X.kid.toList == o.key.kid.toList) = q := ⟨_, rfl⟩
      obtain ⟨q2, hq2⟩ : ∃ q, (X.kid.toList == o.name.toList) = q := ⟨_, rfl⟩
      obtain ⟨wb, hwb⟩ : ∃ wb, wb = wc := ⟨_, rfl⟩
      rw [← hwb] at HBQ a4 d0 d2 b17 b2 ⊢
      clear hwb
      go_upto_region 12 with (fail)
      go_cut [53] (fun v wx => v = .bool q1 ∧ ∃ m, wx = wb.drewN m)
      case first =>
        go_wp2_with fail
        go_quiet (fail)
        go_wp2_with fail
        go_meet
        exact ⟨rfl, _, rfl⟩
      case rest =>
      obtain ⟨rfl, m1, rfl⟩ := hcut
      go_upto_if 53 with (fail)
      obtain ⟨wd, hwd⟩ : ∃ wd, wd = wb.drewN m1 := ⟨_, rfl⟩
      rw [← hwd]
      go_cut [7] (fun v wx => (∃ z, v = .int .i64 z ∧ Zok lk.l.length z) ∧ wx = wd)
      case first =>
        cases q1 with
        | true =>
          go_wp2_with fail
          go_meet
          exact ⟨⟨_, rfl, .inr ⟨i, HLT.out, rfl⟩⟩, rfl⟩
        | false =>
          go_wp2_with fail
          go_meet
          exact ⟨⟨_, rfl, HZ3.out⟩, rfl⟩
      case rest =>
      obtain ⟨⟨y3, rfl, y3h⟩, hwe⟩ := hcut
      rw [hwd] at hwe
      rw [hwe]
      clear hwd hwe
      have HY3 := Lib.hid y3h
      clear y3h hq1
      go_upto_region 14 with (fail)
      go_cut [76] (fun v wx => (∃ b, v = .bool b) ∧ ∃ m, wx = (wb.drewN m1).drewN m)
      case first =>
        cases q2 with
        | true =>
          go_wp2_with fail
          go_quiet (fail)
          go_wp2_with fail
          go_meet
          exact ⟨⟨_, rfl⟩, _, rfl⟩
        | false =>
          go_wp2_with fail
          go_quiet (fail)
          go_wp2_with fail
          go_meet
          exact ⟨⟨_, rfl⟩, _, rfl⟩
      case rest =>
      obtain ⟨⟨b4, rfl⟩, m2, rfl⟩ := hcut
      have HBD := Lib.hid (below_drewN9 HBQ.out (m1 + m2))
      cases b4 with
      | true =>
        go_wp2_with fail
        go_roundw
        case rel => exact ⟨(i : Int) - 1, y1, y2, y3, (i : Int), by omega, by omega, by go_num, rfl, rfl, rfl, rfl, ⟨HY1.out, HY2.out, HY3.out, .inr ⟨i, HLT.out, rfl⟩⟩, HBD.out⟩
        case measure => first | (simp [intOf]; done) | (simp [intOf]; omega)
      | false =>
        go_wp2_with fail
        go_roundw
        case rel => exact ⟨(i : Int) - 1, y1, y2, y3, z4, by omega, by omega, by go_num, rfl, rfl, rfl, rfl, ⟨HY1.out, HY2.out, HY3.out, HZ4.out⟩, HBD.out⟩
        case measure => first | (simp [intOf]; done) | (simp [intOf]; omega)
    · have H1 := Lib.hid (H0.out.below HBR.out)
      have HB1 := Lib.hid (HB0.out.trans (HBR.out.mono (Nat.le_trans HBS.out HB0.out.size)))
      have HK1 := Lib.hid (HK0.out.below HBR.out HK0.out.lt)
      have HNO1 := Lib.hid (DoPost.no (w := w) H1.out HB1.out)
      have HNO2 := Lib.hid (fun (m : Nat) => DoPost.no (w := w) (H1.out.below (below_drewN9 (Below.refl _ wr) m)) (below_drewN9 HB1.out m))
      have b0 : wr.cell? ⟨w.heap.size, 0, none⟩ = some (.int .i64 kd) := by rw [HKD.out]; exact HK1.out.cell 0
      have b1 : wr.cell? ⟨w.heap.size, 1, none⟩ = some (.int .i64 o.n) := HK1.out.cell 1
      have HKO := Lib.hid (show lk.Own wr base 42 4 skeyCells K by rw [HLK.out]; exact H1.out.ll.keys)
      clear hx1 hx2
      by_cases h9 : kd = 9
      · have e9 : (kd == (9 : Int)) = true := by simp [h9]
        clear h9
        go_wp2_with (refine wpList_get_part (r := skeyCells o.key) (k := 17) (n := 4) HK1.out (by simp [opC]) (opC_key _) rfl rfl rfl huk rfl skeyT_size ?_)
        refine calls_then (key15_any o.key wr) ?_
        rintro e w1 ⟨⟨b, rfl⟩, hb1⟩
        have H2 := Lib.hid (H1.out.below hb1)
        have HB2 := Lib.hid (HB1.out.trans (hb1.mono (Nat.le_trans HBS.out HB1.out.size)))
        have HK2 := Lib.hid (HK1.out.below hb1 HK1.out.lt)
        have HNO := Lib.hid (DoPost.no (w := w) H2.out HB2.out)
        obtain ⟨kst, hkst⟩ : ∃ s, s = o.key.state := ⟨_, rfl⟩
        have HKST := Lib.hid hkst
        have b19 : w1.cell? ⟨w.heap.size, 19, none⟩ = some (.int .i64 kst) := by rw [hkst]; exact HK2.out.cell 19
        clear hkst
        have a4 : w1.cell? ⟨g, 4, none⟩ = some (.slice lk.A lk.l.length lk.c) := by rw [HLK.out]; exact H2.out.box.cell 4
        clear hb1
        cases b with
        | false =>
          go_wp2_with fail
          go_ret
          exact HNO.out _
        | true =>
          by_cases hs : kst = 1
          · subst hs
            by_cases hz1 : 0 ≤ z1
            · go_wp2_with fail
              go_ret
              exact HNO.out _
            · have hz1' : decide (0 ≤ z1) = false := decide_eq_false hz1
              by_cases hz3 : 0 ≤ z3
              · go_wp2_with fail
                go_ret
                exact HNO.out _
              · by_cases h8 : (8 : Int) ≤ (lk.l.length : Int)
                · go_wp2_with fail
                  go_ret
                  exact HNO.out _
                · go_wp2_with fail
                  have HC0 : Below w1.heap.size w1 w1.drew := (Below.refl _ _).drew
                  have HJR := Lib.hid (show OwnR w1 base 42 4 lk.A lk.c lk.l.length (rowsV skeyCells lk.l) by rw [HLK.out]; exact H2.out.ll.keys.own)
                  obtain ⟨wq, hwq⟩ : ∃ wq, wq = w1 := ⟨_, rfl⟩
                  rw [← hwq] at HC0 H2 HB2 HK2 a4 HJR ⊢
                  clear hwq b19 HNO hz1 hz1' hz3 h8
                  apply wp_region_seqp (fun u => Below wq.heap.size wq u) (fun i => i == 0) (fun u u' => Below u.heap.size u u') [_, _, _, _, .slice lk.A lk.l.length lk.c, _, .agg (skeyCells o.key), undef] (gOf [(7, fun v u => ∃ ad, v = .slice (some ⟨ad, 0, none⟩) 1 1 ∧ Blk u ad 42 (skeyCells o.key))]) 8 (by kernel_rfl) (by kernel_rfl) (by decide) (by kernel_rfl) (fun i h => by simp only [beq_iff_eq] at h; subst h; rfl) (stabL_of _ ⟨(fun _ _ _ h h0 => by obtain ⟨ga, e, hb⟩ := h0; exact ⟨ga, e, hb.below h hb.lt⟩), trivial⟩) HC0
                  simp only [List.take_succ_cons, List.take_zero, List.drop_succ_cons, List.drop_zero]
                  iterate 4
                    first
                    | (apply SeqH.pure; rfl; rfl; rfl; rfl; (simp only [act_put, act_put_none, List.setIfInBounds_toArray, List.set_cons_zero, List.set_cons_succ]; rfl); (intro w1 E hE; go_wp2; exact .mk hE))
                    | (apply SeqH.step; rfl; (first | (apply SeqG.next; rfl; rfl; rfl)); (simp only [act_put, act_put_none, List.setIfInBounds_toArray, List.set_cons_zero, List.set_cons_succ]; rfl); (intro w1 hC1 hf E hE; go_wp2; exact .mk (hE _ hC1 (Below.refl _ _))); refine SeqG.nil ?_)
                  apply SeqH.step
                  · rfl
                  apply SeqG.next
                  · rfl
                  · rfl
                  · rfl
                  · simp only [act_put, act_put_none, List.setIfInBounds_toArray, List.set_cons_zero, List.set_cons_succ]
                    rfl
                  · intro w1 hC1 hf E hE
                    have d0 := (hC1.cell (p := ⟨g, 4, none⟩) H2.out.box.lt).trans a4
                    go_wp2
                    exact .mk (hE _ hC1 (Below.refl _ _))
                  refine SeqG.nil ?_
                  iterate 1
                    (apply SeqH.step; rfl; (first | (apply SeqG.next; rfl; rfl; rfl)); (simp only [act_put, act_put_none, List.setIfInBounds_toArray, List.set_cons_zero, List.set_cons_succ]; rfl); (intro w1 hC1 hf E hE; go_wp2; exact .mk (hE _ hC1 (Below.refl _ _))); refine SeqG.nil ?_)
                  apply SeqH.step
                  · rfl
                  apply SeqG.next
                  · rfl
                  · rfl
                  · rfl
                  · simp only [act_put, act_put_none, List.setIfInBounds_toArray, List.set_cons_zero, List.set_cons_succ]
                    rfl
                  · intro w1 hC1 hf E hE
                    refine wpList_get_part (r := skeyCells o.key) (k := 17) (n := 4) (HK2.out.below hC1 HK2.out.lt) (by simp [opC]) (opC_key _) rfl rfl rfl huk rfl skeyT_size ?_
                    go_wp2
                    exact .mk (hE _ hC1 (Below.refl _ _))
                  refine SeqG.nil ?_
                  apply SeqH.step
                  · rfl
                  apply SeqG.some
                  · rfl
                  · rfl
                  · intro w1 hC1 hf E hE
                    simp only [act_put, act_put_none, List.setIfInBounds_toArray, List.set_cons_zero, List.set_cons_succ] at hE
                    unfold skeyCells
                    go_wp2
                    exact .mk (hE _ _ ⟨_, rfl, Blk.new _ _ _⟩ (hC1.alloc hC1.size _) ((Below.refl _ _).alloc (Nat.le_refl _) _))
                  intro x7
                  simp only [act_put, act_put_none, List.setIfInBounds_toArray, List.set_cons_zero, List.set_cons_succ]
                  refine SeqG.nil ?_
                  refine SeqH.nil ?_
                  intro w1 hC1 hf
                  have f7 := (hf 7 (of_decide_eq_true (by kernel_rfl))).1 rfl
                  clear hf
                  refine SeqT.step rfl ?_
                  intro E hE
                  simp only [act_put, act_put_none, List.setIfInBounds_toArray, List.set_cons_zero, List.set_cons_succ] at hE
                  obtain ⟨ga, hx7, hb7⟩ := f7
                  have HB7 := Lib.hid hb7
                  have HBC := Lib.hid hC1
                  clear hb7
                  simp only [hx7] at hE ⊢
                  refine wpList_append_r (m := 1) (news := (skeyCells o.key).toList) sl_skeys rfl rfl (HJR.out.below hC1) rfl rfl rfl (Rd.of_blk (l := (skeyCells o.key).toList) HB7.out HB7.out.lt) (by simp [skeyCells, Value.oneCell']) (by unfold maxLen; omega) (by omega) (Nat.le_trans (Nat.le_trans HBS.out HB2.out.size) hC1.size) ?_
                  intro A8 c8 w8 ho8 hg8 hn8
                  have HO8 := Lib.hid ho8
                  have HG8 := Lib.hid hg8
                  clear ho8 hg8 hn8
                  go_wp2
                  refine .mk (hE _ _ ?_)
                  clear hE E
                  refine SeqT.step rfl ?_
                  intro E hE
                  simp only [act_put, act_put_none, List.setIfInBounds_toArray, List.set_cons_zero, List.set_cons_succ] at hE
                  go_wp2
                  refine .mk (hE _ _ ?_)
                  clear hE E
                  refine SeqT.step rfl ?_
                  intro E hE
                  simp only [act_put, act_put_none, List.setIfInBounds_toArray, List.set_cons_zero, List.set_cons_succ] at hE
                  go_wp2
                  refine .mk (hE _ _ ?_)
                  clear hE E
                  refine SeqT.step rfl ?_
                  intro E hE
                  simp only [act_put, act_put_none, List.setIfInBounds_toArray, List.set_cons_zero, List.set_cons_succ] at hE
                  refine wpList_put_cell (i := 4) ((H2.out.below HBC.out).box.keep (keepBut_grown (HJR.out.below HBC.out) HG8.out) (by decide)) rfl rfl rfl rfl (by kernel_rfl) (by simp [ledCells]) rfl ?_
                  intro w9 hb9 hw9
                  have HB9 := Lib.hid hb9
                  have HW9 := Lib.hid hw9
                  clear hb9 hw9
                  go_wp2_with fail
                  refine .mk (hE undef _ ?_)
                  clear hE E
                  refine SeqT.nil ?_
                  have HFN := Lib.hid (show DoPost base g K w (.returned (.int .i64 0)) w9 by
                    have hbg : Below base w w8 := (HB2.out.trans (HBC.out.mono (Nat.le_trans HBS.out HB2.out.size))).grown HG8.out (Nat.le_trans HBS.out (HB2.out.trans (HBC.out.mono (Nat.le_trans HBS.out HB2.out.size))).size) fun j hj => (HJR.out.lt j hj).1
                    have hl := (H2.out.below HBC.out).key_add (k := o.key) (A' := A8) (c' := c8) (by rw [← HLK.out]; exact HO8.out) (by rw [← HLK.out]; exact HG8.out) HW9.out (by rw [← HLK.out]; exact HB9.out)
                    exact ⟨_, 0, rfl, hl, HW9.out.below hbg H2.out.hg (Nat.le_trans HBS.out hbg.size)⟩)
                  clear hC1 HC0
                  go_wp2_with fail
                  go_ret
                  exact HFN.out
          · have hs' : (kst == (1 : Int)) = false := by simpa using hs
            clear hs
            go_wp2_with fail
            go_ret
            exact HNO.out _
      · have e9 : (kd == (9 : Int)) = false := by simpa using h9
        clear h9
        by_cases h10 : kd = 10
        · have e10 : (kd == (10 : Int)) = true := by simp [h10]
          clear h10
          by_cases hn0 : o.n < 0
          · go_wp2_with fail
            go_ret
            exact HNO1.out _
          · have hn0' : decide (o.n < 0) = false := decide_eq_false hn0
            by_cases hn1 : 1099511627776 < o.n
            · go_wp2_with fail
              go_ret
              exact HNO1.out _
            · by_cases hp : z1 < 0
              · go_wp2_with fail
                go_ret
                exact HNO1.out _
              · obtain ⟨i1, hi1, hzi1⟩ := HZ1.out.nat hp
                subst hzi1
                have HI1 := Lib.hid hi1
                have hi10 : (0 : Int) ≤ (i1 : Int) := by omega
                have hi1l : (i1 : Int) < (lk.l.length : Int) := by omega
                have HKW := Lib.hid (show KW wr base g K d lk lk from ⟨by rw [HLK.out]; exact H1.out, rfl, rfl, rfl⟩)
                clear hi1 hp
                go_upto_if 129 with (fail)
                go_cut [] (fun wx => (∃ s, KW wx base g K d lk s) ∧ Blk wx w.heap.size 47 (opC o) ∧ Below base w wx)
                case first =>
                  by_cases ha : 0 ≤ z2
                  · obtain ⟨i2, hi2, hzi2⟩ := HZ2.out.nat (by omega)
                    subst hzi2
                    have hi2l : (i2 : Int) < (lk.l.length : Int) := by omega
                    have HI2 := Lib.hid hi2
                    obtain ⟨ad, cur, hA, hbase, hblk, hoff, hput⟩ := HKW.out.put HI2.out (j := 2) (by decide) (.int .i64 3) (fun x => ⟨x.kid, x.seed, 3, x.since⟩) (fun _ => rfl)
                    have ha4 := HKW.out.cell
                    rw [hA] at ha4
                    have HPU := Lib.hid hput
                    have HBA := Lib.hid hbase
                    have HBK := Lib.hid hblk
                    have HOF := Lib.hid hoff
                    have HAA := Lib.hid hA
                    clear hput hbase hblk hoff hA a4
                    go_upto_region 33 with (refine wpList_put_cell HBK.out rfl rfl rfl rfl (by kernel_rfl) HOF.out rfl ?_; intro v5 hb5 hw5)
                    obtain ⟨s5, hk5⟩ := HPU.out _ hb5 hw5
                    have HK5 := Lib.hid hk5
                    have HO5 := Lib.hid (hw5.blk HK1.out (box_neK HK1.out HBK.out (by decide)))
                    have HB5 := Lib.hid (hw5.below HB1.out HBA.out (Nat.le_trans HBS.out HB1.out.size))
                    clear hb5 hw5 hk5 ha4
                    obtain ⟨ad2, cur2, hA2, hbase2, hblk2, hoff2, hput2⟩ := HK5.out.put HI2.out (j := 3) (by decide) (.int .i64 o.n) (fun x => ⟨x.kid, x.seed, x.state, o.n⟩) (fun _ => rfl)
                    rw [HAA.out] at hA2
                    injection hA2 with hA2
                    subst hA2
                    have ha5 := HK5.out.cell
                    rw [HAA.out] at ha5
                    have hb15 : v5.cell? ⟨w.heap.size, 1, none⟩ = some (.int .i64 o.n) := HO5.out.cell 1
                    have HP2 := Lib.hid hput2
                    have HS2 := Lib.hid hblk2
                    have HF2 := Lib.hid hoff2
                    clear hput2 hbase2 hblk2 hoff2
                    go_wp2_with fail
                    have HC0 : Below v5.heap.size v5 v5.drew := (Below.refl _ _).drew
                    apply wp_region_seqh (fun u => ∃ m, u = v5.drewN m) (fun _ _ => True) [_, _, _, _, _, _, _, _, _] (gOf []) 9 (by kernel_rfl) (by kernel_rfl) (by decide) (by kernel_rfl) (stabL_of _ trivial) ⟨1, rfl⟩
                    simp only [List.take_succ_cons, List.take_zero, List.drop_succ_cons, List.drop_zero]
                    iterate 3
                      ((first | (apply SeqG.next; rfl; rfl; rfl)); (simp only [act_put, act_put_none, List.setIfInBounds_toArray, List.set_cons_zero, List.set_cons_succ]; rfl); (intro w1 hC1 hf E hE; go_wp2; exact .mk (hE _ hC1 trivial)))
                    apply SeqG.next
                    · rfl
                    · rfl
                    · rfl
                    · simp only [act_put, act_put_none, List.setIfInBounds_toArray, List.set_cons_zero, List.set_cons_succ]
                      rfl
                    · intro w1 hC1 hf E hE
                      obtain ⟨mm, rfl⟩ := hC1
                      go_wp2
                      exact .mk (hE _ ⟨_, rfl⟩ trivial)
                    iterate 2
                      ((first | (apply SeqG.next; rfl; rfl; rfl)); (simp only [act_put, act_put_none, List.setIfInBounds_toArray, List.set_cons_zero, List.set_cons_succ]; rfl); (intro w1 hC1 hf E hE; go_wp2; exact .mk (hE _ hC1 trivial)))
                    apply SeqG.next
                    · rfl
                    · rfl
                    · rfl
                    · simp only [act_put, act_put_none, List.setIfInBounds_toArray, List.set_cons_zero, List.set_cons_succ]
                      rfl
                    · intro w1 hC1 hf E hE
                      obtain ⟨mm, rfl⟩ := hC1
                      go_wp2
                      exact .mk (hE _ ⟨_, rfl⟩ trivial)
                    iterate 2
                      ((first | (apply SeqG.next; rfl; rfl; rfl)); (simp only [act_put, act_put_none, List.setIfInBounds_toArray, List.set_cons_zero, List.set_cons_succ]; rfl); (intro w1 hC1 hf E hE; go_wp2; exact .mk (hE _ hC1 trivial)))
                    refine SeqG.nil ?_
                    intro w1 hC1 hf
                    clear hf
                    refine SeqT.step rfl ?_
                    intro E hE
                    simp only [act_put, act_put_none, List.setIfInBounds_toArray, List.set_cons_zero, List.set_cons_succ] at hE
                    obtain ⟨mm, rfl⟩ := hC1
                    refine wpList_put_cell (show Blk (v5.drewN mm) _ _ _ from HS2.out) rfl rfl rfl rfl (by kernel_rfl) HF2.out rfl ?_
                    intro v6 hb6 hw6
                    have HB6 := Lib.hid hb6
                    have HW6 := Lib.hid (show Wrote _ v5 v6 from ⟨⟨hw6.grown.os, hw6.grown.tape, hw6.grown.output, hw6.grown.size, hw6.grown.block⟩, hw6.size⟩)
                    clear hb6 hw6
                    go_wp2_with fail
                    refine .mk (hE undef _ ?_)
                    clear hE E
                    refine SeqT.nil ?_
                    obtain ⟨s6, hk6⟩ := HP2.out _ HB6.out HW6.out
                    have HK6 := Lib.hid hk6
                    have HO6 := Lib.hid (HW6.out.blk HO5.out (box_neK HO5.out HS2.out (by decide)))
                    have HB6b := Lib.hid (HW6.out.below HB5.out HBA.out (Nat.le_trans HBS.out HB5.out.size))
                    clear hk6 HC0 ha5 hb15
                    go_wp2_with fail
                    go_meet
                    exact ⟨⟨_, HK6.out⟩, HO6.out, HB6b.out⟩
                  · go_wp2_with fail
                    go_meet
                    exact ⟨⟨_, HKW.out⟩, HK1.out, HB1.out⟩
                case rest =>
                obtain ⟨⟨s3, hk3⟩, ho3, hb3⟩ := hcut
                have HKX := Lib.hid hk3
                have HOX := Lib.hid ho3
                have HBX := Lib.hid hb3
                clear hk3 ho3 hb3 a4 b0 b1
                obtain ⟨ad, cur, hA, hbase, hblk, hoff, hput⟩ := HKX.out.put HI1.out (j := 2) (by decide) (.int .i64 2) (fun x => ⟨x.kid, x.seed, 2, x.since⟩) (fun _ => rfl)
                have ha4 := HKX.out.cell
                rw [hA] at ha4
                have HPU := Lib.hid hput
                have HBA := Lib.hid hbase
                have HBK := Lib.hid hblk
                have HOF := Lib.hid hoff
                have HAA := Lib.hid hA
                clear hput hbase hblk hoff hA 
                go_upto_region 35 with (refine wpList_put_cell HBK.out rfl rfl rfl rfl (by kernel_rfl) HOF.out rfl ?_; intro v5 hb5 hw5)
                obtain ⟨s5, hk5⟩ := HPU.out _ hb5 hw5
                have HK5 := Lib.hid hk5
                have HO5 := Lib.hid (hw5.blk HOX.out (box_neK HOX.out HBK.out (by decide)))
                have HB5 := Lib.hid (hw5.below HBX.out HBA.out (Nat.le_trans HBS.out HBX.out.size))
                clear hb5 hw5 hk5 ha4
                obtain ⟨ad2, cur2, hA2, hbase2, hblk2, hoff2, hput2⟩ := HK5.out.put HI1.out (j := 3) (by decide) (.int .i64 o.n) (fun x => ⟨x.kid, x.seed, x.state, o.n⟩) (fun _ => rfl)
                rw [HAA.out] at hA2
                injection hA2 with hA2
                subst hA2
                have ha5 := HK5.out.cell
                rw [HAA.out] at ha5
                have hb15 : v5.cell? ⟨w.heap.size, 1, none⟩ = some (.int .i64 o.n) := HO5.out.cell 1
                have HP2 := Lib.hid hput2
                have HS2 := Lib.hid hblk2
                have HF2 := Lib.hid hoff2
                clear hput2 hbase2 hblk2 hoff2
                go_wp2_with fail
                have HC0 : Below v5.heap.size v5 v5.drew := (Below.refl _ _).drew
                apply wp_region_seqh (fun u => ∃ m, u = v5.drewN m) (fun _ _ => True) [_, _, _, _, _, _, _, _, _] (gOf []) 9 (by kernel_rfl) (by kernel_rfl) (by decide) (by kernel_rfl) (stabL_of _ trivial) ⟨1, rfl⟩
                simp only [List.take_succ_cons, List.take_zero, List.drop_succ_cons, List.drop_zero]
                iterate 3
                  ((first | (apply SeqG.next; rfl; rfl; rfl)); (simp only [act_put, act_put_none, List.setIfInBounds_toArray, List.set_cons_zero, List.set_cons_succ]; rfl); (intro w1 hC1 hf E hE; go_wp2; exact .mk (hE _ hC1 trivial)))
                apply SeqG.next
                · rfl
                · rfl
                · rfl
                · simp only [act_put, act_put_none, List.setIfInBounds_toArray, List.set_cons_zero, List.set_cons_succ]
                  rfl
                · intro w1 hC1 hf E hE
                  obtain ⟨mm, rfl⟩ := hC1
                  go_wp2
                  exact .mk (hE _ ⟨_, rfl⟩ trivial)
                iterate 2
                  ((first | (apply SeqG.next; rfl; rfl; rfl)); (simp only [act_put, act_put_none, List.setIfInBounds_toArray, List.set_cons_zero, List.set_cons_succ]; rfl); (intro w1 hC1 hf E hE; go_wp2; exact .mk (hE _ hC1 trivial)))
                apply SeqG.next
                · rfl
                · rfl
                · rfl
                · simp only [act_put, act_put_none, List.setIfInBounds_toArray, List.set_cons_zero, List.set_cons_succ]
                  rfl
                · intro w1 hC1 hf E hE
                  obtain ⟨mm, rfl⟩ := hC1
                  go_wp2
                  exact .mk (hE _ ⟨_, rfl⟩ trivial)
                iterate 2
                  ((first | (apply SeqG.next; rfl; rfl; rfl)); (simp only [act_put, act_put_none, List.setIfInBounds_toArray, List.set_cons_zero, List.set_cons_succ]; rfl); (intro w1 hC1 hf E hE; go_wp2; exact .mk (hE _ hC1 trivial)))
                refine SeqG.nil ?_
                intro w1 hC1 hf
                clear hf
                refine SeqT.step rfl ?_
                intro E hE
                simp only [act_put, act_put_none, List.setIfInBounds_toArray, List.set_cons_zero, List.set_cons_succ] at hE
                obtain ⟨mm, rfl⟩ := hC1
                refine wpList_put_cell (show Blk (v5.drewN mm) _ _ _ from HS2.out) rfl rfl rfl rfl (by kernel_rfl) HF2.out rfl ?_
                intro v6 hb6 hw6
                have HB6 := Lib.hid hb6
                have HW6 := Lib.hid (show Wrote _ v5 v6 from ⟨⟨hw6.grown.os, hw6.grown.tape, hw6.grown.output, hw6.grown.size, hw6.grown.block⟩, hw6.size⟩)
                clear hb6 hw6
                go_wp2_with fail
                refine .mk (hE undef _ ?_)
                clear hE E
                refine SeqT.nil ?_
                obtain ⟨s6, hk6⟩ := HP2.out _ HB6.out HW6.out
                have HK6 := Lib.hid hk6
                have HO6 := Lib.hid (HW6.out.blk HO5.out (box_neK HO5.out HS2.out (by decide)))
                have HB6b := Lib.hid (HW6.out.below HB5.out HBA.out (Nat.le_trans HBS.out HB5.out.size))
                clear hk6 HC0 ha5 hb15
                have HFN := Lib.hid (show DoPost base g K w (.returned (.int .i64 0)) v6 from ⟨_, 0, rfl, HK6.out.lw.more (Nat.le_succ K), HB6b.out⟩)
                go_wp2_with fail
                go_ret
                exact HFN.out
        · have e10 : (kd == (10 : Int)) = false := by simpa using h10
          clear h10
          by_cases h11 : kd = 11
          · have e11 : (kd == (11 : Int)) = true := by simp [h11]
            clear h11
            by_cases hp : z4 < 0
            · go_wp2_with fail
              go_ret
              exact HNO1.out _
            · obtain ⟨i, hi, hzi⟩ := HZ4.out.nat hp
              subst hzi
              have hcap := HKO.out.own.cap
              have HS1 := Lib.hid (slice_h_r (P := Try.prog) und_keys size_keys lk.A lk.l.length lk.c i (by omega))
              have HS2 := Lib.hid (slice_l_r (P := Try.prog) und_keys size_keys lk.A lk.l.length lk.c (i + 1) hi)
              have HR1 := Lib.hid (rd_take_r (f := skeyCells) (m := 4) (fun _ => rfl) HKO.out.own.row.rd i)
              have HR2 := Lib.hid (show ∀ u, Below wr.heap.size wr u → Rd u wr.heap.size (cutM 4 lk.A lk.c (i + 1)) (rowsV skeyCells (lk.l.drop (i + 1))) from fun u hu => (rd_drop_r (f := skeyCells) (m := 4) (fun _ => rfl) HKO.out.own.row.rd hcap hi).below hu)
              have HL1 := Lib.hid (show (rowsV skeyCells (lk.l.take i)).length = i * 4 by rw [rowsV_len (f := skeyCells) (m := 4) (fun _ => rfl), List.length_take, Nat.min_eq_left (Nat.le_of_lt hi)])
              have HL2 := Lib.hid (show (rowsV skeyCells (lk.l.drop (i + 1))).length = (lk.l.length - (i + 1)) * 4 by rw [rowsV_len (f := skeyCells) (m := 4) (fun _ => rfl), List.length_drop])
              have HNL := Lib.hid (OwnR.nil wr wr.heap.size 42 4)
              have hi9 : i ≤ 900 := by have := HKL.out; have := HKK.out; omega
              have hl9 : lk.l.length - (i + 1) ≤ 900 := by have := HKL.out; have := HKK.out; omega
              have HIL := Lib.hid hi
              clear hp hi
              go_wp2_with (first
                | ((with_reducible apply wpList_slice_k (x := .tmp 170)); (case ho => exact rfl); (case hgd => exact rfl); (case hr => exact HS1.out _))
                | ((with_reducible apply wpList_append_r (x := .tmp 172) (m := i) (news := rowsV skeyCells (lk.l.take i)) sl_skeys); (case ho => exact rfl); (case hgd => exact rfl); (case hown => exact HNL.out); (case hs => exact rfl); (case hx => exact rfl); (case hl => exact HL1.out); (case hr => exact HR1.out); (case h1 => exact rowsV_mem skeyCells_one _); (case h63 => (unfold maxLen; omega)); (case hbytes => omega); (case hbase => exact Nat.le_refl _); intro A5 c5 w5 ho5 hg5 hn5; simp only [Nat.zero_add] at ho5 ⊢; have HO5 := Lib.hid ho5; have HG5 := Lib.hid (show Below wr.heap.size wr w5 from ⟨hg5.os, hg5.tape, hg5.output, hg5.size, fun b hb => hg5.block b hb (by simp [Value.ownBlock])⟩); clear ho5 hg5 hn5; have a4 : w5.cell? ⟨g, 4, none⟩ = some (.slice lk.A lk.l.length lk.c) := by rw [HLK.out]; exact (H1.out.box.below HG5.out H1.out.box.lt).cell 4)
                | ((with_reducible apply wpList_slice_k (x := .tmp 179) (lo := some (.tmp 181))); (case ho => exact rfl); (case hgd => exact rfl); (case hr => exact HS2.out _))
                | ((with_reducible apply wpList_append_r (x := .tmp 182) (m := lk.l.length - (i + 1)) (news := rowsV skeyCells (lk.l.drop (i + 1))) sl_skeys); (case ho => exact rfl); (case hgd => exact rfl); (case hown => exact HO5.out); (case hs => exact rfl); (case hx => exact rfl); (case hl => exact HL2.out); (case hr => exact HR2.out _ HG5.out); (case h1 => exact rowsV_mem skeyCells_one _); (case h63 => (unfold maxLen; omega)); (case hbytes => omega); (case hbase => exact HG5.out.size); intro A6 c6 w6 ho6 hg6 hn6; have HO6 := Lib.hid ho6; have HG6 := Lib.hid hg6; have HKB := Lib.hid ((KeepBut.of_below (e := 42) HG5.out).trans (keepBut_grown HO5.out hg6)); clear ho6 hg6 hn6)
                | (refine wpList_put_cell (i := 4) (H1.out.box.keep HKB.out (by decide)) rfl rfl rfl rfl (by kernel_rfl) (by simp [ledCells]) rfl ?_; intro w7 hb7 hw7))
              have HFN := Lib.hid (show DoPost base g K w (.returned (.int .i64 0)) w7 by
                have hbg : Below base w w6 := (HB1.out.trans (HG5.out.mono (Nat.le_trans HBS.out HB1.out.size))).grown HG6.out (Nat.le_trans HBS.out (HB1.out.trans (HG5.out.mono (Nat.le_trans HBS.out HB1.out.size))).size) fun j hj => Nat.le_trans (Nat.le_trans HBS.out HB1.out.size) (HO5.out.lt j hj).1
                have hlen : (lk.l.take i ++ lk.l.drop (i + 1)).length = i + (lk.l.length - (i + 1)) := by rw [List.length_append, List.length_take, List.length_drop, Nat.min_eq_left (Nat.le_of_lt HIL.out)]
                have hs : (⟨A6, c6, lk.l.take i ++ lk.l.drop (i + 1)⟩ : Sl SkeyD).Own w6 base 42 4 skeyCells K := ⟨by
                  show OwnR w6 base _ 4 A6 c6 (lk.l.take i ++ lk.l.drop (i + 1)).length _
                  rw [hlen, rowsV_append]
                  have h := HO6.out.mono (Nat.le_trans HBS.out HB1.out.size)
                  simpa using h, by
                  show (lk.l.take i ++ lk.l.drop (i + 1)).length ≤ K
                  rw [hlen]
                  have := HKL.out
                  have := HIL.out
                  omega⟩
                have hv : (⟨A6, c6, lk.l.take i ++ lk.l.drop (i + 1)⟩ : Sl SkeyD).v = .slice A6 (i + (lk.l.length - (i + 1))) c6 := by
                  show Value.slice A6 (lk.l.take i ++ lk.l.drop (i + 1)).length c6 = _
                  rw [hlen]
                exact ⟨_, 0, rfl, (H1.out.keys_put HKB.out hs hw7 (by rw [hv]; exact hb7)).more (Nat.le_succ K), hw7.below hbg H1.out.hg (Nat.le_trans HBS.out hbg.size)⟩)
              go_ret
              exact HFN.out
          · have e11 : (kd == (11 : Int)) = false := by simpa using h11
            clear h11
            have HFN := Lib.hid (show DoPost base g K w (.returned (.int .i64 0)) wr from ⟨d, 0, rfl, H1.out.more (Nat.le_succ K), HB1.out⟩)
            go_wp2_with fail
            go_ret
            exact HFN.out
end Go.Proofs.Ytcnebbhnpocofaa
/-
  Walk: brevetref15.joins (OpToken, OpJoin).
-/
namespace Go.Proofs.Ytcnebbhnpocofaa
set_option linter.unusedSimpArgs false
set_option linter.unusedVariables false
open Go.RowKit

theorem opC_join (o : OpD) : (((opC o).toList.drop 8).take 4).toArray = joinCells o.join := rfl
theorem opC_node (o : OpD) : (((opC o).toList.drop 12).take 5).toArray = nodeCells o.node := rfl
/-- a join token more -/
theorem LW.join_add {u u' v : World} {base g K : Nat} {d : LedD} {k : JoinD} {A' : Option Addr} {c' : Nat} (h : LW u base g K d) (ho : OwnR u' base 38 4 A' c' (d.joins.l.length + 1) (rowsV joinCells d.joins.l ++ (joinCells k).toList))
    (hg : u.grownBy u' (Value.slice d.joins.A d.joins.l.length d.joins.c).ownBlock) (hw : Wrote g u' v) (hb : Blk v g 33 ((ledCells d).setIfInBounds 3 (.slice A' (d.joins.l.length + 1) c'))) : LW v base g (K + 1) { d with joins := ⟨A', c', d.joins.l ++ [k]⟩ } := by
  have hk := keepBut_grown h.ll.joins.own hg
  have hl : LL u' base (K + 1) { d with joins := ⟨A', c', d.joins.l ++ [k]⟩ } := (h.ll.more (Nat.le_succ K)).keepJ hk ⟨by
    rw [rowsV_append, rowsV_one, List.length_append]
    exact ho, by have := h.ll.joins.len; show (d.joins.l ++ [k]).length ≤ K + 1; rw [List.length_append, List.length_singleton]; omega⟩
  refine LW.put (h.box.keep hk (by decide)) h.hg hl hw ?_
  unfold ledCells
  have e : (⟨A', c', d.joins.l ++ [k]⟩ : Sl JoinD).v = .slice A' (d.joins.l.length + 1) c' := by
    show Value.slice A' (d.joins.l ++ [k]).length c' = _
    rw [List.length_append]
    rfl
  rw [e]
  exact hb
/-- one field of a join token is written -/
theorem LW.join_field {u u' : World} {base g K b : Nat} {d : LedD} {s : Sl JoinD} {cs : Array Value} (h : LW u base g K d) (hb : Blk u b 38 cs) (hw : Wrote b u u') (hs : s.Own u' base 38 4 joinCells K) (he : s.v = d.joins.v) : LW u' base g K { d with joins := s } :=
  ⟨by
    have h1 := h.box.keep (KeepBut.of_wrote hw hb) (by decide)
    unfold ledCells at h1 ⊢
    rw [he]
    exact h1, h.hg, h.ll.keepJ (KeepBut.of_wrote hw hb) hs⟩
set_option maxRecDepth 100000 in
set_option maxHeartbeats 8000000 in
theorem joins15_any (d : LedD) (o : OpD) (base g K : Nat) (w : World) (h : LW w base g K d) (hK : K ≤ 900) (ho : OpIn w o) :
    Calls Try.prog 44 #[.pointer (some ⟨g, 0, none⟩), .agg (opC o)] w (DoPost base g K w) := by
  have huj := Try.underlying38
  have hun := Try.underlying40
  obtain ⟨W0, hW0⟩ : ∃ W0, W0 = w.alloc (.cells (opC o) 47) := ⟨_, rfl⟩
  have hb0 : Below w.heap.size w W0 := by rw [hW0]; exact (Below.refl _ w).alloc (Nat.le_refl _) _
  have hbs : base ≤ w.heap.size := Nat.le_of_lt (Nat.lt_of_le_of_lt h.hg h.box.lt)
  have HBS := Lib.hid hbs
  have HB0 := Lib.hid (hb0.mono hbs)
  have HK0 := Lib.hid (show Blk W0 w.heap.size 47 (opC o) by rw [hW0]; exact Blk.new _ _ _)
  have H0 := Lib.hid (h.below hb0)
  have HW0 := Lib.hid hW0
  have HKK := Lib.hid hK
  have CJ := Lib.hid (join15_any o.join ho.jname ho.jtext W0)
  have HNN := Lib.hid ho.nname
  obtain ⟨lj, hlj⟩ : ∃ lj, lj = d.joins := ⟨_, rfl⟩
  have HLJ := Lib.hid hlj
  have HJL := Lib.hid (show lj.l.length ≤ K by rw [hlj]; exact H0.out.ll.joins.len)
  have hjl : (lj.l.length : Int) ≤ 900 := by have := HJL.out; omega
  have b0 : W0.cell? ⟨w.heap.size, 0, none⟩ = some (.int .i64 o.kind) := HK0.out.cell 0
  have b2 : W0.cell? ⟨w.heap.size, 2, none⟩ = some (.string o.name) := HK0.out.cell 2
  clear hW0 hb0 h ho hbs hK hlj
  go_enter Try.func44, Try.ntmps44
  go_upto_region 1 with (fail)
  rw [show w.alloc (.cells (opC o) 47) = W0 from HW0.out.symm]
  generalize Value.agg (opC o) = AV
  obtain ⟨kd, hkd⟩ : ∃ kd, kd = o.kind := ⟨_, rfl⟩
  have HKD := Lib.hid hkd
  rw [← hkd] at b0
  clear hkd
  go_upto_if 14 with (fail)
  go_cut [6] (fun v wx => (∃ s : ByteArray, v = .string s) ∧ Below W0.heap.size W0 wx)
  case first =>
    by_cases h3 : kd = 3
    · have e3 : (kd == (3 : Int)) = true := by simp [h3]
      clear h3
      go_wp2_with (refine wpList_get_part (r := joinCells o.join) (k := 8) (n := 4) HK0.out (by simp [opC]) (opC_join _) rfl rfl rfl huj rfl joinT_size ?_)
      refine calls_then CJ.out ?_
      rintro e w1 ⟨⟨b, rfl⟩, hb1⟩
      have HB1 := Lib.hid hb1
      obtain ⟨us, hus⟩ : ∃ us, us = o.join.used := ⟨_, rfl⟩
      have b11 : w1.cell? ⟨w.heap.size, 11, none⟩ = some (.bool us) := by rw [hus]; exact (HK0.out.below hb1 HK0.out.lt).cell 11
      have b8 : w1.cell? ⟨w.heap.size, 8, none⟩ = some (.string o.join.text) := (HK0.out.below hb1 HK0.out.lt).cell 8
      have HNO := Lib.hid (DoPost.no (w := w) (H0.out.below hb1) (HB0.out.trans (hb1.mono (Nat.le_trans HBS.out HB0.out.size))))
      clear hb1 hus
      cases b with
      | false =>
        go_wp2_with fail
        go_ret
        exact HNO.out _
      | true =>
        cases us with
        | true =>
          go_wp2_with fail
          go_ret
          exact HNO.out _
        | false =>
          go_wp2_with fail
          go_meet
          exact ⟨⟨_, rfl⟩, HB1.out⟩
    · have e3 : (kd == (3 : Int)) = false := by simpa using h3
      clear h3
      go_wp2_with fail
      go_meet
      exact ⟨⟨_, rfl⟩, Below.refl _ _⟩
  case rest =>
  obtain ⟨⟨s, rfl⟩, hbc⟩ := hcut
  have H1 := Lib.hid (H0.out.below hbc)
  have HB1 := Lib.hid (HB0.out.trans (hbc.mono (Nat.le_trans HBS.out HB0.out.size)))
  have HK1 := Lib.hid (HK0.out.below hbc HK0.out.lt)
  have a3 : wc.cell? ⟨g, 3, none⟩ = some (.slice lj.A lj.l.length lj.c) := by rw [HLJ.out]; exact H1.out.box.cell 3
  have b0 : wc.cell? ⟨w.heap.size, 0, none⟩ = some (.int .i64 kd) := by rw [HKD.out]; exact HK1.out.cell 0
  have HJO := Lib.hid (show lj.Own wc base 38 4 joinCells K by rw [HLJ.out]; exact H1.out.ll.joins)
  clear hbc CJ H0 HB0 HK0
  go_wp2_with fail
  go_loopw [5, 8] (fun at_ x wr => ∃ (xi z : Int), -1 ≤ xi ∧ xi < (lj.l.length : Int) ∧ x = .int .i64 xi ∧ at_ = .int .i64 z ∧ (z = -1 ∨ ∃ j : Nat, j < lj.l.length ∧ z = (j : Int)) ∧ wr = wc) (fun _ x _ => (intOf x + 1).toNat)
  case atStart => exact ⟨(lj.l.length : Int) - 1, -1, by omega, by omega, by go_num, rfl, .inl rfl, rfl⟩
  case round =>
    obtain ⟨xi, z, hx1, hx2, rfl, rfl, hz, rfl⟩ := hrel
    have HZ := Lib.hid hz
    clear hz
    by_cases hx0 : 0 ≤ xi
    · obtain ⟨i, rfl⟩ : ∃ i : Nat, xi = (i : Int) := ⟨xi.toNat, by omega⟩
      have hlt : i < lj.l.length := by omega
      obtain ⟨ad, hA, -, hcell⟩ := rd_rows (f := joinCells) (m := 4) (fun _ => rfl) (by decide) HJO.out.own.row.rd hlt
      rw [hA] at a3
      obtain ⟨X, hX⟩ : ∃ X, X = lj.l[i] := ⟨_, rfl⟩
      rw [← hX] at hcell
      have d0 : wr.cell? (ad.add (i * 4)) = some (.string X.text) := hcell 0 _ rfl
      have HLT := Lib.hid hlt
      clear hX hcell hlt hA hx1
      obtain ⟨q, hq⟩ : ∃ q, (X.text.toList == s.toList) = q := ⟨_, rfl⟩
      cases q with
      | true =>
        go_wp2_with fail
        go_roundw
        case rel => exact ⟨(i : Int) - 1, (i : Int), by omega, by omega, by go_num, rfl, .inr ⟨i, HLT.out, rfl⟩, by trivial⟩
        case measure => first | (simp [intOf]; done) | (simp [intOf]; omega)
      | false =>
        go_wp2_with fail
        go_roundw
        case rel => exact ⟨(i : Int) - 1, z, by omega, by omega, by go_num, rfl, HZ.out, by trivial⟩
        case measure => first | (simp [intOf]; done) | (simp [intOf]; omega)
    · have HNO1 := Lib.hid (DoPost.no (w := w) H1.out HB1.out)
      have HNO2 := Lib.hid (fun (m : Nat) => DoPost.no (w := w) (H1.out.below (below_drewN9 (Below.refl _ wr) m)) (below_drewN9 HB1.out m))
      clear hx1 hx2
      by_cases h3 : kd = 3
      · have e3 : (kd == (3 : Int)) = true := by simp [h3]
        clear h3
        by_cases hz0 : 0 ≤ z
        · go_wp2_with fail
          go_ret
          exact HNO1.out _
        · by_cases h16 : (16 : Int) ≤ (lj.l.length : Int)
          · go_wp2_with fail
            go_ret
            exact HNO1.out _
          · go_wp2_with fail
            have HC0 : Below wr.heap.size wr wr.drew := (Below.refl _ _).drew
            have HJR := Lib.hid (show OwnR wr base 38 4 lj.A lj.c lj.l.length (rowsV joinCells lj.l) from HJO.out.own)
            apply wp_region_seqp (fun u => Below wr.heap.size wr u) (fun i => i == 0) (fun u u' => Below u.heap.size u u') [_, _, _, _, _, _, _, undef] (gOf [(7, fun v u => ∃ ad, v = .slice (some ⟨ad, 0, none⟩) 1 1 ∧ Blk u ad 38 (joinCells o.join))]) 8 (by kernel_rfl) (by kernel_rfl) (by decide) (by kernel_rfl) (fun i h => by simp only [beq_iff_eq] at h; subst h; rfl) (stabL_of _ ⟨(fun _ _ _ h h0 => by obtain ⟨ga, e, hb⟩ := h0; exact ⟨ga, e, hb.below h hb.lt⟩), trivial⟩) HC0
            simp only [List.take_succ_cons, List.take_zero, List.drop_succ_cons, List.drop_zero]
            iterate 4
              first
              | (apply SeqH.pure; rfl; rfl; rfl; rfl; (simp only [act_put, act_put_none, List.setIfInBounds_toArray, List.set_cons_zero, List.set_cons_succ]; rfl); (intro w1 E hE; go_wp2; exact .mk hE))
              | (apply SeqH.step; rfl; (first | (apply SeqG.next; rfl; rfl; rfl)); (simp only [act_put, act_put_none, List.setIfInBounds_toArray, List.set_cons_zero, List.set_cons_succ]; rfl); (intro w1 hC1 hf E hE; go_wp2; exact .mk (hE _ hC1 (Below.refl _ _))); refine SeqG.nil ?_)
            apply SeqH.step
            · rfl
            apply SeqG.next
            · rfl
            · rfl
            · rfl
            · simp only [act_put, act_put_none, List.setIfInBounds_toArray, List.set_cons_zero, List.set_cons_succ]
              rfl
            · intro w1 hC1 hf E hE
              have d0 := (hC1.cell (p := ⟨g, 3, none⟩) H1.out.box.lt).trans a3
              go_wp2
              exact .mk (hE _ hC1 (Below.refl _ _))
            refine SeqG.nil ?_
            iterate 1
              (apply SeqH.step; rfl; (first | (apply SeqG.next; rfl; rfl; rfl)); (simp only [act_put, act_put_none, List.setIfInBounds_toArray, List.set_cons_zero, List.set_cons_succ]; rfl); (intro w1 hC1 hf E hE; go_wp2; exact .mk (hE _ hC1 (Below.refl _ _))); refine SeqG.nil ?_)
            apply SeqH.step
            · rfl
            apply SeqG.next
            · rfl
            · rfl
            · rfl
            · simp only [act_put, act_put_none, List.setIfInBounds_toArray, List.set_cons_zero, List.set_cons_succ]
              rfl
            · intro w1 hC1 hf E hE
              refine wpList_get_part (r := joinCells o.join) (k := 8) (n := 4) (HK1.out.below hC1 HK1.out.lt) (by simp [opC]) (opC_join _) rfl rfl rfl huj rfl joinT_size ?_
              go_wp2_with fail
              exact .mk (hE _ hC1 (Below.refl _ _))
            refine SeqG.nil ?_
            apply SeqH.step
            · rfl
            apply SeqG.some
            · rfl
            · rfl
            · intro w1 hC1 hf E hE
              simp only [act_put, act_put_none, List.setIfInBounds_toArray, List.set_cons_zero, List.set_cons_succ] at hE
              unfold joinCells
              go_wp2
              exact .mk (hE _ _ ⟨_, rfl, Blk.new _ _ _⟩ (hC1.alloc hC1.size _) ((Below.refl _ _).alloc (Nat.le_refl _) _))
            intro x7
            simp only [act_put, act_put_none, List.setIfInBounds_toArray, List.set_cons_zero, List.set_cons_succ]
            refine SeqG.nil ?_
            refine SeqH.nil ?_
            intro w1 hC1 hf
            have f7 := (hf 7 (of_decide_eq_true (by kernel_rfl))).1 rfl
            clear hf
            refine SeqT.step rfl ?_
            intro E hE
            simp only [act_put, act_put_none, List.setIfInBounds_toArray, List.set_cons_zero, List.set_cons_succ] at hE
            obtain ⟨ga, hx7, hb7⟩ := f7
            have HB7 := Lib.hid hb7
            have HBC := Lib.hid hC1
            clear hb7
            simp only [hx7] at hE ⊢
            refine wpList_append_r (m := 1) (news := (joinCells o.join).toList) sl_joins rfl rfl (HJR.out.below hC1) rfl rfl rfl (Rd.of_blk (l := (joinCells o.join).toList) HB7.out HB7.out.lt) (by simp [joinCells, Value.oneCell']) (by unfold maxLen; omega) (by omega) (Nat.le_trans (Nat.le_trans HBS.out HB1.out.size) hC1.size) ?_
            intro A8 c8 w8 ho8 hg8 hn8
            have HO8 := Lib.hid ho8
            have HG8 := Lib.hid hg8
            clear ho8 hg8 hn8
            go_wp2_with fail
            refine .mk (hE _ _ ?_)
            clear hE E
            refine SeqT.step rfl ?_
            intro E hE
            simp only [act_put, act_put_none, List.setIfInBounds_toArray, List.set_cons_zero, List.set_cons_succ] at hE
            go_wp2
            refine .mk (hE _ _ ?_)
            clear hE E
            refine SeqT.step rfl ?_
            intro E hE
            simp only [act_put, act_put_none, List.setIfInBounds_toArray, List.set_cons_zero, List.set_cons_succ] at hE
            go_wp2
            refine .mk (hE _ _ ?_)
            clear hE E
            refine SeqT.step rfl ?_
            intro E hE
            simp only [act_put, act_put_none, List.setIfInBounds_toArray, List.set_cons_zero, List.set_cons_succ] at hE
            refine wpList_put_cell (i := 3) ((H1.out.below HBC.out).box.keep (keepBut_grown (HJR.out.below HBC.out) HG8.out) (by decide)) rfl rfl rfl rfl (by kernel_rfl) (by simp [ledCells]) rfl ?_
            intro w9 hb9 hw9
            have HB9 := Lib.hid hb9
            have HW9 := Lib.hid hw9
            clear hb9 hw9
            go_wp2_with fail
            refine .mk (hE undef _ ?_)
            clear hE E
            refine SeqT.nil ?_
            have HFN := Lib.hid (show DoPost base g K w (.returned (.int .i64 0)) w9 by
              have hbg : Below base w w8 := (HB1.out.trans (HBC.out.mono (Nat.le_trans HBS.out HB1.out.size))).grown HG8.out (Nat.le_trans HBS.out (HB1.out.trans (HBC.out.mono (Nat.le_trans HBS.out HB1.out.size))).size) fun j hj => (HJR.out.lt j hj).1
              have hl := (H1.out.below HBC.out).join_add (k := o.join) (A' := A8) (c' := c8) (by rw [← HLJ.out]; exact HO8.out) (by rw [← HLJ.out]; exact HG8.out) HW9.out (by rw [← HLJ.out]; exact HB9.out)
              exact ⟨_, 0, rfl, hl, HW9.out.below hbg H1.out.hg (Nat.le_trans HBS.out hbg.size)⟩)
            clear hC1 HC0
            go_wp2_with fail
            go_ret
            exact HFN.out
      · have e3 : (kd == (3 : Int)) = false := by simpa using h3
        clear h3
        by_cases hz0 : z < 0
        · go_wp2_with fail
          go_ret
          exact HNO1.out _
        · obtain ⟨i, hi, hzi⟩ : ∃ j : Nat, j < lj.l.length ∧ z = (j : Int) := by
            rcases HZ.out with h | h
            · omega
            · exact h
          subst hzi
          obtain ⟨ad, hA, -, hcell⟩ := rd_rows (f := joinCells) (m := 4) (fun _ => rfl) (by decide) HJO.out.own.row.rd hi
          rw [hA] at a3
          obtain ⟨X, hX⟩ : ∃ X, X = lj.l[i] := ⟨_, rfl⟩
          rw [← hX] at hcell
          obtain ⟨us, hus⟩ : ∃ us, us = X.used := ⟨_, rfl⟩
          have d3 : wr.cell? ⟨(ad.add (i * 4)).block, (ad.add (i * 4)).off + 3, none⟩ = some (.bool us) := by rw [hus]; exact hcell 3 _ rfl
          have d1 : wr.cell? ⟨(ad.add (i * 4)).block, (ad.add (i * 4)).off + 1, none⟩ = some (.string X.name) := hcell 1 _ rfl
          have b12 : wr.cell? ⟨w.heap.size, 12, none⟩ = some (.string o.node.name) := HK1.out.cell 12
          have hi0 : (0 : Int) ≤ (i : Int) := by omega
          have hil : (i : Int) < (lj.l.length : Int) := by omega
          have HIL := Lib.hid hi
          have HAA := Lib.hid hA
          clear hX hcell hus hz0 hi hA
          cases us with
          | true =>
            go_wp2_with fail
            go_ret
            exact HNO1.out _
          | false =>
            obtain ⟨q, hq⟩ : ∃ q, (X.name.toList == o.node.name.toList) = q := ⟨_, rfl⟩
            cases q with
            | false =>
              go_wp2_with fail
              go_quiet (fail)
              go_wp2_with fail
              go_ret
              exact HNO2.out _ _
            | true =>
              go_wp2_with fail
              go_quiet (fail)
              generalize hn3 : wr.drewN _ = w3
              have H3 := Lib.hid (show LW w3 base g K d by rw [← hn3]; exact H1.out.below (below_drewN9 (Below.refl _ _) _))
              have HB3 := Lib.hid (show Below base w w3 by rw [← hn3]; exact below_drewN9 HB1.out _)
              have HK3 := Lib.hid (show Blk w3 w.heap.size 47 (opC o) by rw [← hn3]; exact HK1.out)
              clear hn3 d3 d1
              go_wp2_with (refine wpList_get_part (r := nodeCells o.node) (k := 12) (n := 5) HK3.out (by simp [opC]) (opC_node _) rfl rfl rfl hun rfl nodeT_size ?_)
              refine calls_then (putNode_any d o.node base g K w3 H3.out HKK.out HNN.out) ?_
              rintro e w4 ⟨sn, f, rfl, hl4, hb4⟩
              have H4 := Lib.hid hl4
              have HB4 := Lib.hid (HB3.out.trans hb4)
              clear hl4 hb4
              by_cases hf : f = 0
              · subst hf
                have HJ4 := Lib.hid (show lj.Own w4 base 38 4 joinCells (K + 1) by rw [HLJ.out]; exact H4.out.ll.joins)
                have a3 : w4.cell? ⟨g, 3, none⟩ = some (.slice (some ad) lj.l.length lj.c) := by
                  rw [← HAA.out, HLJ.out]
                  exact H4.out.box.cell 3
                obtain ⟨ad2, cur, hA2, hbase, hblt, hblk, hoff, hput⟩ := ownR_ad_r (f := joinCells) (m := 4) (fun _ => rfl) HJ4.out.own HIL.out (j := 3) (by decide)
                rw [HAA.out] at hA2
                injection hA2 with hA2
                subst hA2
                obtain ⟨Y, hY⟩ : ∃ Y, Y = lj.l[i]'HIL.out := ⟨_, rfl⟩
                have HBK := Lib.hid hblk
                have HOF := Lib.hid hoff
                have HFN := Lib.hid (show ∀ u, Blk u (ad.add (i * 4)).block 38 (cur.setIfInBounds ((ad.add (i * 4)).off + 3) (.bool true)) → Wrote (ad.add (i * 4)).block w4 u → DoPost base g K w (.returned (.int .i64 0)) u from fun u hb hw => by
                  have hs : (⟨lj.A, lj.c, lj.l.set i ⟨Y.text, Y.name, Y.exp, true⟩⟩ : Sl JoinD).Own u base 38 4 joinCells (K + 1) := ⟨by
                    have h := hput (.bool true) ⟨Y.text, Y.name, Y.exp, true⟩ u (by rw [← hY]; rfl) hb
                    show OwnR u base _ 4 lj.A lj.c (lj.l.set i _).length _
                    rw [List.length_set]
                    exact h, by show (lj.l.set i _).length ≤ K + 1; rw [List.length_set]; have := HJL.out; omega⟩
                  have hv : (⟨lj.A, lj.c, lj.l.set i ⟨Y.text, Y.name, Y.exp, true⟩⟩ : Sl JoinD).v = d.joins.v := by
                    rw [← HLJ.out]
                    show Value.slice lj.A (lj.l.set i _).length lj.c = _
                    rw [List.length_set]
                    rfl
                  exact ⟨_, 0, rfl, H4.out.join_field hblk hw hs hv, hw.below HB4.out hbase (Nat.le_trans HBS.out HB4.out.size)⟩)
                clear hput hY hblk hoff hbase hblt
                go_wp2_with (refine wpList_put_cell HBK.out rfl rfl rfl rfl (by kernel_rfl) HOF.out rfl ?_; intro w6 hb6 hw6)
                go_ret
                exact HFN.out _ hb6 hw6
              · have hf' : (f == (0 : Int)) = false := by simpa using hf
                have HFN := Lib.hid (show DoPost base g K w (.returned (.int .i64 f)) w4 from ⟨_, f, rfl, H4.out, HB4.out⟩)
                clear hf
                go_wp2_with fail
                go_ret
                exact HFN.out
end Go.Proofs.Ytcnebbhnpocofaa
/-
  Walk: brevetref15.bans (a list with one in its place, or more). (Printed by gen/lst20.py.)
-/
namespace Go.Proofs.Ytcnebbhnpocofaa
set_option linter.unusedSimpArgs false
set_option linter.unusedVariables false
open Go.RowKit

set_option maxRecDepth 100000 in
set_option maxHeartbeats 4000000 in
theorem bans15_any (l : List ByteArray) (hl : l.length ≤ 1000) (z : ByteArray) (gone : Bool) (A : Option Addr) (c B : Nat) (w : World) (hr : Rd w B A (rowsV strCell l)) (hB : B ≤ w.heap.size) :
    Calls Try.prog 59 #[.slice A l.length c, .string z, .bool gone] w (ListPost 9 1 strCell l z w) := by
  obtain ⟨W0, hW0⟩ : ∃ W0, W0 = w := ⟨_, rfl⟩
  have HB0 := Lib.hid (show Below w.heap.size w W0 by rw [hW0]; exact Below.refl _ _)
  have HW0 := Lib.hid hW0
  obtain ⟨n, hn⟩ : ∃ n, n = l.length := ⟨_, rfl⟩
  have HN := Lib.hid hn
  have HR := Lib.hid (hr.below (HB0.out.mono hB))
  have HBB := Lib.hid (Nat.le_trans hB HB0.out.size)
  have hn' : (n : Int) ≤ 1000 := by omega
  rw [← hn]
  clear hW0 hr hB hl hn
  go_enter Try.func59, Try.ntmps59
  rw [← HW0.out]
  go_wp2_with fail
  go_loopw [7, 8, 9] (fun out dv i wr => ∃ (k : Nat) (A1 : Option Addr) (c1 : Nat) (xs : List ByteArray) (dn : Bool), k ≤ n ∧ out = .slice A1 xs.length c1 ∧ dv = .bool dn ∧ i = .int .i64 (k : Int) ∧ OwnR wr W0.heap.size 9 1 A1 c1 xs.length (rowsV strCell xs) ∧ Below W0.heap.size W0 wr ∧ xs.length ≤ k + dn.toNat ∧ ∀ x ∈ xs, x ∈ l ∨ x = z) (fun _ _ i _ => n - (intOf i).toNat)
  case atStart => exact ⟨0, none, 0, [], gone, by omega, rfl, rfl, rfl, OwnR.nil _ _ _ _, Below.refl _ _, by simp, fun x hx => by cases hx⟩
  case round =>
    obtain ⟨k, A1, c1, xs, dn, hk, rfl, rfl, rfl, hown, hbel, hlen, hmem⟩ := hrel
    have HOWN := Lib.hid hown
    have HBEL := Lib.hid hbel
    have HLEN := Lib.hid hlen
    have HMEM := Lib.hid hmem
    have hxl : xs.length ≤ 1001 := by have : dn.toNat ≤ 1 := by cases dn <;> simp
                                      omega
    clear hown hbel hlen hmem
    by_cases hlt : k < n
    · have hkl : k < l.length := by rw [← HN.out]; exact hlt
      have hi1 : (0 : Int) ≤ (k : Int) := by omega
      have hi2 : (k : Int) < (n : Int) := by omega
      obtain ⟨ad, hA, hadb, hcell⟩ := rd_rows (f := strCell) (m := 1) (fun _ => rfl) (by decide) HR.out hkl
      subst hA
      obtain ⟨X, hX⟩ : ∃ X, X = l[k] := ⟨_, rfl⟩
      rw [← hX] at hcell
      have HX := Lib.hid (show X ∈ l by rw [hX]; exact List.getElem_mem hkl)
      have HC := Lib.hid (show ∀ u, Below W0.heap.size W0 u → ∀ j v, (strCell X).toList[j]? = some v → u.cell? ((ad.add (k * 1)).add j) = some v from fun u hu j v hv => by
        rw [hu.cell (p := (ad.add (k * 1)).add j) (by rw [block_of_add, block_of_add]; exact Nat.lt_of_lt_of_le hadb HBB.out)]
        exact hcell j v (by simpa using hv))
      have HD := Lib.hid (show ∀ u, Below W0.heap.size W0 u → u.cell? (ad.add k) = some (.string X) ∧ True from fun u hu => ⟨(by have h := HC.out u hu 0 _ rfl; rw [show k * 1 = k from Nat.mul_one k] at h; exact h), trivial⟩)
      obtain ⟨q, hqq⟩ : ∃ q, Op.bytesLess X.toList z.toList = q := ⟨_, rfl⟩
      obtain ⟨r, hrr⟩ : ∃ r, (X.toList == z.toList) = r := ⟨_, rfl⟩
      have HLT := Lib.hid hlt
      clear hX hcell hadb hkl hlt
      go_upto_region 6 with (fail)
      go_cut [26] (fun v wx => (∃ b, v = .bool b ∧ (b = true → dn = false)) ∧ wx = wr)
      case first =>
        obtain ⟨d0, d2⟩ := HD.out wr HBEL.out
        cases dn with
        | true =>
          go_wp2_with fail
          go_meet
          exact ⟨⟨false, rfl, by simp⟩, rfl⟩
        | false =>
          cases q with
          | true =>
            go_wp2_with fail
            go_meet
            exact ⟨⟨false, rfl, by simp⟩, rfl⟩
          | false =>
            go_wp2_with fail
            go_meet
            exact ⟨⟨true, rfl, by simp⟩, rfl⟩
      case rest =>
      obtain ⟨⟨b, rfl, hb⟩, rfl⟩ := hcut
      have HBD := HBEL
      have HOD := HOWN
      have HBF := Lib.hid hb
      clear hb hqq
      go_upto_if 26 with (fail)
      go_cut [7, 8] (fun out dv wx => ∃ (A2 : Option Addr) (c2 : Nat) (ys : List ByteArray) (dn2 : Bool), out = .slice A2 ys.length c2 ∧ dv = .bool dn2 ∧ OwnR wx W0.heap.size 9 1 A2 c2 ys.length (rowsV strCell ys) ∧ Below W0.heap.size W0 wx ∧ ys.length ≤ k + dn2.toNat ∧ ∀ x ∈ ys, x ∈ l ∨ x = z)
      case first =>
        cases b with
        | false =>
          go_wp2_with fail
          go_meet
          exact ⟨A1, c1, xs, dn, rfl, rfl, HOD.out, HBD.out, HLEN.out, HMEM.out⟩
        | true =>
          obtain rfl : dn = false := HBF.out rfl
          go_wp2_with (first
            | (refine wpList_append_r1 (ys := [.string z]) sl_strz rfl rfl HOD.out rfl rfl rfl rfl (by simp [Value.oneCell']) (by unfold maxLen; omega) (by omega) HBD.out.size ?_; intro A5 c5 w5 hown5 hgr5 hn5))
          go_meet
          exact ⟨A5, c5, xs ++ [z], true, by simp, rfl, by rw [rowsV_append, rowsV_one, List.length_append]; exact hown5, HBD.out.grown hgr5 HBD.out.size (fun j hj => (HOD.out.lt j hj).1), by have := HLEN.out; simp at this ⊢; omega, fun x hx => by
            rcases List.mem_append.1 hx with h | h
            · exact HMEM.out x h
            · exact .inr (by simpa using h)⟩
      case rest =>
      obtain ⟨A2, c2, ys, dn2, rfl, rfl, hown2, hbel2, hlen2, hmem2⟩ := hcut
      have HOWN2 := Lib.hid hown2
      have HBEL2 := Lib.hid hbel2
      have HLEN2 := Lib.hid hlen2
      have HMEM2 := Lib.hid hmem2
      have hyl : ys.length ≤ 1001 := by have : dn2.toNat ≤ 1 := by cases dn2 <;> simp
                                        omega
      clear hown2 hbel2 hlen2 hmem2
      obtain ⟨d0, d2⟩ := HD.out _ HBEL2.out
      cases r with
      | true =>
          go_wp2_with fail
          go_roundw
          case rel => exact ⟨k + 1, A2, c2, ys, dn2, HLT.out, rfl, rfl, by go_num, HOWN2.out, HBEL2.out, by have := HLEN2.out; omega, HMEM2.out⟩
          case measure => have := HLT.out; simp [intOf]; omega
      | false =>
          go_wp2_with (first
            | (refine wpList_append_r1 (ys := [.string X]) sl_strz rfl rfl HOWN2.out rfl rfl rfl rfl (by simp [Value.oneCell']) (by unfold maxLen; omega) (by omega) HBEL2.out.size ?_; intro A5 c5 w5 hown5 hgr5 hn5))
          go_roundw
          case rel => exact ⟨k + 1, A5, c5, ys ++ [X], dn2, HLT.out, by simp, rfl, by go_num, by rw [rowsV_append, rowsV_one, List.length_append]; exact hown5, Below.grown HBEL2.out hgr5 (Below.size HBEL2.out) (fun j hj => (HOWN2.out.lt j hj).1), by have := HLEN2.out; simp; omega, fun x hx => by
            rcases List.mem_append.1 hx with h | h
            · exact HMEM2.out x h
            · exact .inl (by have e : x = X := by simpa using h
                             rw [e]; exact HX.out)⟩
          case measure => have := HLT.out; simp [intOf]; omega
    · obtain rfl : k = n := by omega
      clear hlt
      cases dn with
      | true =>
        go_wp2_with fail
        go_ret
        exact ⟨A1, c1, xs, rfl, by have := HLEN.out; have := HN.out; simp at *; omega, HMEM.out, HOWN.out, HBEL.out⟩
      | false =>
        go_wp2_with (first
          | (refine wpList_append_r1 (ys := [.string z]) sl_strz rfl rfl HOWN.out rfl rfl rfl rfl (by simp [Value.oneCell']) (by unfold maxLen; omega) (by omega) HBEL.out.size ?_; intro A5 c5 w5 hown5 hgr5 hn5))
        go_ret
        exact ⟨A5, c5, xs ++ [z], by simp, by have := HLEN.out; have := HN.out; simp at *; omega, fun x hx => by
          rcases List.mem_append.1 hx with h | h
          · exact HMEM.out x h
          · exact .inr (by simpa using h), (by rw [rowsV_append, rowsV_one, List.length_append]; exact hown5), HBEL.out.grown hgr5 HBEL.out.size (fun j hj => (HOWN.out.lt j hj).1)⟩
end Go.Proofs.Ytcnebbhnpocofaa
/-
  Walk: brevetref15.names (OpBan, OpLift, OpEvict, OpSeq). (Printed by gen/nm20.py.)
-/
namespace Go.Proofs.Ytcnebbhnpocofaa
set_option linter.unusedSimpArgs false
set_option linter.unusedVariables false
open Go.RowKit

/-- blocks of two types are two -/
theorem box_ne {u : World} {g g' : Nat} {t t' : TypeId} {cs cs' : Array Value} (h : Blk u g t cs) (h' : Blk u g' t' cs') (ht : t ≠ t') : g ≠ g' := fun he => by
  subst he
  unfold Blk at h h'
  rw [h] at h'
  injection h' with h'
  injection h' with _ h' _
  exact ht h'
theorem LW.bans_put {u u' : World} {base g K : Nat} {d : LedD} {s : Sl ByteArray} (h : LW u base g K d) (hs : s.Own u base 9 1 strCell K) (hw : Wrote g u u') (hb : Blk u' g 33 ((ledCells d).setIfInBounds 2 s.v)) : LW u' base g K { d with bans := s } :=
  LW.put h.box h.hg (h.ll.setBans hs) hw hb
/-- one field of a node is written -/
theorem LW.node_field {u u' : World} {base g K b : Nat} {d : LedD} {s : Sl NodeD} {cs : Array Value} (h : LW u base g K d) (hb : Blk u b 40 cs) (hw : Wrote b u u') (hs : s.Own u' base 40 5 nodeCells K) (he : s.v = d.nodes.v) : LW u' base g K { d with nodes := s } :=
  ⟨by
    have h1 := hw.blk h.box (fun he => by
      have h2 := h.box
      subst he
      unfold Blk at hb h2
      rw [h2] at hb
      injection hb with hb
      injection hb with _ hb _
      exact absurd hb (by decide))
    unfold ledCells at h1 ⊢
    rw [he]
    exact h1, h.hg, h.ll.keepN (KeepBut.of_wrote hw hb) hs⟩
set_option maxRecDepth 100000 in
set_option maxHeartbeats 8000000 in
theorem names15_any (d : LedD) (o : OpD) (base g K : Nat) (w : World) (h : LW w base g K d) (hK : K ≤ 900) (ho : OpIn w o) :
    Calls Try.prog 46 #[.pointer (some ⟨g, 0, none⟩), .agg (opC o)] w (DoPost base g K w) := by
  obtain ⟨W0, hW0⟩ : ∃ W0, W0 = w.alloc (.cells (opC o) 47) := ⟨_, rfl⟩
  have hb0 : Below w.heap.size w W0 := by rw [hW0]; exact (Below.refl _ w).alloc (Nat.le_refl _) _
  have hbs : base ≤ w.heap.size := Nat.le_of_lt (Nat.lt_of_le_of_lt h.hg h.box.lt)
  have HBS := Lib.hid hbs
  have HB0 := Lib.hid (hb0.mono hbs)
  have HK0 := Lib.hid (show Blk W0 w.heap.size 47 (opC o) by rw [hW0]; exact Blk.new _ _ _)
  have H0 := Lib.hid (h.below hb0)
  have HW0 := Lib.hid hW0
  have HKK := Lib.hid hK
  have CAG := Lib.hid (fun (u : World) => agent9_any o.name ho.name u)
  obtain ⟨lb, hlb⟩ : ∃ lb, lb = d.bans := ⟨_, rfl⟩
  obtain ⟨ln, hln⟩ : ∃ ln, ln = d.nodes := ⟨_, rfl⟩
  have HLB := Lib.hid hlb
  have HLN := Lib.hid hln
  have HBO := Lib.hid (show lb.Own W0 base 9 1 strCell K by rw [hlb]; exact H0.out.ll.bans)
  have HNO := Lib.hid (show ln.Own W0 base 40 5 nodeCells K by rw [hln]; exact H0.out.ll.nodes)
  have CH := Lib.hid (fun (m : Nat) => show Calls Try.prog 25 #[.slice lb.A lb.l.length lb.c, .string o.name] (W0.drewN m) (fun e w' => e = .returned (.bool (hasB lb.l o.name)) ∧ w' = W0.drewN m) from (has9_any lb.l (by have := HBO.out.len; have := HKK.out; omega) o.name lb.A lb.c W0.heap.size (W0.drewN m) (by rw [← rowsV_str]; exact HBO.out.own.row.rd)).mono fun e w' h => ⟨h.1, h.2.symm⟩)
  obtain ⟨q, hq⟩ : ∃ q, q = hasB lb.l o.name := ⟨_, rfl⟩
  rw [← hq] at CH
  obtain ⟨z, hz⟩ : ∃ z, z = atN ln.l o.name := ⟨_, rfl⟩
  have HZE := Lib.hid hz
  have HZ := Lib.hid (show z = -1 ∨ ∃ i : Nat, i < ln.l.length ∧ z = (i : Int) by rw [hz]; exact atN_or _ _)
  have hll : (ln.l.length : Int) ≤ 900 := by have := HNO.out.len; omega
  have hlb' : (lb.l.length : Int) ≤ 900 := by have := HBO.out.len; omega
  have HNL := Lib.hid HNO.out.len
  have HBL := Lib.hid HBO.out.len
  have a1 : W0.cell? ⟨g, 1, none⟩ = some (.slice ln.A ln.l.length ln.c) := by rw [hln]; exact H0.out.box.cell 1
  have a2 : W0.cell? ⟨g, 2, none⟩ = some (.slice lb.A lb.l.length lb.c) := by rw [hlb]; exact H0.out.box.cell 2
  have b0 : W0.cell? ⟨w.heap.size, 0, none⟩ = some (.int .i64 o.kind) := HK0.out.cell 0
  have b1 : W0.cell? ⟨w.heap.size, 1, none⟩ = some (.int .i64 o.n) := HK0.out.cell 1
  have b2 : W0.cell? ⟨w.heap.size, 2, none⟩ = some (.string o.name) := HK0.out.cell 2
  clear hW0 hb0 h ho hbs hK hlb hln hq hz
  go_enter Try.func46, Try.ntmps46
  go_upto_region 1 with (fail)
  rw [show w.alloc (.cells (opC o) 47) = W0 from HW0.out.symm]
  generalize Value.agg (opC o) = AV
  go_quiet (refine Calls.quiet_of_same (CH.out _))
  generalize hn0 : W0.drewN _ = w1
  have H1 := Lib.hid (show LW w1 base g K d by rw [← hn0]; exact H0.out.below (below_drewN9 (Below.refl _ _) _))
  have HB1 := Lib.hid (show Below base w w1 by rw [← hn0]; exact below_drewN9 HB0.out _)
  have HK1 := Lib.hid (show Blk w1 w.heap.size 47 (opC o) by rw [← hn0]; exact HK0.out)
  have a1 : w1.cell? ⟨g, 1, none⟩ = some (.slice ln.A ln.l.length ln.c) := by rw [HLN.out]; exact H1.out.box.cell 1
  have b2 : w1.cell? ⟨w.heap.size, 2, none⟩ = some (.string o.name) := HK1.out.cell 2
  have CA := Lib.hid (fun (m : Nat) => show Calls Try.prog 57 #[.slice ln.A ln.l.length ln.c, .string o.name] (w1.drewN m) (fun e w' => e = .returned (.int .i64 z) ∧ w' = w1.drewN m) by
    have hno : ln.Own w1 base 40 5 nodeCells K := by rw [HLN.out]; exact H1.out.ll.nodes
    have h := hasNode_any ln.l o.name ln.A ln.c w1.heap.size (w1.drewN m) hno.own.row.rd (by have := hno.len; have := HKK.out; omega)
    rw [← HZE.out] at h
    exact h)
  clear hn0
  go_wp2_with fail
  go_quiet (refine Calls.quiet_of_same (CA.out _))
  generalize hn1 : w1.drewN _ = w2
  have H2 := Lib.hid (show LW w2 base g K d by rw [← hn1]; exact H1.out.below (below_drewN9 (Below.refl _ _) _))
  have HB2 := Lib.hid (show Below base w w2 by rw [← hn1]; exact below_drewN9 HB1.out _)
  have HK2 := Lib.hid (show Blk w2 w.heap.size 47 (opC o) by rw [← hn1]; exact HK1.out)
  have a1 : w2.cell? ⟨g, 1, none⟩ = some (.slice ln.A ln.l.length ln.c) := by rw [HLN.out]; exact H2.out.box.cell 1
  have a2 : w2.cell? ⟨g, 2, none⟩ = some (.slice lb.A lb.l.length lb.c) := by rw [HLB.out]; exact H2.out.box.cell 2
  have b0 : w2.cell? ⟨w.heap.size, 0, none⟩ = some (.int .i64 o.kind) := HK2.out.cell 0
  have b1 : w2.cell? ⟨w.heap.size, 1, none⟩ = some (.int .i64 o.n) := HK2.out.cell 1
  have b2 : w2.cell? ⟨w.heap.size, 2, none⟩ = some (.string o.name) := HK2.out.cell 2
  have HNO2 := Lib.hid (fun (m : Nat) => DoPost.no (w := w) (H2.out.below (below_drewN9 (Below.refl _ w2) m)) (below_drewN9 HB2.out m))
  have HNO1 := Lib.hid (DoPost.no (w := w) H2.out HB2.out)
  clear hn1 CH CA HBO HNO H0 HB0 HK0
  obtain ⟨kd, hkd⟩ : ∃ kd, kd = o.kind := ⟨_, rfl⟩
  rw [← hkd] at b0
  clear hkd
  by_cases h6 : kd = 6
  · have e6 : (kd == (6 : Int)) = true := by simp [h6]
    clear h6
    go_wp2_with fail
    refine calls_then (CAG.out _) ?_
    rintro e w3 ⟨⟨b, rfl⟩, rfl⟩
    cases b with
    | false =>
      go_wp2_with fail
      go_ret
      exact HNO1.out _
    | true =>
      cases q with
      | true =>
        go_wp2_with fail
        go_ret
        exact HNO1.out _
      | false =>
        by_cases h8 : (8 : Int) ≤ (lb.l.length : Int)
        · go_wp2_with fail
          go_ret
          exact HNO1.out _
        · go_wp2_with fail
          have CLB := Lib.hid (show ∀ u, Below w2.heap.size w2 u → Calls Try.prog 59 #[.slice lb.A lb.l.length lb.c, .string o.name, .bool false] u (ListPost 9 1 strCell lb.l o.name u) from fun u hu => by
            have hno : lb.Own w2 base 9 1 strCell K := by rw [HLB.out]; exact H2.out.ll.bans
            exact bans15_any lb.l (by have := hno.len; have := HKK.out; omega) o.name false lb.A lb.c w2.heap.size u (hno.own.row.rd.below hu) hu.size)
          have HC0 : Below w2.heap.size w2 w2.drew := (Below.refl _ _).drew
          apply wp_region_seqp (fun u => Below w2.heap.size w2 u) (fun i => i == 0) (fun u u' => Below u.heap.size u u') [_, _, _, _, _, _, _] (gOf []) 7 (by kernel_rfl) (by kernel_rfl) (by decide) (by kernel_rfl) (fun i h => by simp only [beq_iff_eq] at h; subst h; rfl) (stabL_of _ trivial) HC0
          simp only [List.take_succ_cons, List.take_zero, List.drop_succ_cons, List.drop_zero]
          iterate 4
            first
            | (apply SeqH.pure; rfl; rfl; rfl; rfl; (simp only [act_put, act_put_none, List.setIfInBounds_toArray, List.set_cons_zero, List.set_cons_succ]; rfl); (intro w1 E hE; go_wp2; exact .mk hE))
            | (apply SeqH.step; rfl; (first | (apply SeqG.next; rfl; rfl; rfl)); (simp only [act_put, act_put_none, List.setIfInBounds_toArray, List.set_cons_zero, List.set_cons_succ]; rfl); (intro w1 hC1 hf E hE; go_wp2; exact .mk (hE _ hC1 (Below.refl _ _))); refine SeqG.nil ?_)
          apply SeqH.step
          · rfl
          apply SeqG.next
          · rfl
          · rfl
          · rfl
          · simp only [act_put, act_put_none, List.setIfInBounds_toArray, List.set_cons_zero, List.set_cons_succ]
            rfl
          · intro w1 hC1 hf E hE
            have d0 := (hC1.cell (p := ⟨g, 2, none⟩) H2.out.box.lt).trans a2
            go_wp2
            exact .mk (hE _ hC1 (Below.refl _ _))
          refine SeqG.nil ?_
          iterate 1
            (apply SeqH.step; rfl; (first | (apply SeqG.next; rfl; rfl; rfl)); (simp only [act_put, act_put_none, List.setIfInBounds_toArray, List.set_cons_zero, List.set_cons_succ]; rfl); (intro w1 hC1 hf E hE; go_wp2; exact .mk (hE _ hC1 (Below.refl _ _))); refine SeqG.nil ?_)
          apply SeqH.step
          · rfl
          apply SeqG.next
          · rfl
          · rfl
          · rfl
          · simp only [act_put, act_put_none, List.setIfInBounds_toArray, List.set_cons_zero, List.set_cons_succ]
            rfl
          · intro w1 hC1 hf E hE
            have d0 := (hC1.cell (p := ⟨w.heap.size, 2, none⟩) HK2.out.lt).trans b2
            go_wp2
            exact .mk (hE _ hC1 (Below.refl _ _))
          refine SeqG.nil ?_
          refine SeqH.nil ?_
          intro w1 hC1 hf
          clear hf
          refine SeqT.step rfl ?_
          intro E hE
          simp only [act_put, act_put_none, List.setIfInBounds_toArray, List.set_cons_zero, List.set_cons_succ] at hE
          go_wp2_with fail
          refine calls_then (CLB.out _ hC1) ?_
          rintro e w5 ⟨A5, c5, xs, rfl, hlen5, _, hown5, hb5⟩
          have HL5 := Lib.hid hlen5
          have HO5 := Lib.hid (hown5.mono hC1.size)
          have HB5 := Lib.hid (hC1.trans (hb5.mono hC1.size))
          clear hlen5 hown5 hb5
          go_wp2_with fail
          refine .mk (hE _ _ ?_)
          clear hE E
          refine SeqT.step rfl ?_
          intro E hE
          simp only [act_put, act_put_none, List.setIfInBounds_toArray, List.set_cons_zero, List.set_cons_succ] at hE
          go_wp2
          refine .mk (hE _ _ ?_)
          clear hE E
          refine SeqT.step rfl ?_
          intro E hE
          simp only [act_put, act_put_none, List.setIfInBounds_toArray, List.set_cons_zero, List.set_cons_succ] at hE
          go_wp2
          refine .mk (hE _ _ ?_)
          clear hE E
          refine SeqT.step rfl ?_
          intro E hE
          simp only [act_put, act_put_none, List.setIfInBounds_toArray, List.set_cons_zero, List.set_cons_succ] at hE
          have H5 := Lib.hid (H2.out.below HB5.out)
          refine wpList_put_cell (i := 2) H5.out.box rfl rfl rfl rfl (by kernel_rfl) (by simp [ledCells]) rfl ?_
          intro w6 hb6 hw6
          have HB6 := Lib.hid hb6
          have HW6 := Lib.hid hw6
          clear hb6 hw6
          go_wp2_with fail
          refine .mk (hE undef _ ?_)
          clear hE E
          refine SeqT.nil ?_
          have H7 := Lib.hid ((H5.out.more (Nat.le_succ K)).bans_put (s := ⟨A5, c5, xs⟩) ⟨HO5.out.mono (Nat.le_trans HBS.out HB2.out.size), by have := HL5.out; have := HBL.out; show xs.length ≤ K + 1; omega⟩ HW6.out HB6.out)
          have HB7 := Lib.hid (HW6.out.below (HB2.out.trans (HB5.out.mono (Nat.le_trans HBS.out HB2.out.size))) H2.out.hg (Nat.le_trans HBS.out (HB2.out.trans (HB5.out.mono (Nat.le_trans HBS.out HB2.out.size))).size))
          have HK7 := Lib.hid (HW6.out.blk (HK2.out.below HB5.out HK2.out.lt) (box_ne HK2.out H2.out.box (by decide)))
          clear hC1 HC0
          have a1 : w6.cell? ⟨g, 1, none⟩ = some (.slice ln.A ln.l.length ln.c) := by rw [HLN.out]; exact H7.out.box.cell 1
          have b2 : w6.cell? ⟨w.heap.size, 2, none⟩ = some (.string o.name) := HK7.out.cell 2
          go_wp2_with fail
          have CLN := Lib.hid (show ∀ u, Below w6.heap.size w6 u → Calls Try.prog 58 #[.slice ln.A ln.l.length ln.c, .agg #[.string o.name, .string ⟨#[]⟩, .int .i64 0, .int .i64 0, .string ⟨#[]⟩], .bool true] u (ListPost 40 5 nodeCells ln.l ⟨o.name, ⟨#[]⟩, 0, 0, ⟨#[]⟩⟩ u) from fun u hu => by
            have hno : ln.Own w6 base 40 5 nodeCells (K + 1) := by rw [HLN.out]; exact H7.out.ll.nodes
            exact nodes15_any ln.l (by have := hno.len; have := HKK.out; omega) ⟨o.name, ⟨#[]⟩, 0, 0, ⟨#[]⟩⟩ true ln.A ln.c w6.heap.size u (hno.own.row.rd.below hu) hu.size)
          have HC0 : Below w6.heap.size w6 w6.drew := (Below.refl _ _).drew
          apply wp_region_seqp (fun u => Below w6.heap.size w6 u) (fun i => i == 0) (fun u u' => Below u.heap.size u u') [_, _, _, _, _, _, _, _] (gOf []) 8 (by kernel_rfl) (by kernel_rfl) (by decide) (by kernel_rfl) (fun i h => by simp only [beq_iff_eq] at h; subst h; rfl) (stabL_of _ trivial) HC0
          simp only [List.take_succ_cons, List.take_zero, List.drop_succ_cons, List.drop_zero]
          iterate 4
            first
            | (apply SeqH.pure; rfl; rfl; rfl; rfl; (simp only [act_put, act_put_none, List.setIfInBounds_toArray, List.set_cons_zero, List.set_cons_succ]; rfl); (intro w1 E hE; go_wp2; exact .mk hE))
            | (apply SeqH.step; rfl; (first | (apply SeqG.next; rfl; rfl; rfl)); (simp only [act_put, act_put_none, List.setIfInBounds_toArray, List.set_cons_zero, List.set_cons_succ]; rfl); (intro w1 hC1 hf E hE; go_wp2; exact .mk (hE _ hC1 (Below.refl _ _))); refine SeqG.nil ?_)
          apply SeqH.step
          · rfl
          apply SeqG.next
          · rfl
          · rfl
          · rfl
          · simp only [act_put, act_put_none, List.setIfInBounds_toArray, List.set_cons_zero, List.set_cons_succ]
            rfl
          · intro w1 hC1 hf E hE
            have d0 := (hC1.cell (p := ⟨g, 1, none⟩) H7.out.box.lt).trans a1
            go_wp2
            exact .mk (hE _ hC1 (Below.refl _ _))
          refine SeqG.nil ?_
          iterate 1
            (apply SeqH.step; rfl; (first | (apply SeqG.next; rfl; rfl; rfl)); (simp only [act_put, act_put_none, List.setIfInBounds_toArray, List.set_cons_zero, List.set_cons_succ]; rfl); (intro w1 hC1 hf E hE; go_wp2; exact .mk (hE _ hC1 (Below.refl _ _))); refine SeqG.nil ?_)
          apply SeqH.step
          · rfl
          apply SeqG.next
          · rfl
          · rfl
          · rfl
          · simp only [act_put, act_put_none, List.setIfInBounds_toArray, List.set_cons_zero, List.set_cons_succ]
            rfl
          · intro w1 hC1 hf E hE
            have d0 := (hC1.cell (p := ⟨w.heap.size, 2, none⟩) HK7.out.lt).trans b2
            go_wp2
            exact .mk (hE _ hC1 (Below.refl _ _))
          refine SeqG.nil ?_
          iterate 1
            (apply SeqH.step; rfl; (first | (apply SeqG.next; rfl; rfl; rfl)); (simp only [act_put, act_put_none, List.setIfInBounds_toArray, List.set_cons_zero, List.set_cons_succ]; rfl); (intro w1 hC1 hf E hE; go_wp2; exact .mk (hE _ hC1 (Below.refl _ _))); refine SeqG.nil ?_)
          refine SeqH.nil ?_
          intro w1 hC1 hf
          clear hf
          refine SeqT.step rfl ?_
          intro E hE
          simp only [act_put, act_put_none, List.setIfInBounds_toArray, List.set_cons_zero, List.set_cons_succ] at hE
          go_wp2_with fail
          refine calls_then (CLN.out _ hC1) ?_
          rintro e w8 ⟨A8, c8, zs, rfl, hlen8, _, hown8, hb8⟩
          have HL8 := Lib.hid hlen8
          have HO8 := Lib.hid (hown8.mono hC1.size)
          have HB8 := Lib.hid (hC1.trans (hb8.mono hC1.size))
          clear hlen8 hown8 hb8
          go_wp2_with fail
          refine .mk (hE _ _ ?_)
          clear hE E
          refine SeqT.step rfl ?_
          intro E hE
          simp only [act_put, act_put_none, List.setIfInBounds_toArray, List.set_cons_zero, List.set_cons_succ] at hE
          go_wp2
          refine .mk (hE _ _ ?_)
          clear hE E
          refine SeqT.step rfl ?_
          intro E hE
          simp only [act_put, act_put_none, List.setIfInBounds_toArray, List.set_cons_zero, List.set_cons_succ] at hE
          go_wp2
          refine .mk (hE _ _ ?_)
          clear hE E
          refine SeqT.step rfl ?_
          intro E hE
          simp only [act_put, act_put_none, List.setIfInBounds_toArray, List.set_cons_zero, List.set_cons_succ] at hE
          have H8 := Lib.hid (H7.out.below HB8.out)
          refine wpList_put_cell (i := 1) H8.out.box rfl rfl rfl rfl (by kernel_rfl) (by simp [ledCells]) rfl ?_
          intro w9 hb9 hw9
          have HB9 := Lib.hid hb9
          have HW9 := Lib.hid hw9
          clear hb9 hw9
          go_wp2_with fail
          refine .mk (hE undef _ ?_)
          clear hE E
          refine SeqT.nil ?_
          have HFN := Lib.hid (show DoPost base g K w (.returned (.int .i64 0)) w9 from ⟨_, 0, rfl, (H8.out.more (by omega)).nodes_put (s := ⟨A8, c8, zs⟩) ⟨HO8.out.mono (Nat.le_trans HBS.out HB7.out.size), by have := HL8.out; have := HNL.out; show zs.length ≤ K + 1; omega⟩ HW9.out HB9.out,
            HW9.out.below (HB7.out.trans (HB8.out.mono (Nat.le_trans HBS.out HB7.out.size))) H7.out.hg (Nat.le_trans HBS.out (HB7.out.trans (HB8.out.mono (Nat.le_trans HBS.out HB7.out.size))).size)⟩)
          clear hC1 HC0
          go_wp2_with fail
          go_ret
          exact HFN.out
  have e6 : (kd == (6 : Int)) = false := by simpa using h6
  clear h6
  by_cases h7 : kd = 7
  · have e7 : (kd == (7 : Int)) = true := by simp [h7]
    clear h7
    cases q with
    | false =>
      go_wp2_with fail
      go_ret
      exact HNO1.out _
    | true =>
      go_wp2_with fail
      have CLB := Lib.hid (show ∀ u, Below w2.heap.size w2 u → Calls Try.prog 59 #[.slice lb.A lb.l.length lb.c, .string o.name, .bool true] u (ListPost 9 1 strCell lb.l o.name u) from fun u hu => by
        have hno : lb.Own w2 base 9 1 strCell K := by rw [HLB.out]; exact H2.out.ll.bans
        exact bans15_any lb.l (by have := hno.len; have := HKK.out; omega) o.name true lb.A lb.c w2.heap.size u (hno.own.row.rd.below hu) hu.size)
      have HC0 : Below w2.heap.size w2 w2.drew := (Below.refl _ _).drew
      apply wp_region_seqp (fun u => Below w2.heap.size w2 u) (fun i => i == 0) (fun u u' => Below u.heap.size u u') [_, _, _, _, _, _, _] (gOf []) 7 (by kernel_rfl) (by kernel_rfl) (by decide) (by kernel_rfl) (fun i h => by simp only [beq_iff_eq] at h; subst h; rfl) (stabL_of _ trivial) HC0
      simp only [List.take_succ_cons, List.take_zero, List.drop_succ_cons, List.drop_zero]
      iterate 4
        first
        | (apply SeqH.pure; rfl; rfl; rfl; rfl; (simp only [act_put, act_put_none, List.setIfInBounds_toArray, List.set_cons_zero, List.set_cons_succ]; rfl); (intro w1 E hE; go_wp2; exact .mk hE))
        | (apply SeqH.step; rfl; (first | (apply SeqG.next; rfl; rfl; rfl)); (simp only [act_put, act_put_none, List.setIfInBounds_toArray, List.set_cons_zero, List.set_cons_succ]; rfl); (intro w1 hC1 hf E hE; go_wp2; exact .mk (hE _ hC1 (Below.refl _ _))); refine SeqG.nil ?_)
      apply SeqH.step
      · rfl
      apply SeqG.next
      · rfl
      · rfl
      · rfl
      · simp only [act_put, act_put_none, List.setIfInBounds_toArray, List.set_cons_zero, List.set_cons_succ]
        rfl
      · intro w1 hC1 hf E hE
        have d0 := (hC1.cell (p := ⟨g, 2, none⟩) H2.out.box.lt).trans a2
        go_wp2
        exact .mk (hE _ hC1 (Below.refl _ _))
      refine SeqG.nil ?_
      iterate 1
        (apply SeqH.step; rfl; (first | (apply SeqG.next; rfl; rfl; rfl)); (simp only [act_put, act_put_none, List.setIfInBounds_toArray, List.set_cons_zero, List.set_cons_succ]; rfl); (intro w1 hC1 hf E hE; go_wp2; exact .mk (hE _ hC1 (Below.refl _ _))); refine SeqG.nil ?_)
      apply SeqH.step
      · rfl
      apply SeqG.next
      · rfl
      · rfl
      · rfl
      · simp only [act_put, act_put_none, List.setIfInBounds_toArray, List.set_cons_zero, List.set_cons_succ]
        rfl
      · intro w1 hC1 hf E hE
        have d0 := (hC1.cell (p := ⟨w.heap.size, 2, none⟩) HK2.out.lt).trans b2
        go_wp2
        exact .mk (hE _ hC1 (Below.refl _ _))
      refine SeqG.nil ?_
      refine SeqH.nil ?_
      intro w1 hC1 hf
      clear hf
      refine SeqT.step rfl ?_
      intro E hE
      simp only [act_put, act_put_none, List.setIfInBounds_toArray, List.set_cons_zero, List.set_cons_succ] at hE
      go_wp2_with fail
      refine calls_then (CLB.out _ hC1) ?_
      rintro e w5 ⟨A5, c5, xs, rfl, hlen5, _, hown5, hb5⟩
      have HL5 := Lib.hid hlen5
      have HO5 := Lib.hid (hown5.mono hC1.size)
      have HB5 := Lib.hid (hC1.trans (hb5.mono hC1.size))
      clear hlen5 hown5 hb5
      go_wp2_with fail
      refine .mk (hE _ _ ?_)
      clear hE E
      refine SeqT.step rfl ?_
      intro E hE
      simp only [act_put, act_put_none, List.setIfInBounds_toArray, List.set_cons_zero, List.set_cons_succ] at hE
      go_wp2
      refine .mk (hE _ _ ?_)
      clear hE E
      refine SeqT.step rfl ?_
      intro E hE
      simp only [act_put, act_put_none, List.setIfInBounds_toArray, List.set_cons_zero, List.set_cons_succ] at hE
      go_wp2
      refine .mk (hE _ _ ?_)
      clear hE E
      refine SeqT.step rfl ?_
      intro E hE
      simp only [act_put, act_put_none, List.setIfInBounds_toArray, List.set_cons_zero, List.set_cons_succ] at hE
      have H5 := Lib.hid (H2.out.below HB5.out)
      refine wpList_put_cell (i := 2) H5.out.box rfl rfl rfl rfl (by kernel_rfl) (by simp [ledCells]) rfl ?_
      intro w6 hb6 hw6
      have HB6 := Lib.hid hb6
      have HW6 := Lib.hid hw6
      clear hb6 hw6
      go_wp2_with fail
      refine .mk (hE undef _ ?_)
      clear hE E
      refine SeqT.nil ?_
      have H7 := Lib.hid ((H5.out.more (Nat.le_succ K)).bans_put (s := ⟨A5, c5, xs⟩) ⟨HO5.out.mono (Nat.le_trans HBS.out HB2.out.size), by have := HL5.out; have := HBL.out; show xs.length ≤ K + 1; omega⟩ HW6.out HB6.out)
      have HB7 := Lib.hid (HW6.out.below (HB2.out.trans (HB5.out.mono (Nat.le_trans HBS.out HB2.out.size))) H2.out.hg (Nat.le_trans HBS.out (HB2.out.trans (HB5.out.mono (Nat.le_trans HBS.out HB2.out.size))).size))
      have HK7 := Lib.hid (HW6.out.blk (HK2.out.below HB5.out HK2.out.lt) (box_ne HK2.out H2.out.box (by decide)))
      clear hC1 HC0
      have HFN := Lib.hid (show DoPost base g K w (.returned (.int .i64 0)) w6 from ⟨_, 0, rfl, H7.out, HB7.out⟩)
      go_wp2_with fail
      go_ret
      exact HFN.out
  have e7 : (kd == (7 : Int)) = false := by simpa using h7
  clear h7
  by_cases h8 : kd = 8
  · have e8 : (kd == (8 : Int)) = true := by simp [h8]
    clear h8
    by_cases hz0 : z < 0
    · go_wp2_with fail
      go_ret
      exact HNO1.out _
    · go_wp2_with fail
      have CLN := Lib.hid (show ∀ u, Below w2.heap.size w2 u → Calls Try.prog 58 #[.slice ln.A ln.l.length ln.c, .agg #[.string o.name, .string ⟨#[]⟩, .int .i64 0, .int .i64 0, .string ⟨#[]⟩], .bool true] u (ListPost 40 5 nodeCells ln.l ⟨o.name, ⟨#[]⟩, 0, 0, ⟨#[]⟩⟩ u) from fun u hu => by
        have hno : ln.Own w2 base 40 5 nodeCells K := by rw [HLN.out]; exact H2.out.ll.nodes
        exact nodes15_any ln.l (by have := hno.len; have := HKK.out; omega) ⟨o.name, ⟨#[]⟩, 0, 0, ⟨#[]⟩⟩ true ln.A ln.c w2.heap.size u (hno.own.row.rd.below hu) hu.size)
      have HC0 : Below w2.heap.size w2 w2.drew := (Below.refl _ _).drew
      apply wp_region_seqp (fun u => Below w2.heap.size w2 u) (fun i => i == 0) (fun u u' => Below u.heap.size u u') [_, _, _, _, _, _, _, _] (gOf []) 8 (by kernel_rfl) (by kernel_rfl) (by decide) (by kernel_rfl) (fun i h => by simp only [beq_iff_eq] at h; subst h; rfl) (stabL_of _ trivial) HC0
      simp only [List.take_succ_cons, List.take_zero, List.drop_succ_cons, List.drop_zero]
      iterate 4
        first
        | (apply SeqH.pure; rfl; rfl; rfl; rfl; (simp only [act_put, act_put_none, List.setIfInBounds_toArray, List.set_cons_zero, List.set_cons_succ]; rfl); (intro w1 E hE; go_wp2; exact .mk hE))
        | (apply SeqH.step; rfl; (first | (apply SeqG.next; rfl; rfl; rfl)); (simp only [act_put, act_put_none, List.setIfInBounds_toArray, List.set_cons_zero, List.set_cons_succ]; rfl); (intro w1 hC1 hf E hE; go_wp2; exact .mk (hE _ hC1 (Below.refl _ _))); refine SeqG.nil ?_)
      apply SeqH.step
      · rfl
      apply SeqG.next
      · rfl
      · rfl
      · rfl
      · simp only [act_put, act_put_none, List.setIfInBounds_toArray, List.set_cons_zero, List.set_cons_succ]
        rfl
      · intro w1 hC1 hf E hE
        have d0 := (hC1.cell (p := ⟨g, 1, none⟩) H2.out.box.lt).trans a1
        go_wp2
        exact .mk (hE _ hC1 (Below.refl _ _))
      refine SeqG.nil ?_
      iterate 1
        (apply SeqH.step; rfl; (first | (apply SeqG.next; rfl; rfl; rfl)); (simp only [act_put, act_put_none, List.setIfInBounds_toArray, List.set_cons_zero, List.set_cons_succ]; rfl); (intro w1 hC1 hf E hE; go_wp2; exact .mk (hE _ hC1 (Below.refl _ _))); refine SeqG.nil ?_)
      apply SeqH.step
      · rfl
      apply SeqG.next
      · rfl
      · rfl
      · rfl
      · simp only [act_put, act_put_none, List.setIfInBounds_toArray, List.set_cons_zero, List.set_cons_succ]
        rfl
      · intro w1 hC1 hf E hE
        have d0 := (hC1.cell (p := ⟨w.heap.size, 2, none⟩) HK2.out.lt).trans b2
        go_wp2
        exact .mk (hE _ hC1 (Below.refl _ _))
      refine SeqG.nil ?_
      iterate 1
        (apply SeqH.step; rfl; (first | (apply SeqG.next; rfl; rfl; rfl)); (simp only [act_put, act_put_none, List.setIfInBounds_toArray, List.set_cons_zero, List.set_cons_succ]; rfl); (intro w1 hC1 hf E hE; go_wp2; exact .mk (hE _ hC1 (Below.refl _ _))); refine SeqG.nil ?_)
      refine SeqH.nil ?_
      intro w1 hC1 hf
      clear hf
      refine SeqT.step rfl ?_
      intro E hE
      simp only [act_put, act_put_none, List.setIfInBounds_toArray, List.set_cons_zero, List.set_cons_succ] at hE
      go_wp2_with fail
      refine calls_then (CLN.out _ hC1) ?_
      rintro e w8 ⟨A8, c8, zs, rfl, hlen8, _, hown8, hb8⟩
      have HL8 := Lib.hid hlen8
      have HO8 := Lib.hid (hown8.mono hC1.size)
      have HB8 := Lib.hid (hC1.trans (hb8.mono hC1.size))
      clear hlen8 hown8 hb8
      go_wp2_with fail
      refine .mk (hE _ _ ?_)
      clear hE E
      refine SeqT.step rfl ?_
      intro E hE
      simp only [act_put, act_put_none, List.setIfInBounds_toArray, List.set_cons_zero, List.set_cons_succ] at hE
      go_wp2
      refine .mk (hE _ _ ?_)
      clear hE E
      refine SeqT.step rfl ?_
      intro E hE
      simp only [act_put, act_put_none, List.setIfInBounds_toArray, List.set_cons_zero, List.set_cons_succ] at hE
      go_wp2
      refine .mk (hE _ _ ?_)
      clear hE E
      refine SeqT.step rfl ?_
      intro E hE
      simp only [act_put, act_put_none, List.setIfInBounds_toArray, List.set_cons_zero, List.set_cons_succ] at hE
      have H8 := Lib.hid (H2.out.below HB8.out)
      refine wpList_put_cell (i := 1) H8.out.box rfl rfl rfl rfl (by kernel_rfl) (by simp [ledCells]) rfl ?_
      intro w9 hb9 hw9
      have HB9 := Lib.hid hb9
      have HW9 := Lib.hid hw9
      clear hb9 hw9
      go_wp2_with fail
      refine .mk (hE undef _ ?_)
      clear hE E
      refine SeqT.nil ?_
      have HFN := Lib.hid (show DoPost base g K w (.returned (.int .i64 0)) w9 from ⟨_, 0, rfl, (H8.out.more (by omega)).nodes_put (s := ⟨A8, c8, zs⟩) ⟨HO8.out.mono (Nat.le_trans HBS.out HB2.out.size), by have := HL8.out; have := HNL.out; show zs.length ≤ K + 1; omega⟩ HW9.out HB9.out,
        HW9.out.below (HB2.out.trans (HB8.out.mono (Nat.le_trans HBS.out HB2.out.size))) H2.out.hg (Nat.le_trans HBS.out (HB2.out.trans (HB8.out.mono (Nat.le_trans HBS.out HB2.out.size))).size)⟩)
      clear hC1 HC0
      go_wp2_with fail
      go_ret
      exact HFN.out
  have e8 : (kd == (8 : Int)) = false := by simpa using h8
  clear h8
  by_cases h14 : kd = 14
  · have e14 : (kd == (14 : Int)) = true := by simp [h14]
    clear h14
    by_cases hz0 : z < 0
    · go_wp2_with fail
      go_ret
      exact HNO1.out _
    · obtain ⟨i, hi, hzi⟩ : ∃ i : Nat, i < ln.l.length ∧ z = (i : Int) := by
        rcases HZ.out with h | h
        · omega
        · exact h
      subst hzi
      have hno : ln.Own w2 base 40 5 nodeCells K := by rw [HLN.out]; exact H2.out.ll.nodes
      obtain ⟨ad, cur, hA, hbase, hblt, hblk, hoff, hput⟩ := ownR_ad_r (f := nodeCells) (m := 5) (fun _ => rfl) hno.own hi (j := 3) (by decide)
      obtain ⟨ad', hA', -, hcell⟩ := rd_rows (f := nodeCells) (m := 5) (fun _ => rfl) (by decide) hno.own.row.rd hi
      rw [hA] at hA' a1
      injection hA' with hA'
      subst hA'
      obtain ⟨X, hX⟩ : ∃ X, X = ln.l[i] := ⟨_, rfl⟩
      rw [← hX] at hcell
      have c3 : w2.cell? ⟨(ad.add (i * 5)).block, (ad.add (i * 5)).off + 3, none⟩ = some (.int .i64 X.seq) := hcell 3 _ rfl
      have HPT := Lib.hid (show ∀ u, Blk u (ad.add (i * 5)).block 40 (cur.setIfInBounds ((ad.add (i * 5)).off + 3) (.int .i64 o.n)) → (⟨ln.A, ln.c, ln.l.set i ⟨X.name, X.key, X.exp, o.n, X.doc⟩⟩ : Sl NodeD).Own u base 40 5 nodeCells K from fun u hb => ⟨by
        have h := hput (.int .i64 o.n) ⟨X.name, X.key, X.exp, o.n, X.doc⟩ u (by rw [← hX]; rfl) hb
        show OwnR u base _ 5 ln.A ln.c (ln.l.set i _).length _
        rw [List.length_set]
        exact h, by show (ln.l.set i _).length ≤ K; rw [List.length_set]; exact HNL.out⟩)
      have HBK := Lib.hid (show ∀ u, Below w2.heap.size w2 u → Blk u (ad.add (i * 5)).block 40 cur from fun u hu => hblk.below hu hblt)
      have HOF := Lib.hid hoff
      have HBA := Lib.hid hbase
      have hi0 : (0 : Int) ≤ (i : Int) := by omega
      have hil : (i : Int) < (ln.l.length : Int) := by omega
      have HSV := Lib.hid (show ∀ k, (⟨ln.A, ln.c, ln.l.set i k⟩ : Sl NodeD).v = d.nodes.v from fun k => by
        rw [← HLN.out]
        show Value.slice ln.A (ln.l.set i k).length ln.c = _
        rw [List.length_set]
        rfl)
      clear hno hput hcell hX hi hblk hbase hoff hblt hA hz0
      by_cases hs : o.n ≤ X.seq
      · go_wp2_with fail
        go_quiet (fail)
        go_wp2_with fail
        go_ret
        exact HNO2.out _ _
      · have hs' : decide (o.n ≤ X.seq) = false := decide_eq_false hs
        by_cases hm : 1099511627776 < o.n
        · go_wp2_with fail
          go_quiet (fail)
          go_wp2_with fail
          go_ret
          exact HNO2.out _ _
        · go_wp2_with fail
          go_quiet (fail)
          generalize hn3 : w2.drewN _ = w3
          have H3 := Lib.hid (show LW w3 base g K d by rw [← hn3]; exact H2.out.below (below_drewN9 (Below.refl _ _) _))
          have HB3 := Lib.hid (show Below base w w3 by rw [← hn3]; exact below_drewN9 HB2.out _)
          have HK3 := Lib.hid (show Blk w3 w.heap.size 47 (opC o) by rw [← hn3]; exact HK2.out)
          have HBK3 := Lib.hid (show ∀ u, Below w3.heap.size w3 u → Blk u (ad.add (i * 5)).block 40 cur from fun u hu => HBK.out u (by
            have hs : w3.heap.size = w2.heap.size := by rw [← hn3]; rfl
            rw [← hs]
            have hd : Below w3.heap.size w2 w3 := by rw [hs, ← hn3]; exact below_drewN9 (Below.refl _ _) _
            exact hd.trans hu))
          have a1 : w3.cell? ⟨g, 1, none⟩ = some (.slice (some ad) ln.l.length ln.c) := by rw [← hn3]; exact a1
          have b1 : w3.cell? ⟨w.heap.size, 1, none⟩ = some (.int .i64 o.n) := HK3.out.cell 1
          clear hn3 c3
          go_wp2_with fail
          have HC0 : Below w3.heap.size w3 w3.drew := (Below.refl _ _).drew
          apply wp_region_seqh (fun u => Below w3.heap.size w3 u) (fun u u' => Below u.heap.size u u') [_, _, _, _, _, _, _, _, _] (gOf []) 9 (by kernel_rfl) (by kernel_rfl) (by decide) (by kernel_rfl) (stabL_of _ trivial) HC0
          simp only [List.take_succ_cons, List.take_zero, List.drop_succ_cons, List.drop_zero]
          iterate 3
            ((first | (apply SeqG.next; rfl; rfl; rfl)); (simp only [act_put, act_put_none, List.setIfInBounds_toArray, List.set_cons_zero, List.set_cons_succ]; rfl); (intro w1 hC1 hf E hE; go_wp2; exact .mk (hE _ hC1 (Below.refl _ _))))
          apply SeqG.next
          · rfl
          · rfl
          · rfl
          · simp only [act_put, act_put_none, List.setIfInBounds_toArray, List.set_cons_zero, List.set_cons_succ]
            rfl
          · intro w1 hC1 hf E hE
            have d0 := (hC1.cell (p := ⟨g, 1, none⟩) H3.out.box.lt).trans a1
            go_wp2
            exact .mk (hE _ hC1 (Below.refl _ _))
          iterate 2
            ((first | (apply SeqG.next; rfl; rfl; rfl)); (simp only [act_put, act_put_none, List.setIfInBounds_toArray, List.set_cons_zero, List.set_cons_succ]; rfl); (intro w1 hC1 hf E hE; go_wp2; exact .mk (hE _ hC1 (Below.refl _ _))))
          apply SeqG.next
          · rfl
          · rfl
          · rfl
          · simp only [act_put, act_put_none, List.setIfInBounds_toArray, List.set_cons_zero, List.set_cons_succ]
            rfl
          · intro w1 hC1 hf E hE
            have d0 := (hC1.cell (p := ⟨w.heap.size, 1, none⟩) HK3.out.lt).trans b1
            go_wp2
            exact .mk (hE _ hC1 (Below.refl _ _))
          iterate 2
            ((first | (apply SeqG.next; rfl; rfl; rfl)); (simp only [act_put, act_put_none, List.setIfInBounds_toArray, List.set_cons_zero, List.set_cons_succ]; rfl); (intro w1 hC1 hf E hE; go_wp2; exact .mk (hE _ hC1 (Below.refl _ _))))
          refine SeqG.nil ?_
          intro w1 hC1 hf
          clear hf
          refine SeqT.step rfl ?_
          intro E hE
          simp only [act_put, act_put_none, List.setIfInBounds_toArray, List.set_cons_zero, List.set_cons_succ] at hE
          have HBC := Lib.hid hC1
          refine wpList_put_cell (HBK3.out _ hC1) rfl rfl rfl rfl (by kernel_rfl) HOF.out rfl ?_
          intro w6 hb6 hw6
          have HB6 := Lib.hid hb6
          have HW6 := Lib.hid hw6
          clear hb6 hw6
          go_wp2_with fail
          refine .mk (hE undef _ ?_)
          clear hE E
          refine SeqT.nil ?_
          have HFN := Lib.hid (show DoPost base g K w (.returned (.int .i64 0)) w6 from
            ⟨_, 0, rfl, ((H3.out.below HBC.out).node_field (HBK3.out _ HBC.out) HW6.out (HPT.out _ HB6.out) (HSV.out _)).more (Nat.le_succ K),
              HW6.out.below (HB3.out.trans (HBC.out.mono (Nat.le_trans HBS.out HB3.out.size))) HBA.out (Nat.le_trans HBS.out (HB3.out.trans (HBC.out.mono (Nat.le_trans HBS.out HB3.out.size))).size)⟩)
          clear hC1 HC0
          go_wp2_with fail
          go_ret
          exact HFN.out
  have e14 : (kd == (14 : Int)) = false := by simpa using h14
  clear h14
  have HFN := Lib.hid (show DoPost base g K w (.returned (.int .i64 0)) w2 from ⟨d, 0, rfl, H2.out.more (Nat.le_succ K), HB2.out⟩)
  go_wp2_with fail
  go_ret
  exact HFN.out
end Go.Proofs.Ytcnebbhnpocofaa
/-
  Walk: brevetref15.bundles (a list with one in its place, or more). (Printed by gen/lst20.py.)
-/
namespace Go.Proofs.Ytcnebbhnpocofaa
set_option linter.unusedSimpArgs false
set_option linter.unusedVariables false
open Go.RowKit

set_option maxRecDepth 100000 in
set_option maxHeartbeats 4000000 in
theorem bundles15_any (l : List BunD) (hl : l.length ≤ 1000) (z : BunD) (gone : Bool) (A : Option Addr) (c B : Nat) (w : World) (hr : Rd w B A (rowsV bunCells l)) (hB : B ≤ w.heap.size) :
    Calls Try.prog 62 #[.slice A l.length c, .agg (bunCells z), .bool gone] w (ListPost 45 3 bunCells l z w) := by
  have hu := Try.underlying45
  obtain ⟨W0, hW0⟩ : ∃ W0, W0 = w.alloc (.cells (bunCells z) 45) := ⟨_, rfl⟩
  have HB0 := Lib.hid (show Below w.heap.size w W0 by rw [hW0]; exact (Below.refl _ w).alloc (Nat.le_refl _) _)
  have HK := Lib.hid (show Blk W0 w.heap.size 45 (bunCells z) by rw [hW0]; exact Blk.new _ _ _)
  have HW0 := Lib.hid hW0
  obtain ⟨n, hn⟩ : ∃ n, n = l.length := ⟨_, rfl⟩
  have HN := Lib.hid hn
  have HR := Lib.hid (hr.below (HB0.out.mono hB))
  have HBB := Lib.hid (Nat.le_trans hB HB0.out.size)
  have hn' : (n : Int) ≤ 1000 := by omega
  rw [← hn]
  clear hW0 hr hB hl hn
  go_enter Try.func62, Try.ntmps62
  go_upto_region 1 with (fail)
  rw [show w.alloc (.cells (bunCells z) 45) = W0 from HW0.out.symm]
  generalize Value.agg (bunCells z) = AV
  go_wp2_with fail
  go_loopw [7, 8, 9] (fun out dv i wr => ∃ (k : Nat) (A1 : Option Addr) (c1 : Nat) (xs : List BunD) (dn : Bool), k ≤ n ∧ out = .slice A1 xs.length c1 ∧ dv = .bool dn ∧ i = .int .i64 (k : Int) ∧ OwnR wr W0.heap.size 45 3 A1 c1 xs.length (rowsV bunCells xs) ∧ Below W0.heap.size W0 wr ∧ xs.length ≤ k + dn.toNat ∧ ∀ x ∈ xs, x ∈ l ∨ x = z) (fun _ _ i _ => n - (intOf i).toNat)
  case atStart => exact ⟨0, none, 0, [], gone, by omega, rfl, rfl, rfl, OwnR.nil _ _ _ _, Below.refl _ _, by simp, fun x hx => by cases hx⟩
  case round =>
    obtain ⟨k, A1, c1, xs, dn, hk, rfl, rfl, rfl, hown, hbel, hlen, hmem⟩ := hrel
    have HOWN := Lib.hid hown
    have HBEL := Lib.hid hbel
    have HLEN := Lib.hid hlen
    have HMEM := Lib.hid hmem
    have hxl : xs.length ≤ 1001 := by have : dn.toNat ≤ 1 := by cases dn <;> simp
                                      omega
    clear hown hbel hlen hmem
    by_cases hlt : k < n
    · have hkl : k < l.length := by rw [← HN.out]; exact hlt
      have hi1 : (0 : Int) ≤ (k : Int) := by omega
      have hi2 : (k : Int) < (n : Int) := by omega
      obtain ⟨ad, hA, hadb, hcell⟩ := rd_rows (f := bunCells) (m := 3) (fun _ => rfl) (by decide) HR.out hkl
      subst hA
      obtain ⟨X, hX⟩ : ∃ X, X = l[k] := ⟨_, rfl⟩
      rw [← hX] at hcell
      have HX := Lib.hid (show X ∈ l by rw [hX]; exact List.getElem_mem hkl)
      have HC := Lib.hid (show ∀ u, Below W0.heap.size W0 u → ∀ j v, (bunCells X).toList[j]? = some v → u.cell? ((ad.add (k * 3)).add j) = some v from fun u hu j v hv => by
        rw [hu.cell (p := (ad.add (k * 3)).add j) (by rw [block_of_add, block_of_add]; exact Nat.lt_of_lt_of_le hadb HBB.out)]
        exact hcell j v (by simpa using hv))
      have HD := Lib.hid (show ∀ u, Below W0.heap.size W0 u → u.cell? (ad.add (k * 3)) = some (.string X.dom) ∧ u.cell? ⟨w.heap.size, 0, none⟩ = some (.string z.dom) from fun u hu => ⟨HC.out u hu 0 _ rfl, (HK.out.below hu HK.out.lt).cell 0⟩)
      obtain ⟨q, hqq⟩ : ∃ q, Op.bytesLess X.dom.toList z.dom.toList = q := ⟨_, rfl⟩
      obtain ⟨r, hrr⟩ : ∃ r, (X.dom.toList == z.dom.toList) = r := ⟨_, rfl⟩
      have HLT := Lib.hid hlt
      clear hX hcell hadb hkl hlt
      go_upto_region 6 with (fail)
      go_cut [28] (fun v wx => (∃ b, v = .bool b ∧ (b = true → dn = false)) ∧ ∃ m, wx = wr.drewN m)
      case first =>
        obtain ⟨d0, d2⟩ := HD.out wr HBEL.out
        cases dn with
        | true =>
          go_wp2_with fail
          go_quiet (fail)
          go_wp2_with fail
          go_meet
          exact ⟨⟨false, rfl, by simp⟩, _, rfl⟩
        | false =>
          cases q with
          | true =>
            go_wp2_with fail
            go_quiet (fail)
            go_wp2_with fail
            go_meet
            exact ⟨⟨false, rfl, by simp⟩, _, rfl⟩
          | false =>
            go_wp2_with fail
            go_quiet (fail)
            go_wp2_with fail
            go_meet
            exact ⟨⟨true, rfl, by simp⟩, _, rfl⟩
      case rest =>
      obtain ⟨⟨b, rfl, hb⟩, md, rfl⟩ := hcut
      have HBD := Lib.hid (below_drewN9 HBEL.out md)
      have HOD := Lib.hid (show OwnR (wr.drewN md) W0.heap.size 45 3 A1 c1 xs.length (rowsV bunCells xs) from HOWN.out)
      have HBF := Lib.hid hb
      clear hb hqq
      go_upto_if 28 with (fail)
      go_cut [7, 8] (fun out dv wx => ∃ (A2 : Option Addr) (c2 : Nat) (ys : List BunD) (dn2 : Bool), out = .slice A2 ys.length c2 ∧ dv = .bool dn2 ∧ OwnR wx W0.heap.size 45 3 A2 c2 ys.length (rowsV bunCells ys) ∧ Below W0.heap.size W0 wx ∧ ys.length ≤ k + dn2.toNat ∧ ∀ x ∈ ys, x ∈ l ∨ x = z)
      case first =>
        cases b with
        | false =>
          go_wp2_with fail
          go_meet
          exact ⟨A1, c1, xs, dn, rfl, rfl, HOD.out, HBD.out, HLEN.out, HMEM.out⟩
        | true =>
          obtain rfl : dn = false := HBF.out rfl
          go_wp2_with (first
            | (refine wpList_get_box (x := .tmp 4) (cs := #[.string z.dom, .int .i64 z.num, .slice z.kA z.kn z.kc]) (HK.out.below HBD.out HK.out.lt) rfl rfl rfl hu rfl bunT_size ?_)
            | (refine wpList_append_r1 (ys := [.string z.dom, .int .i64 z.num, .slice z.kA z.kn z.kc]) sl_buns rfl rfl HOD.out rfl rfl rfl rfl (by simp [Value.oneCell']) (by unfold maxLen; omega) (by omega) HBD.out.size ?_; intro A5 c5 w5 hown5 hgr5 hn5))
          go_meet
          exact ⟨A5, c5, xs ++ [z], true, by simp, rfl, by rw [rowsV_append, rowsV_one, List.length_append]; exact hown5, HBD.out.grown hgr5 HBD.out.size (fun j hj => (HOD.out.lt j hj).1), by have := HLEN.out; simp at this ⊢; omega, fun x hx => by
            rcases List.mem_append.1 hx with h | h
            · exact HMEM.out x h
            · exact .inr (by simpa using h)⟩
      case rest =>
      obtain ⟨A2, c2, ys, dn2, rfl, rfl, hown2, hbel2, hlen2, hmem2⟩ := hcut
      have HOWN2 := Lib.hid hown2
      have HBEL2 := Lib.hid hbel2
      have HLEN2 := Lib.hid hlen2
      have HMEM2 := Lib.hid hmem2
      have hyl : ys.length ≤ 1001 := by have : dn2.toNat ≤ 1 := by cases dn2 <;> simp
                                        omega
      clear hown2 hbel2 hlen2 hmem2
      obtain ⟨d0, d2⟩ := HD.out _ HBEL2.out
      cases r with
      | true =>
          go_wp2_with fail
          go_quiet (fail)
          go_wp2_with fail
          go_roundw
          case rel => exact ⟨k + 1, A2, c2, ys, dn2, HLT.out, rfl, rfl, by go_num, HOWN2.out, (below_drewN9 HBEL2.out _), by have := HLEN2.out; omega, HMEM2.out⟩
          case measure => have := HLT.out; simp [intOf]; omega
      | false =>
          go_wp2_with fail
          go_quiet (fail)
          go_wp2_with (first
            | (refine wpList_get_rd (r := [.string X.dom, .int .i64 X.num, .slice X.kA X.kn X.kc]) (fun j u hj => HC.out _ (below_drewN9 HBEL2.out _) j u hj) rfl rfl rfl hu rfl bunT_size ?_)
            | (refine wpList_append_r1 (ys := [.string X.dom, .int .i64 X.num, .slice X.kA X.kn X.kc]) sl_buns rfl rfl (show OwnR (World.drewN _ _) W0.heap.size 45 3 A2 c2 ys.length (rowsV bunCells ys) from HOWN2.out) rfl rfl rfl rfl (by simp [Value.oneCell']) (by unfold maxLen; omega) (by omega) (below_drewN9 HBEL2.out _).size ?_; intro A5 c5 w5 hown5 hgr5 hn5))
          go_roundw
          case rel => exact ⟨k + 1, A5, c5, ys ++ [X], dn2, HLT.out, by simp, rfl, by go_num, by rw [rowsV_append, rowsV_one, List.length_append]; exact hown5, Below.grown (below_drewN9 HBEL2.out _) hgr5 (Below.size (below_drewN9 HBEL2.out _)) (fun j hj => (HOWN2.out.lt j hj).1), by have := HLEN2.out; simp; omega, fun x hx => by
            rcases List.mem_append.1 hx with h | h
            · exact HMEM2.out x h
            · exact .inl (by have e : x = X := by simpa using h
                             rw [e]; exact HX.out)⟩
          case measure => have := HLT.out; simp [intOf]; omega
    · obtain rfl : k = n := by omega
      clear hlt
      cases dn with
      | true =>
        go_wp2_with fail
        go_ret
        exact ⟨A1, c1, xs, rfl, by have := HLEN.out; have := HN.out; simp at *; omega, HMEM.out, HOWN.out.mono HB0.out.size, HB0.out.trans (HBEL.out.mono HB0.out.size)⟩
      | false =>
        go_wp2_with (first
          | (refine wpList_get_box (x := .tmp 4) (cs := #[.string z.dom, .int .i64 z.num, .slice z.kA z.kn z.kc]) (HK.out.below HBEL.out HK.out.lt) rfl rfl rfl hu rfl bunT_size ?_)
          | (refine wpList_append_r1 (ys := [.string z.dom, .int .i64 z.num, .slice z.kA z.kn z.kc]) sl_buns rfl rfl HOWN.out rfl rfl rfl rfl (by simp [Value.oneCell']) (by unfold maxLen; omega) (by omega) HBEL.out.size ?_; intro A5 c5 w5 hown5 hgr5 hn5))
        go_ret
        exact ⟨A5, c5, xs ++ [z], by simp, by have := HLEN.out; have := HN.out; simp at *; omega, fun x hx => by
          rcases List.mem_append.1 hx with h | h
          · exact HMEM.out x h
          · exact .inr (by simpa using h), OwnR.mono (by rw [rowsV_append, rowsV_one, List.length_append]; exact hown5) HB0.out.size, HB0.out.trans ((HBEL.out.grown hgr5 HBEL.out.size (fun j hj => (HOWN.out.lt j hj).1)).mono HB0.out.size)⟩
end Go.Proofs.Ytcnebbhnpocofaa
/-
  Laws of my own: a map keyed by texts that is laid entry by entry, and looked up.
-/
namespace Go.Proofs.Ytcnebbhnpocofaa
set_option linter.unusedSimpArgs false
set_option linter.unusedVariables false
open Go.RowKit
def MapS (w : World) (g : Nat) (es : Array MapEntry) : Prop := w.heap[g]? = some (.map es es.size)
theorem MapS.lt {w : World} {g : Nat} {es : Array MapEntry} (h : MapS w g es) : g < w.heap.size := (Array.getElem?_eq_some_iff.1 h).1
theorem MapS.new (w : World) : MapS (w.alloc (.map #[] 0)) w.heap.size #[] := heap_alloc_new w _
end Go.Proofs.Ytcnebbhnpocofaa
/-
  Walk: jwk.may, at any bundle.
-/
namespace Go.Proofs.Ytcnebbhnpocofaa.Js
set_option linter.unusedSimpArgs false
set_option linter.unusedVariables false
open Go.RowKit
def keysOk : List Bs → List (Bs × Bs) → Bool
  | _, [] => true
  | seen, k :: r => decide (k.2.length = 32) && decide (k.1 = nameL k.2) && !(seen.contains k.1) && keysOk (seen ++ [k.1]) r
def headOk (D : Bs) (num : Int) (ks : List (Bs × Bs)) : Bool := domB D && decide (0 ≤ num) && decide (num ≤ 1099511627776) && decide (ks.length ≤ 8)
def mayB (D : Bs) (num : Int) (ks : List (Bs × Bs)) : Bool := headOk D num ks && keysOk [] ks
def keysTo (ks : List (Bs × Bs)) (i : Nat) : Prop := keysOk [] ks = keysOk ((ks.take i).map (·.1)) (ks.drop i)
theorem keysTo_zero (ks : List (Bs × Bs)) : keysTo ks 0 := rfl
theorem keysTo_step {ks : List (Bs × Bs)} {i : Nat} (h : keysTo ks i) (hi : i < ks.length) (h1 : ks[i].2.length = 32) (h2 : ks[i].1 = nameL ks[i].2) (h3 : ks[i].1 ∉ (ks.take i).map (·.1)) : keysTo ks (i + 1) := by
  unfold keysTo at h ⊢
  rw [h, List.drop_eq_getElem_cons hi, List.take_succ_eq_append_getElem hi, List.map_append]
  conv => lhs; unfold keysOk
  rw [decide_eq_true h1, decide_eq_true h2, show ((ks.take i).map (·.1)).contains ks[i].1 = false by simpa using h3]
  rfl
theorem keysTo_no {ks : List (Bs × Bs)} {i : Nat} (h : keysTo ks i) (hi : i < ks.length) (hn : ks[i].2.length = 32 → ks[i].1 = nameL ks[i].2 → ks[i].1 ∈ (ks.take i).map (·.1)) : keysOk [] ks = false := by
  unfold keysTo at h
  rw [h, List.drop_eq_getElem_cons hi]
  unfold keysOk
  by_cases h1 : ks[i].2.length = 32
  · by_cases h2 : ks[i].1 = nameL ks[i].2
    · have h3 := hn h1 h2
      rw [show ((ks.take i).map (·.1)).contains ks[i].1 = true by simpa using h3]
      simp
    · simp [h2]
  · simp [h1]
theorem keysTo_all {ks : List (Bs × Bs)} {i : Nat} (h : keysTo ks i) (hi : i = ks.length) : keysOk [] ks = true := by
  unfold keysTo at h
  rw [h, hi, List.drop_length]
  rfl
theorem mayB_no {D : Bs} {num : Int} {ks : List (Bs × Bs)} (h : headOk D num ks = false) : mayB D num ks = false := by unfold mayB; rw [h]; rfl
end Go.Proofs.Ytcnebbhnpocofaa.Js
/-
  Walk: jwk.key.
-/
namespace Go.Proofs.Ytcnebbhnpocofaa.Js
set_option linter.unusedSimpArgs false
set_option linter.unusedVariables false
open Go.RowKit
def RowFrom (u : World) (L : Nat) (t : TypeId) (n : Nat) (xs : List Value) (v : Value) : Prop := ∃ g, v = .slice (some ⟨g, 0, none⟩) n n ∧ Blk u g t xs.toArray ∧ L ≤ g
theorem RowFrom.step {u u' : World} {L : Nat} {t : TypeId} {n : Nat} {xs : List Value} {v : Value} (h : RowFrom u L t n xs v) (hb : Below u.heap.size u u') : RowFrom u' L t n xs v := by
  obtain ⟨g, h1, h2, h3⟩ := h
  exact ⟨g, h1, h2.below hb h2.lt, h3⟩
def BytFrom (u : World) (L n : Nat) (l : Bs) (v : Value) : Prop := ∃ g c, v = .slice (some ⟨g, 0, none⟩) n c ∧ n ≤ c ∧ c ≤ 9223372036854775807 ∧ L ≤ g ∧ Rd u u.heap.size (some ⟨g, 0, none⟩) (bytesV l)
theorem BytFrom.step {u u' : World} {L n : Nat} {l : Bs} {v : Value} (h : BytFrom u L n l v) (hb : Below u.heap.size u u') : BytFrom u' L n l v := by
  obtain ⟨g, c, h1, h2, h3, h4, h5⟩ := h
  exact ⟨g, c, h1, h2, h3, h4, (h5.below hb).mono hb.size⟩
def RepFrom (u : World) (L : Nat) (j : JT) (v : Value) : Prop := ∃ jv, v = .agg (jvCells jv) ∧ JRep u (fun b => L ≤ b) j jv
theorem RepFrom.step {u u' : World} {L : Nat} {j : JT} {v : Value} (h : RepFrom u L j v) (hb : Below u.heap.size u u') : RepFrom u' L j v := by
  obtain ⟨jv, h1, h2⟩ := h
  exact ⟨jv, h1, h2.heap fun b hlt _ => hb.block b hlt⟩
end Go.Proofs.Ytcnebbhnpocofaa.Js
/-
  Walks: the reference's in, of, Domain, in plain words.
-/
namespace Go.Proofs.Ytcnebbhnpocofaa.Js
set_option linter.unusedSimpArgs false
set_option linter.unusedVariables false
open Go.RowKit
theorem rin_any (c : UInt8) (s : Bs) (hs : s.length ≤ 100000) (w : World) : Calls Try.prog 67 #[.int .u8 ((c.toNat : Nat) : Int), .string (bs s)] w fun e w' => e = .returned (.bool (decide (c ∈ s))) ∧ w' = w := by
  obtain ⟨n, hn⟩ : ∃ n, n = s.length := ⟨_, rfl⟩
  have hsz : ((bs s).size : Int) = (n : Int) := by rw [bs_size, hn]
  have hs' : (n : Int) ≤ 100000 := by omega
  have HN := Lib.hid hn
  have HSZ := Lib.hid (bs_size s)
  obtain ⟨z, hz⟩ : ∃ z : Int, z = ((c.toNat : Nat) : Int) := ⟨_, rfl⟩
  rw [← hz]
  have HZ := Lib.hid hz
  clear hn hz
  go_enter Try.func67, Try.ntmps67
  go_wp2_with fail
  go_loop [5] (fun i => ∃ k : Nat, k ≤ n ∧ i = .int .i64 k ∧ c ∉ s.take k) (fun i => n - (intOf i).toNat)
  case atStart => exact ⟨0, Nat.zero_le _, rfl, by simp⟩
  case round =>
    obtain ⟨k, hk, rfl, hno⟩ := hrel
    have HNO := Lib.hid hno
    clear hno
    by_cases hlt : k < n
    · have hks : k < s.length := by rw [← HN.out]; exact hlt
      have hkb : k < (bs s).size := by rw [HSZ.out]; exact hks
      have hlt' : (k : Int) < (n : Int) := by omega
      obtain ⟨x, hx⟩ : ∃ x : Int, x = (((bs s)[k]'hkb).toNat : Int) := ⟨_, rfl⟩
      have HX := Lib.hid (show x = ((s[k].toNat : Nat) : Int) by rw [hx]; rfl)
      by_cases he : x = z
      · have HIN := Lib.hid (show c ∈ s by
          have h1 : s[k].toNat = c.toNat := by have := HX.out; have := HZ.out; omega
          have h2 : s[k] = c := UInt8.toNat.inj h1
          rw [← h2]
          exact List.getElem_mem hks)
        have hxz : (x == z) = true := by simpa using he
        have HLT := Lib.hid hlt
        clear he
        go_wp2_with fail
        go_ret
        exact ⟨by rw [decide_eq_true HIN.out]; rfl, rfl⟩
      · have HNX := Lib.hid (show c ∉ s.take (k + 1) by
          rw [List.take_succ_eq_append_getElem hks, List.mem_append]
          rintro (h1 | h1)
          · exact HNO.out h1
          · have h2 : c = s[k] := List.mem_singleton.1 h1
            exact he (by rw [HX.out, HZ.out, h2]))
        have hxz : (x == z) = false := by simpa using he
        have HLT := Lib.hid hlt
        clear he
        go_wp2_with fail
        go_round
        case rel => exact ⟨k + 1, HLT.out, by go_num, HNX.out⟩
        case measure => have := HLT.out; simp [intOf]; omega
    · obtain rfl : k = n := by omega
      have HF := Lib.hid (show c ∉ s by
        have h := HNO.out
        rwa [HN.out, List.take_length] at h)
      go_wp2_with fail
      go_ret
      exact ⟨by rw [decide_eq_false HF.out]; rfl, rfl⟩
def of9 (s t : Bs) (m : Nat) : Bool := s.all (fun c => decide (c ∈ t)) && (decide (1 ≤ s.length) && decide (s.length ≤ m))
theorem rof_any (s t : Bs) (m : Nat) (hs : s.length ≤ 100000) (ht : t.length ≤ 100000) (hm : (m : Int) ≤ 100000) (w : World) : Calls Try.prog 66 #[.string (bs s), .string (bs t), .int .i64 (m : Int)] w fun e w' => e = .returned (.bool (of9 s t m)) ∧ w' = w := by
  obtain ⟨n, hn⟩ : ∃ n, n = s.length := ⟨_, rfl⟩
  have hsz : ((bs s).size : Int) = (n : Int) := by rw [bs_size, hn]
  have hs' : (n : Int) ≤ 100000 := by omega
  have HN := Lib.hid hn
  have HSZ := Lib.hid (bs_size s)
  have C := Lib.hid (fun (c : UInt8) => rin_any c t ht w)
  obtain ⟨r, hr⟩ : ∃ r, r = of9 s t m := ⟨_, rfl⟩
  rw [← hr]
  have HR := Lib.hid hr
  clear hn hr hs ht
  go_enter Try.func66, Try.ntmps66
  go_wp2_with fail
  go_loop [7] (fun i => ∃ k : Nat, k ≤ n ∧ i = .int .i64 k ∧ (s.take k).all (fun c => decide (c ∈ t)) = true) (fun i => n - (intOf i).toNat)
  case atStart => exact ⟨0, Nat.zero_le _, rfl, by simp⟩
  case round =>
    obtain ⟨k, hk, rfl, hok⟩ := hrel
    have HOK := Lib.hid hok
    clear hok
    by_cases hlt : k < n
    · have hks : k < s.length := by rw [← HN.out]; exact hlt
      have hkb : k < (bs s).size := by rw [HSZ.out]; exact hks
      have hlt' : (k : Int) < (n : Int) := by omega
      obtain ⟨x, hx⟩ : ∃ x : UInt8, x = s[k] := ⟨_, rfl⟩
      have hxv : (((bs s)[k]'hkb).toNat : Int) = ((x.toNat : Nat) : Int) := by rw [hx]; rfl
      obtain ⟨b, hb⟩ : ∃ b, b = decide (x ∈ t) := ⟨_, rfl⟩
      have CX := Lib.hid (C.out x)
      rw [← hb] at CX
      have HST := Lib.hid (show (s.take (k + 1)).all (fun c => decide (c ∈ t)) = b by
        rw [List.take_succ_eq_append_getElem hks, List.all_append, HOK.out, hb, hx]
        simp only [List.all_cons, List.all_nil, Bool.and_true, Bool.true_and]
        rfl)
      have HSF := Lib.hid (show b = false → r = false from fun h => by
        rw [HR.out, of9]
        have : s.all (fun c => decide (c ∈ t)) = false := by
          rw [List.all_eq_false]
          exact ⟨s[k], List.getElem_mem hks, by rw [← hx, ← hb, h]; simp⟩
        rw [this]
        rfl)
      have HLT := Lib.hid hlt
      clear hx hb
      go_wp2_with fail
      refine calls_then CX.out ?_
      rintro e w' ⟨rfl, rfl⟩
      cases b with
      | true =>
        go_wp2_with fail
        go_round
        case rel => exact ⟨k + 1, HLT.out, by go_num, HST.out⟩
        case measure => have := HLT.out; simp [intOf]; omega
      | false =>
        have HRF := Lib.hid (HSF.out rfl)
        go_wp2_with fail
        go_ret
        exact ⟨by rw [HRF.out]; rfl, rfl⟩
    · obtain rfl : k = n := by omega
      have HRE := Lib.hid (show r = (decide (1 ≤ k) && decide (k ≤ m)) by
        have h := HOK.out
        rw [HN.out, List.take_length] at h
        rw [HR.out, of9, h, HN.out]
        rfl)
      by_cases h1 : (1 : Int) ≤ (k : Int)
      · have d1 : decide ((1 : Int) ≤ (k : Int)) = true := by simpa using h1
        have D2 := Lib.hid (show decide (1 ≤ k) = true by simp; omega)
        go_wp2_with fail
        go_ret
        exact ⟨by rw [HRE.out, D2.out]; rfl, rfl⟩
      · have d1 : decide ((1 : Int) ≤ (k : Int)) = false := by simpa using h1
        have D2 := Lib.hid (show decide (1 ≤ k) = false by simp; omega)
        go_wp2_with fail
        go_ret
        exact ⟨by rw [HRE.out, D2.out]; rfl, rfl⟩
def domC : Bs := [97, 98, 99, 100, 101, 102, 103, 104, 105, 106, 107, 108, 109, 110, 111, 112, 113, 114, 115, 116, 117, 118, 119, 120, 121, 122, 48, 49, 50, 51, 52, 53, 54, 55, 56, 57, 46, 45]
theorem innerC_eq (c : UInt8) : innerC c = decide (c ∈ domC) := by
  have key : ∀ x : Fin 256, innerC (UInt8.ofNat x.1) = decide (UInt8.ofNat x.1 ∈ domC) := by decide +kernel
  have := key ⟨c.toNat, c.toNat_lt⟩
  simpa using this
theorem drop_eq {p : UInt8 → Bool} {l : Bs} : l.dropWhile p = l ↔ ∀ h : 0 < l.length, p (l[0]) = false := by
  cases l with
  | nil => simp
  | cons a r =>
    rw [List.dropWhile_cons]
    constructor
    · intro h _
      cases hp : p a with
      | false => simpa using hp
      | true =>
        rw [hp, if_pos rfl] at h
        have := congrArg List.length h
        have h2 := (List.dropWhile_sublist p (l := r)).length_le
        simp at this
        omega
    · intro h
      have := h (by simp)
      simp at this
      rw [if_neg (by simp [this])]
theorem trim_eq (s cs : Bs) (h0 : 0 < s.length) : (Lib.trimS s cs = s) ↔ (s[0] ∉ cs ∧ s[s.length - 1] ∉ cs) := by
  have hl : s.reverse.length = s.length := List.length_reverse
  have hlast : s.reverse[0]'(by omega) = s[s.length - 1] := by rw [List.getElem_reverse]; congr 1
  have hD : ∀ l : Bs, l.dropWhile (cs.contains ·) = l ↔ ∀ h : 0 < l.length, l[0] ∉ cs := fun l => by
    rw [drop_eq]
    constructor
    · intro h h1
      have := h h1
      simpa using this
    · intro h h1
      simpa using h h1
  unfold Lib.trimS Lib.trimLeftS Lib.trimRightS
  constructor
  · intro h
    have e1 := congrArg List.length h
    have e2 := (List.dropWhile_sublist (cs.contains ·) (l := (s.reverse.dropWhile (cs.contains ·)).reverse)).length_le
    have e3 := (List.dropWhile_sublist (cs.contains ·) (l := s.reverse)).length_le
    rw [List.length_reverse] at e2
    have e4 : s.reverse.dropWhile (cs.contains ·) = s.reverse := (List.dropWhile_sublist _).eq_of_length (by omega)
    rw [e4, List.reverse_reverse] at h
    refine ⟨(hD s).1 h h0, ?_⟩
    rw [← hlast]
    exact (hD s.reverse).1 e4 (by omega)
  · rintro ⟨h1, h2⟩
    rw [(hD s.reverse).2 (fun h => by rw [hlast]; exact h2), List.reverse_reverse]
    exact (hD s).2 fun _ => h1
theorem of9_dom (s : Bs) : of9 s domC 16 = (decide (s.length ≤ 16) && allD s) := by
  unfold of9 allD
  rw [show (fun c : UInt8 => decide (c ∈ domC)) = innerC from funext fun c => (innerC_eq c).symm]
  cases hq : s.all innerC with
  | false => simp
  | true =>
    cases s with
    | nil => simp
    | cons a r => simp
set_option maxHeartbeats 1000000 in
theorem rdom_any (s : Bs) (hs : s.length ≤ 100000) (w : World) : Calls Try.prog 68 #[.string (bs s)] w fun e w' => e = .returned (.bool (domB s)) ∧ w' = w := by
  have CO := Lib.hid (show Calls Try.prog 66 #[.string (bs s), .string ⟨#[97, 98, 99, 100, 101, 102, 103, 104, 105, 106, 107, 108, 109, 110, 111, 112, 113, 114, 115, 116, 117, 118, 119, 120, 121, 122, 48, 49, 50, 51, 52, 53, 54, 55, 56, 57, 46, 45]⟩, .int .i64 16] w fun e w' => e = .returned (.bool (of9 s domC 16)) ∧ w' = w from rof_any s domC 16 hs (by decide) (by decide) w)
  have CI := Lib.hid (fun (c : UInt8) => show Calls Try.prog 67 #[.int .u8 ((c.toNat : Nat) : Int), .string ⟨#[46, 45]⟩] w fun e w' => e = .returned (.bool (decide (c ∈ ([46, 45] : Bs)))) ∧ w' = w from rin_any c [46, 45] (by decide) w)
  obtain ⟨r, hr⟩ : ∃ r, r = domB s := ⟨_, rfl⟩
  rw [← hr]
  have hr2 : r = (of9 s domC 16 && decide (trimD s = s)) := by rw [hr, domB, of9_dom, Bool.and_assoc]
  have HLE := Lib.hid (show of9 s domC 16 = true → 0 < s.length from fun h => by
    unfold of9 at h
    simp only [Bool.and_eq_true, decide_eq_true_eq] at h
    omega)
  obtain ⟨b, hb⟩ : ∃ b, b = of9 s domC 16 := ⟨_, rfl⟩
  rw [← hb] at CO hr2 HLE
  have HR := Lib.hid hr2
  clear hr hr2 hb
  have hsz : ((bs s).size : Int) = (s.length : Int) := by rw [bs_size]
  have hsn : (s.length : Int) ≤ 100000 := by omega
  have HSZ := Lib.hid (bs_size s)
  go_enter Try.func68, Try.ntmps68
  go_wp2_with fail
  refine calls_then CO.out ?_
  rintro e w' ⟨rfl, rfl⟩
  cases b with
  | false =>
    have HRF := Lib.hid (show r = false from HR.out)
    go_wp2_with fail
    go_ret
    exact ⟨by rw [HRF.out]; rfl, rfl⟩
  | true =>
    have h0 := HLE.out rfl
    have h0' : 0 < (s.length : Int) := by omega
    obtain ⟨x, hx⟩ : ∃ x : UInt8, x = s[0] := ⟨_, rfl⟩
    obtain ⟨y, hy⟩ : ∃ y : UInt8, y = s[s.length - 1] := ⟨_, rfl⟩
    have hk0 : 0 < (bs s).size := by rw [HSZ.out]; exact h0
    have hk1 : s.length - 1 < (bs s).size := by rw [HSZ.out]; omega
    have hxv : (((bs s)[0]'hk0).toNat : Int) = ((x.toNat : Nat) : Int) := by rw [hx]; rfl
    have hyv : (((bs s)[s.length - 1]'hk1).toNat : Int) = ((y.toNat : Nat) : Int) := by rw [hy]; rfl
    have HRE := Lib.hid (show r = (!decide (x ∈ ([46, 45] : Bs)) && !decide (y ∈ ([46, 45] : Bs))) by
      rw [HR.out, Bool.true_and]
      unfold trimD
      have h := trim_eq s [46, 45] h0
      rw [← hx, ← hy] at h
      by_cases h1 : x ∈ ([46, 45] : Bs) <;> by_cases h2 : y ∈ ([46, 45] : Bs) <;> simp only [h1, h2, decide_true, decide_false, Bool.not_true, Bool.not_false, Bool.and_true, Bool.and_false] <;> (first | exact decide_eq_true (h.2 ⟨h1, h2⟩) | exact decide_eq_false (fun he => absurd h1 (h.1 he).1) | exact decide_eq_false (fun he => absurd h2 (h.1 he).2)))
    clear hx hy
    obtain ⟨p, hp⟩ : ∃ p, p = decide (x ∈ ([46, 45] : Bs)) := ⟨_, rfl⟩
    obtain ⟨q, hq⟩ : ∃ q, q = decide (y ∈ ([46, 45] : Bs)) := ⟨_, rfl⟩
    have CX := Lib.hid (CI.out x)
    have CY := Lib.hid (CI.out y)
    rw [← hp] at CX HRE
    rw [← hq] at CY HRE
    clear hp hq CI
    go_wp2_with fail
    refine calls_then CX.out ?_
    rintro e w' ⟨rfl, rfl⟩
    go_wp2_with fail
    refine calls_then CY.out ?_
    rintro e w' ⟨rfl, rfl⟩
    cases p <;> go_wp2_with fail
    all_goals go_ret
    all_goals exact ⟨by rw [HRE.out]; rfl, rfl⟩
end Go.Proofs.Ytcnebbhnpocofaa.Js
/-
  Walk: the reference's May, at any bundle.
-/
namespace Go.Proofs.Ytcnebbhnpocofaa.Js
set_option linter.unusedSimpArgs false
set_option linter.unusedVariables false
open Go.RowKit
theorem below_drewNq {B : Nat} {a w : World} (h : Below B a w) (n : Nat) : Below B a (w.drewN n) := ⟨h.os, h.tape, h.output, h.size, h.block⟩
set_option maxRecDepth 100000 in
set_option maxHeartbeats 8000000 in
theorem rmay_any (D : Bs) (num : Int) (ks : List (Bs × Bs)) (A : Option Addr) (c B : Nat) (w : World) (hr : Rd w B A (rowsV kCell ks)) (hB : B ≤ w.heap.size) (hD : D.length ≤ 100000) (hl : (ks.length : Int) ≤ 9223372036854775807)
    (hk : ∀ k ∈ ks, (k.2.length : Int) ≤ 9223372036854775807) :
    Calls Try.prog 61 #[.agg (bC D num A ks.length c)] w fun e w' => e = .returned (.bool (mayB D num ks)) ∧ Below w.heap.size w w' := by
  obtain ⟨r, hrr⟩ : ∃ r, r = mayB D num ks := ⟨_, rfl⟩
  rw [← hrr]
  have HRR := Lib.hid hrr
  clear hrr
  obtain ⟨n, hn⟩ : ∃ n, n = ks.length := ⟨_, rfl⟩
  rw [← hn] at hl ⊢
  have HN := Lib.hid hn
  obtain ⟨W0, hW0⟩ : ∃ W0, W0 = w.alloc (.cells (bC D num A n c) 45) := ⟨_, rfl⟩
  have hb0 : Below w.heap.size w W0 := by rw [hW0]; exact (Below.refl _ w).alloc (Nat.le_refl _) _
  have HB0 := Lib.hid hb0
  have HK := Lib.hid (show Blk W0 w.heap.size 45 (bC D num A n c) by rw [hW0]; exact Blk.new _ _ _)
  have HW0 := Lib.hid hW0
  have HR := Lib.hid (hr.below (hb0.mono hB))
  have HBB := Lib.hid hB
  have HKX := Lib.hid hk
  have HHD := Lib.hid (show headOk D num ks = (domB D && decide (0 ≤ num) && decide (num ≤ 1099511627776) && decide (n ≤ 8)) by rw [hn]; rfl)
  have C := Lib.hid (rdom_any D hD W0)
  obtain ⟨d, hd⟩ : ∃ d, d = domB D := ⟨_, rfl⟩
  rw [← hd] at C HHD
  have a0 : W0.cell? ⟨w.heap.size, 0, none⟩ = some (.string (bs D)) := HK.out.cell 0
  have a1 : W0.cell? ⟨w.heap.size, 1, none⟩ = some (.int .i64 num) := HK.out.cell 1
  have a2 : W0.cell? ⟨w.heap.size, 2, none⟩ = some (.slice A n c) := HK.out.cell 2
  clear hW0 hn hr hB hk hD hd hb0
  go_enter Try.func61, Try.ntmps61
  go_upto_region 1 with (fail)
  rw [show w.alloc (.cells (bC D num A n c) 45) = W0 from HW0.out.symm]
  generalize Value.agg (bC D num A n c) = AV
  go_wp2_with fail
  refine calls_then C.out ?_
  rintro e W0 ⟨rfl, rfl⟩
  cases d with
  | false =>
    have HNO := Lib.hid (mayB_no (HHD.out.trans (by rfl)))
    go_wp2_with fail
    go_ret
    exact ⟨by rw [HRR.out, HNO.out]; rfl, HB0.out⟩
  | true =>
    by_cases hn0 : num < 0
    · have HNO := Lib.hid (mayB_no (HHD.out.trans (by rw [decide_eq_false (show ¬ (0 ≤ num) by omega)]; rfl)))
      go_wp2_with fail
      go_ret
      exact ⟨by rw [HRR.out, HNO.out]; rfl, HB0.out⟩
    by_cases hn1 : 1099511627776 < num
    · have HNO := Lib.hid (mayB_no (HHD.out.trans (by rw [decide_eq_false (show ¬ (num ≤ 1099511627776) by omega)]; simp)))
      go_wp2_with fail
      go_ret
      exact ⟨by rw [HRR.out, HNO.out]; rfl, HB0.out⟩
    by_cases hn8 : 8 < (n : Int)
    · have HNO := Lib.hid (mayB_no (HHD.out.trans (by rw [decide_eq_false (show ¬ (n ≤ 8) by omega)]; simp)))
      go_wp2_with fail
      go_ret
      exact ⟨by rw [HRR.out, HNO.out]; rfl, HB0.out⟩
    have HHO := Lib.hid (show mayB D num ks = keysOk [] ks by
      unfold mayB
      rw [HHD.out, decide_eq_true (show 0 ≤ num by omega), decide_eq_true (show num ≤ 1099511627776 by omega), decide_eq_true (show n ≤ 8 by omega)]
      rfl)
    have hn8' : (n : Int) ≤ 8 := by omega
    clear hl
    go_upto_region 4 with (fail)
    clear hn0 hn1 hn8 a0 a1
    go_wp2_with fail
    go_loopw [4] (fun x wr => ∃ i : Nat, i ≤ n ∧ x = .int .i64 (i : Int) ∧ keysTo ks i ∧ Below W0.heap.size W0 wr) (fun x _ => n - (intOf x).toNat)
    case atStart => exact ⟨0, Nat.zero_le _, rfl, keysTo_zero ks, Below.refl _ _⟩
    case round =>
      obtain ⟨i, hi, rfl, hto, hbw⟩ := hrel
      have HTO := Lib.hid hto
      have HBW := Lib.hid hbw
      have a2 : wr.cell? ⟨w.heap.size, 2, none⟩ = some (.slice A n c) := (HK.out.below hbw HK.out.lt).cell 2
      clear hto hbw
      by_cases hlt : i < n
      · have huj := Try.underlying76
        have hil : i < ks.length := by rw [← HN.out]; exact hlt
        have hlt' : (i : Int) < (n : Int) := by omega
        obtain ⟨ad, hA, hadb, hcell⟩ := rd_rows (f := kCell) (m := 2) (fun _ => rfl) (by decide) (HR.out.below (HBW.out.mono (Nat.le_trans HBB.out HB0.out.size))) hil
        subst hA
        obtain ⟨X, hX⟩ : ∃ X, X = ks[i] := ⟨_, rfl⟩
        rw [← hX] at hcell
        have HCL := Lib.hid (show ∀ j u, (kCell X).toList[j]? = some u → wr.cell? ((ad.add (i * 2)).add j) = some u from fun j u hu => hcell j u (by simpa using hu))
        have HKL := Lib.hid (HKX.out X (by rw [hX]; exact List.getElem_mem hil))
        have HLT := Lib.hid hlt
        have HNK := Lib.hid (fun (hno : X.2.length = 32 → X.1 = nameL X.2 → X.1 ∈ (ks.take i).map (·.1)) => show mayB D num ks = false by
          rw [HHO.out]
          exact keysTo_no HTO.out hil (by rw [← hX]; exact hno))
        have HYK := Lib.hid (fun (h1 : X.2.length = 32) (h2 : X.1 = nameL X.2) (h3 : X.1 ∉ (ks.take i).map (·.1)) => show keysTo ks (i + 1) from
          keysTo_step HTO.out hil (by rw [← hX]; exact h1) (by rw [← hX]; exact h2) (by rw [← hX]; exact h3))
        clear hX hcell hadb hil hlt
        go_upto_region 8 with (first
          | refine wpList_get_rd (r := (kCell X).toList) HCL.out rfl rfl rfl huj rfl jk_size ?_
          | (refine wpList_put_box (cells := kCell X) (Blk.new _ _ _) rfl rfl rfl rfl jk_size rfl (kCell_one X) ?_; intro w5 hb5 hw5))
        have hbw5 : Below wr.heap.size wr w5 := box_low9 hw5
        obtain ⟨H, hH⟩ : ∃ H, H = wr.heap.size := ⟨_, rfl⟩
        rw [← hH] at hb5 ⊢
        have HK5 := Lib.hid hb5
        have HB5 := Lib.hid (HBW.out.trans (hbw5.mono HBW.out.size))
        have hc1 : w5.cell? ⟨H, 1, none⟩ = some (.string (bs X.2)) := hb5.cell 1
        have hs0 : ((bs X.2).size : Int) = (X.2.length : Int) := by rw [bs_size]
        have HHW := Lib.hid (show W0.heap.size ≤ H by rw [hH]; exact HBW.out.size)
        clear hb5 hw5 hbw5 a2 hH
        by_cases h32 : X.2.length = 32
        · have HS32 := Lib.hid (show (bs X.2).size = 32 by rw [bs_size, h32])
          have HSZ := Lib.hid (show ((bs X.2).size : Int) = 32 by rw [hs0, h32]; rfl)
          have HNA := Lib.hid (show ∀ A c u, Rd u u.heap.size A (bytesV X.2) → 32 ≤ c → Calls Try.prog 33 #[.slice A 32 c] u (fun e w' => e = .returned (.string (bs (nameL X.2))) ∧ Below u.heap.size u w') from
            fun A c u h1 h2 => by have h := rname_any X.2 (by omega) A c u h1 (by omega) (digS32_len2 X.2); rw [h32] at h; exact h)
          have hus := Try.underlying9
          have hub8 := Try.underlying78
          have hu8 := Try.underlying5
          have HC0 : Below w5.heap.size w5 w5.drew := (Below.refl _ _).drew
          have H32 := Lib.hid h32
          clear hs0 h32 hc1
          obtain ⟨q, hq⟩ : ∃ q, q = decide (X.1 = nameL X.2) := ⟨_, rfl⟩
          have HQ := Lib.hid (show ((bs X.1).toList == (bs (nameL X.2)).toList) = q by rw [bs_toList, bs_toList, hq]; by_cases h : X.1 = nameL X.2 <;> simp [h])
          have HQQ := Lib.hid hq
          clear hq
          apply wp_region_seqg (fun u => Below w5.heap.size w5 u) (fun u u' => Below u.heap.size u u') [_, _, _, _, _, _, _, _, _, undef, _, _, _] (gOf [(9, fun v u => BytFrom u 0 32 X.2 v)]) (by kernel_rfl) (by kernel_rfl) (stabL_of _ ⟨(fun _ _ _ h h0 => h0.step h), trivial⟩) HC0
          iterate 1
            ((first | (apply SeqG.next; rfl; rfl; rfl)); (simp only [act_put, act_put_none, List.setIfInBounds_toArray, List.set_cons_zero, List.set_cons_succ]; rfl); (intro w1 hC1 hf E hE; go_wp2; exact .mk (hE _ hC1 (Below.refl _ _))))
          apply SeqG.next
          · rfl
          · rfl
          · rfl
          · simp only [act_put, act_put_none, List.setIfInBounds_toArray, List.set_cons_zero, List.set_cons_succ]
            rfl
          · intro w1 hC1 hf E hE
            have d0 := (HK5.out.below hC1 HK5.out.lt).cell 1
            simp only [kCell, List.getElem?_toArray, List.getElem?_cons_zero, List.getElem?_cons_succ] at d0
            go_wp2
            exact .mk (hE _ hC1 (Below.refl _ _))
          apply SeqG.next
          · rfl
          · rfl
          · rfl
          · simp only [act_put, act_put_none, List.setIfInBounds_toArray, List.set_cons_zero, List.set_cons_succ]
            rfl
          · intro w1 hC1 hf E hE
            have hsz := HSZ.out
            go_wp2
            exact .mk (hE _ hC1 (Below.refl _ _))
          iterate 3
            first
            | (apply SeqG.no (fun _ => (Below.refl _ _)); rfl; rfl; rfl; rfl; rfl; (simp only [act_put, act_put_none, List.setIfInBounds_toArray, List.set_cons_zero, List.set_cons_succ]; rfl))
            | ((first | (apply SeqG.next; rfl; rfl; rfl) | (apply SeqG.yes; rfl; rfl; rfl; rfl; rfl)); (simp only [act_put, act_put_none, List.setIfInBounds_toArray, List.set_cons_zero, List.set_cons_succ]; rfl); (intro w1 hC1 hf E hE; go_wp2; exact .mk (hE _ hC1 (Below.refl _ _))))
          apply SeqG.yes
          · rfl
          · rfl
          · rfl
          · rfl
          · rfl
          · simp only [act_put, act_put_none, List.setIfInBounds_toArray, List.set_cons_zero, List.set_cons_succ]
            rfl
          · intro w1 hC1 hf E hE
            have d0 := (HK5.out.below hC1 HK5.out.lt).cell 0
            simp only [kCell, List.getElem?_toArray, List.getElem?_cons_zero, List.getElem?_cons_succ] at d0
            go_wp2
            exact .mk (hE _ hC1 (Below.refl _ _))
          iterate 1
            first
            | (apply SeqG.no (fun _ => (Below.refl _ _)); rfl; rfl; rfl; rfl; rfl; (simp only [act_put, act_put_none, List.setIfInBounds_toArray, List.set_cons_zero, List.set_cons_succ]; rfl))
            | ((first | (apply SeqG.next; rfl; rfl; rfl) | (apply SeqG.yes; rfl; rfl; rfl; rfl; rfl)); (simp only [act_put, act_put_none, List.setIfInBounds_toArray, List.set_cons_zero, List.set_cons_succ]; rfl); (intro w1 hC1 hf E hE; go_wp2; exact .mk (hE _ hC1 (Below.refl _ _))))
          apply SeqG.yes
          · rfl
          · rfl
          · rfl
          · rfl
          · rfl
          · simp only [act_put, act_put_none, List.setIfInBounds_toArray, List.set_cons_zero, List.set_cons_succ]
            rfl
          · intro w1 hC1 hf E hE
            have d0 := (HK5.out.below hC1 HK5.out.lt).cell 1
            simp only [kCell, List.getElem?_toArray, List.getElem?_cons_zero, List.getElem?_cons_succ] at d0
            go_wp2
            exact .mk (hE _ hC1 (Below.refl _ _))
          apply SeqG.yesS
          · rfl
          · rfl
          · rfl
          · rfl
          · intro w1 hC1 hf E hE
            simp only [act_put, act_put_none, List.setIfInBounds_toArray, List.set_cons_zero, List.set_cons_succ] at hE
            refine wpList_bytes_cap (s := bs X.2) hus hub8 hu8 rfl rfl rfl (by rw [HS32.out]; decide) ?_
            intro c7 w7 hr7 hc7 hm7 hb7
            rw [HS32.out] at hc7 ⊢
            go_wp2_with fail
            exact .mk (hE _ _ ⟨_, c7, rfl, hc7, hm7, Nat.zero_le _, hr7⟩ (hC1.trans (hb7.mono hC1.size)) hb7)
          intro x9
          simp only [act_put, act_put_none, List.setIfInBounds_toArray, List.set_cons_zero, List.set_cons_succ]
          apply SeqG.yes
          · rfl
          · rfl
          · rfl
          · rfl
          · rfl
          · simp only [act_put, act_put_none, List.setIfInBounds_toArray, List.set_cons_zero, List.set_cons_succ]
            rfl
          · intro w1 hC1 hf E hE
            have f9 := (hf 9 (of_decide_eq_true (by kernel_rfl))).1 rfl
            obtain ⟨g9, c9, hx9, hc9, hm9, hl9, hr9⟩ := f9
            subst hx9
            go_wp2_with fail
            refine calls_then (HNA.out _ c9 _ hr9 hc9) ?_
            rintro e w2 ⟨rfl, hb2⟩
            go_wp2_with fail
            exact .mk (hE _ (hC1.trans (hb2.mono hC1.size)) hb2)
          apply SeqG.yes
          · rfl
          · rfl
          · rfl
          · rfl
          · rfl
          · simp only [act_put, act_put_none, List.setIfInBounds_toArray, List.set_cons_zero, List.set_cons_succ]
            rfl
          · intro w1 hC1 hf E hE
            have hq := HQ.out
            go_wp2
            exact .mk (hE _ hC1 (Below.refl _ _))
          iterate 1
            ((first | (apply SeqG.next; rfl; rfl; rfl)); (simp only [act_put, act_put_none, List.setIfInBounds_toArray, List.set_cons_zero, List.set_cons_succ]; rfl); (intro w1 hC1 hf E hE; go_wp2; exact .mk (hE _ hC1 (Below.refl _ _))))
          refine SeqG.nil ?_
          intro w1 hC1 hf
          have f9 := (hf 9).1 rfl
          clear hf
          have HB6 := Lib.hid (HB5.out.trans (hC1.mono HB5.out.size))
          have HK6 := Lib.hid (HK5.out.below hC1 HK5.out.lt)
          clear hC1 HC0
          cases q with
          | false =>
            have HNO := Lib.hid (HNK.out fun _ h => absurd h (of_decide_eq_false HQQ.out.symm))
            go_wp2_with fail
            go_ret
            exact ⟨by rw [HRR.out, HNO.out]; rfl, HB0.out.trans (HB6.out.mono HB0.out.size)⟩
          | true =>
            have HKN := Lib.hid (show X.1 = nameL X.2 from of_decide_eq_true HQQ.out.symm)
            go_wp2_with fail
            go_loopw [6] (fun x wq => ∃ j : Nat, j ≤ i ∧ x = .int .i64 (j : Int) ∧ X.1 ∉ (ks.take j).map (·.1) ∧ Below w1.heap.size w1 wq) (fun x _ => i - (intOf x).toNat)
            case atStart => exact ⟨0, Nat.zero_le _, rfl, by simp, Below.refl _ _⟩
            case round =>
              obtain ⟨j, hj, rfl, hno, hbq⟩ := hrel
              have HNJ := Lib.hid hno
              have HBQ := Lib.hid hbq
              have HBX := Lib.hid (HB6.out.trans (hbq.mono HB6.out.size))
              have b2 : wr.cell? ⟨w.heap.size, 2, none⟩ = some (.slice (some ad) n c) := (HK.out.below HBX.out HK.out.lt).cell 2
              have b0 : wr.cell? ⟨H, 0, none⟩ = some (.string (bs X.1)) := (HK6.out.below hbq HK6.out.lt).cell 0
              clear hno hbq
              by_cases hlj : j < i
              · have hjl : j < ks.length := by have := HN.out; have := HLT.out; omega
                have hlj' : (j : Int) < (i : Int) := by omega
                have hjn : (j : Int) < (n : Int) := by have := HLT.out; omega
                obtain ⟨ad2, hA2, -, hcell2⟩ := rd_rows (f := kCell) (m := 2) (fun _ => rfl) (by decide) (HR.out.below (HBX.out.mono (Nat.le_trans HBB.out HB0.out.size))) hjl
                injection hA2 with hA2
                subst hA2
                obtain ⟨Y, hY⟩ : ∃ Y, Y = ks[j] := ⟨_, rfl⟩
                rw [← hY] at hcell2
                have c0 : wr.cell? (ad.add (j * 2)) = some (.string (bs Y.1)) := hcell2 0 _ rfl
                have HLJ := Lib.hid hlj
                by_cases hq : Y.1 = X.1
                · have hq' : ((bs Y.1).toList == (bs X.1).toList) = true := by rw [bs_toList, bs_toList]; simpa using hq
                  have HNO := Lib.hid (HNK.out fun _ _ => List.mem_map.2 ⟨Y, by
                    rw [hY]
                    exact List.mem_take_iff_getElem.2 ⟨j, by omega, rfl⟩, hq⟩)
                  clear hY hcell2 hjl hlj hq
                  go_wp2_with fail
                  go_quiet (fail)
                  go_wp2_with fail
                  go_ret
                  exact ⟨by rw [HRR.out, HNO.out]; rfl, below_drewNq (HB0.out.trans (HBX.out.mono HB0.out.size)) _⟩
                · have hq' : ((bs Y.1).toList == (bs X.1).toList) = false := by rw [bs_toList, bs_toList]; simpa using hq
                  have HN2 := Lib.hid (show X.1 ∉ (ks.take (j + 1)).map (·.1) by
                    rw [List.take_succ_eq_append_getElem hjl, List.map_append, List.mem_append]
                    rintro (h1 | h1)
                    · exact HNJ.out h1
                    · have h2 : X.1 = ks[j].1 := List.mem_singleton.1 h1
                      exact hq (by rw [hY, h2]))
                  clear hY hcell2 hjl hlj hq
                  go_wp2_with fail
                  go_quiet (fail)
                  go_wp2_with fail
                  go_roundw
                  case rel => exact ⟨j + 1, HLJ.out, by go_num, HN2.out, below_drewNq HBQ.out _⟩
                  case measure => have := HLJ.out; simp [intOf]; omega
              · obtain rfl : j = i := by omega
                have HTO2 := Lib.hid (HYK.out H32.out HKN.out HNJ.out)
                clear hlj
                go_wp2_with fail
                go_roundw
                case rel => exact ⟨j + 1, HLT.out, by go_num, HTO2.out, HBX.out⟩
                case measure => have := HLT.out; simp [intOf]; omega
        · have h32' : ¬ ((bs X.2).size : Int) = 32 := by omega
          have HNO := Lib.hid (HNK.out fun h => absurd h h32)
          clear hs0 h32
          go_quiet (fail)
          go_wp2_with fail
          go_ret
          exact ⟨by rw [HRR.out, HNO.out]; rfl, below_drewNq (HB0.out.trans (HB5.out.mono HB0.out.size)) _⟩
      · obtain rfl : i = n := by omega
        have HYS := Lib.hid (show mayB D num ks = true by rw [HHO.out]; exact keysTo_all HTO.out HN.out)
        go_wp2_with fail
        go_ret
        exact ⟨by rw [HRR.out, HYS.out]; rfl, HB0.out.trans (HBW.out.mono HB0.out.size)⟩
end Go.Proofs.Ytcnebbhnpocofaa.Js
