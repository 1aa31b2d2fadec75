/-
  Joined texts: Jy2 Words Turned ShaM ShaX.
-/
import Derived.Laws.Bits64
import Derived.Laws.BitsLemmas
import Derived.Test.YtilhhigdegccgaaDoorProg
import Derived.BigQuiet
import Derived.Deep.QuietTactic
import Derived.IntWalk
import Derived.Test.YtilhhigdegccgaaDoorJ12
import Derived.Test.YtilhhigdegccgaaDoorJ1
import Derived.Test.YtilhhigdegccgaaDoorJ8
import Derived.Test.YtilhhigdegccgaaDoorJ10
/-
  Walks: attest.Join and the document's. (Printed by gen/jy20.py.)
-/
namespace Go.Proofs.YtilhhigdegccgaaDoor
set_option linter.unusedSimpArgs false
set_option linter.unusedVariables false
open Go.RowKit
def zNo : NodeD := ⟨⟨#[]⟩, ⟨#[]⟩, 0, 0, ⟨#[]⟩⟩
theorem op_zero : Tryd.prog.built 47 [] = some (opN 0 0 ⟨#[]⟩ zNo) := by kernel_rfl
theorem node_three (ag key : ByteArray) (u : Int) : Tryd.prog.built 40 [(0, .string ag), (1, .string key), (2, .int .i64 u)] = some (nodeCells ⟨ag, key, u, 0, ⟨#[]⟩⟩) := by kernel_rfl
theorem op_four (tok : ByteArray) (k : NodeD) : Tryd.prog.built 47 [(0, .int .i64 4), (2, .string tok), (5, .agg (nodeCells k))] = some (opN 4 0 tok k) := by kernel_rfl
def opV (o : Option NodeD) (tok : ByteArray) : Array Value := match o with
  | none => opN 0 0 ⟨#[]⟩ zNo
  | some k => opN 4 0 tok k
def joinX (d : LedD) (tok ag key : ByteArray) (now ttl : Int) : Option NodeD × Int :=
  match d.joins.l.find? (eqJ tok) with
  | none => (none, 7)
  | some j => if j.used = true then (none, 20) else if j.exp ≤ now then (none, 15) else if ¬ ((ag.toList == j.name.toList) = true ∧ soundB key now ttl = true) then (none, 1) else if hasB d.bans.l ag = true then (none, 21) else (some ⟨ag, key, timeC now ttl, 0, ⟨#[]⟩⟩, 0)
def JxPost (d : LedD) (tok ag key : ByteArray) (now ttl : Int) (w : World) (e : Ending) (w' : World) : Prop := e = .returned (.tuple #[.agg (opV (joinX d tok ag key now ttl).1 tok), .int .i64 (joinX d tok ag key now ttl).2]) ∧ Below w.heap.size w w'
theorem opQ2_size : (Tryd.prog.info? 47).map (·.size) = some 24 := by kernel_rfl
set_option maxRecDepth 100000 in
set_option maxHeartbeats 8000000 in
theorem ajoin_any (d : LedD) (tok ag key : ByteArray) (now ttl : Int) (w : World) (h : LedOk w 900 d) :
    Calls Tryd.prog 6 #[.agg (ledCells d), .string tok, .string ag, .string key, .int .i64 now, .int .i64 ttl] w (JxPost d tok ag key now ttl w) := by
  have huo := Tryd.underlying47
  have huj := Tryd.underlying38
  have hmf : ∀ (fn : Fn) (first cap : Array Value) (u : World), (Instr.makeFunc fn first cap).run Tryd.prog u = .ok (.func fn first cap) u := fun _ _ _ _ => rfl
  obtain ⟨W0, hW0⟩ : ∃ W0, W0 = ((w.alloc (.cells (ledCells d) 33)).alloc (.cells #[.string tok] 9)).alloc (.cells (opN 0 0 ⟨#[]⟩ zNo) 47) := ⟨_, rfl⟩
  have hb0 : Below w.heap.size w W0 := by rw [hW0]; exact (((Below.refl _ w).alloc (Nat.le_refl _) _).alloc (by simp) _).alloc (by simp; omega) _
  have HB0 := Lib.hid hb0
  have HK0 := Lib.hid (show Blk W0 w.heap.size 33 (ledCells d) by rw [hW0]; exact ((Blk.new _ _ _).alloc _).alloc _)
  have HS0 := Lib.hid (show Blk W0 (w.heap.size + 1) 9 #[.string tok] by rw [hW0]; have := (Blk.new (w.alloc (.cells (ledCells d) 33)) 9 #[.string tok]).alloc (.cells (opN 0 0 ⟨#[]⟩ zNo) 47); simpa using this)
  have HO0 := Lib.hid (show Blk W0 (w.heap.size + 2) 47 (opN 0 0 ⟨#[]⟩ zNo) by rw [hW0]; have := Blk.new ((w.alloc (.cells (ledCells d) 33)).alloc (.cells #[.string tok] 9)) 47 (opN 0 0 ⟨#[]⟩ zNo); simpa using this)
  have HW0 := Lib.hid hW0
  have hok := h.grow hb0
  have HOK := Lib.hid hok
  have HC := Lib.hid (jfind_any d.joins.l tok d.joins.A d.joins.c W0.heap.size (w.heap.size + 1) W0 hok.joins.row.rd (Nat.le_refl _) (by have := hok.joins.len; omega) HS0.out)
  have a3 : W0.cell? ⟨w.heap.size, 3, none⟩ = some (.slice d.joins.A d.joins.l.length d.joins.c) := HK0.out.cell 3
  have HX := Lib.hid (show JxPost d tok ag key now ttl w = fun e w' => e = .returned (.tuple #[.agg (opV (joinX d tok ag key now ttl).1 tok), .int .i64 (joinX d tok ag key now ttl).2]) ∧ Below w.heap.size w w' from rfl)
  have HJX := Lib.hid (show joinX d tok ag key now ttl = match d.joins.l.find? (eqJ tok) with
    | none => (none, 7)
    | some j => if j.used = true then (none, 20) else if j.exp ≤ now then (none, 15) else if ¬ ((ag.toList == j.name.toList) = true ∧ soundB key now ttl = true) then (none, 1) else if hasB d.bans.l ag = true then (none, 21) else (some ⟨ag, key, timeC now ttl, 0, ⟨#[]⟩⟩, 0) from rfl)
  have HJF := Lib.hid (show jfind d.joins.l tok = match d.joins.l.find? (eqJ tok) with | some k => (k, true) | none => (zJn, false) from rfl)
  have CH := Lib.hid (show ∀ u, Below W0.heap.size W0 u → Calls Tryd.prog 18 #[.slice d.bans.A d.bans.l.length d.bans.c, .string ag] u fun e w' => e = .returned (.bool (hasB d.bans.l ag)) ∧ w' = u from fun u hu => by
    have := (HOK.out.grow hu).bans
    exact has15c_any d.bans.l ag d.bans.A d.bans.c u.heap.size u this.row.rd (by have := this.len; omega))
  have CU := Lib.hid (fun (u : World) => cuntil_any now ttl u)
  have CS := Lib.hid (fun (u : World) => csound_any key now ttl u)
  have a2 : ∀ u, Below W0.heap.size W0 u → u.cell? ⟨w.heap.size, 2, none⟩ = some (.slice d.bans.A d.bans.l.length d.bans.c) := fun u hu => (HK0.out.below hu HK0.out.lt).cell 2
  have HA2 := Lib.hid a2
  obtain ⟨J0, hJ0⟩ : ∃ J, J = jfind d.joins.l tok := ⟨_, rfl⟩
  rw [← hJ0] at HC HJF
  obtain ⟨F, hF⟩ : ∃ F, F = d.joins.l.find? (eqJ tok) := ⟨_, rfl⟩
  rw [← hF] at HJX HJF
  obtain ⟨RX, hRX⟩ : ∃ R, R = joinX d tok ag key now ttl := ⟨_, rfl⟩
  rw [← hRX] at HJX HX
  rw [HX.out]
  obtain ⟨hb, hhb⟩ : ∃ b, b = hasB d.bans.l ag := ⟨_, rfl⟩
  rw [← hhb] at HJX CH
  obtain ⟨sb, hsb⟩ : ∃ b, b = soundB key now ttl := ⟨_, rfl⟩
  rw [← hsb] at HJX CS
  obtain ⟨un, hun⟩ : ∃ b, b = timeC now ttl := ⟨_, rfl⟩
  rw [← hun] at HJX CU
  clear hW0 hb0 h hok a2 hJ0 hF hRX hhb hsb hun
  go_enter Tryd.func6, Tryd.ntmps6
  go_upto_region 1 with (fail)
  rw [show ((w.alloc (.cells (ledCells d) 33)).alloc (.cells #[.string tok] 9)).alloc (.cells #[.int .i64 0, .int .i64 0, .string ⟨#[]⟩, .int .i64 0, .string ⟨#[]⟩, .string ⟨#[]⟩, .int .i64 0, .slice none 0 0, .string ⟨#[]⟩, .string ⟨#[]⟩, .int .i64 0, .bool false, .string ⟨#[]⟩, .string ⟨#[]⟩, .int .i64 0, .int .i64 0, .string ⟨#[]⟩, .string ⟨#[]⟩, .string ⟨#[]⟩, .int .i64 0, .int .i64 0, .string ⟨#[]⟩, .int .i64 0, .slice none 0 0] 47) = W0 from HW0.out.symm]
  generalize Value.agg (ledCells d) = AV
  go_wp2_with fail
  refine calls_then HC.out ?_
  rintro e w1 ⟨rfl, hb1⟩
  have HB1 := Lib.hid hb1
  clear hb1 a3 HC
  go_upto_region 2 with (refine wpList_put_box (cells := joinCells J0.1) (Blk.new _ _ _) rfl rfl rfl rfl joinT_size rfl (joinCells_one _) ?_; intro w2 hb2 hw2)
  have hbw2 : Below w1.heap.size w1 w2 := box_low9 hw2
  obtain ⟨H, hH⟩ : ∃ H, H = w1.heap.size := ⟨_, rfl⟩
  rw [← hH] at hb2 ⊢
  have HJ2 := Lib.hid hb2
  have HB2 := Lib.hid (HB1.out.trans (hbw2.mono HB1.out.size))
  have HO2 := Lib.hid (HO0.out.below HB2.out HO0.out.lt)
  have HBW := Lib.hid (HB0.out.trans (HB2.out.mono HB0.out.size))
  clear hb2 hw2 hbw2 hH
  obtain ⟨JD, JB⟩ := J0
  dsimp only at HJ2 ⊢
  cases F with
  | none =>
    have hJ : (JD, JB) = (zJn, false) := HJF.out
    injection hJ with hJ1 hJ2
    subst hJ2
    have HRX := Lib.hid (show RX = (none, 7) from HJX.out)
    go_wp2_with (first
      | (refine wpList_build_any (cells := opN 0 0 ⟨#[]⟩ zNo) rfl #[] rfl op_zero ?_)
      | (refine wpList_put_box (x := .tmp 12) (cells := opN 0 0 ⟨#[]⟩ zNo) HO2.out rfl rfl rfl rfl opQ2_size rfl (opN_one _ _ _ _) ?_; intro w9 hb9 hw9))
    have HB9 := Lib.hid hb9
    have HF9 := Lib.hid (hw9.below HBW.out (by omega) (HBW.out).size)
    refine bodyPost_ret (results_box_tmp (P := Tryd.prog) rfl rfl HB9.out huo rfl opQ2_size) rfl ?_
    exact ⟨by rw [HRX.out]; rfl, HF9.out⟩
  | some j =>
    have hJ : (JD, JB) = (j, true) := HJF.out
    injection hJ with hJ1 hJ2
    subst hJ1 hJ2
    have HJ1 := Lib.hid (show RX = if JD.used = true then (none, 20) else if JD.exp ≤ now then (none, 15) else if ¬ ((ag.toList == JD.name.toList) = true ∧ sb = true) then (none, 1) else if hb = true then (none, 21) else (some ⟨ag, key, un, 0, ⟨#[]⟩⟩, 0) from HJX.out)
    obtain ⟨us, hus⟩ : ∃ us, us = JD.used := ⟨_, rfl⟩
    have c3 : w2.cell? ⟨H, 3, none⟩ = some (.bool us) := by rw [hus]; exact HJ2.out.cell 3
    have c2 : w2.cell? ⟨H, 2, none⟩ = some (.int .i64 JD.exp) := HJ2.out.cell 2
    have c1 : w2.cell? ⟨H, 1, none⟩ = some (.string JD.name) := HJ2.out.cell 1
    have HUS := Lib.hid hus
    clear hus
    cases us with
    | true =>
      have HRX := Lib.hid (show RX = (none, 20) by rw [HJ1.out, if_pos HUS.out.symm])
      go_wp2_with (first
        | (refine wpList_build_any (cells := opN 0 0 ⟨#[]⟩ zNo) rfl #[] rfl op_zero ?_)
        | (refine wpList_put_box (x := .tmp 12) (cells := opN 0 0 ⟨#[]⟩ zNo) HO2.out rfl rfl rfl rfl opQ2_size rfl (opN_one _ _ _ _) ?_; intro w9 hb9 hw9))
      have HB9 := Lib.hid hb9
      have HF9 := Lib.hid (hw9.below HBW.out (by omega) (HBW.out).size)
      refine bodyPost_ret (results_box_tmp (P := Tryd.prog) rfl rfl HB9.out huo rfl opQ2_size) rfl ?_
      exact ⟨by rw [HRX.out]; rfl, HF9.out⟩
    | false =>
      have HU0 := Lib.hid (show ¬ JD.used = true by rw [← HUS.out]; simp)
      obtain ⟨ov, hov⟩ : ∃ ov, ov = decide (JD.exp ≤ now) := ⟨_, rfl⟩
      have CO := Lib.hid (show Calls Tryd.prog 16 #[.int .i64 now, .int .i64 JD.exp] w2 (fun e w' => e = .returned (.bool ov) ∧ w' = w2) by rw [hov]; exact cover_any now JD.exp w2)
      have HOV := Lib.hid hov
      clear hov
      go_wp2_with fail
      refine calls_then CO.out ?_
      rintro e w3 ⟨rfl, rfl⟩
      cases ov with
      | true =>
        have HRX := Lib.hid (show RX = (none, 15) by rw [HJ1.out, if_neg HU0.out, if_pos (of_decide_eq_true HOV.out.symm)])
        go_wp2_with (first
          | (refine wpList_build_any (cells := opN 0 0 ⟨#[]⟩ zNo) rfl #[] rfl op_zero ?_)
          | (refine wpList_put_box (x := .tmp 12) (cells := opN 0 0 ⟨#[]⟩ zNo) HO2.out rfl rfl rfl rfl opQ2_size rfl (opN_one _ _ _ _) ?_; intro w9 hb9 hw9))
        have HB9 := Lib.hid hb9
        have HF9 := Lib.hid (hw9.below HBW.out (by omega) (HBW.out).size)
        refine bodyPost_ret (results_box_tmp (P := Tryd.prog) rfl rfl HB9.out huo rfl opQ2_size) rfl ?_
        exact ⟨by rw [HRX.out]; rfl, HF9.out⟩
      | false =>
        have HE0 := Lib.hid (show ¬ JD.exp ≤ now from of_decide_eq_false HOV.out.symm)
        obtain ⟨qn, hqn⟩ : ∃ q, (ag.toList == JD.name.toList) = q := ⟨_, rfl⟩
        cases qn with
        | false =>
          have HRX := Lib.hid (show RX = (none, 1) by rw [HJ1.out, if_neg HU0.out, if_neg (show ¬ JD.exp ≤ now by have := HE0.out; omega), if_pos (by rw [hqn]; simp)])
          go_wp2_with (first
            | (refine wpList_build_any (cells := opN 0 0 ⟨#[]⟩ zNo) rfl #[] rfl op_zero ?_)
            | (refine wpList_put_box (x := .tmp 12) (cells := opN 0 0 ⟨#[]⟩ zNo) HO2.out rfl rfl rfl rfl opQ2_size rfl (opN_one _ _ _ _) ?_; intro w9 hb9 hw9))
          have HB9 := Lib.hid hb9
          have HF9 := Lib.hid (hw9.below HBW.out (by omega) (HBW.out).size)
          refine bodyPost_ret (results_box_tmp (P := Tryd.prog) rfl rfl HB9.out huo rfl opQ2_size) rfl ?_
          exact ⟨by rw [HRX.out]; rfl, HF9.out⟩
        | true =>
          have HQN := Lib.hid hqn
          go_wp2_with fail
          refine calls_then (CS.out _) ?_
          rintro e w4 ⟨rfl, rfl⟩
          cases sb with
          | false =>
            have HRX := Lib.hid (show RX = (none, 1) by rw [HJ1.out, if_neg HU0.out, if_neg (show ¬ JD.exp ≤ now by have := HE0.out; omega), if_pos (by simp)])
            go_wp2_with (first
              | (refine wpList_build_any (cells := opN 0 0 ⟨#[]⟩ zNo) rfl #[] rfl op_zero ?_)
              | (refine wpList_put_box (x := .tmp 12) (cells := opN 0 0 ⟨#[]⟩ zNo) HO2.out rfl rfl rfl rfl opQ2_size rfl (opN_one _ _ _ _) ?_; intro w9 hb9 hw9))
            have HB9 := Lib.hid hb9
            have HF9 := Lib.hid (hw9.below HBW.out (by omega) (HBW.out).size)
            refine bodyPost_ret (results_box_tmp (P := Tryd.prog) rfl rfl HB9.out huo rfl opQ2_size) rfl ?_
            exact ⟨by rw [HRX.out]; rfl, HF9.out⟩
          | true =>
            have b2 := HA2.out _ HB2.out
            go_wp2_with fail
            refine calls_then (CH.out _ HB2.out) ?_
            rintro e w5 ⟨rfl, rfl⟩
            cases hb with
            | true =>
              have HRX := Lib.hid (show RX = (none, 21) by rw [HJ1.out, if_neg HU0.out, if_neg (show ¬ JD.exp ≤ now by have := HE0.out; omega), if_neg (by rw [HQN.out]; simp), if_pos rfl])
              go_wp2_with (first
                | (refine wpList_build_any (cells := opN 0 0 ⟨#[]⟩ zNo) rfl #[] rfl op_zero ?_)
                | (refine wpList_put_box (x := .tmp 12) (cells := opN 0 0 ⟨#[]⟩ zNo) HO2.out rfl rfl rfl rfl opQ2_size rfl (opN_one _ _ _ _) ?_; intro w9 hb9 hw9))
              have HB9 := Lib.hid hb9
              have HF9 := Lib.hid (hw9.below HBW.out (by omega) (HBW.out).size)
              refine bodyPost_ret (results_box_tmp (P := Tryd.prog) rfl rfl HB9.out huo rfl opQ2_size) rfl ?_
              exact ⟨by rw [HRX.out]; rfl, HF9.out⟩
            | false =>
              have HRX := Lib.hid (show RX = (some ⟨ag, key, un, 0, ⟨#[]⟩⟩, 0) by rw [HJ1.out, if_neg HU0.out, if_neg (show ¬ JD.exp ≤ now by have := HE0.out; omega), if_neg (by rw [HQN.out]; simp), if_neg (by simp)])
              obtain ⟨wq, hwq⟩ : ∃ wq, wq = w5 := ⟨_, rfl⟩
              rw [← hwq] at HB2 HO2 HBW ⊢
              have HT := Lib.hid (show Blk wq (w.heap.size + 1) 9 #[.string tok] from HS0.out.below HB2.out HS0.out.lt)
              have t0 : wq.cell? ⟨w.heap.size + 1, 0, none⟩ = some (.string tok) := HT.out.cell 0
              clear hwq c1 c2 c3 b2 hqn CO
              go_wp2_with fail
              have HC0 : Below wq.heap.size wq wq.drew := (Below.refl _ _).drew
              apply wp_region_seqh (fun u => Below wq.heap.size wq u) (fun u u' => Below u.heap.size u u') [_, _, _, _, _, _, .agg (nodeCells ⟨ag, key, un, 0, ⟨#[]⟩⟩), .agg (opN 4 0 tok ⟨ag, key, un, 0, ⟨#[]⟩⟩)] (gOf []) 8 (by kernel_rfl) (by kernel_rfl) (by decide) (by kernel_rfl) (stabL_of _ trivial) HC0
              simp only [List.take_succ_cons, List.take_zero, List.drop_succ_cons, List.drop_zero]
              apply SeqG.next
              · rfl
              · rfl
              · rfl
              · simp only [act_put, act_put_none, List.setIfInBounds_toArray, List.set_cons_zero, List.set_cons_succ]
                rfl
              · intro w1 hC1 hf E hE
                have d0 := (hC1.cell (p := ⟨w.heap.size + 1, 0, none⟩) HT.out.lt).trans t0
                go_wp2
                exact .mk (hE _ hC1 (Below.refl _ _))
              iterate 4
                ((first | (apply SeqG.next; rfl; rfl; rfl)); (simp only [act_put, act_put_none, List.setIfInBounds_toArray, List.set_cons_zero, List.set_cons_succ]; rfl); (intro w1 hC1 hf E hE; go_wp2; exact .mk (hE _ hC1 (Below.refl _ _))))
              apply SeqG.next
              · rfl
              · rfl
              · rfl
              · simp only [act_put, act_put_none, List.setIfInBounds_toArray, List.set_cons_zero, List.set_cons_succ]
                rfl
              · intro w1 hC1 hf E hE
                go_wp2_with fail
                refine calls_then (CU.out _) ?_
                rintro e w7 ⟨rfl, hb7⟩
                go_wp2_with fail
                exact .mk (hE _ (hC1.trans (hb7.mono hC1.size)) hb7)
              apply SeqG.next
              · rfl
              · rfl
              · rfl
              · simp only [act_put, act_put_none, List.setIfInBounds_toArray, List.set_cons_zero, List.set_cons_succ]
                rfl
              · intro w1 hC1 hf E hE
                refine wpList_build_any (cells := nodeCells ⟨ag, key, un, 0, ⟨#[]⟩⟩) rfl _ rfl (by kernel_rfl) ?_
                go_wp2_with fail
                exact .mk (hE _ hC1 (Below.refl _ _))
              apply SeqG.next
              · rfl
              · rfl
              · rfl
              · simp only [act_put, act_put_none, List.setIfInBounds_toArray, List.set_cons_zero, List.set_cons_succ]
                rfl
              · intro w1 hC1 hf E hE
                refine wpList_build_any (cells := opN 4 0 tok ⟨ag, key, un, 0, ⟨#[]⟩⟩) rfl _ rfl (by kernel_rfl) ?_
                go_wp2_with fail
                exact .mk (hE _ hC1 (Below.refl _ _))
              refine SeqG.nil ?_
              intro w1 hC1 hf
              clear hf
              refine SeqT.step rfl ?_
              intro E hE
              simp only [act_put, act_put_none, List.setIfInBounds_toArray, List.set_cons_zero, List.set_cons_succ] at hE
              have HBC := Lib.hid hC1
              refine wpList_put_box (cells := opN 4 0 tok ⟨ag, key, un, 0, ⟨#[]⟩⟩) (HO2.out.below hC1 HO2.out.lt) rfl rfl rfl rfl opQ2_size rfl (opN_one _ _ _ _) ?_
              intro w9 hb9 hw9
              have HB9 := Lib.hid hb9
              have HW9 := Lib.hid hw9
              clear hb9 hw9
              go_wp2_with fail
              refine .mk (hE undef _ ?_)
              clear hE E
              refine SeqT.step rfl ?_
              intro E hE
              simp only [act_put, act_put_none, List.setIfInBounds_toArray, List.set_cons_zero, List.set_cons_succ] at hE
              go_wp2
              refine .mk (hE _ _ ?_)
              clear hE E
              refine SeqT.nil ?_
              have HF9 := Lib.hid (HW9.out.below (HBW.out.trans (HBC.out.mono HBW.out.size)) (by omega) (HBW.out.trans (HBC.out.mono HBW.out.size)).size)
              clear hC1 HC0
              go_wp2_with fail
              refine bodyPost_ret (results_box_tmp (P := Tryd.prog) rfl rfl HB9.out huo rfl opQ2_size) rfl ?_
              exact ⟨by rw [HRX.out]; rfl, HF9.out⟩
end Go.Proofs.YtilhhigdegccgaaDoor
/-
  Plain: words as natural numbers, and how the walk spells what is done to them.
-/
namespace Go.Proofs.YtilhhigdegccgaaDoor
set_option linter.unusedSimpArgs false
set_option linter.unusedVariables false
open Go.RowKit
section
variable (a b : Nat)
theorem xor64 (ha : a < 18446744073709551616) (hb : b < 18446744073709551616) : bits .xor .u64 (a : Int) (b : Int) = ((a ^^^ b : Nat) : Int) := by
  show IntKind.u64.wrap ((BitVec.ofInt 64 (a : Int) ^^^ BitVec.ofInt 64 (b : Int)).toNat : Int) = _
  have h := Nat.xor_lt_two_pow (n := 64) (x := a) (y := b) ha hb
  rw [BitVec.toNat_xor, BitVec.ofInt_natCast, BitVec.ofInt_natCast, BitVec.toNat_ofNat, BitVec.toNat_ofNat, Nat.mod_eq_of_lt ha, Nat.mod_eq_of_lt hb, IntKind.wrap_u64]
  omega
theorem and64 (ha : a < 18446744073709551616) (hb : b < 18446744073709551616) : bits .and .u64 (a : Int) (b : Int) = ((a &&& b : Nat) : Int) := by
  show IntKind.u64.wrap ((BitVec.ofInt 64 (a : Int) &&& BitVec.ofInt 64 (b : Int)).toNat : Int) = _
  have h : a &&& b ≤ a := Nat.and_le_left
  rw [BitVec.toNat_and, BitVec.ofInt_natCast, BitVec.ofInt_natCast, BitVec.toNat_ofNat, BitVec.toNat_ofNat, Nat.mod_eq_of_lt ha, Nat.mod_eq_of_lt hb, IntKind.wrap_u64]
  omega
end
theorem ret_int' {k : IntKind} {a b : Int} (h : a = b) : Ending.returned (.int k a) = .returned (.int k b) := by rw [h]
theorem below_drewN' {B : Nat} {a w : World} (h : Below B a w) (n : Nat) : Below B a (w.drewN n) := ⟨h.os, h.tape, h.output, h.size, h.block⟩
theorem add2_64 (a b : Nat) : IntKind.u64.wrap ((a : Int) + (b : Int)) = (((a + b) % 2 ^ 64 : Nat) : Int) := by rw [IntKind.wrap_u64]; omega
theorem and_lt {a b m : Nat} (h : a < m) : a &&& b < m := Nat.lt_of_le_of_lt Nat.and_le_left h
def rotN (b x n : Nat) : Nat := x / 2 ^ n ||| x * 2 ^ (b - n) % 2 ^ b
theorem rotN_lt {b x n : Nat} (hx : x < 2 ^ b) : rotN b x n < 2 ^ b :=
  Nat.or_lt_two_pow (Nat.lt_of_le_of_lt (Nat.div_le_self _ _) hx) (Nat.mod_lt _ (Nat.two_pow_pos _))
def turnedN (b x n : Nat) : Nat := if b = 32 then rotN 32 (x % 4294967296) n else rotN 64 x n
theorem turnedN_lt {b x n : Nat} (hx : x < 18446744073709551616) : turnedN b x n < 18446744073709551616 := by
  unfold turnedN
  split
  · have := rotN_lt (b := 32) (x := x % 4294967296) (n := n) (Nat.mod_lt _ (by decide))
    omega
  · exact rotN_lt (b := 64) hx
def lastN (b x c : Nat) (shift : Bool) : Nat := if shift then x / 2 ^ c else turnedN b x c
theorem lastN_lt {b x c : Nat} {shift : Bool} (hx : x < 18446744073709551616) : lastN b x c shift < 18446744073709551616 := by
  unfold lastN
  split
  · exact Nat.lt_of_le_of_lt (Nat.div_le_self _ _) hx
  · exact turnedN_lt hx
def allN (b x p q c : Nat) (shift : Bool) : Nat := turnedN b x p ^^^ turnedN b x q ^^^ lastN b x c shift
end Go.Proofs.YtilhhigdegccgaaDoor
/-
  Walks: sha's form.turned, form.all, cut.
-/
namespace Go.Proofs.YtilhhigdegccgaaDoor.Sh
set_option linter.unusedSimpArgs false
set_option linter.unusedVariables false
open Go.RowKit
theorem below_new (w : World) (o : Obj) : Below w.heap.size w (w.alloc o) := (Below.refl _ _).alloc (Nat.le_refl _) _
end Go.Proofs.YtilhhigdegccgaaDoor.Sh
/-
  Plain: the digests, as the program makes them.
-/
namespace Go.Proofs.YtilhhigdegccgaaDoor.Sh
set_option linter.unusedSimpArgs false
set_option linter.unusedVariables false
open Go.RowKit
def beN (l : List UInt8) : Nat := l.foldl (fun n c => n * 256 + c.toNat) 0
theorem beN_snoc (l : List UInt8) (c : UInt8) : beN (l ++ [c]) = beN l * 256 + c.toNat := by simp [beN]
theorem foldl_fromN (x : Nat) (c : List UInt8) : c.foldl (fun n c => n * 256 + c.toNat) x = x * 256 ^ c.length + beN c := by
  induction c generalizing x with
  | nil => simp [beN]
  | cons z c ih =>
    have e : beN (z :: c) = c.foldl (fun n c => n * 256 + c.toNat) z.toNat := by simp [beN]
    rw [List.foldl_cons, ih, e, ih, List.length_cons, Nat.pow_succ, Nat.add_mul, Nat.mul_assoc, Nat.mul_comm 256, Nat.add_assoc]
theorem beN_append (a c : List UInt8) : beN (a ++ c) = beN a * 256 ^ c.length + beN c := by
  rw [beN, List.foldl_append, foldl_fromN]; rfl
theorem beN_lt (l : List UInt8) : beN l < 256 ^ l.length := by
  induction l with
  | nil => simp [beN]
  | cons z l ih =>
    have e := beN_append [z] l
    have hz := z.toNat_lt
    have e1 : beN [z] = z.toNat := by simp [beN]
    rw [show z :: l = [z] ++ l from rfl, e, e1, List.length_append, List.length_singleton, Nat.pow_add, Nat.pow_one]
    have : z.toNat * 256 ^ l.length ≤ 255 * 256 ^ l.length := Nat.mul_le_mul_right _ (by omega)
    omega
structure ShaF where
  bits : Nat
  many : Nat
  s0 : Nat × Nat × Nat
  s1 : Nat × Nat × Nat
  t0 : Nat × Nat × Nat
  t1 : Nat × Nat × Nat
def F32 : ShaF := ⟨32, 64, (2, 13, 22), (6, 11, 25), (7, 18, 3), (17, 19, 10)⟩
def allF (F : ShaF) (x : Nat) (p : Nat × Nat × Nat) (shift : Bool) : Nat := allN F.bits x p.1 p.2.1 p.2.2 shift
def pieceN (e : Nat) (blk : List UInt8) (t : Nat) : Nat := beN ((blk.drop (t * e)).take e)
def nextW (F : ShaF) (r : List Nat) (t : Nat) : Nat :=
  (r.getD (t - 16) 0 + r.getD (t - 7) 0 + (allF F (r.getD (t - 15) 0) F.t0 true + allF F (r.getD (t - 2) 0) F.t1 true)) % 2 ^ F.bits
def rowW (F : ShaF) (blk : List UInt8) : Nat → List Nat
  | 0 => []
  | t + 1 => rowW F blk t ++ [if t < 16 then pieceN (F.bits / 8) blk t else nextW F (rowW F blk t) t]
theorem rowW_length (F : ShaF) (blk : List UInt8) : ∀ t, (rowW F blk t).length = t
  | 0 => rfl
  | t + 1 => by simp [rowW, rowW_length F blk t]
theorem pieceN_lt (e : Nat) (blk : List UInt8) (t : Nat) : pieceN e blk t < 256 ^ e := by
  have h := beN_lt ((blk.drop (t * e)).take e)
  have h2 : ((blk.drop (t * e)).take e).length ≤ e := List.length_take_le _ _
  exact Nat.lt_of_lt_of_le h (Nat.pow_le_pow_right (by omega) h2)
theorem rowW_lt (F : ShaF) (hb : 256 ^ (F.bits / 8) = 2 ^ F.bits) (blk : List UInt8) : ∀ t, ∀ x ∈ rowW F blk t, x < 2 ^ F.bits
  | 0, x, hx => by simp [rowW] at hx
  | t + 1, x, hx => by
    simp only [rowW, List.mem_append, List.mem_singleton] at hx
    rcases hx with hx | rfl
    · exact rowW_lt F hb blk t x hx
    · split
      · rw [← hb]; exact pieceN_lt _ _ _
      · exact Nat.mod_lt _ (Nat.two_pow_pos _)
theorem getD_lt {l : List Nat} {b : Nat} (h : ∀ x ∈ l, x < b) (hb : 0 < b) (i : Nat) : l.getD i 0 < b := by
  by_cases hi : i < l.length
  · rw [List.getD_eq_getElem?_getD, List.getElem?_eq_getElem hi]; exact h _ (List.getElem_mem hi)
  · rw [List.getD_eq_getElem?_getD, List.getElem?_eq_none (by omega)]; exact hb
def wordsV (K : IntKind) (l : List Nat) : List Value := l.map fun n : Nat => Value.int K (n : Int)
theorem wordsV_length (K : IntKind) (l : List Nat) : (wordsV K l).length = l.length := by simp [wordsV]
end Go.Proofs.YtilhhigdegccgaaDoor.Sh
/-
  Plain: a state behind a block, as the program makes it.
-/
namespace Go.Proofs.YtilhhigdegccgaaDoor.Sh
set_option linter.unusedSimpArgs false
set_option linter.unusedVariables false
open Go.RowKit
def stepsN : List Nat := [4794697086780616226, 8158064640168781261, 13096744586834688815, 16840607885511220156, 4131703408338449720, 6480981068601479193, 10538285296894168987, 12329834152419229976, 15566598209576043074, 1334009975649890238, 2608012711638119052, 6128411473006802146, 8268148722764581231, 9286055187155687089, 11230858885718282805, 13951009754708518548, 16472876342353939154, 17275323862435702243, 1135362057144423861, 2597628984639134821, 3308224258029322869, 5365058923640841347, 6679025012923562964, 8573033837759648693, 10970295158949994411, 12119686244451234320, 12683024718118986047, 13788192230050041572, 14330467153632333762, 15395433587784984357, 489312712824947311, 1452737877330783856, 2861767655752347644, 3322285676063803686, 5560940570517711597, 5996557281743188959, 7280758554555802590, 8532644243296465576, 9350256976987008742, 10552545826968843579, 11727347734174303076, 12113106623233404929, 14000437183269869457, 14369950271660146224, 15101387698204529176, 15463397548674623760, 17586052441742319658, 1182934255886127544, 1847814050463011016, 2177327727835720531, 2830643537854262169, 3796741975233480872, 4115178125766777443, 5681478168544905931, 6601373596472566643, 7507060721942968483, 8399075790359081724, 8693463985226723168, 9568029438360202098, 10144078919501101548, 10430055236837252648, 11840083180663258601, 13761210420658862357, 14299343276471374635, 14566680578165727644, 15097957966210449927, 16922976911328602910, 17689382322260857208, 500013540394364858, 748580250866718886, 1242879168328830382, 1977374033974150939, 2944078676154940804, 3659926193048069267, 4368137639120453308, 4836135668995329356, 5532061633213252278, 6448918945643986474, 6902733635092675308, 7801388544844847127]
def kN (F : ShaF) (t : Nat) : Nat := stepsN.getD t 0 / 2 ^ (64 - F.bits) % 2 ^ F.bits
structure S8 where
  a : Nat
  b : Nat
  c : Nat
  d : Nat
  e : Nat
  f : Nat
  g : Nat
  h : Nat
structure S8.Lt (s : S8) (m : Nat) : Prop where
  a : s.a < m
  b : s.b < m
  c : s.c < m
  d : s.d < m
  e : s.e < m
  f : s.f < m
  g : s.g < m
  h : s.h < m
def mixX (F : ShaF) (s : S8) (k w : Nat) : Nat := (s.h + allF F s.e F.s1 false + ((s.e &&& s.f) ^^^ ((2 ^ F.bits - 1 - s.e) &&& s.g)) + k + w) % 2 ^ F.bits
def mixY (F : ShaF) (s : S8) : Nat := (allF F s.a F.s0 false + ((s.a &&& s.b) ^^^ (s.a &&& s.c) ^^^ (s.b &&& s.c))) % 2 ^ F.bits
def stepS (F : ShaF) (s : S8) (k w : Nat) : S8 := ⟨(mixX F s k w + mixY F s) % 2 ^ F.bits, s.a, s.b, s.c, (s.d + mixX F s k w) % 2 ^ F.bits, s.e, s.f, s.g⟩
def mixTo (F : ShaF) (r : List Nat) (s : S8) : Nat → S8
  | 0 => s
  | t + 1 => stepS F (mixTo F r s t) (kN F t) (r.getD t 0)
def addS (F : ShaF) (s v : S8) : S8 := ⟨(v.a + s.a) % 2 ^ F.bits, (v.b + s.b) % 2 ^ F.bits, (v.c + s.c) % 2 ^ F.bits, (v.d + s.d) % 2 ^ F.bits, (v.e + s.e) % 2 ^ F.bits, (v.f + s.f) % 2 ^ F.bits, (v.g + s.g) % 2 ^ F.bits, (v.h + s.h) % 2 ^ F.bits⟩
def mixS (F : ShaF) (s : S8) (blk : List UInt8) : S8 := addS F s (mixTo F (rowW F blk F.many) s F.many)
theorem stepS_lt {F : ShaF} {s : S8} {k w : Nat} (h : s.Lt (2 ^ F.bits)) : (stepS F s k w).Lt (2 ^ F.bits) :=
  ⟨Nat.mod_lt _ (Nat.two_pow_pos _), h.a, h.b, h.c, Nat.mod_lt _ (Nat.two_pow_pos _), h.e, h.f, h.g⟩
theorem mixTo_lt {F : ShaF} {r : List Nat} {s : S8} (h : s.Lt (2 ^ F.bits)) : ∀ t, (mixTo F r s t).Lt (2 ^ F.bits)
  | 0 => h
  | t + 1 => stepS_lt (mixTo_lt h t)
theorem addS_lt (F : ShaF) (s v : S8) : (addS F s v).Lt (2 ^ F.bits) := by
  constructor <;> exact Nat.mod_lt _ (Nat.two_pow_pos _)
def s8L (s : S8) : List Nat := [s.a, s.b, s.c, s.d, s.e, s.f, s.g, s.h]
def addC (K : IntKind) (F : ShaF) (s v : S8) (i : Nat) : Array Value := (wordsV K ((s8L (addS F s v)).take i ++ (s8L v).drop i)).toArray
end Go.Proofs.YtilhhigdegccgaaDoor.Sh
