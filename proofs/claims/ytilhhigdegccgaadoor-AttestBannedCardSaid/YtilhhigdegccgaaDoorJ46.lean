/-
  Joined texts: At2.
-/
import Derived.Test.YtilhhigdegccgaaDoorJ43
import Derived.Test.YtilhhigdegccgaaDoorJ12
import Derived.Test.YtilhhigdegccgaaDoorJ13
import Derived.Test.YtilhhigdegccgaaDoorJ45
import Derived.Test.YtilhhigdegccgaaDoorJ11
/-
  Walk: attest.Attest. (Printed by gen/at20.py.)
-/
namespace Go.Proofs.YtilhhigdegccgaaDoor
set_option linter.unusedSimpArgs false
set_option linter.unusedVariables false
open Go.RowKit
theorem op_zero9 : Tryd.prog.built 47 [] = some (opN 0 0 ⟨#[]⟩ zNo) := by kernel_rfl
def opS (o : Option NodeD) : Array Value := match o with
  | none => opN 0 0 ⟨#[]⟩ zNo
  | some k => opN 5 0 ⟨#[]⟩ k
def seqX (d : LedD) (ag key : ByteArray) : Int := match d.nodes.l.find? (eqN ag) with
  | none => 0
  | some k => if (k.key.toList == key.toList) = true then k.seq else 0
def attX (d : LedD) (name ag key : ByteArray) (now ttl : Int) : Option NodeD × Int :=
  if ¬ (naB name.data.toList = true ∧ Js.agentB ag.data.toList = true ∧ soundB key now ttl = true) then (none, 1) else if hasB d.bans.l ag = true then (none, 21) else if (ufind d.nodes.l name ag).2 = true then (none, 20) else (some ⟨ag, key, timeC now ttl, seqX d ag key, name⟩, 0)
def AtPost (d : LedD) (name ag key : ByteArray) (now ttl : Int) (w : World) (e : Ending) (w' : World) : Prop := e = .returned (.tuple #[.agg (opS (attX d name ag key now ttl).1), .int .i64 (attX d name ag key now ttl).2]) ∧ Below w.heap.size w w'
set_option maxRecDepth 100000 in
set_option maxHeartbeats 8000000 in
theorem aattest_any (d : LedD) (name ag key : ByteArray) (now ttl : Int) (m : Int) (w : World) (h : LedOk w 900 d) (hna : (name.size : Int) ≤ 1000) (hag : ag.size ≤ 1000) (hm : w.cell? ⟨0, 0, none⟩ = some (.int .i64 m)) :
    Calls Tryd.prog 7 #[.agg (ledCells d), .string name, .string ag, .string key, .int .i64 now, .int .i64 ttl] w (AtPost d name ag key now ttl w) := by
  have hul := Tryd.underlying33
  have huj := Tryd.underlying40
  have huo := Tryd.underlying47
  have hmf : ∀ (fn : Fn) (first cap : Array Value) (u : World), (Instr.makeFunc fn first cap).run Tryd.prog u = .ok (.func fn first cap) u := fun _ _ _ _ => rfl
  obtain ⟨WA, hWA⟩ : ∃ W, W = w.alloc (.cells (ledCells d) 33) := ⟨_, rfl⟩
  obtain ⟨WB, hWB⟩ : ∃ W, W = WA.alloc (.cells #[.string name] 9) := ⟨_, rfl⟩
  obtain ⟨WC, hWC⟩ : ∃ W, W = WB.alloc (.cells #[.string ag] 9) := ⟨_, rfl⟩
  obtain ⟨W0, hW0⟩ : ∃ W, W = WC.alloc (.cells (opN 0 0 ⟨#[]⟩ zNo) 47) := ⟨_, rfl⟩
  have ha : Below w.heap.size w WA := by rw [hWA]; exact (Below.refl _ w).alloc (Nat.le_refl _) _
  have hb : Below WA.heap.size WA WB := by rw [hWB]; exact (Below.refl _ _).alloc (Nat.le_refl _) _
  have hc : Below WB.heap.size WB WC := by rw [hWC]; exact (Below.refl _ _).alloc (Nat.le_refl _) _
  have hd : Below WC.heap.size WC W0 := by rw [hW0]; exact (Below.refl _ _).alloc (Nat.le_refl _) _
  have sa : WA.heap.size = w.heap.size + 1 := by rw [hWA]; simp
  have sb : WB.heap.size = w.heap.size + 2 := by rw [hWB]; simp [sa]
  have sc : WC.heap.size = w.heap.size + 3 := by rw [hWC]; simp [sb]
  have sd : W0.heap.size = w.heap.size + 4 := by rw [hW0]; simp [sc]
  have hcd : Below WB.heap.size WB W0 := hc.trans (hd.mono hc.size)
  have hbd : Below WA.heap.size WA W0 := hb.trans (hcd.mono hb.size)
  have had : Below w.heap.size w W0 := ha.trans (hbd.mono ha.size)
  have ka : Blk WA w.heap.size 33 (ledCells d) := by rw [hWA]; exact Blk.new _ _ _
  have kb : Blk WB (w.heap.size + 1) 9 #[.string name] := by rw [hWB, ← sa]; exact Blk.new _ _ _
  have kc : Blk WC (w.heap.size + 2) 9 #[.string ag] := by rw [hWC, ← sb]; exact Blk.new _ _ _
  have kd : Blk W0 (w.heap.size + 3) 47 (opN 0 0 ⟨#[]⟩ zNo) := by rw [hW0, ← sc]; exact Blk.new _ _ _
  have HB0 := Lib.hid had
  have HK0 := Lib.hid (ka.below hbd ka.lt)
  have HNM := Lib.hid (kb.below hcd kb.lt)
  have HAG := Lib.hid (kc.below hd kc.lt)
  have HO0 := Lib.hid kd
  have HS0 := Lib.hid sd
  have HWW := Lib.hid (show (((w.alloc (.cells (ledCells d) 33)).alloc (.cells #[.string name] 9)).alloc (.cells #[.string ag] 9)).alloc (.cells (opN 0 0 ⟨#[]⟩ zNo) 47) = W0 by rw [hW0, hWC, hWB, hWA])
  have hok := h.grow had
  have HOK := Lib.hid hok
  have HM0 := Lib.hid (show W0.cell? ⟨0, 0, none⟩ = some (.int .i64 m) from (had.cell (World.block_lt_of_cell? w _ hm)).trans hm)
  have HC := Lib.hid (ufind_any d.nodes.l name ag d.nodes.A d.nodes.c W0.heap.size (w.heap.size + 1) (w.heap.size + 2) W0 hok.nodes.row.rd (Nat.le_refl _) (by have := hok.nodes.len; omega) HNM.out HAG.out)
  have a1 : W0.cell? ⟨w.heap.size, 1, none⟩ = some (.slice d.nodes.A d.nodes.l.length d.nodes.c) := HK0.out.cell 1
  have HX := Lib.hid (show AtPost d name ag key now ttl w = fun e w' => e = .returned (.tuple #[.agg (opS (attX d name ag key now ttl).1), .int .i64 (attX d name ag key now ttl).2]) ∧ Below w.heap.size w w' from rfl)
  have HJX := Lib.hid (show attX d name ag key now ttl = if ¬ (naB name.data.toList = true ∧ Js.agentB ag.data.toList = true ∧ soundB key now ttl = true) then (none, 1) else if hasB d.bans.l ag = true then (none, 21) else if (ufind d.nodes.l name ag).2 = true then (none, 20) else (some ⟨ag, key, timeC now ttl, seqX d ag key, name⟩, 0) from rfl)
  have CN := Lib.hid (fun u => named20_any name (by omega) u)
  have CA := Lib.hid (show ∀ u, Below W0.heap.size W0 u → Calls Tryd.prog 23 #[.string ag] u fun e w' => e = .returned (.bool (Js.agentB ag.data.toList)) ∧ Below u.heap.size u w' from fun u hu => Js.agent_any ag hag m u ((hu.cell (World.block_lt_of_cell? W0 _ HM0.out)).trans HM0.out))
  have CS := Lib.hid (fun u => csound_any key now ttl u)
  have CH := Lib.hid (show ∀ u, Below W0.heap.size W0 u → Calls Tryd.prog 18 #[.slice d.bans.A d.bans.l.length d.bans.c, .string ag] u fun e w' => e = .returned (.bool (hasB d.bans.l ag)) ∧ w' = u from fun u hu => by
    have := (HOK.out.grow hu).bans
    exact has15c_any d.bans.l ag d.bans.A d.bans.c u.heap.size u this.row.rd (by have := this.len; omega))
  have CU := Lib.hid (fun u => cuntil_any now ttl u)
  have CO := Lib.hid (show ∀ u, Below W0.heap.size W0 u → Calls Tryd.prog 24 #[.agg (ledCells d), .string ag] u fun e w' => e = .returned (.tuple #[.agg (nodeCells (nfind d.nodes.l ag).1), .bool (nfind d.nodes.l ag).2]) ∧ Below u.heap.size u w' from fun u hu => of_any d ag u (HOK.out.grow hu))
  have HJF := Lib.hid (show nfind d.nodes.l ag = match d.nodes.l.find? (eqN ag) with | some k => (k, true) | none => (zNd, false) from rfl)
  have HSX := Lib.hid (show seqX d ag key = match d.nodes.l.find? (eqN ag) with
    | none => 0
    | some k => if (k.key.toList == key.toList) = true then k.seq else 0 from rfl)
  have HA := Lib.hid (show ∀ u, Below W0.heap.size W0 u → u.cell? ⟨w.heap.size, 2, none⟩ = some (.slice d.bans.A d.bans.l.length d.bans.c) ∧ u.cell? ⟨w.heap.size + 1, 0, none⟩ = some (.string name) ∧ u.cell? ⟨w.heap.size + 2, 0, none⟩ = some (.string ag) from fun u hu => ⟨(HK0.out.below hu HK0.out.lt).cell 2, (HNM.out.below hu HNM.out.lt).cell 0, (HAG.out.below hu HAG.out.lt).cell 0⟩)
  obtain ⟨U0, hU0⟩ : ∃ J, J = ufind d.nodes.l name ag := ⟨_, rfl⟩
  rw [← hU0] at HC HJX
  obtain ⟨F, hF⟩ : ∃ F, F = d.nodes.l.find? (eqN ag) := ⟨_, rfl⟩
  rw [← hF] at HJF HSX
  obtain ⟨J0, hJ0⟩ : ∃ J, J = nfind d.nodes.l ag := ⟨_, rfl⟩
  rw [← hJ0] at CO HJF
  obtain ⟨RX, hRX⟩ : ∃ R, R = attX d name ag key now ttl := ⟨_, rfl⟩
  rw [← hRX] at HJX HX
  rw [HX.out]
  obtain ⟨sq, hsq⟩ : ∃ b, b = seqX d ag key := ⟨_, rfl⟩
  rw [← hsq] at HJX HSX
  obtain ⟨nb, hnb⟩ : ∃ b, b = naB name.data.toList := ⟨_, rfl⟩
  rw [← hnb] at HJX CN
  obtain ⟨ab, hab⟩ : ∃ b, b = Js.agentB ag.data.toList := ⟨_, rfl⟩
  rw [← hab] at HJX CA
  obtain ⟨hb9, hhb⟩ : ∃ b, b = hasB d.bans.l ag := ⟨_, rfl⟩
  rw [← hhb] at HJX CH
  obtain ⟨sb9, hsb⟩ : ∃ b, b = soundB key now ttl := ⟨_, rfl⟩
  rw [← hsb] at HJX CS
  obtain ⟨un, hun⟩ : ∃ b, b = timeC now ttl := ⟨_, rfl⟩
  rw [← hun] at HJX CU
  clear hWA hWB hWC hW0 ha hb hc hd sa sb sc sd hcd hbd had ka kb kc kd hok hm h hna hag hU0 hF hJ0 hRX hsq hnb hab hhb hsb hun
  go_enter Tryd.func7, Tryd.ntmps7
  go_upto_region 1 with (fail)
  rw [show (((w.alloc (.cells (ledCells d) 33)).alloc (.cells #[.string name] 9)).alloc (.cells #[.string ag] 9)).alloc (.cells #[.int .i64 0, .int .i64 0, .string ⟨#[]⟩, .int .i64 0, .string ⟨#[]⟩, .string ⟨#[]⟩, .int .i64 0, .slice none 0 0, .string ⟨#[]⟩, .string ⟨#[]⟩, .int .i64 0, .bool false, .string ⟨#[]⟩, .string ⟨#[]⟩, .int .i64 0, .int .i64 0, .string ⟨#[]⟩, .string ⟨#[]⟩, .string ⟨#[]⟩, .int .i64 0, .int .i64 0, .string ⟨#[]⟩, .int .i64 0, .slice none 0 0] 47) = W0 from HWW.out]
  obtain ⟨AV, hAV⟩ : ∃ A, A = Value.agg (ledCells d) := ⟨_, rfl⟩
  rw [← hAV] at CO ⊢
  have HAV := Lib.hid hAV
  clear hAV
  go_wp2_with fail
  refine calls_then HC.out ?_
  rintro e w1 ⟨rfl, hb1⟩
  have HB1 := Lib.hid hb1
  clear hb1 HC a1
  go_upto_region 2 with (refine wpList_put_box (cells := nodeCells U0.1) (Blk.new _ _ _) rfl rfl rfl rfl nodeT_size rfl (nodeCells_one _) ?_; intro w2 hb2 hw2)
  have hbw2 : Below w1.heap.size w1 w2 := box_low9 hw2
  obtain ⟨H, hH⟩ : ∃ H, H = w1.heap.size := ⟨_, rfl⟩
  rw [← hH] at hb2 ⊢
  have HB2 := Lib.hid (HB1.out.trans (hbw2.mono HB1.out.size))
  clear hb2 hw2 hbw2 hH
  obtain ⟨UD, ub⟩ := U0
  dsimp only at HJX ⊢
  obtain ⟨-, b1, b2⟩ := HA.out _ HB2.out
  go_wp2_with fail
  refine calls_then (CN.out _) ?_
  rintro e w3 ⟨rfl, rfl⟩
  cases nb with
  | false =>
    have HRX := Lib.hid (show RX = (none, 1) by rw [HJX.out, if_pos (by simp)])
    have HBQ := HB2
    have HO2 := Lib.hid (HO0.out.below HBQ.out HO0.out.lt)
    have HBW := Lib.hid (HB0.out.trans (HBQ.out.mono HB0.out.size))
    go_wp2_with (first
      | (refine wpList_build_any (T := 47) (cells := opN 0 0 ⟨#[]⟩ zNo) rfl #[] rfl op_zero9 ?_)
      | (refine wpList_put_box (x := .tmp 12) (cells := opN 0 0 ⟨#[]⟩ zNo) HO2.out rfl rfl rfl rfl opQ2_size rfl (opN_one _ _ _ _) ?_; intro w9 hb9 hw9))
    have HB9 := Lib.hid hb9
    have HF9 := Lib.hid (hw9.below HBW.out (by omega) (HBW.out).size)
    refine bodyPost_ret (results_box_tmp (P := Tryd.prog) rfl rfl HB9.out huo rfl opQ2_size) rfl ?_
    exact ⟨by rw [HRX.out]; rfl, HF9.out⟩
  | true =>
    go_wp2_with fail
    refine calls_then (CA.out _ HB2.out) ?_
    rintro e w4 ⟨rfl, hb4⟩
    have HB4 := Lib.hid (HB2.out.trans (hb4.mono HB2.out.size))
    clear hb4 b1 b2
    cases ab with
    | false =>
      have HRX := Lib.hid (show RX = (none, 1) by rw [HJX.out, if_pos (by simp)])
      have HBQ := HB4
      have HO2 := Lib.hid (HO0.out.below HBQ.out HO0.out.lt)
      have HBW := Lib.hid (HB0.out.trans (HBQ.out.mono HB0.out.size))
      go_wp2_with (first
        | (refine wpList_build_any (T := 47) (cells := opN 0 0 ⟨#[]⟩ zNo) rfl #[] rfl op_zero9 ?_)
        | (refine wpList_put_box (x := .tmp 12) (cells := opN 0 0 ⟨#[]⟩ zNo) HO2.out rfl rfl rfl rfl opQ2_size rfl (opN_one _ _ _ _) ?_; intro w9 hb9 hw9))
      have HB9 := Lib.hid hb9
      have HF9 := Lib.hid (hw9.below HBW.out (by omega) (HBW.out).size)
      refine bodyPost_ret (results_box_tmp (P := Tryd.prog) rfl rfl HB9.out huo rfl opQ2_size) rfl ?_
      exact ⟨by rw [HRX.out]; rfl, HF9.out⟩
    | true =>
      go_wp2_with fail
      refine calls_then (CS.out _) ?_
      rintro e w5 ⟨rfl, rfl⟩
      cases sb9 with
      | false =>
        have HRX := Lib.hid (show RX = (none, 1) by rw [HJX.out, if_pos (by simp)])
        have HBQ := HB4
        have HO2 := Lib.hid (HO0.out.below HBQ.out HO0.out.lt)
        have HBW := Lib.hid (HB0.out.trans (HBQ.out.mono HB0.out.size))
        go_wp2_with (first
          | (refine wpList_build_any (T := 47) (cells := opN 0 0 ⟨#[]⟩ zNo) rfl #[] rfl op_zero9 ?_)
          | (refine wpList_put_box (x := .tmp 12) (cells := opN 0 0 ⟨#[]⟩ zNo) HO2.out rfl rfl rfl rfl opQ2_size rfl (opN_one _ _ _ _) ?_; intro w9 hb9 hw9))
        have HB9 := Lib.hid hb9
        have HF9 := Lib.hid (hw9.below HBW.out (by omega) (HBW.out).size)
        refine bodyPost_ret (results_box_tmp (P := Tryd.prog) rfl rfl HB9.out huo rfl opQ2_size) rfl ?_
        exact ⟨by rw [HRX.out]; rfl, HF9.out⟩
      | true =>
        have HJ1 := Lib.hid (show RX = if hb9 = true then (none, 21) else if ub = true then (none, 20) else (some ⟨ag, key, un, sq, name⟩, 0) by rw [HJX.out, if_neg (by simp)])
        obtain ⟨b3, b1, b2⟩ := HA.out _ HB4.out
        go_wp2_with fail
        refine calls_then (CH.out _ HB4.out) ?_
        rintro e w6 ⟨rfl, rfl⟩
        cases hb9 with
        | true =>
          have HRX := Lib.hid (show RX = (none, 21) by rw [HJ1.out, if_pos rfl])
          have HBQ := HB4
          have HO2 := Lib.hid (HO0.out.below HBQ.out HO0.out.lt)
          have HBW := Lib.hid (HB0.out.trans (HBQ.out.mono HB0.out.size))
          go_wp2_with (first
            | (refine wpList_build_any (T := 47) (cells := opN 0 0 ⟨#[]⟩ zNo) rfl #[] rfl op_zero9 ?_)
            | (refine wpList_put_box (x := .tmp 12) (cells := opN 0 0 ⟨#[]⟩ zNo) HO2.out rfl rfl rfl rfl opQ2_size rfl (opN_one _ _ _ _) ?_; intro w9 hb9 hw9))
          have HB9 := Lib.hid hb9
          have HF9 := Lib.hid (hw9.below HBW.out (by omega) (HBW.out).size)
          refine bodyPost_ret (results_box_tmp (P := Tryd.prog) rfl rfl HB9.out huo rfl opQ2_size) rfl ?_
          exact ⟨by rw [HRX.out]; rfl, HF9.out⟩
        | false =>
          cases ub with
          | true =>
            have HRX := Lib.hid (show RX = (none, 20) by rw [HJ1.out, if_neg (by simp), if_pos rfl])
            have HBQ := HB4
            have HO2 := Lib.hid (HO0.out.below HBQ.out HO0.out.lt)
            have HBW := Lib.hid (HB0.out.trans (HBQ.out.mono HB0.out.size))
            go_wp2_with (first
              | (refine wpList_build_any (T := 47) (cells := opN 0 0 ⟨#[]⟩ zNo) rfl #[] rfl op_zero9 ?_)
              | (refine wpList_put_box (x := .tmp 12) (cells := opN 0 0 ⟨#[]⟩ zNo) HO2.out rfl rfl rfl rfl opQ2_size rfl (opN_one _ _ _ _) ?_; intro w9 hb9 hw9))
            have HB9 := Lib.hid hb9
            have HF9 := Lib.hid (hw9.below HBW.out (by omega) (HBW.out).size)
            refine bodyPost_ret (results_box_tmp (P := Tryd.prog) rfl rfl HB9.out huo rfl opQ2_size) rfl ?_
            exact ⟨by rw [HRX.out]; rfl, HF9.out⟩
          | false =>
            have HRX := Lib.hid (show RX = (some ⟨ag, key, un, sq, name⟩, 0) by rw [HJ1.out, if_neg (by simp), if_neg (by simp)])
            obtain ⟨wq, hwq⟩ : ∃ wq, wq = w6 := ⟨_, rfl⟩
            rw [← hwq] at HB4 ⊢
            clear hwq b1 b2 b3
            go_wp2_with fail
            have HC0 : Below wq.heap.size wq wq.drew := (Below.refl _ _).drew
            apply wp_region_seqh (fun u => Below wq.heap.size wq u) (fun u u' => Below u.heap.size u u') [_, _, _, _, _, _, .agg (nodeCells ⟨ag, key, un, 0, name⟩), undef] (gOf [(7, fun v u => ∃ g, v = .pointer (some ⟨g, 0, none⟩) ∧ wq.heap.size ≤ g ∧ Blk u g 40 (nodeCells zNd))]) 8 (by kernel_rfl) (by kernel_rfl) (by decide) (by kernel_rfl) (stabL_of _ ⟨(fun _ _ _ h h0 => by obtain ⟨g, e, h1, h2⟩ := h0; exact ⟨g, e, h1, h2.below h h2.lt⟩), trivial⟩) HC0
            simp only [List.take_succ_cons, List.take_zero, List.drop_succ_cons, List.drop_zero]
            apply SeqG.next
            · rfl
            · rfl
            · rfl
            · simp only [act_put, act_put_none, List.setIfInBounds_toArray, List.set_cons_zero, List.set_cons_succ]
              rfl
            · intro w1 hC1 hf E hE
              have d0 := (HA.out _ (HB4.out.trans (hC1.mono HB4.out.size))).2.2
              go_wp2
              exact .mk (hE _ hC1 (Below.refl _ _))
            iterate 3
              ((first | (apply SeqG.next; rfl; rfl; rfl)); (simp only [act_put, act_put_none, List.setIfInBounds_toArray, List.set_cons_zero, List.set_cons_succ]; rfl); (intro w1 hC1 hf E hE; go_wp2; exact .mk (hE _ hC1 (Below.refl _ _))))
            apply SeqG.next
            · rfl
            · rfl
            · rfl
            · simp only [act_put, act_put_none, List.setIfInBounds_toArray, List.set_cons_zero, List.set_cons_succ]
              rfl
            · intro w1 hC1 hf E hE
              go_wp2_with fail
              refine calls_then (CU.out _) ?_
              rintro e w7 ⟨rfl, hb7⟩
              go_wp2_with fail
              exact .mk (hE _ (hC1.trans (hb7.mono hC1.size)) hb7)
            apply SeqG.next
            · rfl
            · rfl
            · rfl
            · simp only [act_put, act_put_none, List.setIfInBounds_toArray, List.set_cons_zero, List.set_cons_succ]
              rfl
            · intro w1 hC1 hf E hE
              have d0 := (HA.out _ (HB4.out.trans (hC1.mono HB4.out.size))).2.1
              go_wp2
              exact .mk (hE _ hC1 (Below.refl _ _))
            apply SeqG.next
            · rfl
            · rfl
            · rfl
            · simp only [act_put, act_put_none, List.setIfInBounds_toArray, List.set_cons_zero, List.set_cons_succ]
              rfl
            · intro w1 hC1 hf E hE
              refine wpList_build_any (cells := nodeCells ⟨ag, key, un, 0, name⟩) rfl _ rfl (by kernel_rfl) ?_
              go_wp2_with fail
              exact .mk (hE _ hC1 (Below.refl _ _))
            apply SeqG.some
            · rfl
            · rfl
            · intro w1 hC1 hf E hE
              simp only [act_put, act_put_none, List.setIfInBounds_toArray, List.set_cons_zero, List.set_cons_succ] at hE
              go_wp2
              exact .mk (hE _ _ ⟨_, rfl, hC1.size, Blk.new _ _ _⟩ (hC1.alloc hC1.size _) ((Below.refl _ _).alloc (Nat.le_refl _) _))
            intro x7
            simp only [act_put, act_put_none, List.setIfInBounds_toArray, List.set_cons_zero, List.set_cons_succ]
            refine SeqG.nil ?_
            intro w1 hC1 hf
            have f7 := (hf 7 (of_decide_eq_true (by kernel_rfl))).1 rfl
            clear hf
            refine SeqT.step rfl ?_
            intro E hE
            simp only [act_put, act_put_none, List.setIfInBounds_toArray, List.set_cons_zero, List.set_cons_succ] at hE
            obtain ⟨g8, hx7, hg8, hn8⟩ := f7
            have HG8 := Lib.hid hg8
            have HN8 := Lib.hid hn8
            have HBC := Lib.hid hC1
            clear hn8 hg8
            simp only [hx7] at hE ⊢
            refine wpList_put_box (cells := nodeCells ⟨ag, key, un, 0, name⟩) HN8.out rfl rfl rfl rfl nodeT_size rfl (nodeCells_one _) ?_
            intro w9 hb9 hw9
            have HB9 := Lib.hid hb9
            have HW9 := Lib.hid hw9
            clear hb9 hw9
            go_wp2_with fail
            refine .mk (hE undef _ ?_)
            clear hE E
            refine SeqT.nil ?_
            have HBD := Lib.hid (show Below W0.heap.size W0 w9 from HW9.out.below (HB4.out.trans (HBC.out.mono HB4.out.size)) (Nat.le_trans HB4.out.size HG8.out) (HB4.out.trans (HBC.out.mono HB4.out.size)).size)
            have HNE := Lib.hid (show W0.heap.size ≤ g8 from Nat.le_trans HB4.out.size HG8.out)
            clear hC1 HC0
            obtain ⟨-, b1, b2⟩ := HA.out _ HBD.out
            go_wp2_with (refine wpList_get_box (x := .tmp 6) (cs := ledCells d) (HK0.out.below HBD.out HK0.out.lt) rfl rfl rfl hul rfl ledT_size ?_)
            rw [show Value.agg (ledCells d) = AV from HAV.out.symm]
            refine calls_then (CO.out _ HBD.out) ?_
            rintro e wr ⟨rfl, hbr⟩
            have HBR := Lib.hid (HBD.out.trans (hbr.mono HBD.out.size))
            have HNR := Lib.hid (HB9.out.below hbr HB9.out.lt)
            clear hbr b1 b2
            go_upto_region 10 with (refine wpList_put_box (cells := nodeCells J0.1) (Blk.new _ _ _) rfl rfl rfl rfl nodeT_size rfl (nodeCells_one _) ?_; intro ws hbs hws)
            have hbws : Below wr.heap.size wr ws := box_low9 hws
            obtain ⟨H2, hH2⟩ : ∃ H, H = wr.heap.size := ⟨_, rfl⟩
            rw [← hH2] at hbs ⊢
            have HJS := Lib.hid hbs
            have HBS := Lib.hid (HBR.out.trans (hbws.mono HBR.out.size))
            have HNS := Lib.hid (HNR.out.below hbws HNR.out.lt)
            have HOS := Lib.hid (HO0.out.below HBS.out HO0.out.lt)
            have HBW := Lib.hid (HB0.out.trans (HBS.out.mono HB0.out.size))
            clear hbs hws hbws hH2
            obtain ⟨JD, JB⟩ := J0
            dsimp only at HJS ⊢
            cases F with
            | none =>
              have hJ : (JD, JB) = (zNd, false) := HJF.out
              injection hJ with hJ1 hJ2
              subst hJ2
              have HSQ := Lib.hid (show sq = 0 from HSX.out)
              go_wp2_with (first
                | (refine wpList_get_box (x := .tmp 16) (cs := nodeCells ⟨ag, key, un, 0, name⟩) HNS.out rfl rfl rfl huj rfl nodeT_size ?_)
                | (refine wpList_build_any (T := 47) (cells := opN 5 0 ⟨#[]⟩ ⟨ag, key, un, 0, name⟩) rfl _ rfl (by kernel_rfl) ?_)
                | (refine wpList_put_box (x := .tmp 12) (cells := opN 5 0 ⟨#[]⟩ ⟨ag, key, un, 0, name⟩) HOS.out rfl rfl rfl rfl opQ2_size rfl (opN_one _ _ _ _) ?_; intro w9 hb9 hw9))
              have HB9 := Lib.hid hb9
              have HF9 := Lib.hid (hw9.below HBW.out (by omega) (HBW.out).size)
              refine bodyPost_ret (results_box_tmp (P := Tryd.prog) rfl rfl HB9.out huo rfl opQ2_size) rfl ?_
              exact ⟨by rw [HRX.out, HSQ.out]; rfl, HF9.out⟩
            | some k =>
              have hJ : (JD, JB) = (k, true) := HJF.out
              injection hJ with hJ1 hJ2
              subst hJ1 hJ2
              have c1 : ws.cell? ⟨H2, 1, none⟩ = some (.string JD.key) := HJS.out.cell 1
              have c3 : ws.cell? ⟨H2, 3, none⟩ = some (.int .i64 JD.seq) := HJS.out.cell 3
              obtain ⟨qk, hqk⟩ : ∃ q, (JD.key.toList == key.toList) = q := ⟨_, rfl⟩
              have HSY := Lib.hid (show sq = if qk = true then JD.seq else 0 by rw [HSX.out]; simp only [hqk])
              cases qk with
              | false =>
                have HSQ := Lib.hid (show sq = 0 by rw [HSY.out, if_neg (by simp)])
                go_wp2_with (first
                  | (refine wpList_get_box (x := .tmp 16) (cs := nodeCells ⟨ag, key, un, 0, name⟩) HNS.out rfl rfl rfl huj rfl nodeT_size ?_)
                  | (refine wpList_build_any (T := 47) (cells := opN 5 0 ⟨#[]⟩ ⟨ag, key, un, 0, name⟩) rfl _ rfl (by kernel_rfl) ?_)
                  | (refine wpList_put_box (x := .tmp 12) (cells := opN 5 0 ⟨#[]⟩ ⟨ag, key, un, 0, name⟩) HOS.out rfl rfl rfl rfl opQ2_size rfl (opN_one _ _ _ _) ?_; intro w9 hb9 hw9))
                have HB9 := Lib.hid hb9
                have HF9 := Lib.hid (hw9.below HBW.out (by omega) (HBW.out).size)
                refine bodyPost_ret (results_box_tmp (P := Tryd.prog) rfl rfl HB9.out huo rfl opQ2_size) rfl ?_
                exact ⟨by rw [HRX.out, HSQ.out]; rfl, HF9.out⟩
              | true =>
                have HSQ := Lib.hid (show sq = JD.seq by rw [HSY.out, if_pos rfl])
                have HNE2 := Lib.hid (show w.heap.size + 3 ≠ g8 by have := HNE.out; have := HS0.out; omega)
                have HGE2 := Lib.hid (show w.heap.size ≤ g8 by have := HNE.out; have := HS0.out; omega)
                go_wp2_with (first
                  | (refine wpList_put_cell (i := 3) HNS.out rfl rfl rfl rfl (by kernel_rfl) (by simp [nodeCells]) rfl ?_; intro w7 hb7 hw7; have HB7 := Lib.hid (show Blk w7 g8 40 (nodeCells ⟨ag, key, un, JD.seq, name⟩) from hb7); have HO7 := Lib.hid (hw7.blk HOS.out HNE2.out); have HBW7 := Lib.hid (hw7.below HBW.out HGE2.out HBW.out.size); clear hb7 hw7)
                  | (refine wpList_get_box (x := .tmp 16) (cs := nodeCells ⟨ag, key, un, JD.seq, name⟩) HB7.out rfl rfl rfl huj rfl nodeT_size ?_)
                  | (refine wpList_build_any (T := 47) (cells := opN 5 0 ⟨#[]⟩ ⟨ag, key, un, JD.seq, name⟩) rfl _ rfl (by kernel_rfl) ?_)
                  | (refine wpList_put_box (x := .tmp 12) (cells := opN 5 0 ⟨#[]⟩ ⟨ag, key, un, JD.seq, name⟩) HO7.out rfl rfl rfl rfl opQ2_size rfl (opN_one _ _ _ _) ?_; intro w9 hb9 hw9))
                have HB9 := Lib.hid hb9
                have HF9 := Lib.hid (hw9.below HBW7.out (by omega) (HBW7.out).size)
                refine bodyPost_ret (results_box_tmp (P := Tryd.prog) rfl rfl HB9.out huo rfl opQ2_size) rfl ?_
                exact ⟨by rw [HRX.out, HSQ.out]; rfl, HF9.out⟩
end Go.Proofs.YtilhhigdegccgaaDoor
