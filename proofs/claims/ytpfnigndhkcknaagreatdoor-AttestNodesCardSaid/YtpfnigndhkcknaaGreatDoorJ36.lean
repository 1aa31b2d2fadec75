/-
  Joined texts: Au2.
-/
import Derived.Test.YtpfnigndhkcknaaGreatDoorJ35
/-
  Walk: brevetref20.Attest. (Printed by gen/au20.py.)
-/
namespace Go.Proofs.YtpfnigndhkcknaaGreatDoor
set_option linter.unusedSimpArgs false
set_option linter.unusedVariables false
open Go.RowKit

/-- the number of the first of them -/
def seqL (l : List NodeD) (ag key : ByteArray) : Int := match l.find? (eqN ag) with
  | none => 0
  | some k => if (k.key.toList == key.toList) = true then k.seq else 0
theorem seqL_cons (k : NodeD) (l : List NodeD) (ag key : ByteArray) : seqL (k :: l) ag key = if eqN ag k = true then (if (k.key.toList == key.toList) = true then k.seq else 0) else seqL l ag key := by
  unfold seqL
  by_cases h : eqN ag k = true
  · rw [if_pos h, List.find?_cons_of_pos h]
  · rw [if_neg h, List.find?_cons_of_neg h]
theorem ufind_no {l : List NodeD} {s ag : ByteArray} (h : ∀ x ∈ l, usedB s ag x = false) : (ufind l s ag).2 = false := by
  rw [ufind, List.find?_eq_none.2 (fun x hx => by simp [h x hx])]
theorem ufind_yes {l : List NodeD} {s ag : ByteArray} {x : NodeD} (hx : x ∈ l) (h : usedB s ag x = true) : (ufind l s ag).2 = true := by
  rw [ufind]
  cases hq : l.find? (usedB s ag) with
  | none => exact absurd h (by simpa using List.find?_eq_none.1 hq x hx)
  | some k => rfl
set_option maxRecDepth 100000 in
set_option maxHeartbeats 8000000 in
theorem rattest_any (d : LedD) (name ag key : ByteArray) (now ttl : Int) (w : World) (h : LedOk w 900 d) (hna : (name.size : Int) ≤ 1000) (hag : ag.size ≤ 1000) (hnow : InR now) (httl : InR ttl) :
    Calls Tryz.prog 7 #[.agg (ledCells d), .string name, .string ag, .string key, .int .i64 now, .int .i64 ttl] w (AtPost d name ag key now ttl w) := by
  have huj := Tryz.underlying40
  have huo := Tryz.underlying47
  obtain ⟨W0, hW0⟩ : ∃ W0, W0 = ((w.alloc (.cells (ledCells d) 33)).alloc (.cells (opN 0 0 ⟨#[]⟩ zNo) 47)).alloc (.cells (opN 0 0 ⟨#[]⟩ zNo) 47) := ⟨_, rfl⟩
  have hb0 : Below w.heap.size w W0 := by rw [hW0]; exact (((Below.refl _ w).alloc (Nat.le_refl _) _).alloc (by simp) _).alloc (by simp; omega) _
  have HB0 := Lib.hid hb0
  have HK0 := Lib.hid (show Blk W0 w.heap.size 33 (ledCells d) by rw [hW0]; exact ((Blk.new _ _ _).alloc _).alloc _)
  have HO0 := Lib.hid (show Blk W0 (w.heap.size + 1) 47 (opN 0 0 ⟨#[]⟩ zNo) by rw [hW0]; have := (Blk.new (w.alloc (.cells (ledCells d) 33)) 47 (opN 0 0 ⟨#[]⟩ zNo)).alloc (.cells (opN 0 0 ⟨#[]⟩ zNo) 47); simpa using this)
  have HZ0 := Lib.hid (show Blk W0 (w.heap.size + 2) 47 (opN 0 0 ⟨#[]⟩ zNo) by rw [hW0]; have := Blk.new ((w.alloc (.cells (ledCells d) 33)).alloc (.cells (opN 0 0 ⟨#[]⟩ zNo) 47)) 47 (opN 0 0 ⟨#[]⟩ zNo); simpa using this)
  have HW0 := Lib.hid hW0
  have hok := h.grow hb0
  have HOK := Lib.hid hok
  obtain ⟨lj, hlj⟩ : ∃ lj, lj = d.nodes := ⟨_, rfl⟩
  have HL := Lib.hid (show (lj.l.length : Int) ≤ 900 by rw [hlj]; have := hok.nodes.len; omega)
  have HR := Lib.hid (show ∀ u, Below W0.heap.size W0 u → Rd u u.heap.size lj.A (rowsV nodeCells lj.l) from fun u hu => by rw [hlj]; exact (hok.grow hu).nodes.row.rd)
  have HA3 := Lib.hid (show ∀ u, Below W0.heap.size W0 u → u.cell? ⟨w.heap.size, 1, none⟩ = some (.slice lj.A lj.l.length lj.c) from fun u hu => by rw [hlj]; exact (HK0.out.below hu HK0.out.lt).cell 1)
  have a2 : W0.cell? ⟨w.heap.size, 2, none⟩ = some (.slice d.bans.A d.bans.l.length d.bans.c) := HK0.out.cell 2
  have HX := Lib.hid (show AtPost d name ag key now ttl w = fun e w' => e = .returned (.tuple #[.agg (opS (attX d name ag key now ttl).1), .int .i64 (attX d name ag key now ttl).2]) ∧ Below w.heap.size w w' from rfl)
  have HJX := Lib.hid (show attX d name ag key now ttl = if ¬ (naB name.data.toList = true ∧ Js.agentB ag.data.toList = true ∧ soundB key now ttl = true) then (none, 1) else if hasB d.bans.l ag = true then (none, 21) else if (ufind lj.l name ag).2 = true then (none, 20) else (some ⟨ag, key, timeC now ttl, seqL lj.l ag key, name⟩, 0) from by rw [hlj]; rfl)
  have CN := Lib.hid (fun u => rnamed20_any name (by omega) u)
  have CA := Lib.hid (fun u => Js.ragent_any ag hag u)
  have CS := Lib.hid (fun u => rsound_any key now ttl u)
  have CH := Lib.hid (show Calls Tryz.prog 24 #[.slice d.bans.A d.bans.l.length d.bans.c, .string ag] W0 fun e w' => e = .returned (.bool (hasB d.bans.l ag)) ∧ w' = W0 from by
    have := hok.bans
    exact (has9_any d.bans.l (by have := this.len; omega) ag d.bans.A d.bans.c W0.heap.size W0 (by have h := this.row.rd; rw [show rowsV strCell d.bans.l = d.bans.l.map Value.string from rowsV_str _] at h; exact h)).mono fun e w' h => ⟨h.1, h.2.symm⟩)
  have CU := Lib.hid (fun (u : World) => runtil_any now ttl hnow httl u)
  obtain ⟨RX, hRX⟩ : ∃ R, R = attX d name ag key now ttl := ⟨_, rfl⟩
  rw [← hRX] at HJX HX
  rw [HX.out]
  obtain ⟨nb, hnb⟩ : ∃ b, b = naB name.data.toList := ⟨_, rfl⟩
  rw [← hnb] at HJX CN
  obtain ⟨ab, hab⟩ : ∃ b, b = Js.agentB ag.data.toList := ⟨_, rfl⟩
  rw [← hab] at HJX CA
  obtain ⟨hb9, hhb⟩ : ∃ b, b = hasB d.bans.l ag := ⟨_, rfl⟩
  rw [← hhb] at HJX CH
  obtain ⟨sb9, hsb⟩ : ∃ b, b = soundB key now ttl := ⟨_, rfl⟩
  rw [← hsb] at HJX CS
  obtain ⟨un, hun⟩ : ∃ b, b = timeC now ttl := ⟨_, rfl⟩
  rw [← hun] at HJX CU
  clear hW0 hb0 h hok hRX hlj hnb hab hhb hsb hun hna hag hnow httl
  go_enter Tryz.func7, Tryz.ntmps7
  go_upto_region 2 with (fail)
  rw [show ((w.alloc (.cells (ledCells d) 33)).alloc (.cells #[.int .i64 0, .int .i64 0, .string ⟨#[]⟩, .int .i64 0, .string ⟨#[]⟩, .string ⟨#[]⟩, .int .i64 0, .slice none 0 0, .string ⟨#[]⟩, .string ⟨#[]⟩, .int .i64 0, .bool false, .string ⟨#[]⟩, .string ⟨#[]⟩, .int .i64 0, .int .i64 0, .string ⟨#[]⟩, .string ⟨#[]⟩, .string ⟨#[]⟩, .int .i64 0, .int .i64 0, .string ⟨#[]⟩, .int .i64 0, .slice none 0 0] 47)).alloc (.cells #[.int .i64 0, .int .i64 0, .string ⟨#[]⟩, .int .i64 0, .string ⟨#[]⟩, .string ⟨#[]⟩, .int .i64 0, .slice none 0 0, .string ⟨#[]⟩, .string ⟨#[]⟩, .int .i64 0, .bool false, .string ⟨#[]⟩, .string ⟨#[]⟩, .int .i64 0, .int .i64 0, .string ⟨#[]⟩, .string ⟨#[]⟩, .string ⟨#[]⟩, .int .i64 0, .int .i64 0, .string ⟨#[]⟩, .int .i64 0, .slice none 0 0] 47) = W0 from HW0.out.symm]
  generalize Value.agg (ledCells d) = AV
  go_wp2_with fail
  refine calls_then (CN.out _) ?_
  rintro e w1 ⟨rfl, rfl⟩
  go_wp2_with fail
  refine calls_then (CA.out _) ?_
  rintro e w2 ⟨rfl, rfl⟩
  go_wp2_with fail
  refine calls_then (CS.out _) ?_
  rintro e w3 ⟨rfl, rfl⟩
  have HBQ := Lib.hid (Below.refl w3.heap.size w3)
  cases nb with
  | false =>
    have HRX := Lib.hid (show RX = (none, 1) by rw [HJX.out, if_pos (by simp)])
    clear a2
    have HO2 := Lib.hid (HO0.out.below HBQ.out HO0.out.lt)
    have HZ2 := Lib.hid (HZ0.out.below HBQ.out HZ0.out.lt)
    have HBW := Lib.hid (HB0.out.trans (HBQ.out.mono HB0.out.size))
    go_wp2_with (first
      | (refine wpList_get_box (x := .tmp 14) (cs := opN 0 0 ⟨#[]⟩ zNo) HZ2.out rfl rfl rfl huo rfl opQ2_size ?_)
      | (refine wpList_put_box (x := .tmp 12) (cells := opN 0 0 ⟨#[]⟩ zNo) HO2.out rfl rfl rfl rfl opQ2_size rfl (opN_one _ _ _ _) ?_; intro w9 hb9 hw9))
    have HB9 := Lib.hid hb9
    have HF9 := Lib.hid (hw9.below HBW.out (by omega) (HBW.out).size)
    refine bodyPost_ret (results_box_tmp (P := Tryz.prog) rfl rfl HB9.out huo rfl opQ2_size) rfl ?_
    exact ⟨by rw [HRX.out]; rfl, HF9.out⟩
  | true =>
    cases ab with
    | false =>
      have HRX := Lib.hid (show RX = (none, 1) by rw [HJX.out, if_pos (by simp)])
      clear a2
      have HO2 := Lib.hid (HO0.out.below HBQ.out HO0.out.lt)
      have HZ2 := Lib.hid (HZ0.out.below HBQ.out HZ0.out.lt)
      have HBW := Lib.hid (HB0.out.trans (HBQ.out.mono HB0.out.size))
      go_wp2_with (first
        | (refine wpList_get_box (x := .tmp 14) (cs := opN 0 0 ⟨#[]⟩ zNo) HZ2.out rfl rfl rfl huo rfl opQ2_size ?_)
        | (refine wpList_put_box (x := .tmp 12) (cells := opN 0 0 ⟨#[]⟩ zNo) HO2.out rfl rfl rfl rfl opQ2_size rfl (opN_one _ _ _ _) ?_; intro w9 hb9 hw9))
      have HB9 := Lib.hid hb9
      have HF9 := Lib.hid (hw9.below HBW.out (by omega) (HBW.out).size)
      refine bodyPost_ret (results_box_tmp (P := Tryz.prog) rfl rfl HB9.out huo rfl opQ2_size) rfl ?_
      exact ⟨by rw [HRX.out]; rfl, HF9.out⟩
    | true =>
      cases sb9 with
      | false =>
        have HRX := Lib.hid (show RX = (none, 1) by rw [HJX.out, if_pos (by simp)])
        clear a2
        have HO2 := Lib.hid (HO0.out.below HBQ.out HO0.out.lt)
        have HZ2 := Lib.hid (HZ0.out.below HBQ.out HZ0.out.lt)
        have HBW := Lib.hid (HB0.out.trans (HBQ.out.mono HB0.out.size))
        go_wp2_with (first
          | (refine wpList_get_box (x := .tmp 14) (cs := opN 0 0 ⟨#[]⟩ zNo) HZ2.out rfl rfl rfl huo rfl opQ2_size ?_)
          | (refine wpList_put_box (x := .tmp 12) (cells := opN 0 0 ⟨#[]⟩ zNo) HO2.out rfl rfl rfl rfl opQ2_size rfl (opN_one _ _ _ _) ?_; intro w9 hb9 hw9))
        have HB9 := Lib.hid hb9
        have HF9 := Lib.hid (hw9.below HBW.out (by omega) (HBW.out).size)
        refine bodyPost_ret (results_box_tmp (P := Tryz.prog) rfl rfl HB9.out huo rfl opQ2_size) rfl ?_
        exact ⟨by rw [HRX.out]; rfl, HF9.out⟩
      | true =>
        have HJ1 := Lib.hid (show RX = if hb9 = true then (none, 21) else if (ufind lj.l name ag).2 = true then (none, 20) else (some ⟨ag, key, un, seqL lj.l ag key, name⟩, 0) by rw [HJX.out, if_neg (by simp)])
        go_wp2_with fail
        refine calls_then CH.out ?_
        rintro e w4 ⟨rfl, rfl⟩
        clear a2 CH
        cases hb9 with
        | true =>
          have HRX := Lib.hid (show RX = (none, 21) by rw [HJ1.out, if_pos rfl])
          have HO2 := Lib.hid (HO0.out.below HBQ.out HO0.out.lt)
          have HZ2 := Lib.hid (HZ0.out.below HBQ.out HZ0.out.lt)
          have HBW := Lib.hid (HB0.out.trans (HBQ.out.mono HB0.out.size))
          go_wp2_with (first
            | (refine wpList_get_box (x := .tmp 14) (cs := opN 0 0 ⟨#[]⟩ zNo) HZ2.out rfl rfl rfl huo rfl opQ2_size ?_)
            | (refine wpList_put_box (x := .tmp 12) (cells := opN 0 0 ⟨#[]⟩ zNo) HO2.out rfl rfl rfl rfl opQ2_size rfl (opN_one _ _ _ _) ?_; intro w9 hb9 hw9))
          have HB9 := Lib.hid hb9
          have HF9 := Lib.hid (hw9.below HBW.out (by omega) (HBW.out).size)
          refine bodyPost_ret (results_box_tmp (P := Tryz.prog) rfl rfl HB9.out huo rfl opQ2_size) rfl ?_
          exact ⟨by rw [HRX.out]; rfl, HF9.out⟩
        | false =>
          clear HBQ
          have HB1 := Lib.hid (Below.refl w4.heap.size w4)
          have HNS := HL.out
          go_wp2_with fail
          go_loopw [20] (fun x wr => ∃ i : Nat, i ≤ lj.l.length ∧ x = .int .i64 (i : Int) ∧ (∀ k ∈ lj.l.take i, usedB name ag k = false) ∧ Below w4.heap.size w4 wr) (fun x _ => lj.l.length - (intOf x).toNat)
          case atStart => exact ⟨0, Nat.zero_le _, rfl, by simp, HB1.out⟩
          case round =>
            obtain ⟨i, hi, rfl, hok, hbw⟩ := hrel
            have HNK := Lib.hid hok
            have HBR := Lib.hid hbw
            have a3 := HA3.out _ hbw
            clear hok hbw
            by_cases hlt : i < lj.l.length
            · have hlt' : (i : Int) < (lj.l.length : Int) := by omega
              have hi0 : (0 : Int) ≤ (i : Int) := by omega
              obtain ⟨ad, hA, -, hcell⟩ := rd_rows (f := nodeCells) (m := 5) (fun _ => rfl) (by decide) (HR.out wr HBR.out) hlt
              rw [hA] at a3
              obtain ⟨JD, hX⟩ : ∃ X, X = lj.l[i] := ⟨_, rfl⟩
              rw [← hX] at hcell
              have HCL := Lib.hid (show ∀ j u, (nodeCells JD).toList[j]? = some u → wr.cell? ((ad.add (i * 5)).add j) = some u from fun j u hu => hcell j u (by simpa using hu))
              have HLT := Lib.hid hlt
              have HXE := Lib.hid (show ∀ h : i < lj.l.length, JD = lj.l[i]'h from fun _ => hX)
              clear hX hcell hA hlt
              go_upto_region 15 with (first
                | (refine wpList_get_rd (r := (nodeCells JD).toList) HCL.out rfl rfl rfl huj rfl nodeT_size ?_)
                | (refine wpList_put_box (cells := nodeCells JD) (Blk.new _ _ _) rfl rfl rfl rfl nodeT_size rfl (nodeCells_one _) ?_; intro w2 hb2 hw2))
              have hbw2 : Below wr.heap.size wr w2 := box_low9 hw2
              obtain ⟨H, hH⟩ : ∃ H, H = wr.heap.size := ⟨_, rfl⟩
              rw [← hH] at hb2 ⊢
              have HBQ := Lib.hid (HBR.out.trans (hbw2.mono HBR.out.size))
              have c0 : w2.cell? ⟨H, 0, none⟩ = some (.string JD.name) := hb2.cell 0
              have c4 : w2.cell? ⟨H, 4, none⟩ = some (.string JD.doc) := hb2.cell 4
              clear hb2 hw2 hbw2 hH a3
              obtain ⟨q, hq⟩ : ∃ q, (JD.doc.toList == name.toList) = q := ⟨_, rfl⟩
              obtain ⟨q2, hq2⟩ : ∃ q, (JD.name.toList == ag.toList) = q := ⟨_, rfl⟩
              have HUS := Lib.hid (show usedB name ag JD = (q && !q2) by rw [usedB, hq, hq2])
              have HNN := Lib.hid (show usedB name ag JD = false → ∀ k ∈ lj.l.take (i + 1), usedB name ag k = false from fun hu k hk => by
                rw [List.take_succ_eq_append_getElem HLT.out] at hk
                rcases List.mem_append.1 hk with hk | hk
                · exact HNK.out k hk
                · rw [List.mem_singleton] at hk
                  rw [hk, ← HXE.out HLT.out]
                  exact hu)
              have HYS := Lib.hid (show usedB name ag JD = true → RX = (none, 20) from fun hu => by
                rw [HJ1.out, if_neg (by simp), if_pos (ufind_yes (x := JD) (by rw [HXE.out HLT.out]; exact List.getElem_mem _) hu)])
              cases q with
              | false =>
                have HN2 := Lib.hid (HNN.out (by rw [HUS.out]; rfl))
                go_wp2_with fail
                go_roundw
                case rel => exact ⟨i + 1, HLT.out, by go_num, HN2.out, HBQ.out⟩
                case measure => have := HLT.out; simp [intOf]; omega
              | true =>
                cases q2 with
                | true =>
                  have HN2 := Lib.hid (HNN.out (by rw [HUS.out]; rfl))
                  go_wp2_with fail
                  go_roundw
                  case rel => exact ⟨i + 1, HLT.out, by go_num, HN2.out, HBQ.out⟩
                  case measure => have := HLT.out; simp [intOf]; omega
                | false =>
                  have HRX := Lib.hid (HYS.out (by rw [HUS.out]; rfl))
                  have HO2 := Lib.hid (HO0.out.below HBQ.out HO0.out.lt)
                  have HZ2 := Lib.hid (HZ0.out.below HBQ.out HZ0.out.lt)
                  have HBW := Lib.hid (HB0.out.trans (HBQ.out.mono HB0.out.size))
                  go_wp2_with (first
                    | (refine wpList_get_box (x := .tmp 14) (cs := opN 0 0 ⟨#[]⟩ zNo) HZ2.out rfl rfl rfl huo rfl opQ2_size ?_)
                    | (refine wpList_put_box (x := .tmp 12) (cells := opN 0 0 ⟨#[]⟩ zNo) HO2.out rfl rfl rfl rfl opQ2_size rfl (opN_one _ _ _ _) ?_; intro w9 hb9 hw9))
                  have HB9 := Lib.hid hb9
                  have HF9 := Lib.hid (hw9.below HBW.out (by omega) (HBW.out).size)
                  refine bodyPost_ret (results_box_tmp (P := Tryz.prog) rfl rfl HB9.out huo rfl opQ2_size) rfl ?_
                  exact ⟨by rw [HRX.out]; rfl, HF9.out⟩
            · have hlt' : ¬ (i : Int) < (lj.l.length : Int) := by omega
              have HJ2 := Lib.hid (show RX = (some ⟨ag, key, un, seqL lj.l ag key, name⟩, 0) by
                rw [HJ1.out, if_neg (by simp), if_neg]
                rw [ufind_no (fun x hx => HNK.out x (by rw [List.take_of_length_le (by omega)]; exact hx))]
                simp)
              clear hlt
              have HS0 := Lib.hid (show seqL (lj.l.drop lj.l.length) ag key = 0 by rw [List.drop_length]; rfl)
              go_wp2_with fail
              go_loopw [19, 22] (fun sv iv wx => ∃ (j : Nat) (z : Int), j ≤ lj.l.length ∧ z = (j : Int) - 1 ∧ iv = .int .i64 z ∧ sv = .int .i64 (seqL (lj.l.drop j) ag key) ∧ wx = wr) (fun _ iv _ => (intOf iv + 1).toNat)
              case atStart => exact ⟨lj.l.length, _, Nat.le_refl _, rfl, by go_num, by rw [HS0.out], rfl⟩
              case round =>
                clear a3
                obtain ⟨j, z, hj, hz, rfl, rfl, rfl⟩ := hrel
                have a3 := HA3.out wr HBR.out
                by_cases hz0 : 0 ≤ z
                · obtain ⟨k, rfl⟩ : ∃ k, j = k + 1 := ⟨j - 1, by omega⟩
                  obtain rfl : z = (k : Int) := by omega
                  have hkl : k < lj.l.length := by omega
                  have hkl' : (k : Int) < (lj.l.length : Int) := by omega
                  obtain ⟨ad, hA, -, hcell⟩ := rd_rows (f := nodeCells) (m := 5) (fun _ => rfl) (by decide) (HR.out wr HBR.out) hkl
                  rw [hA] at a3
                  obtain ⟨JD, hX⟩ : ∃ X, X = lj.l[k] := ⟨_, rfl⟩
                  rw [← hX] at hcell
                  have c0 : wr.cell? (ad.add (k * 5)) = some (.string JD.name) := hcell 0 _ rfl
                  have c1 : wr.cell? ⟨(ad.add (k * 5)).block, (ad.add (k * 5)).off + 1, none⟩ = some (.string JD.key) := hcell 1 _ rfl
                  have c3 : wr.cell? ⟨(ad.add (k * 5)).block, (ad.add (k * 5)).off + 3, none⟩ = some (.int .i64 JD.seq) := hcell 3 _ rfl
                  have HKL := Lib.hid hkl
                  obtain ⟨S1, hS1⟩ : ∃ S, S = seqL (lj.l.drop (k + 1)) ag key := ⟨_, rfl⟩
                  obtain ⟨q, hq⟩ : ∃ q, (JD.name.toList == ag.toList) = q := ⟨_, rfl⟩
                  obtain ⟨q2, hq2⟩ : ∃ q, (JD.key.toList == key.toList) = q := ⟨_, rfl⟩
                  have HSN := Lib.hid (show seqL (lj.l.drop k) ag key = if q = true then (if q2 = true then JD.seq else 0) else S1 by
                    rw [List.drop_eq_getElem_cons hkl, seqL_cons, ← hX, hS1, eqN, hq, hq2])
                  rw [← hS1]
                  clear hS1 hX hcell hA hkl hj hz hz0
                  have hk0 : (0 : Int) ≤ (k : Int) := by omega
                  cases q with
                  | false =>
                    have HSE := Lib.hid (show seqL (lj.l.drop k) ag key = S1 by rw [HSN.out, if_neg (by simp)])
                    go_wp2_with fail
                    go_roundw
                    case rel => exact ⟨k, (k : Int) - 1, Nat.le_of_lt HKL.out, rfl, by go_num, by rw [HSE.out], by first | rfl | trivial⟩
                    case measure => simp [intOf] <;> omega
                  | true =>
                    cases q2 with
                    | false =>
                      have HSE := Lib.hid (show seqL (lj.l.drop k) ag key = 0 by rw [HSN.out, if_pos rfl, if_neg (by simp)])
                      go_wp2_with fail
                      go_roundw
                      case rel => exact ⟨k, (k : Int) - 1, Nat.le_of_lt HKL.out, rfl, by go_num, by rw [HSE.out], by first | rfl | trivial⟩
                      case measure => simp [intOf] <;> omega
                    | true =>
                      have HSE := Lib.hid (show seqL (lj.l.drop k) ag key = JD.seq by rw [HSN.out, if_pos rfl, if_pos rfl])
                      go_wp2_with fail
                      go_roundw
                      case rel => exact ⟨k, (k : Int) - 1, Nat.le_of_lt HKL.out, rfl, by go_num, by rw [HSE.out], by first | rfl | trivial⟩
                      case measure => simp [intOf] <;> omega
                · obtain rfl : j = 0 := by omega
                  obtain rfl : z = -1 := by omega
                  rw [List.drop_zero]
                  have HO2 := Lib.hid (HO0.out.below HBR.out HO0.out.lt)
                  have HBW := Lib.hid (HB0.out.trans (HBR.out.mono HB0.out.size))
                  obtain ⟨S1, hS1⟩ : ∃ S, S = seqL lj.l ag key := ⟨_, rfl⟩
                  rw [← hS1] at HJ2 ⊢
                  clear hS1 a3 hj hz hz0
                  go_wp2_with fail
                  refine calls_then (CU.out _) ?_
                  rintro e w6 ⟨rfl, rfl⟩
                  go_wp2_with (first
                    | (refine wpList_build_any (T := 40) (cells := nodeCells ⟨ag, key, un, S1, name⟩) rfl _ rfl (by kernel_rfl) ?_)
                    | (refine wpList_build_any (T := 47) (cells := opN 5 0 ⟨#[]⟩ ⟨ag, key, un, S1, name⟩) rfl _ rfl (by kernel_rfl) ?_)
                    | (refine wpList_put_box (x := .tmp 12) (cells := opN 5 0 ⟨#[]⟩ ⟨ag, key, un, S1, name⟩) HO2.out rfl rfl rfl rfl opQ2_size rfl (opN_one _ _ _ _) ?_; intro w9 hb9 hw9))
                  have HB9 := Lib.hid hb9
                  have HF9 := Lib.hid (hw9.below HBW.out (by omega) (HBW.out).size)
                  refine bodyPost_ret (results_box_tmp (P := Tryz.prog) rfl rfl HB9.out huo rfl opQ2_size) rfl ?_
                  exact ⟨by rw [HJ2.out]; rfl, HF9.out⟩
end Go.Proofs.YtpfnigndhkcknaaGreatDoor
