/-
  Joined texts: Id2 Dr2.
-/
import Derived.Test.YtilhhigdegccgaaDoorJ33
import Derived.Test.YtilhhigdegccgaaDoorJ6
import Derived.Test.YtilhhigdegccgaaDoorJ7
/-
  Walks: brevetref09.Path, brevetref09.Agent, by value.
-/
namespace Go.Proofs.YtilhhigdegccgaaDoor.Js
set_option linter.unusedSimpArgs false
set_option linter.unusedVariables false
open Go.RowKit
theorem ext_next (s : ByteArray) {a k : Nat} (h : a ≤ k) (hk : k < s.size) : (s.extract a (k + 1)).data.toList = (s.extract a k).data.toList ++ [s[k]] := by
  have e : ∀ b, (s.extract a b).data.toList = (s.data.toList.take b).drop a := fun b => by
    rw [Lib.extract_data, List.drop_take]
  have hl : k < s.data.toList.length := hk
  rw [e, e, List.take_succ_eq_append_getElem hl, List.drop_append_of_le_length (by rw [List.length_take]; omega)]
  rfl
theorem ext_nil (s : ByteArray) (k : Nat) : (s.extract k k).data.toList = [] := by
  rw [Lib.extract_data]; simp
theorem rofN_any (u : ByteArray) (hu : u.size ≤ 40) (w : World) : Calls Tryd.prog 73 #[.string u, .string ⟨#[97, 98, 99, 100, 101, 102, 103, 104, 105, 106, 107, 108, 109, 110, 111, 112, 113, 114, 115, 116, 117, 118, 119, 120, 121, 122, 65, 66, 67, 68, 69, 70, 71, 72, 73, 74, 75, 76, 77, 78, 79, 80, 81, 82, 83, 84, 85, 86, 87, 88, 89, 90, 48, 49, 50, 51, 52, 53, 54, 55, 56, 57, 46, 45, 95]⟩, .int .i64 40] w fun e w' => e = .returned (.bool (allN u.data.toList)) ∧ w' = w := by
  have hl : u.data.toList.length ≤ 40 := hu
  have h := rof_any u.data.toList pathC 40 (by omega) (by decide) (by decide) w
  have hbs : bs u.data.toList = u := by apply ByteArray.ext; simp [bs]
  rw [of9_named _ hl, hbs] at h
  exact h
theorem eq_lit (u : ByteArray) (l : List UInt8) : (u.toList == l) = decide (u.data.toList = l) := by
  rw [← Lib.toList_data]
  by_cases h : u.toList = l
  · rw [decide_eq_true h]; simpa using h
  · rw [decide_eq_false h]; simpa using h
set_option maxRecDepth 100000 in
set_option maxHeartbeats 4000000 in
theorem rpath_any (s : ByteArray) (hs : s.size ≤ 1000) (w : World) : Calls Tryd.prog 54 #[.string s] w fun e w' => e = .returned (.bool (pathB s.data.toList)) ∧ w' = w := by
  have hs' : (s.size : Int) ≤ 1000 := by omega
  obtain ⟨R, hR⟩ : ∃ R, R = pathB s.data.toList := ⟨_, rfl⟩
  obtain ⟨S, hS⟩ : ∃ S, S = segsOk [] (s.data.toList.drop 1) := ⟨_, rfl⟩
  have HR := Lib.hid (show R = (decide (s.size ≤ 40) && (decide (s.data.toList.take 1 = [47]) && S)) by rw [hR, hS]; rfl)
  have HS := Lib.hid hS
  have h5 : s.data.toList.length = s.size := rfl
  have H5 := Lib.hid h5
  rw [← hR]
  clear hR hS h5
  by_cases h1 : s.size < 2
  · have HRF := Lib.hid (show R = false by
      rw [HR.out]
      have h5 := H5.out
      have hS := HS.out
      generalize s.data.toList = L at h5 hS ⊢
      match L, h5 with
      | [], _ => simp
      | [c], _ => rw [hS]; simp [segsOk, segOk, allN]
      | _ :: _ :: _, h => simp at h; omega)
    have d1 : decide ((s.size : Int) < 2) = true := by simp; omega
    go_enter Tryd.func54, Tryd.ntmps54
    go_wp2_with fail
    go_ret
    exact ⟨by rw [HRF.out]; rfl, rfl⟩
  · by_cases h2 : 40 < s.size
    · have HRF := Lib.hid (show R = false by rw [HR.out, decide_eq_false (by omega)]; rfl)
      have d1 : decide ((s.size : Int) < 2) = false := by simp; omega
      have d2 : decide ((s.size : Int) > 40) = true := by simp; omega
      have d3 : decide ((40 : Int) < (s.size : Int)) = true := by simp; omega
      go_enter Tryd.func54, Tryd.ntmps54
      go_wp2_with fail
      go_ret
      exact ⟨by rw [HRF.out]; rfl, rfl⟩
    · have d1 : decide ((s.size : Int) < 2) = false := by simp; omega
      have d2 : decide ((s.size : Int) > 40) = false := by simp; omega
      have d3 : decide ((40 : Int) < (s.size : Int)) = false := by simp; omega
      have h0 : 0 < s.size := by omega
      have HT1 := Lib.hid (show s.data.toList.take 1 = [s[0]] by
        have hl : 0 < s.data.toList.length := h0
        rw [show (1 : Nat) = 0 + 1 from rfl, List.take_succ_eq_append_getElem hl]
        rfl)
      by_cases h3 : ((s[0].toNat : Nat) : Int) = 47
      · have HRS := Lib.hid (show R = S by
          have hc : s[0] = 47 := UInt8.toNat_inj.1 (by have := h3; show s[0].toNat = 47; omega)
          rw [HR.out, decide_eq_true (show s.size ≤ 40 by omega), HT1.out, hc]
          simp)
        have HSZ := Lib.hid (show s.size ≤ 40 by omega)
        have CO := Lib.hid (fun (a k : Nat) => rofN_any (s.extract a k) (by have := HSZ.out; simp; omega) w)
        have HI0 := Lib.hid (show ∀ a k : Nat, a = 1 → k = 1 → S = segsOk (s.extract a k).data.toList (s.data.toList.drop k) from fun a k ha hk => by rw [ha, hk, ext_nil, HS.out])
        go_enter Tryd.func54, Tryd.ntmps54
        go_wp2_with fail
        go_loop [3, 4] (fun f i => ∃ a k : Nat, 1 ≤ a ∧ a ≤ k ∧ k ≤ s.size + 1 ∧ f = .int .i64 (a : Int) ∧ i = .int .i64 (k : Int) ∧ Hid ((k ≤ s.size → S = segsOk (s.extract a k).data.toList (s.data.toList.drop k)) ∧ (k = s.size + 1 → S = true))) (fun _ i => s.size + 1 - (intOf i).toNat)
        case atStart => exact ⟨1, 1, by omega, by omega, by omega, rfl, rfl, Lib.hid ⟨fun _ => HI0.out 1 1 rfl rfl, fun h => by omega⟩⟩
        case round =>
          obtain ⟨a, k, ha, hak, hk, rfl, rfl, HI⟩ := hrel
          by_cases hle : k ≤ s.size
          · have l1 : decide ((k : Int) ≤ (s.size : Int)) = true := by simp; omega
            have HSK := Lib.hid (HI.out.1 hle)
            by_cases hq : ∃ h : k < s.size, ((s[k].toNat : Nat) : Int) ≠ 47
            · obtain ⟨hlt, hq⟩ := hq
              have HNX := Lib.hid (show S = segsOk (s.extract a (k + 1)).data.toList (s.data.toList.drop (k + 1)) by
                have hl : k < s.data.toList.length := hlt
                rw [HSK.out, List.drop_eq_getElem_cons hl, segsOk, if_neg (fun e => hq (by rw [show s.data.toList[k] = s[k] from rfl] at e; rw [e]; rfl)), ext_next s hak hlt]
                rfl)
              have l2 : decide ((k : Int) < (s.size : Int)) = true := by simp; omega
              have l2' : (k : Int) < (s.size : Int) := by omega
              go_wp2_with fail
              go_round
              case rel => exact ⟨a, k + 1, ha, by omega, by omega, rfl, by go_num, Lib.hid ⟨fun _ => HNX.out, fun h => by omega⟩⟩
              case measure => simp [intOf]; omega
            · have i1 : (a : Int) ≤ (k : Int) := by omega
              have i2 : (k : Int) ≤ (s.size : Int) := by omega
              have i3 : (0 : Int) ≤ (a : Int) := by omega
              obtain ⟨u, hu⟩ : ∃ u, u = s.extract a k := ⟨_, rfl⟩
              obtain ⟨T, hT⟩ : ∃ T : Bool, T = (if k < s.size then segsOk [] (s.data.toList.drop (k + 1)) else true) := ⟨_, rfl⟩
              have HST := Lib.hid (show S = (segOk u.data.toList && T) by
                rw [HSK.out, hu, hT]
                by_cases hlt : k < s.size
                · have hl : k < s.data.toList.length := hlt
                  have hc : s[k] = 47 := UInt8.toNat_inj.1 (by
                    have : ((s[k].toNat : Nat) : Int) = 47 := Classical.byContradiction fun h => hq ⟨hlt, h⟩
                    show s[k].toNat = 47; omega)
                  rw [if_pos hlt, List.drop_eq_getElem_cons hl, segsOk, if_pos (show s.data.toList[k] = 47 from hc)]
                · rw [if_neg hlt, List.drop_of_length_le (by rw [H5.out]; omega), segsOk, Bool.and_true])
              have HNX := Lib.hid (show segOk u.data.toList = true → ((k + 1 ≤ s.size → S = segsOk (s.extract (k + 1) (k + 1)).data.toList (s.data.toList.drop (k + 1))) ∧ (k + 1 = s.size + 1 → S = true)) from fun h => by
                rw [HST.out, h, hT, Bool.true_and, ext_nil]
                exact ⟨fun h => by rw [if_pos (by omega)], fun h => by rw [if_neg (by omega)]⟩)
              have CU := Lib.hid (CO.out a k)
              rw [← hu] at CU
              have HSO := Lib.hid (show segOk u.data.toList = (allN u.data.toList && (!(u.toList == ([46] : List UInt8)) && !(u.toList == ([46, 46] : List UInt8)))) by
                rw [segOk, eq_lit, eq_lit]
                simp)
              obtain ⟨b, hb⟩ : ∃ b, b = allN u.data.toList := ⟨_, rfl⟩
              rw [← hb] at CU HSO
              obtain ⟨q1, hq1⟩ : ∃ q, (u.toList == ([46] : List UInt8)) = q := ⟨_, rfl⟩
              obtain ⟨q2, hq2⟩ : ∃ q, (u.toList == ([46, 46] : List UInt8)) = q := ⟨_, rfl⟩
              rw [hq1, hq2] at HSO
              have HEX := Lib.hid hu
              clear hb hT hu
              by_cases hlt : k < s.size
              · have l2 : decide ((k : Int) < (s.size : Int)) = true := by simp; omega
                have l2' : (k : Int) < (s.size : Int) := by omega
                have hs47 : ((s[k].toNat : Nat) : Int) = 47 := by
                  refine Classical.byContradiction fun h => hq ⟨hlt, h⟩
                clear hq
                go_wp2_with fail
                rw [show s.extract a k = u from HEX.out.symm]
                refine calls_then CU.out ?_
                rintro e w' ⟨rfl, rfl⟩
                cases b with
                | false =>
                  have HRF := Lib.hid (show R = false by rw [HRS.out, HST.out, HSO.out]; rfl)
                  go_wp2_with fail
                  go_ret
                  exact ⟨by rw [HRF.out]; rfl, rfl⟩
                | true =>
                  cases q1 with
                  | true =>
                    have HRF := Lib.hid (show R = false by rw [HRS.out, HST.out, HSO.out]; rfl)
                    go_wp2_with fail
                    go_ret
                    exact ⟨by rw [HRF.out]; rfl, rfl⟩
                  | false =>
                    cases q2 with
                    | true =>
                      have HRF := Lib.hid (show R = false by rw [HRS.out, HST.out, HSO.out]; rfl)
                      go_wp2_with fail
                      go_ret
                      exact ⟨by rw [HRF.out]; rfl, rfl⟩
                    | false =>
                      have HN2 := Lib.hid (HNX.out (by rw [HSO.out]; rfl))
                      go_wp2_with fail
                      go_round
                      case rel => exact ⟨k + 1, k + 1, by omega, by omega, by omega, by go_num, by go_num, HN2⟩
                      case measure => simp [intOf]; omega
              · have l2 : decide ((k : Int) < (s.size : Int)) = false := by simp; omega
                have l2' : ¬ (k : Int) < (s.size : Int) := by omega
                clear hq
                go_wp2_with fail
                rw [show s.extract a k = u from HEX.out.symm]
                refine calls_then CU.out ?_
                rintro e w' ⟨rfl, rfl⟩
                cases b with
                | false =>
                  have HRF := Lib.hid (show R = false by rw [HRS.out, HST.out, HSO.out]; rfl)
                  go_wp2_with fail
                  go_ret
                  exact ⟨by rw [HRF.out]; rfl, rfl⟩
                | true =>
                  cases q1 with
                  | true =>
                    have HRF := Lib.hid (show R = false by rw [HRS.out, HST.out, HSO.out]; rfl)
                    go_wp2_with fail
                    go_ret
                    exact ⟨by rw [HRF.out]; rfl, rfl⟩
                  | false =>
                    cases q2 with
                    | true =>
                      have HRF := Lib.hid (show R = false by rw [HRS.out, HST.out, HSO.out]; rfl)
                      go_wp2_with fail
                      go_ret
                      exact ⟨by rw [HRF.out]; rfl, rfl⟩
                    | false =>
                      have HN2 := Lib.hid (HNX.out (by rw [HSO.out]; rfl))
                      go_wp2_with fail
                      go_round
                      case rel => exact ⟨k + 1, k + 1, by omega, by omega, by omega, by go_num, by go_num, HN2⟩
                      case measure => simp [intOf]; omega
          · have l1 : decide ((k : Int) ≤ (s.size : Int)) = false := by simp; omega
            have l1' : ¬ (k : Int) ≤ (s.size : Int) := by omega
            have HRT := Lib.hid (show R = true by rw [HRS.out]; exact HI.out.2 (by omega))
            go_wp2_with fail
            go_ret
            exact ⟨by rw [HRT.out]; rfl, rfl⟩
      · have HRF := Lib.hid (show R = false by
          rw [HR.out, HT1.out, decide_eq_false (p := [s[0]] = [47]) (fun h => h3 (by injection h with h; rw [h]; rfl))]
          simp)
        clear HT1
        go_enter Tryd.func54, Tryd.ntmps54
        go_wp2_with fail
        go_ret
        exact ⟨by rw [HRF.out]; rfl, rfl⟩
theorem agent_short (s : ByteArray) (h : s.size < 8) : agentB s.data.toList = false := by
  unfold agentB
  by_cases h7 : s.data.toList.take 7 = agentT
  · have hl : s.data.toList.length = s.size := rfl
    have e : s.data.toList = agentT := by
      have : s.data.toList.take 7 = s.data.toList := List.take_of_length_le (by omega)
      rw [← this]; exact h7
    rw [e]
    decide
  · rw [decide_eq_false h7]; rfl
set_option maxRecDepth 100000 in
set_option maxHeartbeats 2000000 in
theorem ragent_any (s : ByteArray) (hs : s.size ≤ 1000) (w : World) : Calls Tryd.prog 55 #[.string s] w fun e w' => e = .returned (.bool (agentB s.data.toList)) ∧ w' = w := by
  have hs' : (s.size : Int) ≤ 1000 := by omega
  have CP := Lib.hid (rpath_any s hs w)
  have CI := Lib.hid (show Calls Tryd.prog 74 #[.int .u8 47, .string (s.extract 7 s.size)] w fun e w' => e = .returned (.bool (decide (47 ∈ s.data.toList.drop 7))) ∧ w' = w by
    have h5 : s.data.toList.length = s.size := rfl
    have h := rin_any 47 (s.data.toList.drop 7) (by rw [List.length_drop, h5]; omega) w
    have e : bs (s.data.toList.drop 7) = s.extract 7 s.size := by
      apply ByteArray.ext
      apply Array.ext'
      rw [Lib.extract_data]
      simp [bs]
      rw [List.take_of_length_le (by rw [List.length_drop]; simp)]
    rw [e] at h
    exact h)
  have HE := Lib.hid (show agentB s.data.toList = (((s.extract 0 7).toList == ([47, 97, 103, 101, 110, 116, 47] : List UInt8)) && (pathB s.data.toList && !decide (47 ∈ s.data.toList.drop 7))) by
    rw [eq_lit, Lib.extract_from_zero, agentB, decide_not]
    congr)
  have HF := Lib.hid (agent_short s)
  obtain ⟨R, hR⟩ : ∃ R, R = agentB s.data.toList := ⟨_, rfl⟩
  rw [← hR] at HE HF ⊢
  obtain ⟨P, hP⟩ : ∃ P, P = pathB s.data.toList := ⟨_, rfl⟩
  rw [← hP] at HE CP
  obtain ⟨M, hM⟩ : ∃ M, M = decide (47 ∈ s.data.toList.drop 7) := ⟨_, rfl⟩
  rw [← hM] at HE CI
  obtain ⟨q, hq⟩ : ∃ q, ((s.extract 0 7).toList == ([47, 97, 103, 101, 110, 116, 47] : List UInt8)) = q := ⟨_, rfl⟩
  rw [hq] at HE
  clear hR hP hM
  by_cases h8 : s.size < 8
  · have HRF := Lib.hid (HF.out h8)
    have d1 : decide ((s.size : Int) < 8) = true := by simp; omega
    clear hq
    go_enter Tryd.func55, Tryd.ntmps55
    go_wp2_with fail
    refine calls_then CP.out ?_
    rintro e w' ⟨rfl, rfl⟩
    cases P with
    | true =>
      go_wp2_with fail
      go_ret
      exact ⟨by rw [HRF.out]; rfl, rfl⟩
    | false =>
      go_wp2_with fail
      go_ret
      exact ⟨by rw [HRF.out]; rfl, rfl⟩
  · have d1 : decide ((s.size : Int) < 8) = false := by simp; omega
    have i7 : (7 : Int) ≤ (s.size : Int) := by omega
    go_enter Tryd.func55, Tryd.ntmps55
    go_wp2_with fail
    refine calls_then CP.out ?_
    rintro e w' ⟨rfl, rfl⟩
    cases P with
    | false =>
      have HRF := Lib.hid (show R = false by rw [HE.out]; simp)
      go_wp2_with fail
      go_ret
      exact ⟨by rw [HRF.out]; rfl, rfl⟩
    | true =>
      cases q with
      | false =>
        have HRF := Lib.hid (show R = false by rw [HE.out]; rfl)
        go_wp2_with fail
        go_ret
        exact ⟨by rw [HRF.out]; rfl, rfl⟩
      | true =>
        have HRM := Lib.hid (show R = !M by rw [HE.out]; rfl)
        go_wp2_with fail
        refine calls_then CI.out ?_
        rintro e w' ⟨rfl, rfl⟩
        go_wp2_with fail
        go_ret
        exact ⟨by rw [HRM.out]; rfl, rfl⟩
end Go.Proofs.YtilhhigdegccgaaDoor.Js
/-
  Plain: what an operation may do to a ledger.
-/
namespace Go.Proofs.YtilhhigdegccgaaDoor
set_option linter.unusedSimpArgs false
set_option linter.unusedVariables false
open Go.RowKit
def nodB (n : NodeD) : Bool := Js.agentB n.name.data.toList && (decide (n.key.size = 32) && (decide (0 ≤ n.exp) && (decide (n.exp ≤ 1099511627776) && (decide (0 ≤ n.seq) && (decide (n.seq ≤ 1099511627776) && decide (n.doc.size ≤ 16))))))
def NodP (n : NodeD) : Prop := Js.agentB n.name.data.toList = true ∧ 0 ≤ n.seq ∧ n.seq ≤ 1099511627776 ∧ n.doc.size ≤ 16
def InvP (d : LedD) : Prop := (∀ j ∈ d.joins.l, Js.agentB j.name.data.toList = true) ∧ ∀ n ∈ d.nodes.l, NodP n
theorem nodB_p {n : NodeD} (h : nodB n = true) : NodP n := by
  unfold nodB at h
  simp only [Bool.and_eq_true, decide_eq_true_eq] at h
  exact ⟨h.1, h.2.2.2.2.1, h.2.2.2.2.2.1, h.2.2.2.2.2.2⟩
def NodeDone (d : LedD) (n : NodeD) (d' : LedD) (f : Int) : Prop := (f = 0 ∧ d'.bans.l = d.bans.l ∧ d'.nodes.l.find? (eqN n.name) = some n) ∨ f = 6
structure DoRel (d : LedD) (o : OpD) (d' : LedD) (f : Int) : Prop where
  inv : InvP d → InvP d'
  node : o.kind = 5 → nodB o.node = true → hasB d.bans.l o.node.name = false → NodeDone d o.node d' f
  join : o.kind = 4 → ∀ j, d.joins.l.find? (eqJ o.name) = some j → j.used = false → (o.node.name.toList == j.name.toList) = true → nodB o.node = true → hasB d.bans.l o.node.name = false → NodeDone d o.node d' f
theorem DoRel.other {d d' : LedD} {o : OpD} {f : Int} (hk : o.kind ≠ 4 ∧ o.kind ≠ 5) (h : InvP d → InvP d') : DoRel d o d' f := ⟨h, fun e => absurd e hk.2, fun e => absurd e hk.1⟩
def DoPostR (d : LedD) (o : OpD) (base g K : Nat) (w : World) (e : Ending) (w' : World) : Prop := ∃ (d' : LedD) (f : Int), e = .returned (.int .i64 f) ∧ LW w' base g (K + 1) d' ∧ Below base w w' ∧ DoRel d o d' f
theorem DoPostR.no {base g K : Nat} {d : LedD} {o : OpD} {w u : World} (hk : o.kind ≠ 4 ∧ o.kind ≠ 5) (h : LW u base g K d) (hb : Below base w u) (f : Int) : DoPostR d o base g K w (.returned (.int .i64 f)) u := ⟨d, f, rfl, h.more (Nat.le_succ _), hb, .other hk (fun h => h)⟩
theorem DoPostR.of {base g K : Nat} {d : LedD} {o : OpD} {w u : World} {e : Ending} {w' : World} (h : DoPostR d o base g K u e w') (hb : Below base w u) : DoPostR d o base g K w e w' := by
  obtain ⟨d', f, h1, h2, h3, h4⟩ := h
  exact ⟨d', f, h1, h2, hb.trans h3, h4⟩
def NdRel (d : LedD) (k : NodeD) (s : Sl NodeD) (f : Int) : Prop :=
  (s = d.nodes ∧ f ≠ 0 ∧ (nodB k = true → hasB d.bans.l k.name = false → f = 6)) ∨ (f = 0 ∧ nodB k = true ∧ hasB d.bans.l k.name = false ∧ s.l.find? (eqN k.name) = some k ∧ ∀ x ∈ s.l, x ∈ d.nodes.l ∨ x = k)
def NdPostR (d : LedD) (k : NodeD) (base g K : Nat) (w : World) (e : Ending) (w' : World) : Prop := ∃ (s : Sl NodeD) (f : Int), e = .returned (.int .i64 f) ∧ LW w' base g (K + 1) { d with nodes := s } ∧ Below base w w' ∧ NdRel d k s f
theorem NdPostR.no {base g K : Nat} {d : LedD} {k : NodeD} {w u : World} (h : LW u base g K d) (hb : Below base w u) (f : Int) (h0 : f ≠ 0) (h1 : nodB k = true → hasB d.bans.l k.name = false → f = 6) : NdPostR d k base g K w (.returned (.int .i64 f)) u := ⟨d.nodes, f, rfl, h.more (Nat.le_succ _), hb, .inl ⟨rfl, h0, h1⟩⟩
theorem NdRel.inv {d : LedD} {k : NodeD} {s : Sl NodeD} {f : Int} (h : NdRel d k s f) (hi : InvP d) : InvP { d with nodes := s } := by
  refine ⟨hi.1, fun n hn => ?_⟩
  rcases h with ⟨rfl, -, -⟩ | ⟨-, hk, -, -, hm⟩
  · exact hi.2 n hn
  · rcases hm n hn with h | rfl
    · exact hi.2 n h
    · exact nodB_p hk
theorem NdRel.done {d : LedD} {k : NodeD} {s : Sl NodeD} {f : Int} (h : NdRel d k s f) (hk : nodB k = true) (hb : hasB d.bans.l k.name = false) : NodeDone d k { d with nodes := s } f := by
  rcases h with ⟨-, -, h⟩ | ⟨rfl, -, -, hf, -⟩
  · exact .inr (h hk hb)
  · exact .inl ⟨rfl, rfl, hf⟩
end Go.Proofs.YtilhhigdegccgaaDoor
