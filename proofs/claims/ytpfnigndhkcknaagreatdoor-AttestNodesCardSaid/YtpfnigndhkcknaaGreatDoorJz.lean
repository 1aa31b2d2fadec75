/-
  PROVED: 'brevetlaw20.AttestNodes': at every input the law returns true; what came in reads as before. The listed variables are tied to the program's text by the card.
-/
import Derived.Test.YtpfnigndhkcknaaGreatDoorCards
import Derived.Test.YtpfnigndhkcknaaGreatDoorTie
import Derived.SevenTiedAt
import Derived.ChangeMaps5
import Derived.ProofKit
import Derived.OpenShut
import Derived.Test.YtpfnigndhkcknaaGreatDoorJ30
import Derived.Test.YtpfnigndhkcknaaGreatDoorJ36
import Derived.Test.YtpfnigndhkcknaaGreatDoorJ47
import Derived.Test.YtpfnigndhkcknaaGreatDoorJ1
/-
  The law AttestNodes.
-/
namespace Go.Proofs.YtpfnigndhkcknaaGreatDoor
set_option linter.unusedSimpArgs false
set_option linter.unusedVariables false
open Go.RowKit

/-- what both give -/
theorem attest_both (d : LedD) (name ag key : ByteArray) (now ttl m : Int) (hna : name.size ≤ 60) (hag : ag.size ≤ 60) (hnow : InR now) (httl : InR ttl) : ∃ (kd : Int) (nm : ByteArray) (nd : NodeD) (f : Int),
    (∀ u, LedOk u 900 d → u.cell? ⟨0, 0, none⟩ = some (.int .i64 m) → Calls Tryz.prog 6 #[.agg (ledCells d), .string name, .string ag, .string key, .int .i64 now, .int .i64 ttl] u (fun e w' => e = .returned (.tuple #[.agg (opN kd 0 nm nd), .int .i64 f]) ∧ Below u.heap.size u w')) ∧
    (∀ u, LedOk u 900 d → Calls Tryz.prog 7 #[.agg (ledCells d), .string name, .string ag, .string key, .int .i64 now, .int .i64 ttl] u (fun e w' => e = .returned (.tuple #[.agg (opN kd 0 nm nd), .int .i64 f]) ∧ Below u.heap.size u w')) := by
  obtain ⟨X, hX⟩ : ∃ X, X = attX d name ag key now ttl := ⟨_, rfl⟩
  have h1 : ∀ u, LedOk u 900 d → u.cell? ⟨0, 0, none⟩ = some (.int .i64 m) → Calls Tryz.prog 6 #[.agg (ledCells d), .string name, .string ag, .string key, .int .i64 now, .int .i64 ttl] u (fun e w' => e = .returned (.tuple #[.agg (opS X.1), .int .i64 X.2]) ∧ Below u.heap.size u w') := fun u h hm => by rw [hX]; exact aattest_any d name ag key now ttl m u h (by omega) (by omega) hm
  have h2 : ∀ u, LedOk u 900 d → Calls Tryz.prog 7 #[.agg (ledCells d), .string name, .string ag, .string key, .int .i64 now, .int .i64 ttl] u (fun e w' => e = .returned (.tuple #[.agg (opS X.1), .int .i64 X.2]) ∧ Below u.heap.size u w') := fun u h => by rw [hX]; exact rattest_any d name ag key now ttl u h (by omega) (by omega) hnow httl
  clear hX
  obtain ⟨o, f⟩ := X
  cases o with
  | none => exact ⟨0, ⟨#[]⟩, zNo, f, h1, h2⟩
  | some k => exact ⟨5, ⟨#[]⟩, k, f, h1, h2⟩
theorem OpSee.below3 {w u : World} {B : Nat} {o : OpD} (h : OpSee w B o) (hb : Below B w u) : OpSee u B o := by
  obtain ⟨⟨l1, h1, h2⟩, ⟨l2, h3, h4⟩, h5, h6⟩ := h
  exact ⟨⟨l1, h1, h2.below hb⟩, ⟨l2, h3, h4.below hb⟩, h5, h6⟩
set_option maxRecDepth 100000 in
set_option maxHeartbeats 4000000 in
theorem attestNodes_any (l : List OpD) (A : Option Addr) (c : Nat) (k : AskD) (w : World) (hr : Rd w w.heap.size A (rowsV opC l)) (hl : (l.length : Int) ≤ 9223372036854775807) (hs : ∀ o ∈ l, OpSee w w.heap.size o) (hnow : InR k.now) (httl : InR k.ttl) (m : Int) (hm : w.cell? ⟨0, 0, none⟩ = some (.int .i64 m)) :
    Calls Tryz.prog 3 #[.slice A l.length c, .agg (askC k)] w (fun e w' => e = .returned (.bool true) ∧ Below w.heap.size w w') := by
  have hua := Tryz.underlying24
  have hul := Tryz.underlying33
  have huo := Tryz.underlying47
  obtain ⟨W0, hW0⟩ : ∃ W0, W0 = w.alloc (.cells (askC k) 24) := ⟨_, rfl⟩
  have HB0 := Lib.hid (show Below w.heap.size w W0 by rw [hW0]; exact (Below.refl _ w).alloc (Nat.le_refl _) _)
  have HK0 := Lib.hid (show Blk W0 w.heap.size 24 (askC k) by rw [hW0]; exact Blk.new _ _ _)
  have HW0 := Lib.hid hW0
  have CL := Lib.hid (show ∀ u, Below w.heap.size w u → Calls Tryz.prog 5 #[.slice A l.length c] u (LgPost u) from
    fun u hu => ledger20_any l A c w.heap.size u (hr.below hu) (fun o ho => (hs o ho).below3 hu) hu.size hl)
  have CC := Lib.hid (cut20_any k W0)
  have CS := Lib.hid (sameOpN_any)
  have CV := Lib.hid (lives20_any)
  obtain ⟨kk, hkk⟩ : ∃ kk, kk = cutA k := ⟨_, rfl⟩
  rw [← hkk] at CC
  have HN := Lib.hid (show InR kk.now ∧ InR kk.ttl ∧ kk.name.size ≤ 60 ∧ kk.agent.size ≤ 60 by rw [hkk]; exact ⟨hnow, httl, few60_le _, few60_le _⟩)
  have HM := Lib.hid (show ∀ u, Below w.heap.size w u → u.cell? ⟨0, 0, none⟩ = some (.int .i64 m) from fun u hu => (hu.cell (World.block_lt_of_cell? w _ hm)).trans hm)
  clear hW0 hr hs hnow httl hkk hm
  go_enter Tryz.func3, Tryz.ntmps3
  go_upto_region 1 with (fail)
  rw [show w.alloc (.cells (askC k) 24) = W0 from HW0.out.symm]
  go_wp2_with (refine wpList_get_box (x := .tmp 3) (cs := askC k) HK0.out rfl rfl rfl hua rfl askT_size ?_)
  refine calls_then CC.out ?_
  rintro e w1 ⟨rfl, hb1⟩
  have HB1 := Lib.hid hb1
  clear hb1 CC
  go_upto_region 2 with (refine wpList_put_box (x := .tmp 3) (cells := askC kk) (HK0.out.below HB1.out HK0.out.lt) rfl rfl rfl rfl askT_size rfl (askC_one _) ?_; intro w2 hb2 hw2)
  have HK2 := Lib.hid hb2
  have HB2 := Lib.hid (hw2.below (HB0.out.trans (HB1.out.mono HB0.out.size)) (Nat.le_refl _) (HB0.out.trans (HB1.out.mono HB0.out.size)).size)
  clear hb2 hw2
  go_wp2_with fail
  refine calls_then (CL.out _ HB2.out) ?_
  rintro e w3 ⟨d, rfl, hok3, hb3⟩
  have HB3 := Lib.hid (HB2.out.trans (hb3.mono HB2.out.size))
  have HK3 := Lib.hid (HK2.out.below hb3 HK2.out.lt)
  have HOK3 := Lib.hid hok3
  clear hb3 hok3 CL
  go_upto_region 3 with (refine wpList_put_box (cells := ledCells d) (Blk.new _ _ _) rfl rfl rfl rfl ledT_size rfl (ledCells_one _) ?_; intro w4 hb4 hw4)
  have hbw4 : Below w3.heap.size w3 w4 := box_low9 hw4
  obtain ⟨H, hH⟩ : ∃ H, H = w3.heap.size := ⟨_, rfl⟩
  rw [← hH] at hb4 ⊢
  have HD4 := Lib.hid hb4
  have HB4 := Lib.hid (HB3.out.trans (hbw4.mono HB3.out.size))
  have HK4 := Lib.hid (HK3.out.below hbw4 HK3.out.lt)
  have HOK4 := Lib.hid ((HOK3.out.grow hbw4).more (show 20 ≤ 900 by omega))
  clear hb4 hw4 hbw4 hH
  obtain ⟨kd, nm, nd, f, hja, hjr⟩ := attest_both d kk.name kk.agent kk.key kk.now kk.ttl m HN.out.2.2.1 HN.out.2.2.2 HN.out.1 HN.out.2.1
  have CA := Lib.hid hja
  have CR := Lib.hid hjr
  clear hja hjr
  obtain ⟨AK, hAK⟩ : ∃ x, x = Value.agg (askC k) := ⟨_, rfl⟩
  rw [← hAK]
  clear hAK
  have a0 : w4.cell? ⟨w.heap.size, 0, none⟩ = some (.string kk.name) := HK4.out.cell 0
  have a1 : w4.cell? ⟨w.heap.size, 1, none⟩ = some (.string kk.agent) := HK4.out.cell 1
  have a2 : w4.cell? ⟨w.heap.size, 2, none⟩ = some (.string kk.key) := HK4.out.cell 2
  have a3 : w4.cell? ⟨w.heap.size, 3, none⟩ = some (.int .i64 kk.now) := HK4.out.cell 3
  have a4 : w4.cell? ⟨w.heap.size, 4, none⟩ = some (.int .i64 kk.ttl) := HK4.out.cell 4
  go_wp2_with (refine wpList_get_box (x := .tmp 5) (cs := ledCells d) HD4.out rfl rfl rfl hul rfl ledT_size ?_)
  refine calls_then (CA.out _ HOK4.out (HM.out _ HB4.out)) ?_
  rintro e w5 ⟨rfl, hb5⟩
  have HB5 := Lib.hid hb5
  clear hb5 a0 a1 a2 a3 a4
  go_upto_region 4 with (refine wpList_put_box (cells := opN kd 0 nm nd) (Blk.new _ _ _) rfl rfl rfl rfl opQ2_size rfl (opN_one _ _ _ _) ?_; intro w6 hb6 hw6)
  have hbw6 : Below w5.heap.size w5 w6 := box_low9 hw6
  obtain ⟨H1, hH1⟩ : ∃ H, H = w5.heap.size := ⟨_, rfl⟩
  rw [← hH1] at hb6 ⊢
  have HO6 := Lib.hid hb6
  have hb46 : Below w4.heap.size w4 w6 := HB5.out.trans (hbw6.mono HB5.out.size)
  have HB6 := Lib.hid (HB4.out.trans (hb46.mono HB4.out.size))
  have HK6 := Lib.hid (HK4.out.below hb46 HK4.out.lt)
  have HD6 := Lib.hid (HD4.out.below hb46 HD4.out.lt)
  have HOK6 := Lib.hid (HOK4.out.grow hb46)
  clear hb6 hw6 hbw6 hH1 hb46
  have a0 : w6.cell? ⟨w.heap.size, 0, none⟩ = some (.string kk.name) := HK6.out.cell 0
  have a1 : w6.cell? ⟨w.heap.size, 1, none⟩ = some (.string kk.agent) := HK6.out.cell 1
  have a2 : w6.cell? ⟨w.heap.size, 2, none⟩ = some (.string kk.key) := HK6.out.cell 2
  have a3 : w6.cell? ⟨w.heap.size, 3, none⟩ = some (.int .i64 kk.now) := HK6.out.cell 3
  have a4 : w6.cell? ⟨w.heap.size, 4, none⟩ = some (.int .i64 kk.ttl) := HK6.out.cell 4
  go_wp2_with (refine wpList_get_box (x := .tmp 5) (cs := ledCells d) HD6.out rfl rfl rfl hul rfl ledT_size ?_)
  refine calls_then (CR.out _ HOK6.out) ?_
  rintro e w7 ⟨rfl, hb7⟩
  have HB7 := Lib.hid hb7
  clear hb7 a0 a1 a2 a3 a4
  go_upto_region 5 with (refine wpList_put_box (cells := opN kd 0 nm nd) (Blk.new _ _ _) rfl rfl rfl rfl opQ2_size rfl (opN_one _ _ _ _) ?_; intro w8 hb8 hw8)
  have hbw8 : Below w7.heap.size w7 w8 := box_low9 hw8
  obtain ⟨H2, hH2⟩ : ∃ H, H = w7.heap.size := ⟨_, rfl⟩
  rw [← hH2] at hb8 ⊢
  have HR8 := Lib.hid hb8
  have hb68 : Below w6.heap.size w6 w8 := HB7.out.trans (hbw8.mono HB7.out.size)
  have HB8 := Lib.hid (HB6.out.trans (hb68.mono HB6.out.size))
  have HO8 := Lib.hid (HO6.out.below hb68 HO6.out.lt)
  clear hb8 hw8 hbw8 hH2 hb68
  go_wp2_with (first
    | refine wpList_get_box (x := .tmp 6) (cs := opN kd 0 nm nd) HO8.out rfl rfl rfl huo rfl opQ2_size ?_
    | refine wpList_get_box (x := .tmp 8) (cs := opN kd 0 nm nd) HR8.out rfl rfl rfl huo rfl opQ2_size ?_)
  refine calls_then (CS.out kd 0 nm nd _) ?_
  rintro e w9 ⟨rfl, hb9⟩
  have HB9 := Lib.hid (HB8.out.trans (hb9.mono HB8.out.size))
  clear hb9
  go_wp2_with fail
  refine calls_then (CV.out _) ?_
  rintro e wz ⟨rfl, hbz⟩
  have HBZ := Lib.hid (HB9.out.trans (hbz.mono HB9.out.size))
  clear hbz
  go_wp2_with fail
  go_ret
  exact ⟨rfl, HBZ.out⟩
end Go.Proofs.YtpfnigndhkcknaaGreatDoor
namespace Go.Proofs.YtpfnigndhkcknaaGreatDoor.attestNodes
set_option linter.unusedSimpArgs false
set_option linter.unusedVariables false
open Go.ChangeShapes Go.WideShapes Go.ChangeAt Go.RowKit Go.Joins

set_option maxRecDepth 100000 in
theorem lifted (os : Os) (started : os.Started) (H : Type) (enc : TypeId × Value → H) :
    ReturnsInHanded {} Tryz.checked os 3 .any (fun w args => (Rows.attestNodesSpec.pre enc Tryz.prog Tryz.f3 [] false w args ∧ laidMetH Tryz.prog laidL2 w) ∧ sizedMet enc Tryz.prog Tryz.f3 (OpenSpec.ofChange Rows.attestNodesSpec) false w args)
      (Rows.attestNodesSpec.post enc Tryz.prog Tryz.f3 false true false false) := by
  refine handed_and_shaped (C := Tryz.checked) (X := fun w _ => laidMetH Tryz.prog laidL2 w) (fun _ _ _ hh h => h.of_heap hh) own started (by kernel_rfl) Tryz.func3
    (ChangeSpec.witness_shaped (enc := enc) (C := Tryz.checked) (os := os) (X := fun w _ => laidMetH Tryz.prog laidL2 w) false (World.laidAll Tryz.prog os laidL2) #[.slice none 0 0, .agg #[.string .empty, .string .empty, .string .empty, .int .i64 0, .int .i64 0]] 8 (World.laidAll_os _ _ _) (World.shaped_of_ZipB (by kernel_rfl) (by kernel_rfl)) (by kernel_rfl) (by kernel_rfl) (by kernel_rfl) (door_met2 os _)) ?_
  intro W base args ds gs before hval0 hW hsh
  obtain ⟨m, hm⟩ := max_some hsh
  have hval : ∀ (j : Nat) t v, Tryz.f3.params[j]? = some t → args[j]? = some v → Value.okWide Tryz.prog W .any base t v := hval0
  have hW' := hW
  obtain ⟨p, q, hA0, hV, rfl, hfz, hnd⟩ := hW
  have hA : DataW.TrodAll enc Tryz.prog W 0 (fun _ => true) true Tryz.f3.params.toList args.toList ds p := hA0
  rw [Tryz.params3] at hA hval
  obtain ⟨v0, v1, d0, d1, p0, p1, rfl, rfl, rfl, h0, h1⟩ := trodAll_two hA
  obtain ⟨rfl, rfl⟩ := trodVars_none hV
  have h0k := h0
  have h1k := h1
  obtain ⟨A0, c0, l0, rfl, r0, b0, s0⟩ := open_ops_arg (hval 0 22 v0 rfl rfl) h0
  obtain ⟨k1, rfl, n1, t1⟩ := open_ask_arg (hval 1 24 v1 rfl rfl) h1
  clear hA0 hval0
  try simp only [List.append_nil, List.nil_append] at hW'
  refine (attestNodes_any l0 A0 c0 k1 W r0 b0 s0 n1 t1 m hm).mono fun e W' ⟨he, hb⟩ => ?_
  subst he
  have hlt : ∀ x ∈ (p0 ++ p1 : List MemPlace), x.block < W.heap.size := fun x hx => hW'.lt x (by first | (simp at hx; done) | simpa using hx)
  exact ⟨_, rfl, post_of_below (pa := p0 ++ p1) (pv := []) hW' (fun _ _ _ => trodAll_mk1 (shut_bool Tryz.underlying4 _))
    (fun sp hsp => trodAll_mk2 (stays laidOut (by kernel_rfl) (of_decide_eq_true (by kernel_rfl)) h0k hb (fun x hx => hlt x (by simp [hx])) (fun x hx => hsp x (by simp [hx])))
      (stays laidOut (by kernel_rfl) (of_decide_eq_true (by kernel_rfl)) h1k hb (fun x hx => hlt x (by simp [hx])) (fun x hx => hsp x (by simp [hx]))))
    (fun _ _ => by rfl) (by simp) hb (ok_one (by kernel_rfl) rfl (okWide_bool_mk Tryz.underlying4 _))⟩

theorem row_holds : Rows.AttestNodesSaid :=
  OpenClaim.holds_of_wide 3 Tryz.f3 rfl rfl rfl rfl rfl rfl rfl ⟨rfl, rfl, rfl, rfl, rfl⟩ rfl rfl rfl rfl rfl (by kernel_rfl) Tryz.func3 (by kernel_rfl)
    (of_decide_eq_true (by kernel_rfl)) (by unfold Func.isWrapper; first | (rw [if_pos (by decide +kernel)]; kernel_rfl) | (rw [if_neg (by decide +kernel)]; exact ⟨rfl, rfl⟩))
    (fun os started H enc _ => lifted os started H enc)

theorem holds : Rows.AttestNodesCardSaid :=
  Claim7.holds_tied_plain_at .later [] [.data, .pinned] true (true, "6fa6854da04170210e77b550f98b164ddd73875f5187cd469e1a6e315b0f0c89") false
    row_holds (fun _ h => by cases h) (by kernel_rfl) (fun _ h => by cases h) attestNodes_row_tie rfl ⟨rfl, rfl⟩ (by kernel_rfl) rfl
    (fun f fn hf hfn => by
      obtain rfl : f = 3 := Option.some.inj ((show Tryz.prog.funcNamed "brevet/brevetlaw20.AttestNodes" = some 3 by kernel_rfl).symm.trans hf) |>.symm
      obtain rfl : fn = Tryz.f3 := (Option.some.inj (Tryz.func3.symm.trans hfn)).symm
      exact ⟨by kernel_rfl, fun j t ht => by
        rw [Tryz.params3] at ht
        have hm : t ∈ [22, 24] := by simpa using Array.mem_of_getElem? ht
        have hall : ([22, 24].all fun u => !Tryz.prog.wantsStandIn u) = true := by kernel_rfl
        exact (show Tryz.prog.wantsStandIn t = false by simpa using List.all_eq_true.1 hall t hm)⟩)
    (by kernel_rfl)
#print axioms holds
end Go.Proofs.YtpfnigndhkcknaaGreatDoor.attestNodes
