/-
  PROVED: 'brevetlaw20.AttestBanned': at every input the law returns true; what came in reads as before. The listed variables are tied to the program's text by the card.
-/
import Derived.Test.YtilhhigdegccgaaDoorCards
import Derived.Test.YtilhhigdegccgaaDoorTie
import Derived.SevenTiedAt
import Derived.ChangeMaps5
import Derived.ProofKit
import Derived.OpenShut
import Derived.Test.YtilhhigdegccgaaDoorJ29
import Derived.Test.YtilhhigdegccgaaDoorJ47
import Derived.Test.YtilhhigdegccgaaDoorJ2
import Derived.Test.YtilhhigdegccgaaDoorJ28
/-
  The law AttestBanned.
-/
namespace Go.Proofs.YtilhhigdegccgaaDoor
set_option linter.unusedSimpArgs false
set_option linter.unusedVariables false
open Go.RowKit

theorem OpSee.below4 {w u : World} {B : Nat} {o : OpD} (h : OpSee w B o) (hb : Below B w u) : OpSee u B o := by
  obtain ⟨⟨l1, h1, h2⟩, ⟨l2, h3, h4⟩, h5, h6⟩ := h
  exact ⟨⟨l1, h1, h2.below hb⟩, ⟨l2, h3, h4.below hb⟩, h5, h6⟩
theorem join_told (d : LedD) (tok ag key : ByteArray) (now ttl : Int) (hi : InvP d) (ht : tok.size ≤ 60) (hg : ag.size ≤ 60) : ∃ (o : OpD) (f : Int),
    (∀ u, LedOk u 900 d → Calls Tryd.prog 6 #[.agg (ledCells d), .string tok, .string ag, .string key, .int .i64 now, .int .i64 ttl] u (fun e w' => e = .returned (.tuple #[.agg (opC o), .int .i64 f]) ∧ Below u.heap.size u w')) ∧ (f = 0 → ToldOk d ag now o) := by
  obtain ⟨X, hX⟩ : ∃ X, X = joinX d tok ag key now ttl := ⟨_, rfl⟩
  have h1 : ∀ u, LedOk u 900 d → Calls Tryd.prog 6 #[.agg (ledCells d), .string tok, .string ag, .string key, .int .i64 now, .int .i64 ttl] u (fun e w' => e = .returned (.tuple #[.agg (opV X.1 tok), .int .i64 X.2]) ∧ Below u.heap.size u w') := fun u h => by rw [hX]; exact ajoin_any d tok ag key now ttl u h
  have h2 : X.2 = 0 → ∃ k, X.1 = some k ∧ ToldOk d ag now (opD 4 tok k) := fun h => by rw [hX] at h ⊢; exact told_join hi (by omega) (by omega) h
  clear hX
  obtain ⟨o, f⟩ := X
  cases o with
  | none => exact ⟨opD 0 ⟨#[]⟩ zNo, f, h1, fun h => by obtain ⟨k, hk, _⟩ := h2 h; cases hk⟩
  | some k => exact ⟨opD 4 tok k, f, h1, fun h => by obtain ⟨k', hk, ht⟩ := h2 h; cases hk; exact ht⟩
theorem attest_told (d : LedD) (name ag key : ByteArray) (now ttl m : Int) (hi : InvP d) (hn : name.size ≤ 60) (hg : ag.size ≤ 60) : ∃ (o : OpD) (f : Int),
    (∀ u, LedOk u 900 d → u.cell? ⟨0, 0, none⟩ = some (.int .i64 m) → Calls Tryd.prog 7 #[.agg (ledCells d), .string name, .string ag, .string key, .int .i64 now, .int .i64 ttl] u (fun e w' => e = .returned (.tuple #[.agg (opC o), .int .i64 f]) ∧ Below u.heap.size u w')) ∧ (f = 0 → ToldOk d ag now o) := by
  obtain ⟨X, hX⟩ : ∃ X, X = attX d name ag key now ttl := ⟨_, rfl⟩
  have h1 : ∀ u, LedOk u 900 d → u.cell? ⟨0, 0, none⟩ = some (.int .i64 m) → Calls Tryd.prog 7 #[.agg (ledCells d), .string name, .string ag, .string key, .int .i64 now, .int .i64 ttl] u (fun e w' => e = .returned (.tuple #[.agg (opS X.1), .int .i64 X.2]) ∧ Below u.heap.size u w') := fun u h hm => by rw [hX]; exact aattest_any d name ag key now ttl m u h (by omega) (by omega) hm
  have h2 : X.2 = 0 → ∃ k, X.1 = some k ∧ ToldOk d ag now (opD 5 ⟨#[]⟩ k) := fun h => by rw [hX] at h ⊢; exact told_attest hi (by omega) h
  clear hX
  obtain ⟨o, f⟩ := X
  cases o with
  | none => exact ⟨opD 0 ⟨#[]⟩ zNo, f, h1, fun h => by obtain ⟨k, hk, _⟩ := h2 h; cases hk⟩
  | some k => exact ⟨opD 5 ⟨#[]⟩ k, f, h1, fun h => by obtain ⟨k', hk, ht⟩ := h2 h; cases hk; exact ht⟩
theorem renew_told (d : LedD) (ag : ByteArray) (now ttl : Int) (hi : InvP d) (hg : ag.size ≤ 60) : ∃ (o : OpD) (f : Int),
    (∀ u, LedOk u 900 d → Calls Tryd.prog 8 #[.agg (ledCells d), .string ag, .int .i64 now, .int .i64 ttl] u (fun e w' => e = .returned (.tuple #[.agg (opC o), .int .i64 f]) ∧ Below u.heap.size u w')) ∧ (f = 0 → ToldOk d ag now o) := by
  obtain ⟨X, hX⟩ : ∃ X, X = renewX d ag now ttl := ⟨_, rfl⟩
  have h1 : ∀ u, LedOk u 900 d → Calls Tryd.prog 8 #[.agg (ledCells d), .string ag, .int .i64 now, .int .i64 ttl] u (fun e w' => e = .returned (.tuple #[.agg (opR X.1), .int .i64 X.2]) ∧ Below u.heap.size u w') := fun u h => by rw [hX]; exact arenew_any d ag now ttl u h
  have h2 : X.2 = 0 → ∃ k, X.1 = some k ∧ ToldOk d ag now (opD 5 ⟨#[]⟩ k) := fun h => by rw [hX] at h ⊢; exact told_renew hi (by omega) h
  clear hX
  obtain ⟨o, f⟩ := X
  cases o with
  | none => exact ⟨opD 0 ⟨#[]⟩ zNo, f, h1, fun h => by obtain ⟨k, hk, _⟩ := h2 h; cases hk⟩
  | some k => exact ⟨opD 5 ⟨#[]⟩ k, f, h1, fun h => by obtain ⟨k', hk, ht⟩ := h2 h; cases hk; exact ht⟩
theorem not_banned {l : List ByteArray} {s : ByteArray} (h : hasB l s = false) {k : Nat} (hk : k < l.length) : ((l[k]'hk).toList == s.toList) = false := by
  unfold hasB at h
  have h2 := List.any_eq_false.1 h _ (List.getElem_mem hk)
  rw [Bool.eq_false_iff]
  intro e
  exact h2 (by simpa using eq_of_toList e)
theorem ops_lit (a b c : OpD) : Tryd.prog.builtSlice 47 3 [(0, .agg (opC a)), (1, .agg (opC b)), (2, .agg (opC c))] = some (rowsV opC [a, b, c]).toArray := by kernel_rfl
theorem told_lit (a b c : Int) : Tryd.prog.builtSlice 48 3 [(0, .int .i64 a), (1, .int .i64 b), (2, .int .i64 c)] = some #[.int .i64 a, .int .i64 b, .int .i64 c] := by kernel_rfl
/-- what is so behind Apply -/
def ApF (d : LedD) (o : OpD) (d2 : LedD) (f : Int) (u : World) : Prop := LedOk u 21 d2 ∧ DoRel d o d2 f
theorem ApF.grow {d d2 : LedD} {o : OpD} {f : Int} {u u' : World} (h : ApF d o d2 f u) (hb : Below u.heap.size u u') : ApF d o d2 f u' := ⟨h.1.grow hb, h.2⟩
theorem ApF.box {d d2 : LedD} {o : OpD} {f : Int} {u u' : World} (h : ApF d o d2 f u) (hk : KeepBut 33 u u') : ApF d o d2 f u' := ⟨h.1.box hk, h.2⟩
theorem ApF.wrote {d d2 : LedD} {o : OpD} {f : Int} {u u' : World} {g : Nat} {cs : Array Value} (h : ApF d o d2 f u) (hb : Blk u g 33 cs) (hw : Wrote g u u') : ApF d o d2 f u' := ⟨h.1.wrote hb hw, h.2⟩
set_option maxRecDepth 100000 in
set_option maxHeartbeats 8000000 in
theorem attestBanned_any (l : List OpD) (A : Option Addr) (c : Nat) (k : AskD) (w : World) (hr : Rd w w.heap.size A (rowsV opC l)) (hl : (l.length : Int) ≤ 9223372036854775807) (hs : ∀ o ∈ l, OpSee w w.heap.size o) (hnow : InR k.now) (httl : InR k.ttl) (m : Int) (hm : w.cell? ⟨0, 0, none⟩ = some (.int .i64 m)) :
    Calls Tryd.prog 3 #[.slice A l.length c, .agg (askC k)] w (fun e w' => e = .returned (.bool true) ∧ Below w.heap.size w w') := by
  have hua := Tryd.underlying24
  have hul := Tryd.underlying33
  have huo := Tryd.underlying47
  have huj := Tryd.underlying40
  have huos := Tryd.underlying22
  have hues := Tryd.underlying52
  obtain ⟨W0, hW0⟩ : ∃ W0, W0 = w.alloc (.cells (askC k) 24) := ⟨_, rfl⟩
  have HB0 := Lib.hid (show Below w.heap.size w W0 by rw [hW0]; exact (Below.refl _ w).alloc (Nat.le_refl _) _)
  have HK0 := Lib.hid (show Blk W0 w.heap.size 24 (askC k) by rw [hW0]; exact Blk.new _ _ _)
  have HW0 := Lib.hid hW0
  have CL := Lib.hid (show ∀ u, Below w.heap.size w u → Calls Tryd.prog 5 #[.slice A l.length c] u (LgPostR u) from
    fun u hu => ledger20r_any l A c w.heap.size u (hr.below hu) (fun o ho => (hs o ho).below4 hu) hu.size hl)
  have CC := Lib.hid (cut20_any k W0)
  have CV := Lib.hid (lives20_any)
  obtain ⟨kk, hkk⟩ : ∃ kk, kk = cutA k := ⟨_, rfl⟩
  rw [← hkk] at CC
  have HN := Lib.hid (show kk.name.size ≤ 60 ∧ kk.agent.size ≤ 60 by rw [hkk]; exact ⟨few60_le _, few60_le _⟩)
  have HM := Lib.hid (show ∀ u, Below w.heap.size w u → u.cell? ⟨0, 0, none⟩ = some (.int .i64 m) from fun u hu => (hu.cell (World.block_lt_of_cell? w _ hm)).trans hm)
  clear hW0 hr hs hnow httl hkk hm
  go_enter Tryd.func3, Tryd.ntmps3
  go_upto_region 1 with (fail)
  rw [show w.alloc (.cells (askC k) 24) = W0 from HW0.out.symm]
  go_wp2_with (refine wpList_get_box (x := .tmp 3) (cs := askC k) HK0.out rfl rfl rfl hua rfl askT_size ?_)
  refine calls_then CC.out ?_
  rintro e w1 ⟨rfl, hb1⟩
  have HB1 := Lib.hid hb1
  clear hb1 CC
  go_upto_region 2 with (refine wpList_put_box (x := .tmp 3) (cells := askC kk) (HK0.out.below HB1.out HK0.out.lt) rfl rfl rfl rfl askT_size rfl (askC_one _) ?_; intro w2 hb2 hw2)
  have HK2 := Lib.hid hb2
  have HB2 := Lib.hid (hw2.below (HB0.out.trans (HB1.out.mono HB0.out.size)) (Nat.le_refl _) (HB0.out.trans (HB1.out.mono HB0.out.size)).size)
  clear hb2 hw2
  go_wp2_with fail
  refine calls_then (CL.out _ HB2.out) ?_
  rintro e w3 ⟨d, rfl, ⟨hok3, hinv⟩, hb3⟩
  have HB3 := Lib.hid (HB2.out.trans (hb3.mono HB2.out.size))
  have HK3 := Lib.hid (HK2.out.below hb3 HK2.out.lt)
  have HOK3 := Lib.hid hok3
  have HINV := Lib.hid hinv
  clear hb3 hok3 hinv CL
  go_upto_region 3 with (refine wpList_put_box (cells := ledCells d) (Blk.new _ _ _) rfl rfl rfl rfl ledT_size rfl (ledCells_one _) ?_; intro w4 hb4 hw4)
  have hbw4 : Below w3.heap.size w3 w4 := box_low9 hw4
  obtain ⟨H, hH⟩ : ∃ H, H = w3.heap.size := ⟨_, rfl⟩
  rw [← hH] at hb4 ⊢
  have HD4 := Lib.hid hb4
  have HB4 := Lib.hid (HB3.out.trans (hbw4.mono HB3.out.size))
  have HK4 := Lib.hid (HK3.out.below hbw4 HK3.out.lt)
  have HOK4 := Lib.hid (HOK3.out.grow hbw4)
  clear hb4 hw4 hbw4 hH
  obtain ⟨o1, f1, hj1, ht1⟩ := join_told d kk.name kk.agent kk.key kk.now kk.ttl HINV.out HN.out.1 HN.out.2
  obtain ⟨o2, f2, hj2, ht2⟩ := attest_told d kk.name kk.agent kk.key kk.now kk.ttl m HINV.out HN.out.1 HN.out.2
  obtain ⟨o3, f3, hj3, ht3⟩ := renew_told d kk.agent kk.now kk.ttl HINV.out HN.out.2
  have C1 := Lib.hid hj1
  have C2 := Lib.hid hj2
  have C3 := Lib.hid hj3
  have HT := Lib.hid (show ∀ (i : Nat) (h : i < [f1, f2, f3].length) (h2 : i < [o1, o2, o3].length), [f1, f2, f3][i] = 0 → ToldOk d kk.agent kk.now [o1, o2, o3][i] from fun i h h2 => match i, h, h2 with
    | 0, _, _ => ht1
    | 1, _, _ => ht2
    | 2, _, _ => ht3)
  clear hj1 hj2 hj3 ht1 ht2 ht3
  obtain ⟨AK, hAK⟩ : ∃ x, x = Value.agg (askC k) := ⟨_, rfl⟩
  rw [← hAK]
  clear hAK
  have a0 : w4.cell? ⟨w.heap.size, 0, none⟩ = some (.string kk.name) := HK4.out.cell 0
  have a1 : w4.cell? ⟨w.heap.size, 1, none⟩ = some (.string kk.agent) := HK4.out.cell 1
  have a2 : w4.cell? ⟨w.heap.size, 2, none⟩ = some (.string kk.key) := HK4.out.cell 2
  have a3 : w4.cell? ⟨w.heap.size, 3, none⟩ = some (.int .i64 kk.now) := HK4.out.cell 3
  have a4 : w4.cell? ⟨w.heap.size, 4, none⟩ = some (.int .i64 kk.ttl) := HK4.out.cell 4
  go_wp2_with (refine wpList_get_box (x := .tmp 5) (cs := ledCells d) HD4.out rfl rfl rfl hul rfl ledT_size ?_)
  refine calls_then (C1.out _ (HOK4.out.more (by omega))) ?_
  rintro e w5 ⟨rfl, hb5⟩
  have HB5 := Lib.hid hb5
  clear hb5 a0 a1 a2 a3 a4
  go_upto_region 4 with (refine wpList_put_box (cells := opC o1) (Blk.new _ _ _) rfl rfl rfl rfl opQ2_size rfl (opC_one _) ?_; intro w6 hb6 hw6)
  have hbw6 : Below w5.heap.size w5 w6 := box_low9 hw6
  obtain ⟨H1, hH1⟩ : ∃ H, H = w5.heap.size := ⟨_, rfl⟩
  rw [← hH1] at hb6 ⊢
  have hbb6 : Below w4.heap.size w4 w6 := HB5.out.trans (hbw6.mono HB5.out.size)
  have HN1_6 := Lib.hid hb6
  have HB6 := Lib.hid (HB4.out.trans (hbb6.mono HB4.out.size))
  have HK6 := Lib.hid (HK4.out.below hbb6 HK4.out.lt)
  have HD6 := Lib.hid (HD4.out.below hbb6 HD4.out.lt)
  have HOK6 := Lib.hid (HOK4.out.grow hbb6)
  clear hb6 hw6 hbw6 hH1 hbb6
  have a0 : w6.cell? ⟨w.heap.size, 0, none⟩ = some (.string kk.name) := HK6.out.cell 0
  have a1 : w6.cell? ⟨w.heap.size, 1, none⟩ = some (.string kk.agent) := HK6.out.cell 1
  have a2 : w6.cell? ⟨w.heap.size, 2, none⟩ = some (.string kk.key) := HK6.out.cell 2
  have a3 : w6.cell? ⟨w.heap.size, 3, none⟩ = some (.int .i64 kk.now) := HK6.out.cell 3
  have a4 : w6.cell? ⟨w.heap.size, 4, none⟩ = some (.int .i64 kk.ttl) := HK6.out.cell 4
  go_wp2_with (refine wpList_get_box (x := .tmp 5) (cs := ledCells d) HD6.out rfl rfl rfl hul rfl ledT_size ?_)
  refine calls_then (C2.out _ (HOK6.out.more (by omega)) (HM.out _ HB6.out)) ?_
  rintro e w7 ⟨rfl, hb7⟩
  have HB7 := Lib.hid hb7
  clear hb7 a0 a1 a2 a3 a4
  go_upto_region 5 with (refine wpList_put_box (cells := opC o2) (Blk.new _ _ _) rfl rfl rfl rfl opQ2_size rfl (opC_one _) ?_; intro w8 hb8 hw8)
  have hbw8 : Below w7.heap.size w7 w8 := box_low9 hw8
  obtain ⟨H2, hH2⟩ : ∃ H, H = w7.heap.size := ⟨_, rfl⟩
  rw [← hH2] at hb8 ⊢
  have hbb8 : Below w6.heap.size w6 w8 := HB7.out.trans (hbw8.mono HB7.out.size)
  have HN2_8 := Lib.hid hb8
  have HN1_8 := Lib.hid (HN1_6.out.below hbb8 HN1_6.out.lt)
  have HB8 := Lib.hid (HB6.out.trans (hbb8.mono HB6.out.size))
  have HK8 := Lib.hid (HK6.out.below hbb8 HK6.out.lt)
  have HD8 := Lib.hid (HD6.out.below hbb8 HD6.out.lt)
  have HOK8 := Lib.hid (HOK6.out.grow hbb8)
  clear hb8 hw8 hbw8 hH2 hbb8
  have a1 : w8.cell? ⟨w.heap.size, 1, none⟩ = some (.string kk.agent) := HK8.out.cell 1
  have a3 : w8.cell? ⟨w.heap.size, 3, none⟩ = some (.int .i64 kk.now) := HK8.out.cell 3
  have a4 : w8.cell? ⟨w.heap.size, 4, none⟩ = some (.int .i64 kk.ttl) := HK8.out.cell 4
  go_wp2_with (refine wpList_get_box (x := .tmp 5) (cs := ledCells d) HD8.out rfl rfl rfl hul rfl ledT_size ?_)
  refine calls_then (C3.out _ (HOK8.out.more (by omega))) ?_
  rintro e w9 ⟨rfl, hb9⟩
  have HB9 := Lib.hid hb9
  clear hb9 a1 a3 a4
  go_upto_region 6 with (refine wpList_put_box (cells := opC o3) (Blk.new _ _ _) rfl rfl rfl rfl opQ2_size rfl (opC_one _) ?_; intro w10 hb10 hw10)
  have hbw10 : Below w9.heap.size w9 w10 := box_low9 hw10
  obtain ⟨H3, hH3⟩ : ∃ H, H = w9.heap.size := ⟨_, rfl⟩
  rw [← hH3] at hb10 ⊢
  have hbb10 : Below w8.heap.size w8 w10 := HB9.out.trans (hbw10.mono HB9.out.size)
  have HN3_10 := Lib.hid hb10
  have HN1_10 := Lib.hid (HN1_8.out.below hbb10 HN1_8.out.lt)
  have HN2_10 := Lib.hid (HN2_8.out.below hbb10 HN2_8.out.lt)
  have HB10 := Lib.hid (HB8.out.trans (hbb10.mono HB8.out.size))
  have HK10 := Lib.hid (HK8.out.below hbb10 HK8.out.lt)
  have HD10 := Lib.hid (HD8.out.below hbb10 HD8.out.lt)
  have HOK10 := Lib.hid (HOK8.out.grow hbb10)
  clear hb10 hw10 hbw10 hH3 hbb10
  obtain ⟨W11, hW11⟩ : ∃ W, W = w10.alloc (.cells (rowsV opC [o1, o2, o3]).toArray 47) := ⟨_, rfl⟩
  obtain ⟨W12, hW12⟩ : ∃ W, W = W11.alloc (.cells #[.int .i64 f1, .int .i64 f2, .int .i64 f3] 48) := ⟨_, rfl⟩
  have hc1 : Below w10.heap.size w10 W11 := by rw [hW11]; exact (Below.refl _ _).alloc (Nat.le_refl _) _
  have hc2 : Below W11.heap.size W11 W12 := by rw [hW12]; exact (Below.refl _ _).alloc (Nat.le_refl _) _
  have hs1 : W11.heap.size = w10.heap.size + 1 := by rw [hW11]; simp
  have hc3 := hc1.trans (hc2.mono hc1.size)
  have HOB := Lib.hid (show Blk W12 w10.heap.size 47 (rowsV opC [o1, o2, o3]).toArray from Blk.below (by rw [hW11]; exact Blk.new _ _ _) hc2 (by omega))
  have HTB := Lib.hid (show Blk W12 (w10.heap.size + 1) 48 #[.int .i64 f1, .int .i64 f2, .int .i64 f3] by rw [hW12, ← hs1]; exact Blk.new _ _ _)
  have HB12 := Lib.hid (HB10.out.trans (hc3.mono HB10.out.size))
  have HK12 := Lib.hid (HK10.out.below hc3 HK10.out.lt)
  have HD12 := Lib.hid (HD10.out.below hc3 HD10.out.lt)
  have HOK12 := Lib.hid (HOK10.out.grow hc3)
  have HW11 := Lib.hid hW11
  have HW12 := Lib.hid hW12
  have HS1 := Lib.hid hs1
  clear hW11 hW12 hc1 hc2 hc3 hs1
  go_wp2_with (first
    | refine wpList_get_box (x := .tmp 6) (cs := opC o1) HN1_10.out rfl rfl rfl huo rfl opQ2_size ?_
    | refine wpList_get_box (x := .tmp 8) (cs := opC o2) HN2_10.out rfl rfl rfl huo rfl opQ2_size ?_
    | refine wpList_get_box (x := .tmp 10) (cs := opC o3) HN3_10.out rfl rfl rfl huo rfl opQ2_size ?_
    | (refine Great.wpList_buildSliceTo rfl _ 47 3 _ rfl _ rfl _ rfl huos (rowsV opC [o1, o2, o3]).toArray (by kernel_rfl) ?_; rw [show w10.alloc (.cells (rowsV opC [o1, o2, o3]).toArray 47) = W11 from HW11.out.symm])
    | (refine Great.wpList_buildSliceTo rfl _ 48 3 _ rfl _ rfl _ rfl hues #[.int .i64 f1, .int .i64 f2, .int .i64 f3] (by kernel_rfl) ?_; rw [show W11.alloc (.cells #[.int .i64 f1, .int .i64 f2, .int .i64 f3] 48) = W12 from HW12.out.symm, HS1.out]))
  obtain ⟨lb, hlb⟩ : ∃ lb, lb = d.bans := ⟨_, rfl⟩
  have HLB := Lib.hid hlb
  have HBR := Lib.hid (show ∀ u, Below W12.heap.size W12 u → Rd u u.heap.size lb.A (rowsV strCell lb.l) ∧ lb.l.length ≤ 20 from fun u hu => by rw [hlb]; exact ⟨(HOK12.out.grow hu).bans.row.rd, (HOK12.out.grow hu).bans.len⟩)
  have HG2 := Lib.hid (show ∀ u, Below W12.heap.size W12 u → u.cell? ⟨H, 2, none⟩ = some (.slice lb.A lb.l.length lb.c) ∧ u.cell? ⟨w.heap.size, 1, none⟩ = some (.string kk.agent) ∧ u.cell? ⟨w.heap.size, 3, none⟩ = some (.int .i64 kk.now) from fun u hu => ⟨by rw [hlb]; exact (HD12.out.below hu HD12.out.lt).cell 2, (HK12.out.below hu HK12.out.lt).cell 1, (HK12.out.below hu HK12.out.lt).cell 3⟩)
  have HR0 := Lib.hid (Below.refl W12.heap.size W12)
  clear hlb
  go_loopw [14] (fun x wr => ∃ i : Nat, i ≤ 3 ∧ x = .int .i64 (i : Int) ∧ Below W12.heap.size W12 wr) (fun x _ => 3 - (intOf x).toNat)
  case atStart => exact ⟨0, by omega, rfl, HR0.out⟩
  case round =>
    obtain ⟨i, hi, rfl, hbw⟩ := hrel
    have HBW := Lib.hid hbw
    clear hbw
    by_cases hlt : i < 3
    · have hlt' : (i : Int) < 3 := by omega
      have hi0 : (0 : Int) ≤ (i : Int) := by omega
      obtain ⟨fi, hfi⟩ : ∃ f, f = [f1, f2, f3][i]'(by simpa using hlt) := ⟨_, rfl⟩
      obtain ⟨oi, hoi⟩ : ∃ o, o = [o1, o2, o3][i]'(by simpa using hlt) := ⟨_, rfl⟩
      have HTI := Lib.hid (show fi = 0 → ToldOk d kk.agent kk.now oi from fun h => by rw [hoi]; exact HT.out i (by simpa using hlt) (by simpa using hlt) (by rw [← hfi]; exact h))
      have ct : wr.cell? ⟨w10.heap.size + 1, i, none⟩ = some (.int .i64 fi) := by
        have h := (HTB.out.below HBW.out HTB.out.lt).cell i
        rw [h, hfi]
        match i, hlt with
        | 0, _ => rfl
        | 1, _ => rfl
        | 2, _ => rfl
      have HOC := Lib.hid (show ∀ u, Below W12.heap.size W12 u → ∀ j v, (opC oi).toList[j]? = some v → u.cell? ((⟨w10.heap.size, i * 24, none⟩ : Addr).add j) = some v from fun u hu j v hv => by
        have h := (HOB.out.below hu HOB.out.lt).cell (i * 24 + j)
        have e : (⟨w10.heap.size, i * 24, none⟩ : Addr).add j = ⟨w10.heap.size, i * 24 + j, none⟩ := by unfold Addr.add; split <;> simp_all
        rw [e, h, List.getElem?_toArray]
        exact rowsV_at (f := opC) (m := 24) (fun _ => rfl) [o1, o2, o3] i (by simpa using hlt) j v (by rw [← hoi]; simpa using hv))
      have HLT := Lib.hid hlt
      clear hfi hoi hlt
      by_cases hf0 : fi = 0
      · have HTO := Lib.hid (HTI.out hf0)
        subst hf0
        obtain ⟨c5, cag, cnow⟩ := HG2.out wr HBW.out
        have hlb9 : (lb.l.length : Int) ≤ 20 := by have := (HBR.out wr HBW.out).2; omega
        go_wp2_with fail
        go_loopw [15] (fun x wx => ∃ kx : Nat, kx ≤ lb.l.length ∧ x = .int .i64 (kx : Int) ∧ ∃ m, wx = wr.drewN m) (fun x _ => lb.l.length - (intOf x).toNat)
        case atStart => exact ⟨0, Nat.zero_le _, rfl, 0, rfl⟩
        case round =>
          obtain ⟨kx, hkx, rfl, mm, rfl⟩ := hrel
          by_cases hkl : kx < lb.l.length
          · have hkl' : (kx : Int) < (lb.l.length : Int) := by omega
            have hk0 : (0 : Int) ≤ (kx : Int) := by omega
            obtain ⟨ad, hA, -, hcell⟩ := rd_rows (f := strCell) (m := 1) (fun _ => rfl) (by decide) (HBR.out wr HBW.out).1 hkl
            rw [hA] at c5
            have hne : ((lb.l[kx]'hkl).toList == kk.agent.toList) = false := not_banned (by rw [HLB.out]; exact HTO.out.ban) hkl
            obtain ⟨X, hX⟩ : ∃ X, X = lb.l[kx] := ⟨_, rfl⟩
            rw [← hX] at hcell hne
            have d0 : wr.cell? (ad.add kx) = some (.string X) := by have h := hcell 0 _ rfl; rw [Nat.mul_one] at h; exact h
            have HKL := Lib.hid hkl
            clear hX hcell hA hkl
            go_wp2_with fail
            go_quiet (fail)
            go_wp2_with fail
            go_roundw
            case rel => exact ⟨kx + 1, HKL.out, by go_num, _, rfl⟩
            case measure => have := HKL.out; simp [intOf]; omega
          · have hkl' : ¬ (kx : Int) < (lb.l.length : Int) := by omega
            clear hkl
            obtain ⟨wq, hwq⟩ : ∃ wq, wq = wr.drewN mm := ⟨_, rfl⟩
            have HBQ := Lib.hid (show Below W12.heap.size W12 wq by rw [hwq]; exact below_drewN9 HBW.out mm)
            rw [← hwq]
            clear hwq
            have c5q := (HG2.out wq HBQ.out).1
            clear c5 cag cnow
            go_wp2_with fail
            have CP := Lib.hid (show ∀ u, Below wq.heap.size wq u → Calls Tryd.prog 9 #[.agg (ledCells d), .agg (opC oi)] u (ApPostR d oi 20 u) from fun u hu => apply15r_any d oi 20 u (HOK12.out.grow (HBQ.out.trans (hu.mono HBQ.out.size))) (by omega) (HTO.out.inn u))
            have HOI := Lib.hid (show ∀ u, Below wq.heap.size wq u → ∀ j v, (opC oi).toList[j]? = some v → u.cell? ((⟨w10.heap.size, i * 24, none⟩ : Addr).add j) = some v from fun u hu => HOC.out u (HBQ.out.trans (hu.mono HBQ.out.size)))
            have HDQ := Lib.hid (HD12.out.below HBQ.out HD12.out.lt)
            clear c5q
            have HC0 : Below wq.heap.size wq wq.drew := (Below.refl _ _).drew
            refine wp_region_list (fun u => Below wq.heap.size wq u) (fun | false => (fun _ => True) | true => (fun _ => True)) (fun | false, _ => false | true, _ => false)
              [fun z _ => z 0 = .agg (ledCells d),
               fun z _ => z 1 = .slice (some ⟨w10.heap.size, 0, none⟩) 3 3,
               fun z _ => z 2 = .int .i64 (i : Int),
               fun z _ => z 3 = .pointer (some ⟨w10.heap.size, i * 24, none⟩),
               fun z _ => z 4 = .agg (opC oi),
               fun z u => (fun v u => ∃ (d2 : LedD) (f : Int), v = .tuple #[.agg (ledCells d2), .int .i64 f] ∧ ApF d oi d2 f u) (z 5) u,
               fun z u => ∃ (d2 : LedD) (f : Int), z 6 = .tuple #[.agg (ledCells d2), .int .i64 f] ∧ ApF d oi d2 f u,
               fun z u => ∃ (d2 : LedD) (f : Int), z 6 = .tuple #[.agg (ledCells d2), .int .i64 f] ∧ z 7 = .agg (ledCells d2) ∧ ApF d oi d2 f u,
               fun z u => ∃ (d2 : LedD) (f : Int), z 6 = .tuple #[.agg (ledCells d2), .int .i64 f] ∧ z 8 = .int .i64 f,
               fun z u => ∃ ga, z 9 = .pointer (some ⟨ga, 0, none⟩) ∧ wq.heap.size ≤ ga ∧ Blk u ga 33 (ledCells zLed),
               fun z u => ∃ (d2 : LedD) (f : Int) (ga : Nat), z 6 = .tuple #[.agg (ledCells d2), .int .i64 f] ∧ z 9 = .pointer (some ⟨ga, 0, none⟩) ∧ wq.heap.size ≤ ga ∧ Blk u ga 33 (ledCells d2) ∧ ApF d oi d2 f u,
               fun z u => ∃ (d2 : LedD) (f : Int), z 6 = .tuple #[.agg (ledCells d2), .int .i64 f] ∧ z 11 = .int .i64 f]
              [Eq, Eq, Eq, Eq, Eq, fun u u' => Below u.heap.size u u', Eq, Eq, Eq, fun u u' => Below u.heap.size u u', KeepBut 33, Eq]
              (fun i k => (i == 10 && k == 5) || (i == 10 && k == 7) || (i == 10 && k == 9)) [(0, some 98), (1, some 99), (2, some 100), (3, some 101), (4, some 102), (5, some 103), (6, some 97), (7, some 104), (8, some 105), (9, some 16), (10, none), (11, some 17)] (by kernel_rfl) (by kernel_rfl) rfl (fun _ => rfl) ?_ ?_ ?_ ?_ ?_ ?_
            · exact HC0
            · intro m; cases m; exact trivial; exact trivial
            · intro m; cases m
              · exact ⟨.inr (fun _ _ h h0 => h ▸ h0), .inr (fun _ _ h h0 => h ▸ h0), .inr (fun _ _ h h0 => h ▸ h0), .inr (fun _ _ h h0 => h ▸ h0), .inr (fun _ _ h h0 => h ▸ h0), .inr (fun _ _ _ h => h), .inr (fun _ _ h h0 => h ▸ h0), .inr (fun _ _ h h0 => h ▸ h0), .inr (fun _ _ h h0 => h ▸ h0), .inr (fun _ _ _ h => h), .inr (fun _ _ _ h => h), .inr (fun _ _ h h0 => h ▸ h0), trivial⟩
              · exact ⟨.inr (fun _ _ h h0 => h ▸ h0), .inr (fun _ _ h h0 => h ▸ h0), .inr (fun _ _ h h0 => h ▸ h0), .inr (fun _ _ h h0 => h ▸ h0), .inr (fun _ _ h h0 => h ▸ h0), .inr (fun _ _ _ h => h), .inr (fun _ _ h h0 => h ▸ h0), .inr (fun _ _ h h0 => h ▸ h0), .inr (fun _ _ h h0 => h ▸ h0), .inr (fun _ _ _ h => h), .inr (fun _ _ _ h => h), .inr (fun _ _ h h0 => h ▸ h0), trivial⟩
            · exact ⟨⟨.inl rfl, .inr (.inr (.inr (fun _ _ _ _ _ h => h))), .inr (.inr (.inr (fun _ _ _ _ _ h => h))), .inr (.inr (.inr (fun _ _ _ _ _ h => h))), .inr (.inr (.inr (fun _ _ _ _ _ h => h))), .inr (.inr (.inl rfl)), .inr (.inr (.inl rfl)), .inr (.inr (.inl rfl)), .inr (.inr (.inl rfl)), .inr (.inr (.inr (fun _ _ _ _ h h0 => by cases h; exact h0))), .inr (.inr (.inl rfl)), .inr (.inr (.inl rfl)), trivial⟩,
                ⟨.inr (.inr (.inr (fun _ _ _ _ _ h => h))), .inl rfl, .inr (.inr (.inr (fun _ _ _ _ _ h => h))), .inr (.inr (.inl rfl)), .inr (.inr (.inl rfl)), .inr (.inr (.inl rfl)), .inr (.inr (.inr (fun _ _ _ _ h h0 => by cases h; exact h0))), .inr (.inr (.inr (fun _ _ _ _ h h0 => by cases h; exact h0))), .inr (.inr (.inr (fun _ _ _ _ h h0 => by cases h; exact h0))), .inr (.inr (.inr (fun _ _ _ _ h h0 => by cases h; exact h0))), .inr (.inr (.inl rfl)), .inr (.inr (.inl rfl)), trivial⟩,
                ⟨.inr (.inr (.inr (fun _ _ _ _ _ h => h))), .inr (.inr (.inr (fun _ _ _ _ _ h => h))), .inl rfl, .inr (.inr (.inl rfl)), .inr (.inr (.inl rfl)), .inr (.inr (.inl rfl)), .inr (.inr (.inr (fun _ _ _ _ h h0 => by cases h; exact h0))), .inr (.inr (.inr (fun _ _ _ _ h h0 => by cases h; exact h0))), .inr (.inr (.inr (fun _ _ _ _ h h0 => by cases h; exact h0))), .inr (.inr (.inr (fun _ _ _ _ h h0 => by cases h; exact h0))), .inr (.inr (.inl rfl)), .inr (.inr (.inl rfl)), trivial⟩,
                ⟨.inr (.inr (.inr (fun _ _ _ _ _ h => h))), .inr (.inr (.inr (fun _ _ _ _ _ h => h))), .inr (.inr (.inr (fun _ _ _ _ _ h => h))), .inl rfl, .inr (.inr (.inl rfl)), .inr (.inr (.inl rfl)), .inr (.inr (.inl rfl)), .inr (.inr (.inr (fun _ _ _ _ h h0 => by cases h; exact h0))), .inr (.inr (.inr (fun _ _ _ _ h h0 => by cases h; exact h0))), .inr (.inr (.inr (fun _ _ _ _ h h0 => by cases h; exact h0))), .inr (.inr (.inl rfl)), .inr (.inr (.inl rfl)), trivial⟩,
                ⟨.inr (.inr (.inr (fun _ _ _ _ _ h => h))), .inr (.inr (.inr (fun _ _ _ _ _ h => h))), .inr (.inr (.inr (fun _ _ _ _ _ h => h))), .inr (.inr (.inr (fun _ _ _ _ _ h => h))), .inl rfl, .inr (.inr (.inl rfl)), .inr (.inr (.inl rfl)), .inr (.inr (.inl rfl)), .inr (.inr (.inl rfl)), .inr (.inr (.inr (fun _ _ _ _ h h0 => by cases h; exact h0))), .inr (.inr (.inl rfl)), .inr (.inr (.inl rfl)), trivial⟩,
                ⟨.inr (.inr (.inr (fun _ _ _ _ _ h => h))), .inr (.inr (.inr (fun _ _ _ _ _ h => h))), .inr (.inr (.inr (fun _ _ _ _ _ h => h))), .inr (.inr (.inr (fun _ _ _ _ _ h => h))), .inr (.inr (.inr (fun _ _ _ _ _ h => h))), .inl rfl, .inr (.inr (.inl rfl)), .inr (.inr (.inl rfl)), .inr (.inr (.inl rfl)), .inr (.inr (.inr (fun _ _ _ _ h h0 => by obtain ⟨ga, e, h1, h2⟩ := h0; exact ⟨ga, e, h1, h2.below h h2.lt⟩))), .inr (.inr (.inl rfl)), .inr (.inr (.inl rfl)), trivial⟩,
                ⟨.inr (.inr (.inr (fun _ _ _ _ _ h => h))), .inr (.inr (.inr (fun _ _ _ _ _ h => h))), .inr (.inr (.inr (fun _ _ _ _ _ h => h))), .inr (.inr (.inr (fun _ _ _ _ _ h => h))), .inr (.inr (.inr (fun _ _ _ _ _ h => h))), .inr (.inr (.inr (fun _ _ _ _ h h0 => by cases h; exact h0))), .inl rfl, .inr (.inr (.inl rfl)), .inr (.inr (.inl rfl)), .inr (.inr (.inr (fun _ _ _ _ h h0 => by cases h; exact h0))), .inr (.inr (.inl rfl)), .inr (.inr (.inl rfl)), trivial⟩,
                ⟨.inr (.inr (.inr (fun _ _ _ _ _ h => h))), .inr (.inr (.inr (fun _ _ _ _ _ h => h))), .inr (.inr (.inr (fun _ _ _ _ _ h => h))), .inr (.inr (.inr (fun _ _ _ _ _ h => h))), .inr (.inr (.inr (fun _ _ _ _ _ h => h))), .inr (.inr (.inr (fun _ _ _ _ h h0 => by cases h; exact h0))), .inr (.inr (.inr (fun _ _ _ _ h h0 => by cases h; exact h0))), .inl rfl, .inr (.inr (.inr (fun _ _ _ _ h h0 => by cases h; exact h0))), .inr (.inr (.inr (fun _ _ _ _ h h0 => by cases h; exact h0))), .inr (.inr (.inl rfl)), .inr (.inr (.inl rfl)), trivial⟩,
                ⟨.inr (.inr (.inr (fun _ _ _ _ _ h => h))), .inr (.inr (.inr (fun _ _ _ _ _ h => h))), .inr (.inr (.inr (fun _ _ _ _ _ h => h))), .inr (.inr (.inr (fun _ _ _ _ _ h => h))), .inr (.inr (.inr (fun _ _ _ _ _ h => h))), .inr (.inr (.inr (fun _ _ _ _ h h0 => by cases h; exact h0))), .inr (.inr (.inr (fun _ _ _ _ h h0 => by cases h; exact h0))), .inr (.inr (.inr (fun _ _ _ _ h h0 => by cases h; exact h0))), .inl rfl, .inr (.inr (.inr (fun _ _ _ _ h h0 => by cases h; exact h0))), .inr (.inr (.inr (fun _ _ _ _ h h0 => by cases h; exact h0))), .inr (.inr (.inl rfl)), trivial⟩,
                ⟨.inr (.inr (.inr (fun _ _ _ _ _ h => h))), .inr (.inr (.inr (fun _ _ _ _ _ h => h))), .inr (.inr (.inr (fun _ _ _ _ _ h => h))), .inr (.inr (.inr (fun _ _ _ _ _ h => h))), .inr (.inr (.inr (fun _ _ _ _ _ h => h))), .inr (.inr (.inr (fun _ _ _ _ h h0 => by obtain ⟨d2, f, e, h1⟩ := h0; exact ⟨d2, f, e, h1.grow h⟩))), .inr (.inr (.inr (fun _ _ _ _ h h0 => by obtain ⟨d2, f, e, h1⟩ := h0; exact ⟨d2, f, e, h1.grow h⟩))), .inr (.inr (.inr (fun _ _ _ _ h h0 => by obtain ⟨d2, f, e, e2, h1⟩ := h0; exact ⟨d2, f, e, e2, h1.grow h⟩))), .inr (.inr (.inr (fun _ _ _ _ h h0 => h0))), .inl rfl, .inr (.inr (.inl rfl)), .inr (.inr (.inl rfl)), trivial⟩,
                ⟨.inr (.inr (.inr (fun _ _ _ _ _ h => h))), .inr (.inr (.inr (fun _ _ _ _ _ h => h))), .inr (.inr (.inr (fun _ _ _ _ _ h => h))), .inr (.inr (.inr (fun _ _ _ _ _ h => h))), .inr (.inr (.inr (fun _ _ _ _ _ h => h))), .inr (.inl rfl), .inr (.inr (.inr (fun _ _ _ _ h h0 => by obtain ⟨d2, f, e, h1⟩ := h0; exact ⟨d2, f, e, h1.box h⟩))), .inr (.inl rfl), .inr (.inr (.inr (fun _ _ _ _ h h0 => h0))), .inr (.inl rfl), .inl rfl, .inr (.inr (.inl rfl)), trivial⟩,
                ⟨.inr (.inr (.inr (fun _ _ _ _ _ h => h))), .inr (.inr (.inr (fun _ _ _ _ _ h => h))), .inr (.inr (.inr (fun _ _ _ _ _ h => h))), .inr (.inr (.inr (fun _ _ _ _ _ h => h))), .inr (.inr (.inr (fun _ _ _ _ _ h => h))), .inr (.inr (.inr (fun _ _ _ _ h h0 => by cases h; exact h0))), .inr (.inr (.inr (fun _ _ _ _ h h0 => by cases h; exact h0))), .inr (.inr (.inr (fun _ _ _ _ h h0 => by cases h; exact h0))), .inr (.inr (.inr (fun _ _ _ _ h h0 => by cases h; exact h0))), .inr (.inr (.inr (fun _ _ _ _ h h0 => by cases h; exact h0))), .inr (.inr (.inr (fun _ _ _ _ h h0 => by cases h; exact h0))), .inl rfl, trivial⟩, trivial⟩
            · refine ⟨?_, ?_, ?_, ?_, ?_, ?_, ?_, ?_, ?_, ?_, ?_, ?_, trivial⟩
              · -- 0: Op.load 33 (Operand.tmp 5)
                refine step_plain [] (fun _ => rfl) rfl ?_
                intro w1 vals hC1 hi0 hf E hE
                clear hi0
                clear hf
                simp only [puts, act_put, act_put_none, List.setIfInBounds_toArray, List.set_cons_zero, List.set_cons_succ] at hE ⊢
                refine wpList_get_box (cs := ledCells d) (HDQ.out.below hC1 HDQ.out.lt) rfl rfl rfl hul rfl ledT_size ?_
                go_wp2_with fail
                exact .mk (hE _ _ rfl hC1 rfl)
              · -- 1: Op.move (Operand.tmp 12)
                refine step_plain [] (fun _ => rfl) rfl ?_
                intro w1 vals hC1 hi0 hf E hE
                clear hi0
                clear hf
                simp only [puts, act_put, act_put_none, List.setIfInBounds_toArray, List.set_cons_zero, List.set_cons_succ] at hE ⊢
                go_wp2
                exact .mk (hE _ _ rfl hC1 rfl)
              · -- 2: Op.move (Operand.tmp 14)
                refine step_plain [] (fun _ => rfl) rfl ?_
                intro w1 vals hC1 hi0 hf E hE
                clear hi0
                clear hf
                simp only [puts, act_put, act_put_none, List.setIfInBounds_toArray, List.set_cons_zero, List.set_cons_succ] at hE ⊢
                go_wp2
                exact .mk (hE _ _ rfl hC1 rfl)
              · -- 3: Op.indexAddr 22 (Operand.tmp 99) (Operand.tmp 100)
                refine step_plain [(1, some 99), (2, some 100)] (fun _ => rfl) rfl ?_
                intro w1 vals hC1 hi0 hf E hE
                clear hi0
                have f1 : vals 1 = .slice (some ⟨w10.heap.size, 0, none⟩) 3 3 := hf 1 rfl
                have f2 : vals 2 = .int .i64 (i : Int) := hf 2 rfl
                try dsimp only at f1 f2
                clear hf
                simp only [puts, act_put, act_put_none, List.setIfInBounds_toArray, List.set_cons_zero, List.set_cons_succ, f1, f2] at hE ⊢
                clear f1 f2
                go_wp2
                exact .mk (hE _ _ rfl hC1 rfl)
              · -- 4: Op.load 47 (Operand.tmp 101)
                refine step_plain [(3, some 101)] (fun _ => rfl) rfl ?_
                intro w1 vals hC1 hi0 hf E hE
                clear hi0
                have f3 : vals 3 = .pointer (some ⟨w10.heap.size, i * 24, none⟩) := hf 3 rfl
                try dsimp only at f3
                clear hf
                simp only [puts, act_put, act_put_none, List.setIfInBounds_toArray, List.set_cons_zero, List.set_cons_succ, f3] at hE ⊢
                clear f3
                refine wpList_get_rd (r := (opC oi).toList) (HOI.out _ hC1) rfl rfl rfl huo rfl opQ2_size ?_
                go_wp2_with fail
                exact .mk (hE _ _ rfl hC1 rfl)
              · -- 5: Op.call { callee := Callee.value (Operand.func 9), args := #[Operand.tmp 98, Operand.tmp 102], argTypes := #[3
                refine step_plain [(0, some 98), (4, some 102)] (fun _ => rfl) rfl ?_
                intro w1 vals hC1 hi0 hf E hE
                clear hi0
                have f0 : vals 0 = .agg (ledCells d) := hf 0 rfl
                have f4 : vals 4 = .agg (opC oi) := hf 4 rfl
                try dsimp only at f0 f4
                clear hf
                simp only [puts, act_put, act_put_none, List.setIfInBounds_toArray, List.set_cons_zero, List.set_cons_succ, f0, f4] at hE ⊢
                clear f0 f4
                go_wp2_with fail
                refine calls_then (CP.out _ hC1) ?_
                rintro e w2 ⟨d2, f, rfl, hok2, hb2, hr2⟩
                have HAF := Lib.hid (show ApF d oi d2 f w2 from ⟨hok2, hr2⟩)
                clear hok2 hr2
                go_wp2_with fail
                exact .mk (hE _ _ ⟨d2, f, rfl, HAF.out⟩ (hC1.trans (hb2.mono hC1.size)) hb2)
              · -- 6: Op.move (Operand.tmp 103)
                refine step_plain [(5, some 103)] (fun _ => rfl) rfl ?_
                intro w1 vals hC1 hi0 hf E hE
                clear hi0
                have f5 : (fun v u => ∃ (d2 : LedD) (f : Int), v = .tuple #[.agg (ledCells d2), .int .i64 f] ∧ ApF d oi d2 f u) (vals 5) w1 := hf 5 rfl
                try dsimp only at f5
                clear hf
                obtain ⟨d2, f, hx5, haf⟩ := f5
                have HAF := Lib.hid haf
                clear haf
                simp only [puts, act_put, act_put_none, List.setIfInBounds_toArray, List.set_cons_zero, List.set_cons_succ, hx5] at hE ⊢
                clear hx5
                go_wp2
                exact .mk (hE _ _ ⟨d2, f, rfl, HAF.out⟩ hC1 rfl)
              · -- 7: Op.extract (Operand.tmp 97) 0
                refine step_plain [(6, some 97)] (fun _ => rfl) rfl ?_
                intro w1 vals hC1 hi0 hf E hE
                clear hi0
                have f6 : (fun z u => ∃ (d2 : LedD) (f : Int), z 6 = .tuple #[.agg (ledCells d2), .int .i64 f] ∧ ApF d oi d2 f u) vals w1 := hf 6 rfl
                try dsimp only at f6
                clear hf
                obtain ⟨d2, f, hx6, haf⟩ := f6
                have HAF := Lib.hid haf
                have hx' := Lib.hid hx6
                clear haf
                simp only [puts, act_put, act_put_none, List.setIfInBounds_toArray, List.set_cons_zero, List.set_cons_succ, hx6] at hE ⊢
                clear hx6
                go_wp2
                exact .mk (hE _ _ ⟨d2, f, hx'.out, rfl, HAF.out⟩ hC1 rfl)
              · -- 8: Op.extract (Operand.tmp 97) 1
                refine step_plain [(6, some 97)] (fun _ => rfl) rfl ?_
                intro w1 vals hC1 hi0 hf E hE
                clear hi0
                have f6 : (fun z u => ∃ (d2 : LedD) (f : Int), z 6 = .tuple #[.agg (ledCells d2), .int .i64 f] ∧ ApF d oi d2 f u) vals w1 := hf 6 rfl
                try dsimp only at f6
                clear hf
                obtain ⟨d2, f, hx6, haf⟩ := f6
                have hx' := Lib.hid hx6
                clear haf
                simp only [puts, act_put, act_put_none, List.setIfInBounds_toArray, List.set_cons_zero, List.set_cons_succ, hx6] at hE ⊢
                clear hx6
                go_wp2
                exact .mk (hE _ _ ⟨d2, f, hx'.out, rfl⟩ hC1 rfl)
              · -- 9: Op.alloc 33
                refine step_plain [] (fun _ => rfl) rfl ?_
                intro w1 vals hC1 hi0 hf E hE
                clear hi0
                clear hf
                simp only [puts, act_put, act_put_none, List.setIfInBounds_toArray, List.set_cons_zero, List.set_cons_succ] at hE ⊢
                go_wp2
                exact .mk (hE _ _ ⟨_, rfl, hC1.size, Blk.new _ _ _⟩ (hC1.alloc hC1.size _) ((Below.refl _ _).alloc (Nat.le_refl _) _))
              · -- 10: Op.store 33 (Operand.tmp 16) (Operand.tmp 104)
                refine step_plain [(9, some 16), (7, some 104), (5, some 103), (0, some 98), (1, some 99), (2, some 100), (3, some 101), (4, some 102), (5, some 103), (6, some 97), (7, some 104), (9, some 16)] (fun _ => rfl) rfl ?_
                intro w1 vals hC1 hi0 hf E hE
                clear hi0
                have f0 : vals 0 = .agg (ledCells d) := hf 0 rfl
                have f1 : vals 1 = .slice (some ⟨w10.heap.size, 0, none⟩) 3 3 := hf 1 rfl
                have f2 : vals 2 = .int .i64 (i : Int) := hf 2 rfl
                have f3 : vals 3 = .pointer (some ⟨w10.heap.size, i * 24, none⟩) := hf 3 rfl
                have f4 : vals 4 = .agg (opC oi) := hf 4 rfl
                have f5 : (fun v u => ∃ (d2 : LedD) (f : Int), v = .tuple #[.agg (ledCells d2), .int .i64 f] ∧ ApF d oi d2 f u) (vals 5) w1 := hf 5 rfl
                have f6 : (fun z u => ∃ (d2 : LedD) (f : Int), z 6 = .tuple #[.agg (ledCells d2), .int .i64 f] ∧ ApF d oi d2 f u) vals w1 := hf 6 rfl
                have f7 : (fun z u => ∃ (d2 : LedD) (f : Int), z 6 = .tuple #[.agg (ledCells d2), .int .i64 f] ∧ z 7 = .agg (ledCells d2) ∧ ApF d oi d2 f u) vals w1 := hf 7 rfl
                have f9 : (fun z u => ∃ ga, z 9 = .pointer (some ⟨ga, 0, none⟩) ∧ wq.heap.size ≤ ga ∧ Blk u ga 33 (ledCells zLed)) vals w1 := hf 9 rfl
                try dsimp only at f0 f1 f2 f3 f4 f5 f6 f7 f9
                clear hf
                obtain ⟨d2, f, hx6, hx7, haf⟩ := f7
                obtain ⟨ga, hx9, hga, hbk⟩ := f9
                have HAF := Lib.hid haf
                have HGA := Lib.hid hga
                have HBK := Lib.hid hbk
                have hx' := Lib.hid hx6
                have hx9' := Lib.hid hx9
                clear haf hga hbk hx6
                simp only [puts, act_put, act_put_none, List.setIfInBounds_toArray, List.set_cons_zero, List.set_cons_succ, f0, f1, f2, f3, f4, hx7, hx9] at hE ⊢
                clear f0 f1 f2 f3 f4
                clear hx7 hx9
                refine wpList_put_box (cells := ledCells d2) HBK.out rfl rfl rfl rfl ledT_size rfl (ledCells_one _) ?_
                intro w2 hb2 hw2
                go_wp2_with fail
                exact .mk (hE undef _ ⟨d2, f, ga, hx'.out, hx9'.out, HGA.out, hb2, HAF.out.wrote HBK.out hw2⟩ (hw2.below hC1 HGA.out hC1.size) (KeepBut.of_wrote hw2 HBK.out))
              · -- 11: Op.assign (Operand.tmp 105)
                refine step_plain [(8, some 105), (10, none), (0, some 98), (1, some 99), (2, some 100), (3, some 101), (4, some 102), (5, some 103), (6, some 97), (7, some 104), (8, some 105), (9, some 16), (10, none)] (fun _ => rfl) rfl ?_
                intro w1 vals hC1 hi0 hf E hE
                clear hi0
                have f0 : vals 0 = .agg (ledCells d) := hf 0 rfl
                have f1 : vals 1 = .slice (some ⟨w10.heap.size, 0, none⟩) 3 3 := hf 1 rfl
                have f2 : vals 2 = .int .i64 (i : Int) := hf 2 rfl
                have f3 : vals 3 = .pointer (some ⟨w10.heap.size, i * 24, none⟩) := hf 3 rfl
                have f4 : vals 4 = .agg (opC oi) := hf 4 rfl
                have f6 : (fun z u => ∃ (d2 : LedD) (f : Int), z 6 = .tuple #[.agg (ledCells d2), .int .i64 f] ∧ ApF d oi d2 f u) vals w1 := hf 6 rfl
                have f8 : (fun z u => ∃ (d2 : LedD) (f : Int), z 6 = .tuple #[.agg (ledCells d2), .int .i64 f] ∧ z 8 = .int .i64 f) vals w1 := hf 8 rfl
                have f10 : (fun z u => ∃ (d2 : LedD) (f : Int) (ga : Nat), z 6 = .tuple #[.agg (ledCells d2), .int .i64 f] ∧ z 9 = .pointer (some ⟨ga, 0, none⟩) ∧ wq.heap.size ≤ ga ∧ Blk u ga 33 (ledCells d2) ∧ ApF d oi d2 f u) vals w1 := hf 10 rfl
                try dsimp only at f0 f1 f2 f3 f4 f6 f8 f10
                clear hf
                obtain ⟨d2, f, hx6, hx8⟩ := f8
                have hx' := Lib.hid hx6
                clear hx6
                simp only [puts, act_put, act_put_none, List.setIfInBounds_toArray, List.set_cons_zero, List.set_cons_succ, f0, f1, f2, f3, f4, hx8] at hE ⊢
                clear f0 f1 f2 f3 f4
                clear hx8
                go_wp2
                exact .mk (hE _ _ ⟨d2, f, hx'.out, rfl⟩ hC1 rfl)
            intro w1 vals hC1 hf
            have f0 : vals 0 = .agg (ledCells d) := hf 0 (by decide) rfl
            have f1 : vals 1 = .slice (some ⟨w10.heap.size, 0, none⟩) 3 3 := hf 1 (by decide) rfl
            have f2 : vals 2 = .int .i64 (i : Int) := hf 2 (by decide) rfl
            have f3 : vals 3 = .pointer (some ⟨w10.heap.size, i * 24, none⟩) := hf 3 (by decide) rfl
            have f4 : vals 4 = .agg (opC oi) := hf 4 (by decide) rfl
            have f6 : (fun z u => ∃ (d2 : LedD) (f : Int), z 6 = .tuple #[.agg (ledCells d2), .int .i64 f] ∧ ApF d oi d2 f u) vals w1 := hf 6 (by decide) rfl
            have f8 : (fun z u => ∃ (d2 : LedD) (f : Int), z 6 = .tuple #[.agg (ledCells d2), .int .i64 f] ∧ z 8 = .int .i64 f) vals w1 := hf 8 (by decide) rfl
            have f10 : (fun z u => ∃ (d2 : LedD) (f : Int) (ga : Nat), z 6 = .tuple #[.agg (ledCells d2), .int .i64 f] ∧ z 9 = .pointer (some ⟨ga, 0, none⟩) ∧ wq.heap.size ≤ ga ∧ Blk u ga 33 (ledCells d2) ∧ ApF d oi d2 f u) vals w1 := hf 10 (by decide) rfl
            have f11 : (fun z u => ∃ (d2 : LedD) (f : Int), z 6 = .tuple #[.agg (ledCells d2), .int .i64 f] ∧ z 11 = .int .i64 f) vals w1 := hf 11 (by decide) rfl
            try dsimp only at f0 f1 f2 f3 f4 f6 f8 f10 f11
            clear hf
            simp only [puts, act_put, act_put_none, List.setIfInBounds_toArray, List.set_cons_zero, List.set_cons_succ, f0, f1, f2, f3, f4]
            clear f0 f1 f2 f3 f4
            generalize vals 5 = x5 at *
            generalize vals 6 = x6 at *
            generalize vals 7 = x7 at *
            generalize vals 8 = x8 at *
            generalize vals 9 = x9 at *
            generalize vals 11 = x11 at *
            obtain ⟨d2, f, ga, h6, h9, hga, hbk, haf⟩ := f10
            obtain ⟨d3, f', h6', h11⟩ := f11
            have hff : f' = f := by
              have h := h6.symm.trans h6'
              injection h with h
              injection h with h
              injection h with _ h
              injection h with h
              injection h with _ h
              exact h.symm
            subst hff
            have HBK := Lib.hid hbk
            have HAF := Lib.hid haf
            have HBE := Lib.hid (HBQ.out.trans (hC1.mono HBQ.out.size))
            rw [h9, h11]
            clear hC1 HC0 h6 h6' h9 h11 hbk haf
            have hdn := HTO.out.done d2 f' HAF.out.2
            rcases hdn with rfl | ⟨rfl, hgood⟩
            · go_wp2_with fail
              go_roundw
              case rel => exact ⟨i + 1, by have := HLT.out; omega, by go_num, HBE.out⟩
              case measure => have := HLT.out; simp [intOf]; omega
            · have HGO := Lib.hid hgood
              clear hgood
              obtain ⟨-, cag, cnow⟩ := HG2.out _ HBE.out
              have CG := Lib.hid (agood_any d2 kk.agent kk.now _ (HAF.out.1.more (show 21 ≤ 900 by omega)))
              have HGD := Lib.hid (fun u => show GdPost d2 kk.agent kk.now u = fun e w' => e = .returned (.tuple #[.agg (nodeCells (goodX d2 kk.agent kk.now).1), .int .i64 (goodX d2 kk.agent kk.now).2]) ∧ Below u.heap.size u w' from rfl)
              rw [HGD.out] at CG
              obtain ⟨⟨GD, gf⟩, hG0⟩ : ∃ G, G = goodX d2 kk.agent kk.now := ⟨_, rfl⟩
              rw [← hG0] at HGO CG
              dsimp only at HGO CG
              clear hG0 HGD
              go_wp2_with (refine wpList_get_box (x := .tmp 16) (cs := ledCells d2) HBK.out rfl rfl rfl hul rfl ledT_size ?_)
              refine calls_then CG.out ?_
              rintro e w20 ⟨rfl, hb20⟩
              have HB20 := Lib.hid (HBE.out.trans (hb20.mono HBE.out.size))
              clear hb20 CG cag cnow
              go_upto_region 22 with (refine wpList_put_box (cells := nodeCells GD) (Blk.new _ _ _) rfl rfl rfl rfl nodeT_size rfl (nodeCells_one _) ?_; intro w21 hb21 hw21)
              have hbw21 : Below w20.heap.size w20 w21 := box_low9 hw21
              have HB21 := Lib.hid (HB20.out.trans (hbw21.mono HB20.out.size))
              clear hb21 hw21 hbw21
              by_cases hg0 : gf = 0
              · subst hg0
                go_wp2_with fail
                go_roundw
                case rel => exact ⟨i + 1, by have := HLT.out; omega, by go_num, HB21.out⟩
                case measure => have := HLT.out; simp [intOf]; omega
              · have hg0' : (gf == (0 : Int)) = false := by simpa using hg0
                have hnow : ¬ kk.now < 1099511627776 := fun h => hg0 (HGO.out h)
                obtain ⟨-, -, cnow⟩ := HG2.out _ HB21.out
                clear hg0
                go_wp2_with fail
                all_goals (try go_roundw)
                all_goals first
                  | exact ⟨i + 1, by have := HLT.out; omega, by go_num, HB21.out⟩
                  | (have := HLT.out; simp [intOf]; omega)
                  | exact ⟨⟨i + 1, by have := HLT.out; omega, by go_num, HB21.out⟩, by have := HLT.out; simp [intOf]; omega⟩
      · have hf0' : (fi == (0 : Int)) = false := by simpa using hf0
        clear hf0
        go_wp2_with fail
        go_roundw
        case rel => exact ⟨i + 1, by have := HLT.out; omega, by go_num, HBW.out⟩
        case measure => have := HLT.out; simp [intOf]; omega
    · have hlt' : ¬ (i : Int) < 3 := by omega
      clear hlt
      go_wp2_with fail
      refine calls_then (CV.out _) ?_
      rintro e wz ⟨rfl, hbz⟩
      have HBZ := Lib.hid ((HB12.out.trans (HBW.out.mono HB12.out.size)).trans (hbz.mono (HB12.out.trans (HBW.out.mono HB12.out.size)).size))
      clear hbz
      go_wp2_with fail
      go_ret
      exact ⟨rfl, HBZ.out⟩
end Go.Proofs.YtilhhigdegccgaaDoor
namespace Go.Proofs.YtilhhigdegccgaaDoor.attestBanned
set_option linter.unusedSimpArgs false
set_option linter.unusedVariables false
open Go.ChangeShapes Go.WideShapes Go.ChangeAt Go.RowKit Go.Joins

set_option maxRecDepth 100000 in
theorem lifted (os : Os) (started : os.Started) (H : Type) (enc : TypeId × Value → H) :
    ReturnsInHanded {} Tryd.checked os 3 .any (fun w args => (Rows.attestBannedSpec.pre enc Tryd.prog Tryd.f3 [] false w args ∧ laidMetH Tryd.prog laidL2 w) ∧ sizedMet enc Tryd.prog Tryd.f3 (OpenSpec.ofChange Rows.attestBannedSpec) false w args)
      (Rows.attestBannedSpec.post enc Tryd.prog Tryd.f3 false true false false) := by
  refine handed_and_shaped (C := Tryd.checked) (X := fun w _ => laidMetH Tryd.prog laidL2 w) (fun _ _ _ hh h => h.of_heap hh) own started (by kernel_rfl) Tryd.func3
    (ChangeSpec.witness_shaped (enc := enc) (C := Tryd.checked) (os := os) (X := fun w _ => laidMetH Tryd.prog laidL2 w) false (World.laidAll Tryd.prog os laidL2) #[.slice none 0 0, .agg #[.string .empty, .string .empty, .string .empty, .int .i64 0, .int .i64 0]] 8 (World.laidAll_os _ _ _) (World.shaped_of_ZipB (by kernel_rfl) (by kernel_rfl)) (by kernel_rfl) (by kernel_rfl) (by kernel_rfl) (door_met2 os _)) ?_
  intro W base args ds gs before hval0 hW hsh
  obtain ⟨m, hm⟩ := max_some hsh
  have hval : ∀ (j : Nat) t v, Tryd.f3.params[j]? = some t → args[j]? = some v → Value.okWide Tryd.prog W .any base t v := hval0
  have hW' := hW
  obtain ⟨p, q, hA0, hV, rfl, hfz, hnd⟩ := hW
  have hA : DataW.TrodAll enc Tryd.prog W 0 (fun _ => true) true Tryd.f3.params.toList args.toList ds p := hA0
  rw [Tryd.params3] at hA hval
  obtain ⟨v0, v1, d0, d1, p0, p1, rfl, rfl, rfl, h0, h1⟩ := trodAll_two hA
  obtain ⟨rfl, rfl⟩ := trodVars_none hV
  have h0k := h0
  have h1k := h1
  obtain ⟨A0, c0, l0, rfl, r0, b0, s0⟩ := open_ops_arg (hval 0 22 v0 rfl rfl) h0
  obtain ⟨k1, rfl, n1, t1⟩ := open_ask_arg (hval 1 24 v1 rfl rfl) h1
  clear hA0 hval0
  try simp only [List.append_nil, List.nil_append] at hW'
  refine (attestBanned_any l0 A0 c0 k1 W r0 b0 s0 n1 t1 m hm).mono fun e W' ⟨he, hb⟩ => ?_
  subst he
  have hlt : ∀ x ∈ (p0 ++ p1 : List MemPlace), x.block < W.heap.size := fun x hx => hW'.lt x (by first | (simp at hx; done) | simpa using hx)
  exact ⟨_, rfl, post_of_below (pa := p0 ++ p1) (pv := []) hW' (fun _ _ _ => trodAll_mk1 (shut_bool Tryd.underlying4 _))
    (fun sp hsp => trodAll_mk2 (stays laidOut (by kernel_rfl) (of_decide_eq_true (by kernel_rfl)) h0k hb (fun x hx => hlt x (by simp [hx])) (fun x hx => hsp x (by simp [hx])))
      (stays laidOut (by kernel_rfl) (of_decide_eq_true (by kernel_rfl)) h1k hb (fun x hx => hlt x (by simp [hx])) (fun x hx => hsp x (by simp [hx]))))
    (fun _ _ => by rfl) (by simp) hb (ok_one (by kernel_rfl) rfl (okWide_bool_mk Tryd.underlying4 _))⟩

theorem row_holds : Rows.AttestBannedSaid :=
  OpenClaim.holds_of_wide 3 Tryd.f3 rfl rfl rfl rfl rfl rfl rfl ⟨rfl, rfl, rfl, rfl, rfl⟩ rfl rfl rfl rfl rfl (by kernel_rfl) Tryd.func3 (by kernel_rfl)
    (of_decide_eq_true (by kernel_rfl)) (by unfold Func.isWrapper; first | (rw [if_pos (by decide +kernel)]; kernel_rfl) | (rw [if_neg (by decide +kernel)]; exact ⟨rfl, rfl⟩))
    (fun os started H enc _ => lifted os started H enc)

theorem holds : Rows.AttestBannedCardSaid :=
  Claim7.holds_tied_plain_at .later [] [.data, .pinned] true (true, "6cb0adf64617bdfcc052e6bd1ed71ec251115ae98ae1353dcd5cb3bf198836f4") false
    row_holds (fun _ h => by cases h) (by kernel_rfl) (fun _ h => by cases h) attestBanned_row_tie rfl ⟨rfl, rfl⟩ (by kernel_rfl) rfl
    (fun f fn hf hfn => by
      obtain rfl : f = 3 := Option.some.inj ((show Tryd.prog.funcNamed "brevet/brevetlaw20.AttestBanned" = some 3 by kernel_rfl).symm.trans hf) |>.symm
      obtain rfl : fn = Tryd.f3 := (Option.some.inj (Tryd.func3.symm.trans hfn)).symm
      exact ⟨by kernel_rfl, fun j t ht => by
        rw [Tryd.params3] at ht
        have hm : t ∈ [22, 24] := by simpa using Array.mem_of_getElem? ht
        have hall : ([22, 24].all fun u => !Tryd.prog.wantsStandIn u) = true := by kernel_rfl
        exact (show Tryd.prog.wantsStandIn t = false by simpa using List.all_eq_true.1 hall t hm)⟩)
    (by kernel_rfl)
#print axioms holds
end Go.Proofs.YtilhhigdegccgaaDoor.attestBanned
