/-
  Joined texts: Rn2 Bp3 Shp.
-/
import Derived.Test.YtilhhigdegccgaaDoorRows
import Derived.LaidLaws
import Derived.LaidMore
import Derived.Stop.Joined
import Derived.MakeChecks
import Derived.Lay
import Derived.ProofKit
import Derived.OpenShut
import Derived.Shelf.Vars
import Derived.Test.YtilhhigdegccgaaDoorJ12
import Derived.Test.YtilhhigdegccgaaDoorJ13
import Derived.Test.YtilhhigdegccgaaDoorJ42
import Derived.Test.YtilhhigdegccgaaDoorJ46
import Derived.Test.YtilhhigdegccgaaDoorJ28
/-
  Walks: attest.Renew and the document's. (Printed by gen/rn20.py.)
-/
namespace Go.Proofs.YtilhhigdegccgaaDoor
set_option linter.unusedSimpArgs false
set_option linter.unusedVariables false
open Go.RowKit
def opR (o : Option NodeD) : Array Value := match o with
  | none => opN 0 0 ⟨#[]⟩ zNo
  | some k => opN 5 0 ⟨#[]⟩ k
def renewX (d : LedD) (ag : ByteArray) (now ttl : Int) : Option NodeD × Int :=
  if (goodX d ag now).2 = 0 then (if soundB (goodX d ag now).1.key now ttl = true then (some ⟨(goodX d ag now).1.name, (goodX d ag now).1.key, timeC now ttl, (goodX d ag now).1.seq, (goodX d ag now).1.doc⟩, 0) else (none, 1)) else (none, (goodX d ag now).2)
def RnPost (d : LedD) (ag : ByteArray) (now ttl : Int) (w : World) (e : Ending) (w' : World) : Prop := e = .returned (.tuple #[.agg (opR (renewX d ag now ttl).1), .int .i64 (renewX d ag now ttl).2]) ∧ Below w.heap.size w w'
set_option maxRecDepth 100000 in
set_option maxHeartbeats 8000000 in
theorem arenew_any (d : LedD) (ag : ByteArray) (now ttl : Int) (w : World) (h : LedOk w 900 d) :
    Calls Tryd.prog 8 #[.agg (ledCells d), .string ag, .int .i64 now, .int .i64 ttl] w (RnPost d ag now ttl w) := by
  have hul := Tryd.underlying33
  have huj := Tryd.underlying40
  have huo := Tryd.underlying47
  obtain ⟨W0, hW0⟩ : ∃ W0, W0 = (w.alloc (.cells (ledCells d) 33)).alloc (.cells (opN 0 0 ⟨#[]⟩ zNo) 47) := ⟨_, rfl⟩
  have hb0 : Below w.heap.size w W0 := by rw [hW0]; exact ((Below.refl _ w).alloc (Nat.le_refl _) _).alloc (by simp) _
  have HB0 := Lib.hid hb0
  have HK0 := Lib.hid (show Blk W0 w.heap.size 33 (ledCells d) by rw [hW0]; exact (Blk.new _ _ _).alloc _)
  have HO0 := Lib.hid (show Blk W0 (w.heap.size + 1) 47 (opN 0 0 ⟨#[]⟩ zNo) by rw [hW0]; have := Blk.new (w.alloc (.cells (ledCells d) 33)) 47 (opN 0 0 ⟨#[]⟩ zNo); simpa using this)
  have HS0 := Lib.hid (show W0.heap.size = w.heap.size + 2 by rw [hW0]; simp)
  have HW0 := Lib.hid hW0
  have hok := h.grow hb0
  have HC := Lib.hid (agood_any d ag now W0 hok)
  have HX := Lib.hid (show RnPost d ag now ttl w = fun e w' => e = .returned (.tuple #[.agg (opR (renewX d ag now ttl).1), .int .i64 (renewX d ag now ttl).2]) ∧ Below w.heap.size w w' from rfl)
  have HJX := Lib.hid (show renewX d ag now ttl = if (goodX d ag now).2 = 0 then (if soundB (goodX d ag now).1.key now ttl = true then (some ⟨(goodX d ag now).1.name, (goodX d ag now).1.key, timeC now ttl, (goodX d ag now).1.seq, (goodX d ag now).1.doc⟩, 0) else (none, 1)) else (none, (goodX d ag now).2) from rfl)
  have HGD := Lib.hid (show GdPost d ag now W0 = fun e w' => e = .returned (.tuple #[.agg (nodeCells (goodX d ag now).1), .int .i64 (goodX d ag now).2]) ∧ Below W0.heap.size W0 w' from rfl)
  rw [HGD.out] at HC
  obtain ⟨RX, hRX⟩ : ∃ R, R = renewX d ag now ttl := ⟨_, rfl⟩
  rw [← hRX] at HJX HX
  rw [HX.out]
  obtain ⟨⟨GD, GF⟩, hG0⟩ : ∃ G, G = goodX d ag now := ⟨_, rfl⟩
  rw [← hG0] at HJX HC
  dsimp only at HJX HC
  have CS := Lib.hid (fun (u : World) => csound_any GD.key now ttl u)
  have CU := Lib.hid (fun (u : World) => cuntil_any now ttl u)
  obtain ⟨sb, hsb⟩ : ∃ b, b = soundB GD.key now ttl := ⟨_, rfl⟩
  rw [← hsb] at HJX CS
  obtain ⟨un, hun⟩ : ∃ b, b = timeC now ttl := ⟨_, rfl⟩
  rw [← hun] at HJX CU
  clear hW0 hb0 h hok hRX hG0 hsb hun HGD
  go_enter Tryd.func8, Tryd.ntmps8
  go_upto_region 1 with (fail)
  rw [show (w.alloc (.cells (ledCells d) 33)).alloc (.cells #[.int .i64 0, .int .i64 0, .string ⟨#[]⟩, .int .i64 0, .string ⟨#[]⟩, .string ⟨#[]⟩, .int .i64 0, .slice none 0 0, .string ⟨#[]⟩, .string ⟨#[]⟩, .int .i64 0, .bool false, .string ⟨#[]⟩, .string ⟨#[]⟩, .int .i64 0, .int .i64 0, .string ⟨#[]⟩, .string ⟨#[]⟩, .string ⟨#[]⟩, .int .i64 0, .int .i64 0, .string ⟨#[]⟩, .int .i64 0, .slice none 0 0] 47) = W0 from HW0.out.symm]
  obtain ⟨AV, hAV⟩ : ∃ A, A = Value.agg (ledCells d) := ⟨_, rfl⟩
  rw [← hAV] at HC ⊢
  have HAV := Lib.hid hAV
  clear hAV
  go_wp2_with (refine wpList_get_box (x := .tmp 4) (cs := ledCells d) HK0.out rfl rfl rfl hul rfl ledT_size ?_)
  rw [show Value.agg (ledCells d) = AV from HAV.out.symm]
  refine calls_then HC.out ?_
  rintro e w1 ⟨rfl, hb1⟩
  have HB1 := Lib.hid hb1
  clear hb1 HC
  go_upto_region 2 with (refine wpList_put_box (cells := nodeCells GD) (Blk.new _ _ _) rfl rfl rfl rfl nodeT_size rfl (nodeCells_one _) ?_; intro w2 hb2 hw2)
  have hbw2 : Below w1.heap.size w1 w2 := box_low9 hw2
  obtain ⟨H, hH⟩ : ∃ H, H = w1.heap.size := ⟨_, rfl⟩
  rw [← hH] at hb2 ⊢
  have HHG := Lib.hid (show w.heap.size + 2 ≤ H by rw [hH, ← HS0.out]; exact HB1.out.size)
  have HN2 := Lib.hid hb2
  have HB2 := Lib.hid (HB1.out.trans (hbw2.mono HB1.out.size))
  have HO2 := Lib.hid (HO0.out.below HB2.out HO0.out.lt)
  have HBW := Lib.hid (HB0.out.trans (HB2.out.mono HB0.out.size))
  clear hb2 hw2 hbw2 hH
  by_cases hf : GF = 0
  · subst hf
    have HJ1 := Lib.hid (show RX = if sb = true then (some ⟨GD.name, GD.key, un, GD.seq, GD.doc⟩, 0) else (none, 1) by rw [HJX.out, if_pos rfl])
    have c1 : w2.cell? ⟨H, 1, none⟩ = some (.string GD.key) := HN2.out.cell 1
    go_wp2_with fail
    refine calls_then (CS.out _) ?_
    rintro e w3 ⟨rfl, rfl⟩
    cases sb with
    | false =>
      have HRX := Lib.hid (show RX = (none, 1) by rw [HJ1.out, if_neg (by simp)])
      clear c1
      go_wp2_with (first
        | (refine wpList_build_any (T := 47) (cells := opN 0 0 ⟨#[]⟩ zNo) rfl #[] rfl op_zero ?_)
        | (refine wpList_put_box (x := .tmp 8) (cells := opN 0 0 ⟨#[]⟩ zNo) HO2.out rfl rfl rfl rfl opQ2_size rfl (opN_one _ _ _ _) ?_; intro w9 hb9 hw9))
      have HB9 := Lib.hid hb9
      have HF9 := Lib.hid (hw9.below HBW.out (by omega) (HBW.out).size)
      refine bodyPost_ret (results_box_tmp (P := Tryd.prog) rfl rfl HB9.out huo rfl opQ2_size) rfl ?_
      exact ⟨by rw [HRX.out]; rfl, HF9.out⟩
    | true =>
      have HRX := Lib.hid (show RX = (some ⟨GD.name, GD.key, un, GD.seq, GD.doc⟩, 0) by rw [HJ1.out, if_pos rfl])
      clear c1
      go_wp2_with fail
      refine calls_then (CU.out _) ?_
      rintro e w4 ⟨rfl, hb4⟩
      have HN4 := Lib.hid (HN2.out.below hb4 HN2.out.lt)
      have HO4 := Lib.hid (HO2.out.below hb4 HO2.out.lt)
      have HBW4 := Lib.hid (HBW.out.trans (hb4.mono HBW.out.size))
      clear hb4
      have HNE := Lib.hid (show w.heap.size + 1 ≠ H by have := HHG.out; omega)
      have HGE := Lib.hid (show w.heap.size ≤ H by have := HHG.out; omega)
      go_wp2_with (first
        | (refine wpList_put_cell (i := 2) HN4.out rfl rfl rfl rfl (by kernel_rfl) (by simp [nodeCells]) rfl ?_; intro w7 hb7 hw7; have HB7 := Lib.hid (show Blk w7 H 40 (nodeCells ⟨GD.name, GD.key, un, GD.seq, GD.doc⟩) from hb7); have HO7 := Lib.hid (hw7.blk HO4.out HNE.out); have HBW7 := Lib.hid (hw7.below HBW4.out HGE.out HBW4.out.size); clear hb7 hw7)
        | (refine wpList_get_box (x := .tmp 10) (cs := nodeCells ⟨GD.name, GD.key, un, GD.seq, GD.doc⟩) HB7.out rfl rfl rfl huj rfl nodeT_size ?_)
        | (refine wpList_build_any (T := 47) (cells := opN 5 0 ⟨#[]⟩ ⟨GD.name, GD.key, un, GD.seq, GD.doc⟩) rfl _ rfl (by kernel_rfl) ?_)
        | (refine wpList_put_box (x := .tmp 8) (cells := opN 5 0 ⟨#[]⟩ ⟨GD.name, GD.key, un, GD.seq, GD.doc⟩) HO7.out rfl rfl rfl rfl opQ2_size rfl (opN_one _ _ _ _) ?_; intro w9 hb9 hw9))
      have HB9 := Lib.hid hb9
      have HF9 := Lib.hid (hw9.below HBW7.out (by omega) (HBW7.out).size)
      refine bodyPost_ret (results_box_tmp (P := Tryd.prog) rfl rfl HB9.out huo rfl opQ2_size) rfl ?_
      exact ⟨by rw [HRX.out]; rfl, HF9.out⟩
  · have hf' : (GF == (0 : Int)) = false := by simpa using hf
    have HRX := Lib.hid (show RX = (none, GF) by rw [HJX.out, if_neg hf])
    clear hf
    go_wp2_with (first
      | (refine wpList_build_any (T := 47) (cells := opN 0 0 ⟨#[]⟩ zNo) rfl #[] rfl op_zero ?_)
      | (refine wpList_put_box (x := .tmp 8) (cells := opN 0 0 ⟨#[]⟩ zNo) HO2.out rfl rfl rfl rfl opQ2_size rfl (opN_one _ _ _ _) ?_; intro w9 hb9 hw9))
    have HB9 := Lib.hid hb9
    have HF9 := Lib.hid (hw9.below HBW.out (by omega) (HBW.out).size)
    refine bodyPost_ret (results_box_tmp (P := Tryd.prog) rfl rfl HB9.out huo rfl opQ2_size) rfl ?_
    exact ⟨by rw [HRX.out]; rfl, HF9.out⟩
end Go.Proofs.YtilhhigdegccgaaDoor
/-
  Plain: what is told to be done is done, and its agent is good.
-/
namespace Go.Proofs.YtilhhigdegccgaaDoor
set_option linter.unusedSimpArgs false
set_option linter.unusedVariables false
open Go.RowKit

/-- an operation of a kind, with a name and a node -/
def opD (kind : Int) (name : ByteArray) (k : NodeD) : OpD := ⟨kind, 0, name, ⟨0, ⟨#[]⟩, ⟨#[]⟩, 0, none, 0, 0⟩, ⟨⟨#[]⟩, ⟨#[]⟩, 0, false⟩, k, ⟨⟨#[]⟩, ⟨#[]⟩, 0, 0⟩, ⟨⟨#[]⟩, 0, none, 0, 0⟩⟩
theorem opD_cells (kind : Int) (name : ByteArray) (k : NodeD) : opC (opD kind name k) = opN kind 0 name k := rfl
theorem opD_in (w : World) (kind : Int) (name : ByteArray) (k : NodeD) (h1 : name.size ≤ 1000) (h2 : k.name.size ≤ 1000) : OpIn w (opD kind name k) := by
  have z : (⟨#[]⟩ : ByteArray).size ≤ 1000 := by decide
  exact ⟨h1, ⟨z, z, Nat.le_refl _, by show 0 ≤ 1000; omega, [], rfl, fun s hs => (by cases hs), Row.nil _ _ _ _⟩, z, z, h2, ⟨z, Nat.le_refl _, by show 0 ≤ 1000; omega, [], rfl, fun s hs => (by cases hs), Row.nil _ _ _ _⟩⟩
theorem timeT_range (t : Int) : 0 ≤ timeT t ∧ timeT t ≤ 1099511627776 := by
  unfold timeT
  split
  · omega
  · split <;> omega
theorem timeC_range (a b : Int) : 0 ≤ timeC a b ∧ timeC a b ≤ 1099511627776 := timeT_range _
theorem timeC_more {a b : Int} (h0 : 0 ≤ a) (h1 : a < 1099511627776) (h2 : 1 ≤ b) (h3 : b ≤ 1000) : ¬ timeC a b ≤ a := by
  have e : satA a b = a + b := by
    unfold satA
    rw [if_neg (by omega), if_neg (by omega)]
  rw [timeC_eq a b (by omega) (by omega), e]
  unfold timeT
  split
  · omega
  · split <;> omega
theorem soundB_at {key : ByteArray} {now ttl : Int} (h : soundB key now ttl = true) : key.size = 32 ∧ 0 ≤ now ∧ now ≤ 1099511627776 ∧ 1 ≤ ttl ∧ ttl ≤ 1000 := by
  unfold soundB at h
  simp only [Bool.and_eq_true, decide_eq_true_eq] at h
  exact ⟨h.1.1.1.1, h.1.1.1.2, h.1.1.2, h.1.2, h.2⟩
theorem nodB_mk {n : NodeD} {now ttl : Int} (ha : Js.agentB n.name.data.toList = true) (hk : n.key.size = 32) (he : n.exp = timeC now ttl) (hs : 0 ≤ n.seq ∧ n.seq ≤ 1099511627776) (hd : n.doc.size ≤ 16) : nodB n = true := by
  have hr := timeC_range now ttl
  unfold nodB
  simp only [Bool.and_eq_true, decide_eq_true_eq]
  exact ⟨ha, hk, by rw [he]; exact hr.1, by rw [he]; exact hr.2, hs.1, hs.2, hd⟩
/-- what is so of an operation that is told -/
structure ToldOk (d : LedD) (ag : ByteArray) (now : Int) (o : OpD) : Prop where
  ban : hasB d.bans.l ag = false
  inn : ∀ w, OpIn w o
  done : ∀ d' f, DoRel d o d' f → f = 6 ∨ (f = 0 ∧ (now < 1099511627776 → (goodX d' ag now).2 = 0))
theorem good_done {d d' : LedD} {n : NodeD} {ag : ByteArray} {now ttl f : Int} (h : NodeDone d n d' f) (hb : hasB d.bans.l ag = false) (hn : n.name = ag) (he : n.exp = timeC now ttl) (h0 : 0 ≤ now) (h2 : 1 ≤ ttl) (h3 : ttl ≤ 1000) : f = 6 ∨ (f = 0 ∧ (now < 1099511627776 → (goodX d' ag now).2 = 0)) := by
  rcases h with ⟨hf, hbb, hfd⟩ | hf
  · refine .inr ⟨hf, fun h1 => ?_⟩
    rw [hn] at hfd
    rw [goodX, hbb, hb, if_neg (by simp), hfd]
    show (if n.exp ≤ now then ((zNd, 15) : NodeD × Int) else (n, 0)).2 = 0
    rw [if_neg (by rw [he]; exact timeC_more h0 h1 h2 h3)]
  · exact .inl hf
theorem eq_of_toList {a b : ByteArray} (h : (a.toList == b.toList) = true) : a = b := by
  have h : a.toList = b.toList := by simpa using h
  rw [Lib.toList_data, Lib.toList_data] at h
  apply ByteArray.ext
  exact Array.ext' h
theorem told_join {d : LedD} {tok ag key : ByteArray} {now ttl : Int} (hi : InvP d) (ht : tok.size ≤ 1000) (hg : ag.size ≤ 1000) (h : (joinX d tok ag key now ttl).2 = 0) :
    ∃ k, (joinX d tok ag key now ttl).1 = some k ∧ ToldOk d ag now (opD 4 tok k) := by
  unfold joinX at h ⊢
  cases hj : d.joins.l.find? (eqJ tok) with
  | none => rw [hj] at h; cases h
  | some j =>
    rw [hj] at h
    dsimp only at h ⊢
    by_cases h1 : j.used = true
    · rw [if_pos h1] at h; cases h
    rw [if_neg h1] at h ⊢
    by_cases h2 : j.exp ≤ now
    · rw [if_pos h2] at h; cases h
    rw [if_neg h2] at h ⊢
    by_cases h3 : ¬ ((ag.toList == j.name.toList) = true ∧ soundB key now ttl = true)
    · rw [if_pos h3] at h; cases h
    rw [if_neg h3] at h ⊢
    by_cases h4 : hasB d.bans.l ag = true
    · rw [if_pos h4] at h; cases h
    rw [if_neg h4] at h ⊢
    have h3 := Classical.not_not.1 h3
    have hs := soundB_at h3.2
    have hb : hasB d.bans.l ag = false := by simpa using h4
    have hja : Js.agentB ag.data.toList = true := by rw [eq_of_toList h3.1]; exact hi.1 j (List.mem_of_find?_eq_some hj)
    refine ⟨_, rfl, hb, fun w => opD_in w 4 tok _ ht hg, fun d' f hr => ?_⟩
    exact good_done (hr.join rfl j hj (by simpa using h1) h3.1 (nodB_mk (now := now) (ttl := ttl) hja hs.1 rfl ⟨by show (0 : Int) ≤ 0; omega, by show (0 : Int) ≤ _; omega⟩ (by show 0 ≤ 16; omega)) hb) hb rfl rfl hs.2.1 hs.2.2.2.1 hs.2.2.2.2
theorem told_attest {d : LedD} {name ag key : ByteArray} {now ttl : Int} (hi : InvP d) (hg : ag.size ≤ 1000) (h : (attX d name ag key now ttl).2 = 0) :
    ∃ k, (attX d name ag key now ttl).1 = some k ∧ ToldOk d ag now (opD 5 ⟨#[]⟩ k) := by
  unfold attX at h ⊢
  by_cases h1 : ¬ (naB name.data.toList = true ∧ Js.agentB ag.data.toList = true ∧ soundB key now ttl = true)
  · rw [if_pos h1] at h; cases h
  rw [if_neg h1] at h ⊢
  by_cases h2 : hasB d.bans.l ag = true
  · rw [if_pos h2] at h; cases h
  rw [if_neg h2] at h ⊢
  by_cases h3 : (ufind d.nodes.l name ag).2 = true
  · rw [if_pos h3] at h; cases h
  rw [if_neg h3] at h ⊢
  have h1 := Classical.not_not.1 h1
  have hs := soundB_at h1.2.2
  have hb : hasB d.bans.l ag = false := by simpa using h2
  have hsq : 0 ≤ seqX d ag key ∧ seqX d ag key ≤ 1099511627776 := by
    unfold seqX
    cases hq : d.nodes.l.find? (eqN ag) with
    | none => dsimp only; omega
    | some k =>
      dsimp only
      have hk := hi.2 k (List.mem_of_find?_eq_some hq)
      split
      · exact ⟨hk.2.1, hk.2.2.1⟩
      · omega
  have hds : name.size ≤ 16 := by
    have := h1.1
    unfold naB at this
    simp only [Bool.and_eq_true, decide_eq_true_eq] at this
    exact this.2.2
  refine ⟨_, rfl, hb, fun w => opD_in w 5 ⟨#[]⟩ _ (by show 0 ≤ 1000; omega) hg, fun d' f hr => ?_⟩
  exact good_done (hr.node rfl (nodB_mk (now := now) (ttl := ttl) h1.2.1 hs.1 rfl hsq hds) hb) hb rfl rfl hs.2.1 hs.2.2.2.1 hs.2.2.2.2
theorem told_renew {d : LedD} {ag : ByteArray} {now ttl : Int} (hi : InvP d) (hg : ag.size ≤ 1000) (h : (renewX d ag now ttl).2 = 0) :
    ∃ k, (renewX d ag now ttl).1 = some k ∧ ToldOk d ag now (opD 5 ⟨#[]⟩ k) := by
  unfold renewX at h ⊢
  by_cases h1 : (goodX d ag now).2 = 0
  · rw [if_pos h1] at h ⊢
    by_cases h2 : soundB (goodX d ag now).1.key now ttl = true
    · rw [if_pos h2] at h ⊢
      have hs := soundB_at h2
      unfold goodX at h1
      by_cases h3 : hasB d.bans.l ag = true
      · rw [if_pos h3] at h1; cases h1
      have hb : hasB d.bans.l ag = false := by simpa using h3
      rw [if_neg h3] at h1
      cases hq : d.nodes.l.find? (eqN ag) with
      | none => rw [hq] at h1; cases h1
      | some k =>
        rw [hq] at h1
        dsimp only at h1
        by_cases h4 : k.exp ≤ now
        · rw [if_pos h4] at h1; cases h1
        have hgx : goodX d ag now = (k, 0) := by
          rw [goodX, if_neg h3, hq]
          exact if_neg h4
        rw [hgx] at hs ⊢
        have hk := hi.2 k (List.mem_of_find?_eq_some hq)
        have hn9 : eqN ag k = true := List.find?_some hq
        have hn : k.name = ag := eq_of_toList hn9
        refine ⟨_, rfl, hb, fun w => opD_in w 5 ⟨#[]⟩ _ (by show 0 ≤ 1000; omega) (by show k.name.size ≤ 1000; rw [hn]; exact hg), fun d' f hr => ?_⟩
        exact good_done (hr.node rfl (nodB_mk (now := now) (ttl := ttl) hk.1 hs.1 rfl ⟨hk.2.1, hk.2.2.1⟩ hk.2.2.2) (by show hasB d.bans.l k.name = false; rw [hn]; exact hb)) hb hn rfl hs.2.1 hs.2.2.2.1 hs.2.2.2.2
    · rw [if_neg h2] at h; cases h
  · rw [if_neg h1] at h; exact absurd h h1
end Go.Proofs.YtilhhigdegccgaaDoor
/-
  A wrap that keeps the world's shape beside what the listed variables read as; the two listed variables.
-/
namespace Go.Proofs.YtilhhigdegccgaaDoor
set_option linter.unusedSimpArgs false
set_option linter.unusedVariables false
open Go.ChangeShapes Go.WideShapes Go.ChangeAt Go.RowKit Go.Joins

def laidL2 : List (String × DataW Unit) := [("unicode/utf8.acceptRanges", Rows.laid_unicode_utf8_acceptRanges), ("unicode/utf8.first", Rows.laid_unicode_utf8_first)]
theorem door_met2 (os : Os) (args : Array Value) : laidMetH Tryd.prog laidL2 ((World.laidAll Tryd.prog os laidL2).forCall (fun _ _ => 0) ⟨#[], args, []⟩).memory := by
  rw [MakeChecks.laidMetH_plain _ _ _ (by kernel_rfl)]
  exact laidMet_laidAll _ (by kernel_rfl) (by kernel_rfl)
theorem max_some {w : World} (h : w.ShapedOpen Tryd.prog) : ∃ m, w.cell? ⟨0, 0, none⟩ = some (.int .i64 m) :=
  Go.Proofs.cell_of_shapedOpen_int (zero := #[.int .i64 0]) (t := 3) h (of_decide_eq_true (by kernel_rfl)) (by kernel_rfl) rfl (by kernel_rfl) (by kernel_rfl) Tryd.underlying3
section
variable {H : Type} {enc : TypeId × Value → H}
theorem handed_and_shaped {a : Assume} {C : Checked} {os : Os} {f : FuncId} {fn : Func} {s : ChangeSpec} {conds : List PathCond} {apart fresh handsOn again : Bool} {X : World → Array Value → Prop}
    (hX : ∀ (w w' : World) (args : Array Value), w.heap = w'.heap → X w args → X w' args)
    (own : ownKnob C.prog.godebug = none) (started : os.Started) (noInit : C.prog.inits.idxOf? f = none) (hfn : C.prog.funcs[f]? = some fn)
    (witness : ∃ (w : World) (tape : Tape) (i : Input), w.os = os ∧ (w.forCall tape i).Shaped C.prog ∧ i.vars = [] ∧ Input.okWide C.prog (w.forCall tape i) .any w.heap.size f i ∧
      ((s.pre enc C.prog fn conds apart (w.forCall tape i).memory i.args ∧ X (w.forCall tape i).memory i.args) ∧ sizedMet enc C.prog fn (OpenSpec.ofChange s) apart (w.forCall tape i).memory i.args) ∧ a.holds C.prog (lone (Frame.enter C.prog f i.args .normal) [] (w.forCall tape i)))
    (contract : ∀ (W : World) (base : Nat) (args : Array Value) (ds gs : List (DataW H)) (before : List MemPlace),
      (∀ (j : Nat) t v, fn.params[j]? = some t → args[j]? = some v → Value.okWide C.prog W .any base t v) →
      DataW.Whole enc C.prog fn.params.toList s.vars apart W args.toList ds gs before → W.ShapedOpen C.prog →
      Calls C.prog f args W fun e W' => ∃ v, e = .returned v ∧ s.post enc C.prog fn apart fresh handsOn again W args v W') :
    ReturnsInHanded a C os f .any (fun w args => (s.pre enc C.prog fn conds apart w args ∧ X w args) ∧ sizedMet enc C.prog fn (OpenSpec.ofChange s) apart w args) (s.post enc C.prog fn apart fresh handsOn again) := by
  refine returnsInHanded_of_calls own started noInit witness fun w tape i _ hsh _ hok hpre _ => ?_
  obtain ⟨_, _, _, fn2, hfn2, _, _, _, _, hval⟩ := hok
  obtain rfl : fn2 = fn := Option.some.inj (hfn2.symm.trans hfn)
  obtain ⟨⟨⟨ds, gs, before, hw, _⟩, _⟩, _⟩ := hpre
  refine (contract (w.forCall tape i) w.heap.size i.args ds gs before hval (DataW.Whole.of_heap (w' := w.forCall tape i) (by rfl) hw) hsh).mono fun e W' h => ?_
  obtain ⟨v, rfl, hp⟩ := h
  exact ChangeSpec.post_blind hp
end
end Go.Proofs.YtilhhigdegccgaaDoor
