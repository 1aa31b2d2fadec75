/-
  PROVED: 'brevetlaw20.AttestGood': at every input the law returns true; what came in reads as before.
-/
import Derived.ChangeMaps5
import Derived.Test.YtcnebbhnpocofaaJ3
import Derived.Test.YtcnebbhnpocofaaJ4
import Derived.Test.YtcnebbhnpocofaaJ5
import Derived.Test.YtcnebbhnpocofaaJ1
/-
  Walks: attest.Renew and the document's. (Printed by gen/rn20.py.)
-/
namespace Go.Proofs.Ytcnebbhnpocofaa
set_option linter.unusedSimpArgs false
set_option linter.unusedVariables false
open Go.RowKit

def opR (o : Option NodeD) : Array Value := match o with
  | none => opN 0 0 ⟨#[]⟩ zNo
  | some k => opN 5 0 ⟨#[]⟩ k
/-- what is done to renew a node -/
def renewX (d : LedD) (ag : ByteArray) (now ttl : Int) : Option NodeD × Int :=
  if (goodX d ag now).2 = 0 then (if soundB (goodX d ag now).1.key now ttl = true then (some ⟨(goodX d ag now).1.name, (goodX d ag now).1.key, timeC now ttl, (goodX d ag now).1.seq, (goodX d ag now).1.doc⟩, 0) else (none, 1)) else (none, (goodX d ag now).2)
def RnPost (d : LedD) (ag : ByteArray) (now ttl : Int) (w : World) (e : Ending) (w' : World) : Prop := e = .returned (.tuple #[.agg (opR (renewX d ag now ttl).1), .int .i64 (renewX d ag now ttl).2]) ∧ Below w.heap.size w w'
set_option maxRecDepth 100000 in
set_option maxHeartbeats 8000000 in
theorem arenew_any (d : LedD) (ag : ByteArray) (now ttl : Int) (w : World) (h : LedOk w 900 d) :
    Calls Try.prog 13 #[.agg (ledCells d), .string ag, .int .i64 now, .int .i64 ttl] w (RnPost d ag now ttl w) := by
  have hul := Try.underlying33
  have huj := Try.underlying40
  have huo := Try.underlying47
  obtain ⟨W0, hW0⟩ : ∃ W0, W0 = (w.alloc (.cells (ledCells d) 33)).alloc (.cells (opN 0 0 ⟨#[]⟩ zNo) 47) := ⟨_, rfl⟩
  have hb0 : Below w.heap.size w W0 := by rw [hW0]; exact ((Below.refl _ w).alloc (Nat.le_refl _) _).alloc (by simp) _
  have HB0 := Lib.hid hb0
  have HK0 := Lib.hid (show Blk W0 w.heap.size 33 (ledCells d) by rw [hW0]; exact (Blk.new _ _ _).alloc _)
  have HO0 := Lib.hid (show Blk W0 (w.heap.size + 1) 47 (opN 0 0 ⟨#[]⟩ zNo) by rw [hW0]; have := Blk.new (w.alloc (.cells (ledCells d) 33)) 47 (opN 0 0 ⟨#[]⟩ zNo); simpa using this)
  have HS0 := Lib.hid (show W0.heap.size = w.heap.size + 2 by rw [hW0]; simp)
  have HW0 := Lib.hid hW0
  have hok := h.grow hb0
  have HC := Lib.hid (agood_any d ag now W0 hok)
  have HX := Lib.hid (show RnPost d ag now ttl w = fun e w' => e = .returned (.tuple #[.agg (opR (renewX d ag now ttl).1), .int .i64 (renewX d ag now ttl).2]) ∧ Below w.heap.size w w' from rfl)
  have HJX := Lib.hid (show renewX d ag now ttl = if (goodX d ag now).2 = 0 then (if soundB (goodX d ag now).1.key now ttl = true then (some ⟨(goodX d ag now).1.name, (goodX d ag now).1.key, timeC now ttl, (goodX d ag now).1.seq, (goodX d ag now).1.doc⟩, 0) else (none, 1)) else (none, (goodX d ag now).2) from rfl)
  have HGD := Lib.hid (show GdPost d ag now W0 = fun e w' => e = .returned (.tuple #[.agg (nodeCells (goodX d ag now).1), .int .i64 (goodX d ag now).2]) ∧ Below W0.heap.size W0 w' from rfl)
  rw [HGD.out] at HC
  obtain ⟨RX, hRX⟩ : ∃ R, R = renewX d ag now ttl := ⟨_, rfl⟩
  rw [← hRX] at HJX HX
  rw [HX.out]
  obtain ⟨⟨GD, GF⟩, hG0⟩ : ∃ G, G = goodX d ag now := ⟨_, rfl⟩
  rw [← hG0] at HJX HC
  dsimp only at HJX HC
  have CS := Lib.hid (fun (u : World) => csound_any GD.key now ttl u)
  have CU := Lib.hid (fun (u : World) => cuntil_any now ttl u)
  obtain ⟨sb, hsb⟩ : ∃ b, b = soundB GD.key now ttl := ⟨_, rfl⟩
  rw [← hsb] at HJX CS
  obtain ⟨un, hun⟩ : ∃ b, b = timeC now ttl := ⟨_, rfl⟩
  rw [← hun] at HJX CU
  clear hW0 hb0 h hok hRX hG0 hsb hun HGD
  go_enter Try.func13, Try.ntmps13
  go_upto_region 1 with (fail)
  rw [show (w.alloc (.cells (ledCells d) 33)).alloc (.cells #[.int .i64 0, .int .i64 0, .string ⟨#[]⟩, .int .i64 0, .string ⟨#[]⟩, .string ⟨#[]⟩, .int .i64 0, .slice none 0 0, .string ⟨#[]⟩, .string ⟨#[]⟩, .int .i64 0, .bool false, .string ⟨#[]⟩, .string ⟨#[]⟩, .int .i64 0, .int .i64 0, .string ⟨#[]⟩, .string ⟨#[]⟩, .string ⟨#[]⟩, .int .i64 0, .int .i64 0, .string ⟨#[]⟩, .int .i64 0, .slice none 0 0] 47) = W0 from HW0.out.symm]
  obtain ⟨AV, hAV⟩ : ∃ A, A = Value.agg (ledCells d) := ⟨_, rfl⟩
  rw [← hAV] at HC ⊢
  have HAV := Lib.hid hAV
  clear hAV
  go_wp2_with (refine wpList_get_box (x := .tmp 4) (cs := ledCells d) HK0.out rfl rfl rfl hul rfl ledT_size ?_)
  rw [show Value.agg (ledCells d) = AV from HAV.out.symm]
  refine calls_then HC.out ?_
  rintro e w1 ⟨rfl, hb1⟩
  have HB1 := Lib.hid hb1
  clear hb1 HC
  go_upto_region 2 with (refine wpList_put_box (cells := nodeCells GD) (Blk.new _ _ _) rfl rfl rfl rfl nodeT_size rfl (nodeCells_one _) ?_; intro w2 hb2 hw2)
  have hbw2 : Below w1.heap.size w1 w2 := box_low9 hw2
  obtain ⟨H, hH⟩ : ∃ H, H = w1.heap.size := ⟨_, rfl⟩
  rw [← hH] at hb2 ⊢
  have HHG := Lib.hid (show w.heap.size + 2 ≤ H by rw [hH, ← HS0.out]; exact HB1.out.size)
  have HN2 := Lib.hid hb2
  have HB2 := Lib.hid (HB1.out.trans (hbw2.mono HB1.out.size))
  have HO2 := Lib.hid (HO0.out.below HB2.out HO0.out.lt)
  have HBW := Lib.hid (HB0.out.trans (HB2.out.mono HB0.out.size))
  clear hb2 hw2 hbw2 hH
  by_cases hf : GF = 0
  · subst hf
    have HJ1 := Lib.hid (show RX = if sb = true then (some ⟨GD.name, GD.key, un, GD.seq, GD.doc⟩, 0) else (none, 1) by rw [HJX.out, if_pos rfl])
    have c1 : w2.cell? ⟨H, 1, none⟩ = some (.string GD.key) := HN2.out.cell 1
    go_wp2_with fail
    refine calls_then (CS.out _) ?_
    rintro e w3 ⟨rfl, rfl⟩
    cases sb with
    | false =>
      have HRX := Lib.hid (show RX = (none, 1) by rw [HJ1.out, if_neg (by simp)])
      clear c1
      go_wp2_with (first
        | (refine wpList_build_any (T := 47) (cells := opN 0 0 ⟨#[]⟩ zNo) rfl #[] rfl op_zero ?_)
        | (refine wpList_put_box (x := .tmp 8) (cells := opN 0 0 ⟨#[]⟩ zNo) HO2.out rfl rfl rfl rfl opQ2_size rfl (opN_one _ _ _ _) ?_; intro w9 hb9 hw9))
      have HB9 := Lib.hid hb9
      have HF9 := Lib.hid (hw9.below HBW.out (by omega) (HBW.out).size)
      refine bodyPost_ret (results_box_tmp (P := Try.prog) rfl rfl HB9.out huo rfl opQ2_size) rfl ?_
      exact ⟨by rw [HRX.out]; rfl, HF9.out⟩
    | true =>
      have HRX := Lib.hid (show RX = (some ⟨GD.name, GD.key, un, GD.seq, GD.doc⟩, 0) by rw [HJ1.out, if_pos rfl])
      clear c1
      go_wp2_with fail
      refine calls_then (CU.out _) ?_
      rintro e w4 ⟨rfl, hb4⟩
      have HN4 := Lib.hid (HN2.out.below hb4 HN2.out.lt)
      have HO4 := Lib.hid (HO2.out.below hb4 HO2.out.lt)
      have HBW4 := Lib.hid (HBW.out.trans (hb4.mono HBW.out.size))
      clear hb4
      have HNE := Lib.hid (show w.heap.size + 1 ≠ H by have := HHG.out; omega)
      have HGE := Lib.hid (show w.heap.size ≤ H by have := HHG.out; omega)
      go_wp2_with (first
        | (refine wpList_put_cell (i := 2) HN4.out rfl rfl rfl rfl (by kernel_rfl) (by simp [nodeCells]) rfl ?_; intro w7 hb7 hw7; have HB7 := Lib.hid (show Blk w7 H 40 (nodeCells ⟨GD.name, GD.key, un, GD.seq, GD.doc⟩) from hb7); have HO7 := Lib.hid (hw7.blk HO4.out HNE.out); have HBW7 := Lib.hid (hw7.below HBW4.out HGE.out HBW4.out.size); clear hb7 hw7)
        | (refine wpList_get_box (x := .tmp 10) (cs := nodeCells ⟨GD.name, GD.key, un, GD.seq, GD.doc⟩) HB7.out rfl rfl rfl huj rfl nodeT_size ?_)
        | (refine wpList_build_any (T := 47) (cells := opN 5 0 ⟨#[]⟩ ⟨GD.name, GD.key, un, GD.seq, GD.doc⟩) rfl _ rfl (by kernel_rfl) ?_)
        | (refine wpList_put_box (x := .tmp 8) (cells := opN 5 0 ⟨#[]⟩ ⟨GD.name, GD.key, un, GD.seq, GD.doc⟩) HO7.out rfl rfl rfl rfl opQ2_size rfl (opN_one _ _ _ _) ?_; intro w9 hb9 hw9))
      have HB9 := Lib.hid hb9
      have HF9 := Lib.hid (hw9.below HBW7.out (by omega) (HBW7.out).size)
      refine bodyPost_ret (results_box_tmp (P := Try.prog) rfl rfl HB9.out huo rfl opQ2_size) rfl ?_
      exact ⟨by rw [HRX.out]; rfl, HF9.out⟩
  · have hf' : (GF == (0 : Int)) = false := by simpa using hf
    have HRX := Lib.hid (show RX = (none, GF) by rw [HJX.out, if_neg hf])
    clear hf
    go_wp2_with (first
      | (refine wpList_build_any (T := 47) (cells := opN 0 0 ⟨#[]⟩ zNo) rfl #[] rfl op_zero ?_)
      | (refine wpList_put_box (x := .tmp 8) (cells := opN 0 0 ⟨#[]⟩ zNo) HO2.out rfl rfl rfl rfl opQ2_size rfl (opN_one _ _ _ _) ?_; intro w9 hb9 hw9))
    have HB9 := Lib.hid hb9
    have HF9 := Lib.hid (hw9.below HBW.out (by omega) (HBW.out).size)
    refine bodyPost_ret (results_box_tmp (P := Try.prog) rfl rfl HB9.out huo rfl opQ2_size) rfl ?_
    exact ⟨by rw [HRX.out]; rfl, HF9.out⟩
set_option maxRecDepth 100000 in
set_option maxHeartbeats 8000000 in
theorem rrenew_any (d : LedD) (ag : ByteArray) (now ttl : Int) (w : World) (h : LedOk w 900 d) (hnow : InR now) (httl : InR ttl) :
    Calls Try.prog 14 #[.agg (ledCells d), .string ag, .int .i64 now, .int .i64 ttl] w (RnPost d ag now ttl w) := by
  have hul := Try.underlying33
  have huj := Try.underlying40
  have huo := Try.underlying47
  obtain ⟨W0, hW0⟩ : ∃ W0, W0 = (w.alloc (.cells (ledCells d) 33)).alloc (.cells (opN 0 0 ⟨#[]⟩ zNo) 47) := ⟨_, rfl⟩
  have hb0 : Below w.heap.size w W0 := by rw [hW0]; exact ((Below.refl _ w).alloc (Nat.le_refl _) _).alloc (by simp) _
  have HB0 := Lib.hid hb0
  have HK0 := Lib.hid (show Blk W0 w.heap.size 33 (ledCells d) by rw [hW0]; exact (Blk.new _ _ _).alloc _)
  have HO0 := Lib.hid (show Blk W0 (w.heap.size + 1) 47 (opN 0 0 ⟨#[]⟩ zNo) by rw [hW0]; have := Blk.new (w.alloc (.cells (ledCells d) 33)) 47 (opN 0 0 ⟨#[]⟩ zNo); simpa using this)
  have HS0 := Lib.hid (show W0.heap.size = w.heap.size + 2 by rw [hW0]; simp)
  have HW0 := Lib.hid hW0
  have hok := h.grow hb0
  have HC := Lib.hid (rgood_any d ag now W0 hok)
  have HX := Lib.hid (show RnPost d ag now ttl w = fun e w' => e = .returned (.tuple #[.agg (opR (renewX d ag now ttl).1), .int .i64 (renewX d ag now ttl).2]) ∧ Below w.heap.size w w' from rfl)
  have HJX := Lib.hid (show renewX d ag now ttl = if (goodX d ag now).2 = 0 then (if soundB (goodX d ag now).1.key now ttl = true then (some ⟨(goodX d ag now).1.name, (goodX d ag now).1.key, timeC now ttl, (goodX d ag now).1.seq, (goodX d ag now).1.doc⟩, 0) else (none, 1)) else (none, (goodX d ag now).2) from rfl)
  have HGD := Lib.hid (show GdPost d ag now W0 = fun e w' => e = .returned (.tuple #[.agg (nodeCells (goodX d ag now).1), .int .i64 (goodX d ag now).2]) ∧ Below W0.heap.size W0 w' from rfl)
  rw [HGD.out] at HC
  obtain ⟨RX, hRX⟩ : ∃ R, R = renewX d ag now ttl := ⟨_, rfl⟩
  rw [← hRX] at HJX HX
  rw [HX.out]
  obtain ⟨⟨GD, GF⟩, hG0⟩ : ∃ G, G = goodX d ag now := ⟨_, rfl⟩
  rw [← hG0] at HJX HC
  dsimp only at HJX HC
  have CS := Lib.hid (fun (u : World) => rsound_any GD.key now ttl u)
  have CU := Lib.hid (fun (u : World) => runtil_any now ttl hnow httl u)
  obtain ⟨sb, hsb⟩ : ∃ b, b = soundB GD.key now ttl := ⟨_, rfl⟩
  rw [← hsb] at HJX CS
  obtain ⟨un, hun⟩ : ∃ b, b = timeC now ttl := ⟨_, rfl⟩
  rw [← hun] at HJX CU
  clear hW0 hb0 h hok hRX hG0 hsb hun HGD hnow httl
  go_enter Try.func14, Try.ntmps14
  go_upto_region 1 with (fail)
  rw [show (w.alloc (.cells (ledCells d) 33)).alloc (.cells #[.int .i64 0, .int .i64 0, .string ⟨#[]⟩, .int .i64 0, .string ⟨#[]⟩, .string ⟨#[]⟩, .int .i64 0, .slice none 0 0, .string ⟨#[]⟩, .string ⟨#[]⟩, .int .i64 0, .bool false, .string ⟨#[]⟩, .string ⟨#[]⟩, .int .i64 0, .int .i64 0, .string ⟨#[]⟩, .string ⟨#[]⟩, .string ⟨#[]⟩, .int .i64 0, .int .i64 0, .string ⟨#[]⟩, .int .i64 0, .slice none 0 0] 47) = W0 from HW0.out.symm]
  obtain ⟨AV, hAV⟩ : ∃ A, A = Value.agg (ledCells d) := ⟨_, rfl⟩
  rw [← hAV] at HC ⊢
  have HAV := Lib.hid hAV
  clear hAV
  go_wp2_with (refine wpList_get_box (x := .tmp 4) (cs := ledCells d) HK0.out rfl rfl rfl hul rfl ledT_size ?_)
  rw [show Value.agg (ledCells d) = AV from HAV.out.symm]
  refine calls_then HC.out ?_
  rintro e w1 ⟨rfl, hb1⟩
  have HB1 := Lib.hid hb1
  clear hb1 HC
  go_upto_region 2 with (refine wpList_put_box (cells := nodeCells GD) (Blk.new _ _ _) rfl rfl rfl rfl nodeT_size rfl (nodeCells_one _) ?_; intro w2 hb2 hw2)
  have hbw2 : Below w1.heap.size w1 w2 := box_low9 hw2
  obtain ⟨H, hH⟩ : ∃ H, H = w1.heap.size := ⟨_, rfl⟩
  rw [← hH] at hb2 ⊢
  have HHG := Lib.hid (show w.heap.size + 2 ≤ H by rw [hH, ← HS0.out]; exact HB1.out.size)
  have HN2 := Lib.hid hb2
  have HB2 := Lib.hid (HB1.out.trans (hbw2.mono HB1.out.size))
  have HO2 := Lib.hid (HO0.out.below HB2.out HO0.out.lt)
  have HBW := Lib.hid (HB0.out.trans (HB2.out.mono HB0.out.size))
  clear hb2 hw2 hbw2 hH
  by_cases hf : GF = 0
  · subst hf
    have HJ1 := Lib.hid (show RX = if sb = true then (some ⟨GD.name, GD.key, un, GD.seq, GD.doc⟩, 0) else (none, 1) by rw [HJX.out, if_pos rfl])
    have c1 : w2.cell? ⟨H, 1, none⟩ = some (.string GD.key) := HN2.out.cell 1
    go_wp2_with fail
    refine calls_then (CS.out _) ?_
    rintro e w3 ⟨rfl, rfl⟩
    cases sb with
    | false =>
      have HRX := Lib.hid (show RX = (none, 1) by rw [HJ1.out, if_neg (by simp)])
      clear c1
      go_wp2_with (first
        | (refine wpList_build_any (T := 47) (cells := opN 0 0 ⟨#[]⟩ zNo) rfl #[] rfl op_zero ?_)
        | (refine wpList_put_box (x := .tmp 8) (cells := opN 0 0 ⟨#[]⟩ zNo) HO2.out rfl rfl rfl rfl opQ2_size rfl (opN_one _ _ _ _) ?_; intro w9 hb9 hw9))
      have HB9 := Lib.hid hb9
      have HF9 := Lib.hid (hw9.below HBW.out (by omega) (HBW.out).size)
      refine bodyPost_ret (results_box_tmp (P := Try.prog) rfl rfl HB9.out huo rfl opQ2_size) rfl ?_
      exact ⟨by rw [HRX.out]; rfl, HF9.out⟩
    | true =>
      have HRX := Lib.hid (show RX = (some ⟨GD.name, GD.key, un, GD.seq, GD.doc⟩, 0) by rw [HJ1.out, if_pos rfl])
      clear c1
      go_wp2_with fail
      refine calls_then (CU.out _) ?_
      rintro e w4 ⟨rfl, rfl⟩
      have HN4 := Lib.hid HN2.out
      have HO4 := Lib.hid HO2.out
      have HBW4 := Lib.hid HBW.out
      have HNE := Lib.hid (show w.heap.size + 1 ≠ H by have := HHG.out; omega)
      have HGE := Lib.hid (show w.heap.size ≤ H by have := HHG.out; omega)
      go_wp2_with (first
        | (refine wpList_put_cell (i := 2) HN4.out rfl rfl rfl rfl (by kernel_rfl) (by simp [nodeCells]) rfl ?_; intro w7 hb7 hw7; have HB7 := Lib.hid (show Blk w7 H 40 (nodeCells ⟨GD.name, GD.key, un, GD.seq, GD.doc⟩) from hb7); have HO7 := Lib.hid (hw7.blk HO4.out HNE.out); have HBW7 := Lib.hid (hw7.below HBW4.out HGE.out HBW4.out.size); clear hb7 hw7)
        | (refine wpList_get_box (x := .tmp 10) (cs := nodeCells ⟨GD.name, GD.key, un, GD.seq, GD.doc⟩) HB7.out rfl rfl rfl huj rfl nodeT_size ?_)
        | (refine wpList_build_any (T := 47) (cells := opN 5 0 ⟨#[]⟩ ⟨GD.name, GD.key, un, GD.seq, GD.doc⟩) rfl _ rfl (by kernel_rfl) ?_)
        | (refine wpList_put_box (x := .tmp 8) (cells := opN 5 0 ⟨#[]⟩ ⟨GD.name, GD.key, un, GD.seq, GD.doc⟩) HO7.out rfl rfl rfl rfl opQ2_size rfl (opN_one _ _ _ _) ?_; intro w9 hb9 hw9))
      have HB9 := Lib.hid hb9
      have HF9 := Lib.hid (hw9.below HBW7.out (by omega) (HBW7.out).size)
      refine bodyPost_ret (results_box_tmp (P := Try.prog) rfl rfl HB9.out huo rfl opQ2_size) rfl ?_
      exact ⟨by rw [HRX.out]; rfl, HF9.out⟩
  · have hf' : (GF == (0 : Int)) = false := by simpa using hf
    have HRX := Lib.hid (show RX = (none, GF) by rw [HJX.out, if_neg hf])
    clear hf
    go_wp2_with (first
      | (refine wpList_build_any (T := 47) (cells := opN 0 0 ⟨#[]⟩ zNo) rfl #[] rfl op_zero ?_)
      | (refine wpList_put_box (x := .tmp 8) (cells := opN 0 0 ⟨#[]⟩ zNo) HO2.out rfl rfl rfl rfl opQ2_size rfl (opN_one _ _ _ _) ?_; intro w9 hb9 hw9))
    have HB9 := Lib.hid hb9
    have HF9 := Lib.hid (hw9.below HBW.out (by omega) (HBW.out).size)
    refine bodyPost_ret (results_box_tmp (P := Try.prog) rfl rfl HB9.out huo rfl opQ2_size) rfl ?_
    exact ⟨by rw [HRX.out]; rfl, HF9.out⟩
end Go.Proofs.Ytcnebbhnpocofaa
/-
  The law AttestGood.
-/
namespace Go.Proofs.Ytcnebbhnpocofaa
set_option linter.unusedSimpArgs false
set_option linter.unusedVariables false
open Go.RowKit

/-- what both give -/
theorem good_both (d : LedD) (ag : ByteArray) (now : Int) : ∃ (nd : NodeD) (f : Int),
    (∀ u, LedOk u 900 d → Calls Try.prog 11 #[.agg (ledCells d), .string ag, .int .i64 now] u (fun e w' => e = .returned (.tuple #[.agg (nodeCells nd), .int .i64 f]) ∧ Below u.heap.size u w')) ∧
    (∀ u, LedOk u 900 d → Calls Try.prog 12 #[.agg (ledCells d), .string ag, .int .i64 now] u (fun e w' => e = .returned (.tuple #[.agg (nodeCells nd), .int .i64 f]) ∧ Below u.heap.size u w')) := by
  obtain ⟨X, hX⟩ : ∃ X, X = goodX d ag now := ⟨_, rfl⟩
  exact ⟨X.1, X.2, fun u h => by rw [hX]; exact agood_any d ag now u h, fun u h => by rw [hX]; exact rgood_any d ag now u h⟩
theorem renew_both (d : LedD) (ag : ByteArray) (now ttl : Int) (hnow : InR now) (httl : InR ttl) : ∃ (kd : Int) (nd : NodeD) (f : Int),
    (∀ u, LedOk u 900 d → Calls Try.prog 13 #[.agg (ledCells d), .string ag, .int .i64 now, .int .i64 ttl] u (fun e w' => e = .returned (.tuple #[.agg (opN kd 0 ⟨#[]⟩ nd), .int .i64 f]) ∧ Below u.heap.size u w')) ∧
    (∀ u, LedOk u 900 d → Calls Try.prog 14 #[.agg (ledCells d), .string ag, .int .i64 now, .int .i64 ttl] u (fun e w' => e = .returned (.tuple #[.agg (opN kd 0 ⟨#[]⟩ nd), .int .i64 f]) ∧ Below u.heap.size u w')) := by
  obtain ⟨X, hX⟩ : ∃ X, X = renewX d ag now ttl := ⟨_, rfl⟩
  have h1 : ∀ u, LedOk u 900 d → Calls Try.prog 13 #[.agg (ledCells d), .string ag, .int .i64 now, .int .i64 ttl] u (fun e w' => e = .returned (.tuple #[.agg (opR X.1), .int .i64 X.2]) ∧ Below u.heap.size u w') := fun u h => by rw [hX]; exact arenew_any d ag now ttl u h
  have h2 : ∀ u, LedOk u 900 d → Calls Try.prog 14 #[.agg (ledCells d), .string ag, .int .i64 now, .int .i64 ttl] u (fun e w' => e = .returned (.tuple #[.agg (opR X.1), .int .i64 X.2]) ∧ Below u.heap.size u w') := fun u h => by rw [hX]; exact rrenew_any d ag now ttl u h hnow httl
  clear hX
  obtain ⟨o, f⟩ := X
  cases o with
  | none => exact ⟨0, zNo, f, h1, h2⟩
  | some k => exact ⟨5, k, f, h1, h2⟩
theorem OpSee.below2 {w u : World} {B : Nat} {o : OpD} (h : OpSee w B o) (hb : Below B w u) : OpSee u B o := by
  obtain ⟨⟨l1, h1, h2⟩, ⟨l2, h3, h4⟩, h5, h6⟩ := h
  exact ⟨⟨l1, h1, h2.below hb⟩, ⟨l2, h3, h4.below hb⟩, h5, h6⟩
set_option maxRecDepth 100000 in
set_option maxHeartbeats 4000000 in
theorem attestGood_any (l : List OpD) (A : Option Addr) (c : Nat) (k : AskD) (w : World) (hr : Rd w w.heap.size A (rowsV opC l)) (hl : (l.length : Int) ≤ 9223372036854775807) (hs : ∀ o ∈ l, OpSee w w.heap.size o) (hnow : InR k.now) (httl : InR k.ttl) :
    Calls Try.prog 4 #[.slice A l.length c, .agg (askC k)] w (fun e w' => e = .returned (.bool true) ∧ Below w.heap.size w w') := by
  have hua := Try.underlying24
  have hul := Try.underlying33
  have huo := Try.underlying47
  have huj := Try.underlying40
  obtain ⟨W0, hW0⟩ : ∃ W0, W0 = w.alloc (.cells (askC k) 24) := ⟨_, rfl⟩
  have HB0 := Lib.hid (show Below w.heap.size w W0 by rw [hW0]; exact (Below.refl _ w).alloc (Nat.le_refl _) _)
  have HK0 := Lib.hid (show Blk W0 w.heap.size 24 (askC k) by rw [hW0]; exact Blk.new _ _ _)
  have HW0 := Lib.hid hW0
  have CL := Lib.hid (show ∀ u, Below w.heap.size w u → Calls Try.prog 6 #[.slice A l.length c] u (LgPost u) from
    fun u hu => ledger20_any l A c w.heap.size u (hr.below hu) (fun o ho => (hs o ho).below2 hu) hu.size hl)
  have CC := Lib.hid (cut20_any k W0)
  have CS := Lib.hid (sameOpN_any)
  have CV := Lib.hid (lives20_any)
  obtain ⟨kk, hkk⟩ : ∃ kk, kk = cutA k := ⟨_, rfl⟩
  rw [← hkk] at CC
  have HN := Lib.hid (show InR kk.now ∧ InR kk.ttl by rw [hkk]; exact ⟨hnow, httl⟩)
  clear hW0 hr hs hnow httl hkk
  go_enter Try.func4, Try.ntmps4
  go_upto_region 1 with (fail)
  rw [show w.alloc (.cells (askC k) 24) = W0 from HW0.out.symm]
  go_wp2_with (refine wpList_get_box (x := .tmp 3) (cs := askC k) HK0.out rfl rfl rfl hua rfl askT_size ?_)
  refine calls_then CC.out ?_
  rintro e w1 ⟨rfl, hb1⟩
  have HB1 := Lib.hid hb1
  clear hb1 CC
  go_upto_region 2 with (refine wpList_put_box (x := .tmp 3) (cells := askC kk) (HK0.out.below HB1.out HK0.out.lt) rfl rfl rfl rfl askT_size rfl (askC_one _) ?_; intro w2 hb2 hw2)
  have HK2 := Lib.hid hb2
  have HB2 := Lib.hid (hw2.below (HB0.out.trans (HB1.out.mono HB0.out.size)) (Nat.le_refl _) (HB0.out.trans (HB1.out.mono HB0.out.size)).size)
  clear hb2 hw2
  go_wp2_with fail
  refine calls_then (CL.out _ HB2.out) ?_
  rintro e w3 ⟨d, rfl, hok3, hb3⟩
  have HB3 := Lib.hid (HB2.out.trans (hb3.mono HB2.out.size))
  have HK3 := Lib.hid (HK2.out.below hb3 HK2.out.lt)
  have HOK3 := Lib.hid hok3
  clear hb3 hok3 CL
  go_upto_region 3 with (refine wpList_put_box (cells := ledCells d) (Blk.new _ _ _) rfl rfl rfl rfl ledT_size rfl (ledCells_one _) ?_; intro w4 hb4 hw4)
  have hbw4 : Below w3.heap.size w3 w4 := box_low9 hw4
  obtain ⟨H, hH⟩ : ∃ H, H = w3.heap.size := ⟨_, rfl⟩
  rw [← hH] at hb4 ⊢
  have HD4 := Lib.hid hb4
  have HB4 := Lib.hid (HB3.out.trans (hbw4.mono HB3.out.size))
  have HK4 := Lib.hid (HK3.out.below hbw4 HK3.out.lt)
  have HOK4 := Lib.hid ((HOK3.out.grow hbw4).more (show 20 ≤ 900 by omega))
  clear hb4 hw4 hbw4 hH
  obtain ⟨nd, f, hga, hgr⟩ := good_both d kk.agent kk.now
  obtain ⟨kd, ne, h, hra, hrr⟩ := renew_both d kk.agent kk.now kk.ttl HN.out.1 HN.out.2
  have CG := Lib.hid hga
  have CH := Lib.hid hgr
  have CR := Lib.hid hra
  have CT := Lib.hid hrr
  have EN := Lib.hid (fun u => eql_node nd u)
  clear hga hgr hra hrr
  obtain ⟨AK, hAK⟩ : ∃ x, x = Value.agg (askC k) := ⟨_, rfl⟩
  rw [← hAK]
  clear hAK
  have a1 : w4.cell? ⟨w.heap.size, 1, none⟩ = some (.string kk.agent) := HK4.out.cell 1
  have a3 : w4.cell? ⟨w.heap.size, 3, none⟩ = some (.int .i64 kk.now) := HK4.out.cell 3
  go_wp2_with (refine wpList_get_box (x := .tmp 5) (cs := ledCells d) HD4.out rfl rfl rfl hul rfl ledT_size ?_)
  refine calls_then (CG.out _ HOK4.out) ?_
  rintro e w5 ⟨rfl, hb5⟩
  have HB5 := Lib.hid hb5
  clear hb5 a1 a3
  go_upto_region 4 with (refine wpList_put_box (cells := nodeCells nd) (Blk.new _ _ _) rfl rfl rfl rfl nodeT_size rfl (nodeCells_one _) ?_; intro w6 hb6 hw6)
  have hbw6 : Below w5.heap.size w5 w6 := box_low9 hw6
  obtain ⟨H1, hH1⟩ : ∃ H, H = w5.heap.size := ⟨_, rfl⟩
  rw [← hH1] at hb6 ⊢
  have hbb6 : Below w4.heap.size w4 w6 := HB5.out.trans (hbw6.mono HB5.out.size)
  have HN1_6 := Lib.hid hb6
  have HB6 := Lib.hid (HB4.out.trans (hbb6.mono HB4.out.size))
  have HK6 := Lib.hid (HK4.out.below hbb6 HK4.out.lt)
  have HD6 := Lib.hid (HD4.out.below hbb6 HD4.out.lt)
  have HOK6 := Lib.hid (HOK4.out.grow hbb6)
  clear hb6 hw6 hbw6 hH1 hbb6
  have a1 : w6.cell? ⟨w.heap.size, 1, none⟩ = some (.string kk.agent) := HK6.out.cell 1
  have a3 : w6.cell? ⟨w.heap.size, 3, none⟩ = some (.int .i64 kk.now) := HK6.out.cell 3
  go_wp2_with (refine wpList_get_box (x := .tmp 5) (cs := ledCells d) HD6.out rfl rfl rfl hul rfl ledT_size ?_)
  refine calls_then (CH.out _ HOK6.out) ?_
  rintro e w7 ⟨rfl, hb7⟩
  have HB7 := Lib.hid hb7
  clear hb7 a1 a3
  go_upto_region 5 with (refine wpList_put_box (cells := nodeCells nd) (Blk.new _ _ _) rfl rfl rfl rfl nodeT_size rfl (nodeCells_one _) ?_; intro w8 hb8 hw8)
  have hbw8 : Below w7.heap.size w7 w8 := box_low9 hw8
  obtain ⟨H2, hH2⟩ : ∃ H, H = w7.heap.size := ⟨_, rfl⟩
  rw [← hH2] at hb8 ⊢
  have hbb8 : Below w6.heap.size w6 w8 := HB7.out.trans (hbw8.mono HB7.out.size)
  have HN2_8 := Lib.hid hb8
  have HN1_8 := Lib.hid (HN1_6.out.below hbb8 HN1_6.out.lt)
  have HB8 := Lib.hid (HB6.out.trans (hbb8.mono HB6.out.size))
  have HK8 := Lib.hid (HK6.out.below hbb8 HK6.out.lt)
  have HD8 := Lib.hid (HD6.out.below hbb8 HD6.out.lt)
  have HOK8 := Lib.hid (HOK6.out.grow hbb8)
  clear hb8 hw8 hbw8 hH2 hbb8
  have a1 : w8.cell? ⟨w.heap.size, 1, none⟩ = some (.string kk.agent) := HK8.out.cell 1
  have a3 : w8.cell? ⟨w.heap.size, 3, none⟩ = some (.int .i64 kk.now) := HK8.out.cell 3
  have a4 : w8.cell? ⟨w.heap.size, 4, none⟩ = some (.int .i64 kk.ttl) := HK8.out.cell 4
  go_wp2_with (refine wpList_get_box (x := .tmp 5) (cs := ledCells d) HD8.out rfl rfl rfl hul rfl ledT_size ?_)
  refine calls_then (CR.out _ HOK8.out) ?_
  rintro e w9 ⟨rfl, hb9⟩
  have HB9 := Lib.hid hb9
  clear hb9 a1 a3 a4
  go_upto_region 6 with (refine wpList_put_box (cells := opN kd 0 ⟨#[]⟩ ne) (Blk.new _ _ _) rfl rfl rfl rfl opQ2_size rfl (opN_one _ _ _ _) ?_; intro w10 hb10 hw10)
  have hbw10 : Below w9.heap.size w9 w10 := box_low9 hw10
  obtain ⟨H3, hH3⟩ : ∃ H, H = w9.heap.size := ⟨_, rfl⟩
  rw [← hH3] at hb10 ⊢
  have hbb10 : Below w8.heap.size w8 w10 := HB9.out.trans (hbw10.mono HB9.out.size)
  have HN3_10 := Lib.hid hb10
  have HN1_10 := Lib.hid (HN1_8.out.below hbb10 HN1_8.out.lt)
  have HN2_10 := Lib.hid (HN2_8.out.below hbb10 HN2_8.out.lt)
  have HB10 := Lib.hid (HB8.out.trans (hbb10.mono HB8.out.size))
  have HK10 := Lib.hid (HK8.out.below hbb10 HK8.out.lt)
  have HD10 := Lib.hid (HD8.out.below hbb10 HD8.out.lt)
  have HOK10 := Lib.hid (HOK8.out.grow hbb10)
  clear hb10 hw10 hbw10 hH3 hbb10
  have a1 : w10.cell? ⟨w.heap.size, 1, none⟩ = some (.string kk.agent) := HK10.out.cell 1
  have a3 : w10.cell? ⟨w.heap.size, 3, none⟩ = some (.int .i64 kk.now) := HK10.out.cell 3
  have a4 : w10.cell? ⟨w.heap.size, 4, none⟩ = some (.int .i64 kk.ttl) := HK10.out.cell 4
  go_wp2_with (refine wpList_get_box (x := .tmp 5) (cs := ledCells d) HD10.out rfl rfl rfl hul rfl ledT_size ?_)
  refine calls_then (CT.out _ HOK10.out) ?_
  rintro e w11 ⟨rfl, hb11⟩
  have HB11 := Lib.hid hb11
  clear hb11 a1 a3 a4
  go_upto_region 7 with (refine wpList_put_box (cells := opN kd 0 ⟨#[]⟩ ne) (Blk.new _ _ _) rfl rfl rfl rfl opQ2_size rfl (opN_one _ _ _ _) ?_; intro w12 hb12 hw12)
  have hbw12 : Below w11.heap.size w11 w12 := box_low9 hw12
  obtain ⟨H4, hH4⟩ : ∃ H, H = w11.heap.size := ⟨_, rfl⟩
  rw [← hH4] at hb12 ⊢
  have hbb12 : Below w10.heap.size w10 w12 := HB11.out.trans (hbw12.mono HB11.out.size)
  have HN4_12 := Lib.hid hb12
  have HN1_12 := Lib.hid (HN1_10.out.below hbb12 HN1_10.out.lt)
  have HN2_12 := Lib.hid (HN2_10.out.below hbb12 HN2_10.out.lt)
  have HN3_12 := Lib.hid (HN3_10.out.below hbb12 HN3_10.out.lt)
  have HB12 := Lib.hid (HB10.out.trans (hbb12.mono HB10.out.size))
  clear hb12 hw12 hbw12 hH4 hbb12
  go_wp2_with (first
    | refine wpList_get_box (x := .tmp 10) (cs := opN kd 0 ⟨#[]⟩ ne) HN3_12.out rfl rfl rfl huo rfl opQ2_size ?_
    | refine wpList_get_box (x := .tmp 12) (cs := opN kd 0 ⟨#[]⟩ ne) HN4_12.out rfl rfl rfl huo rfl opQ2_size ?_)
  refine calls_then (CS.out kd 0 ⟨#[]⟩ ne _) ?_
  rintro e w13 ⟨rfl, hb13⟩
  have HB13 := Lib.hid (HB12.out.trans (hb13.mono HB12.out.size))
  have HN1_13 := Lib.hid (HN1_12.out.below hb13 HN1_12.out.lt)
  have HN2_13 := Lib.hid (HN2_12.out.below hb13 HN2_12.out.lt)
  clear hb13
  have heq : ∀ u : World, (binOp .eql 40 (.agg (nodeCells nd)) (.agg (nodeCells nd))).run Try.prog u = .ok (.bool true) u := EN.out
  go_wp2_with (first
    | refine wpList_get_box (x := .tmp 6) (cs := nodeCells nd) HN1_13.out rfl rfl rfl huj rfl nodeT_size ?_
    | refine wpList_get_box (x := .tmp 8) (cs := nodeCells nd) HN2_13.out rfl rfl rfl huj rfl nodeT_size ?_)
  refine calls_then (CV.out _) ?_
  rintro e wz ⟨rfl, hbz⟩
  have HBZ := Lib.hid (HB13.out.trans (hbz.mono HB13.out.size))
  clear hbz
  go_wp2_with fail
  go_ret
  exact ⟨rfl, HBZ.out⟩
end Go.Proofs.Ytcnebbhnpocofaa
namespace Go.Proofs.Ytcnebbhnpocofaa.attestGood
set_option linter.unusedSimpArgs false
set_option linter.unusedVariables false
open Go.ChangeShapes Go.WideShapes Go.ChangeAt Go.RowKit Go.Joins

set_option maxRecDepth 100000 in
theorem lifted (os : Os) (started : os.Started) (H : Type) (enc : TypeId × Value → H) :
    ReturnsInHanded {} Try.checked os 4 .any (Rows.attestGoodSpec.pre6 enc Try.prog Try.f4 Rows.attestGoodRow.domain false) (Rows.attestGoodSpec.post enc Try.prog Try.f4 false true false false) := by
  refine returnsInHanded_of_change (C := Try.checked) own started (by kernel_rfl) Try.func4
    (ChangeSpec.witness6 (enc := enc) (C := Try.checked) false ⟨#[], #[.slice none 0 0, .agg #[.string .empty, .string .empty, .string .empty, .int .i64 0, .int .i64 0]], []⟩ 8 (by kernel_rfl) (by kernel_rfl) (by kernel_rfl) (by kernel_rfl)) ?_
  intro W base args ds gs before hval0 hW hcnd _
  have hval : ∀ (j : Nat) t v, Try.f4.params[j]? = some t → args[j]? = some v → Value.okWide Try.prog W .any base t v := hval0
  have hW' := hW
  obtain ⟨p, q, hA0, hV, rfl, hfz, hnd⟩ := hW
  have hA : DataW.TrodAll enc Try.prog W 0 (fun _ => true) true Try.f4.params.toList args.toList ds p := hA0
  rw [Try.params4] at hA hval
  obtain ⟨v0, v1, d0, d1, p0, p1, rfl, rfl, rfl, h0, h1⟩ := trodAll_two hA
  obtain ⟨rfl, rfl⟩ := trodVars_none hV
  have h0k := h0
  have h1k := h1
  obtain ⟨A0, c0, l0, rfl, r0, b0, s0⟩ := open_ops_arg (hval 0 22 v0 rfl rfl) h0
  obtain ⟨k1, rfl, n1, t1⟩ := open_ask_arg (hval 1 24 v1 rfl rfl) h1
  clear hA0 hval0
  try simp only [List.append_nil, List.nil_append] at hW'
  refine (attestGood_any l0 A0 c0 k1 W r0 b0 s0 n1 t1).mono fun e W' ⟨he, hb⟩ => ?_
  subst he
  have hlt : ∀ x ∈ (p0 ++ p1 : List MemPlace), x.block < W.heap.size := fun x hx => hW'.lt x (by first | (simp at hx; done) | simpa using hx)
  exact ⟨_, rfl, post_of_below (pa := p0 ++ p1) (pv := []) hW' (fun _ _ _ => trodAll_mk1 (shut_bool Try.underlying4 _))
    (fun sp hsp => trodAll_mk2 (stays laidOut (by kernel_rfl) (of_decide_eq_true (by kernel_rfl)) h0k hb (fun x hx => hlt x (by first | (simp at hx; done) | simp [hx])) (fun x hx => hsp x (by first | (simp at hx; done) | simp [hx])))
      (stays laidOut (by kernel_rfl) (of_decide_eq_true (by kernel_rfl)) h1k hb (fun x hx => hlt x (by first | (simp at hx; done) | simp [hx])) (fun x hx => hsp x (by first | (simp at hx; done) | simp [hx]))))
    (fun _ _ => rfl) (by simp) hb (ok_one (by kernel_rfl) rfl (okWide_bool_mk Try.underlying4 _))⟩

theorem holds : Rows.AttestGoodSaid :=
  OpenClaim.holds_of_wide 4 Try.f4 rfl rfl rfl rfl rfl rfl rfl ⟨rfl, rfl, rfl, rfl, rfl⟩ rfl rfl rfl rfl rfl (by kernel_rfl) Try.func4 (by kernel_rfl)
    (of_decide_eq_true (by kernel_rfl)) (by unfold Func.isWrapper; first | (rw [if_pos (by decide +kernel)]; kernel_rfl) | (rw [if_neg (by decide +kernel)]; exact ⟨rfl, rfl⟩))
    (fun os started H enc _ => lifted os started H enc)

#print axioms holds
end Go.Proofs.Ytcnebbhnpocofaa.attestGood
