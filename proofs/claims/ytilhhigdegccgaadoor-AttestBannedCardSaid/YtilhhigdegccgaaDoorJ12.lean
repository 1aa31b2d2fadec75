/-
  Joined texts: Jx2 Cb2 Gd2.
-/
import Derived.Test.YtilhhigdegccgaaDoorJ7
import Derived.Test.YtilhhigdegccgaaDoorJ8
import Derived.Test.YtilhhigdegccgaaDoorJ11
import Derived.Test.YtilhhigdegccgaaDoorJ4
import Derived.Test.YtilhhigdegccgaaDoorJ1
/-
  Walks: sound, until, slices.Contains; attest.Join and the document's.
-/
namespace Go.Proofs.YtilhhigdegccgaaDoor
set_option linter.unusedSimpArgs false
set_option linter.unusedVariables false
open Go.RowKit
def soundB (key : ByteArray) (now ttl : Int) : Bool := decide (key.size = 32) && decide (0 ≤ now) && decide (now ≤ 1099511627776) && decide (1 ≤ ttl) && decide (ttl ≤ 1000)
theorem has15c_any (l : List ByteArray) (s : ByteArray) (A : Option Addr) (c B : Nat) (w : World) (hr : Rd w B A (rowsV strCell l)) (hl : l.length ≤ 1000) :
    Calls Tryd.prog 18 #[.slice A l.length c, .string s] w fun e w' => e = .returned (.bool (hasB l s)) ∧ w' = w := by
  have hbs : ∀ x : ByteArray, Js.bs x.data.toList = x := fun x => by apply ByteArray.ext; simp [Js.bs]
  have hrow : rowsV Js.sCell (l.map fun x => x.data.toList) = rowsV strCell l := by
    clear hr hl
    induction l with
    | nil => rfl
    | cons x r ih =>
      rw [List.map_cons, rowsV_cons_r, rowsV_cons_r, ih]
      simp [Js.sCell, strCell, hbs]
  have h := Js.has_any (l.map fun x => x.data.toList) s.data.toList A c B w (by rw [hrow]; exact hr) (by rw [List.length_map]; omega)
  rw [List.length_map, hbs] at h
  have e : decide (s.data.toList ∈ l.map fun x => x.data.toList) = hasB l s := by
    rw [hasB, Bool.eq_iff_iff, decide_eq_true_iff, List.any_eq_true]
    constructor
    · intro h
      obtain ⟨x, hx, he⟩ := List.mem_map.1 h
      refine ⟨x, hx, ?_⟩
      have : x = s := by rw [← hbs x, ← hbs s, he]
      simpa using this
    · rintro ⟨x, hx, he⟩
      have : x = s := by simpa using he
      exact List.mem_map.2 ⟨x, hx, by rw [this]⟩
  rw [e] at h
  exact h
set_option maxHeartbeats 2000000 in
theorem csound_any (key : ByteArray) (now ttl : Int) (w : World) : Calls Tryd.prog 17 #[.string key, .int .i64 now, .int .i64 ttl] w fun e w' => e = .returned (.bool (soundB key now ttl)) ∧ w' = w := by
  obtain ⟨r, hr⟩ : ∃ r, r = soundB key now ttl := ⟨_, rfl⟩
  rw [← hr]
  have HR := Lib.hid hr
  clear hr
  go_enter Tryd.func17, Tryd.ntmps17
  by_cases h1 : (key.size : Int) = 32
  · have h1' : ((key.size : Int) == (32 : Int)) = true := by simp [h1]
    have k1 : key.size = 32 := by omega
    by_cases h2 : 0 ≤ now
    · by_cases h3 : now ≤ 1099511627776
      · by_cases h4 : 1 ≤ ttl
        · by_cases h5 : ttl ≤ 1000
          · have HRT := Lib.hid (show r = true by rw [HR.out, soundB]; simp [k1, h2, h3, h4, h5])
            clear k1 h1
            go_wp2_with fail
            go_ret
            exact ⟨by rw [HRT.out]; rfl, rfl⟩
          · have HRT := Lib.hid (show r = false by rw [HR.out, soundB]; simp [h5])
            clear k1 h1
            go_wp2_with fail
            go_ret
            exact ⟨by rw [HRT.out]; rfl, rfl⟩
        · have HRT := Lib.hid (show r = false by rw [HR.out, soundB]; simp [h4])
          clear k1 h1
          go_wp2_with fail
          go_ret
          exact ⟨by rw [HRT.out]; rfl, rfl⟩
      · have HRT := Lib.hid (show r = false by rw [HR.out, soundB]; simp [h3])
        clear k1 h1
        go_wp2_with fail
        go_ret
        exact ⟨by rw [HRT.out]; rfl, rfl⟩
    · have HRT := Lib.hid (show r = false by rw [HR.out, soundB]; simp [h2])
      clear k1 h1
      go_wp2_with fail
      go_ret
      exact ⟨by rw [HRT.out]; rfl, rfl⟩
  · have h1' : ((key.size : Int) == (32 : Int)) = false := by simpa using h1
    have HRT := Lib.hid (show r = false by rw [HR.out, soundB]; simp [show ¬ key.size = 32 by omega])
    clear h1
    go_wp2_with fail
    go_ret
    exact ⟨by rw [HRT.out]; rfl, rfl⟩
end Go.Proofs.YtilhhigdegccgaaDoor
/-
  Law: a struct is built whole.
-/
namespace Go.Proofs.YtilhhigdegccgaaDoor
set_option linter.unusedSimpArgs false
set_option linter.unusedVariables false
open Go.RowKit
theorem wpList_build_any {T : TypeId} {ops : Array Oper} {rest : List Oper} {o : Oper} {a : Act} {w : World} {Q : Exit → Act → World → Prop} {cells : Array Value} (hg : o.guard = none) (parts : Array (Nat × Operand)) (ho : o.op = .build T parts)
    (hf : Tryd.prog.built T (parts.map fun (i, x) => (i, a.eval x)).toList = some cells) (h : wpList Tryd.prog ops Q rest (a.put o.dst (.agg cells)) w) : wpList Tryd.prog ops Q (o :: rest) a w := by
  refine wpList_build hg _ parts ho (by rw [hf]; rfl) ?_
  rw [hf]
  exact h
end Go.Proofs.YtilhhigdegccgaaDoor
/-
  Walks: attest.of, attest.Good, brevetref20.Good. (Printed by gen/gd20.py.)
-/
namespace Go.Proofs.YtilhhigdegccgaaDoor
set_option linter.unusedSimpArgs false
set_option linter.unusedVariables false
open Go.RowKit
theorem node_zero : Tryd.prog.built 40 [] = some (nodeCells zNd) := by kernel_rfl
def goodX (d : LedD) (ag : ByteArray) (now : Int) : NodeD × Int :=
  if hasB d.bans.l ag = true then (zNd, 21) else match d.nodes.l.find? (eqN ag) with
  | none => (zNd, 24)
  | some k => if k.exp ≤ now then (zNd, 15) else (k, 0)
def GdPost (d : LedD) (ag : ByteArray) (now : Int) (w : World) (e : Ending) (w' : World) : Prop := e = .returned (.tuple #[.agg (nodeCells (goodX d ag now).1), .int .i64 (goodX d ag now).2]) ∧ Below w.heap.size w w'
def OfPost (R : NodeD × Bool) (w : World) (e : Ending) (w' : World) : Prop := e = .returned (.tuple #[.agg (nodeCells R.1), .bool R.2]) ∧ Below w.heap.size w w'
set_option maxRecDepth 100000 in
set_option maxHeartbeats 4000000 in
theorem of_any (d : LedD) (ag : ByteArray) (w : World) (h : LedOk w 900 d) :
    Calls Tryd.prog 24 #[.agg (ledCells d), .string ag] w (OfPost (nfind d.nodes.l ag) w) := by
  have huj := Tryd.underlying40
  have hmf : ∀ (fn : Fn) (first cap : Array Value) (u : World), (Instr.makeFunc fn first cap).run Tryd.prog u = .ok (.func fn first cap) u := fun _ _ _ _ => rfl
  obtain ⟨W0, hW0⟩ : ∃ W0, W0 = ((w.alloc (.cells (ledCells d) 33)).alloc (.cells #[.string ag] 9)).alloc (.cells (nodeCells zNd) 40) := ⟨_, rfl⟩
  have hb0 : Below w.heap.size w W0 := by rw [hW0]; exact (((Below.refl _ w).alloc (Nat.le_refl _) _).alloc (by simp) _).alloc (by simp; omega) _
  have HB0 := Lib.hid hb0
  have HK0 := Lib.hid (show Blk W0 w.heap.size 33 (ledCells d) by rw [hW0]; exact ((Blk.new _ _ _).alloc _).alloc _)
  have HS0 := Lib.hid (show Blk W0 (w.heap.size + 1) 9 #[.string ag] by rw [hW0]; have := (Blk.new (w.alloc (.cells (ledCells d) 33)) 9 #[.string ag]).alloc (.cells (nodeCells zNd) 40); simpa using this)
  have HO0 := Lib.hid (show Blk W0 (w.heap.size + 2) 40 (nodeCells zNd) by rw [hW0]; have := Blk.new ((w.alloc (.cells (ledCells d) 33)).alloc (.cells #[.string ag] 9)) 40 (nodeCells zNd); simpa using this)
  have HW0 := Lib.hid hW0
  have hok := h.grow hb0
  have HC := Lib.hid (nfind_any d.nodes.l ag d.nodes.A d.nodes.c W0.heap.size (w.heap.size + 1) W0 hok.nodes.row.rd (Nat.le_refl _) (by have := hok.nodes.len; omega) HS0.out)
  have a1 : W0.cell? ⟨w.heap.size, 1, none⟩ = some (.slice d.nodes.A d.nodes.l.length d.nodes.c) := HK0.out.cell 1
  obtain ⟨J0, hJ0⟩ : ∃ J, J = nfind d.nodes.l ag := ⟨_, rfl⟩
  rw [← hJ0] at HC ⊢
  clear hW0 hb0 h hok hJ0
  go_enter Tryd.func24, Tryd.ntmps24
  go_upto_region 1 with (fail)
  rw [show ((w.alloc (.cells (ledCells d) 33)).alloc (.cells #[.string ag] 9)).alloc (.cells #[.string ⟨#[]⟩, .string ⟨#[]⟩, .int .i64 0, .int .i64 0, .string ⟨#[]⟩] 40) = W0 from HW0.out.symm]
  generalize Value.agg (ledCells d) = AV
  go_wp2_with fail
  refine calls_then HC.out ?_
  rintro e w1 ⟨rfl, hb1⟩
  have HB1 := Lib.hid (HB0.out.trans (hb1.mono HB0.out.size))
  have HO1 := Lib.hid (HO0.out.below hb1 HO0.out.lt)
  clear hb1 a1 HC
  go_wp2_with (refine wpList_put_box (x := .tmp 4) (cells := nodeCells J0.1) HO1.out rfl rfl rfl rfl nodeT_size rfl (nodeCells_one _) ?_; intro w9 hb9 hw9)
  have HB9 := Lib.hid hb9
  have HF9 := Lib.hid (hw9.below HB1.out (by omega) (HB1.out).size)
  refine bodyPost_ret (results_box_tmp (P := Tryd.prog) rfl rfl HB9.out huj rfl nodeT_size) rfl ?_
  exact ⟨rfl, HF9.out⟩
set_option maxRecDepth 100000 in
set_option maxHeartbeats 8000000 in
theorem agood_any (d : LedD) (ag : ByteArray) (now : Int) (w : World) (h : LedOk w 900 d) :
    Calls Tryd.prog 10 #[.agg (ledCells d), .string ag, .int .i64 now] w (GdPost d ag now w) := by
  have hul := Tryd.underlying33
  have huj := Tryd.underlying40
  obtain ⟨W0, hW0⟩ : ∃ W0, W0 = (w.alloc (.cells (ledCells d) 33)).alloc (.cells (nodeCells zNd) 40) := ⟨_, rfl⟩
  have hb0 : Below w.heap.size w W0 := by rw [hW0]; exact ((Below.refl _ w).alloc (Nat.le_refl _) _).alloc (by simp) _
  have HB0 := Lib.hid hb0
  have HK0 := Lib.hid (show Blk W0 w.heap.size 33 (ledCells d) by rw [hW0]; exact (Blk.new _ _ _).alloc _)
  have HO0 := Lib.hid (show Blk W0 (w.heap.size + 1) 40 (nodeCells zNd) by rw [hW0]; have := Blk.new (w.alloc (.cells (ledCells d) 33)) 40 (nodeCells zNd); simpa using this)
  have HW0 := Lib.hid hW0
  have hok := h.grow hb0
  have HOK := Lib.hid hok
  have HC := Lib.hid (of_any d ag W0 hok)
  have HX := Lib.hid (show GdPost d ag now w = fun e w' => e = .returned (.tuple #[.agg (nodeCells (goodX d ag now).1), .int .i64 (goodX d ag now).2]) ∧ Below w.heap.size w w' from rfl)
  have HJX := Lib.hid (show goodX d ag now = if hasB d.bans.l ag = true then ((zNd, 21) : NodeD × Int) else match d.nodes.l.find? (eqN ag) with
    | none => (zNd, 24)
    | some k => if k.exp ≤ now then (zNd, 15) else (k, 0) from rfl)
  have HJF := Lib.hid (show nfind d.nodes.l ag = match d.nodes.l.find? (eqN ag) with | some k => (k, true) | none => (zNd, false) from rfl)
  have CH := Lib.hid (show ∀ u, Below W0.heap.size W0 u → Calls Tryd.prog 18 #[.slice d.bans.A d.bans.l.length d.bans.c, .string ag] u fun e w' => e = .returned (.bool (hasB d.bans.l ag)) ∧ w' = u from fun u hu => by
    have := (HOK.out.grow hu).bans
    exact has15c_any d.bans.l ag d.bans.A d.bans.c u.heap.size u this.row.rd (by have := this.len; omega))
  have HA2 := Lib.hid (show ∀ u, Below W0.heap.size W0 u → u.cell? ⟨w.heap.size, 2, none⟩ = some (.slice d.bans.A d.bans.l.length d.bans.c) from fun u hu => (HK0.out.below hu HK0.out.lt).cell 2)
  obtain ⟨J0, hJ0⟩ : ∃ J, J = nfind d.nodes.l ag := ⟨_, rfl⟩
  rw [← hJ0] at HC HJF
  obtain ⟨F, hF⟩ : ∃ F, F = d.nodes.l.find? (eqN ag) := ⟨_, rfl⟩
  rw [← hF] at HJX HJF
  obtain ⟨RX, hRX⟩ : ∃ R, R = goodX d ag now := ⟨_, rfl⟩
  rw [← hRX] at HJX HX
  rw [HX.out]
  obtain ⟨hb, hhb⟩ : ∃ b, b = hasB d.bans.l ag := ⟨_, rfl⟩
  rw [← hhb] at HJX CH
  clear hW0 hb0 h hok hJ0 hF hRX hhb
  go_enter Tryd.func10, Tryd.ntmps10
  go_upto_region 1 with (fail)
  rw [show (w.alloc (.cells (ledCells d) 33)).alloc (.cells #[.string ⟨#[]⟩, .string ⟨#[]⟩, .int .i64 0, .int .i64 0, .string ⟨#[]⟩] 40) = W0 from HW0.out.symm]
  obtain ⟨AV, hAV⟩ : ∃ A, A = Value.agg (ledCells d) := ⟨_, rfl⟩
  rw [← hAV] at HC ⊢
  have HAV := Lib.hid hAV
  clear hAV
  go_wp2_with (refine wpList_get_box (x := .tmp 3) (cs := ledCells d) HK0.out rfl rfl rfl hul rfl ledT_size ?_)
  rw [show Value.agg (ledCells d) = AV from HAV.out.symm]
  refine calls_then HC.out ?_
  rintro e w1 ⟨rfl, hb1⟩
  have HB1 := Lib.hid hb1
  clear hb1 HC
  go_upto_region 2 with (refine wpList_put_box (cells := nodeCells J0.1) (Blk.new _ _ _) rfl rfl rfl rfl nodeT_size rfl (nodeCells_one _) ?_; intro w2 hb2 hw2)
  have hbw2 : Below w1.heap.size w1 w2 := box_low9 hw2
  obtain ⟨H, hH⟩ : ∃ H, H = w1.heap.size := ⟨_, rfl⟩
  rw [← hH] at hb2 ⊢
  have HJ2 := Lib.hid hb2
  have HB2 := Lib.hid (HB1.out.trans (hbw2.mono HB1.out.size))
  have HO2 := Lib.hid (HO0.out.below HB2.out HO0.out.lt)
  have HBW := Lib.hid (HB0.out.trans (HB2.out.mono HB0.out.size))
  clear hb2 hw2 hbw2 hH
  obtain ⟨JD, JB⟩ := J0
  dsimp only at HJ2 ⊢
  have b2 := HA2.out _ HB2.out
  go_wp2_with fail
  refine calls_then (CH.out _ HB2.out) ?_
  rintro e w5 ⟨rfl, rfl⟩
  cases hb with
  | true =>
    have HRX := Lib.hid (show RX = (zNd, 21) by rw [HJX.out, if_pos rfl])
    go_wp2_with (first
      | (refine wpList_build_any (cells := nodeCells zNd) rfl #[] rfl node_zero ?_)
      | (refine wpList_put_box (x := .tmp 6) (cells := nodeCells zNd) HO2.out rfl rfl rfl rfl nodeT_size rfl (nodeCells_one _) ?_; intro w9 hb9 hw9))
    have HB9 := Lib.hid hb9
    have HF9 := Lib.hid (hw9.below HBW.out (by omega) (HBW.out).size)
    refine bodyPost_ret (results_box_tmp (P := Tryd.prog) rfl rfl HB9.out huj rfl nodeT_size) rfl ?_
    exact ⟨by rw [HRX.out]; rfl, HF9.out⟩
  | false =>
    clear b2
    cases F with
    | none =>
      have hJ : (JD, JB) = (zNd, false) := HJF.out
      injection hJ with hJ1 hJ2
      subst hJ2
      have HRX := Lib.hid (show RX = (zNd, 24) by rw [HJX.out, if_neg (by simp)])
      go_wp2_with (first
        | (refine wpList_build_any (cells := nodeCells zNd) rfl #[] rfl node_zero ?_)
        | (refine wpList_put_box (x := .tmp 6) (cells := nodeCells zNd) HO2.out rfl rfl rfl rfl nodeT_size rfl (nodeCells_one _) ?_; intro w9 hb9 hw9))
      have HB9 := Lib.hid hb9
      have HF9 := Lib.hid (hw9.below HBW.out (by omega) (HBW.out).size)
      refine bodyPost_ret (results_box_tmp (P := Tryd.prog) rfl rfl HB9.out huj rfl nodeT_size) rfl ?_
      exact ⟨by rw [HRX.out]; rfl, HF9.out⟩
    | some k =>
      have hJ : (JD, JB) = (k, true) := HJF.out
      injection hJ with hJ1 hJ2
      subst hJ1 hJ2
      have c2 : w5.cell? ⟨H, 2, none⟩ = some (.int .i64 JD.exp) := HJ2.out.cell 2
      obtain ⟨ov, hov⟩ : ∃ ov, ov = decide (JD.exp ≤ now) := ⟨_, rfl⟩
      have CO := Lib.hid (show Calls Tryd.prog 16 #[.int .i64 now, .int .i64 JD.exp] w5 (fun e w' => e = .returned (.bool ov) ∧ w' = w5) by rw [hov]; exact cover_any now JD.exp w5)
      have HOV := Lib.hid hov
      clear hov
      go_wp2_with fail
      refine calls_then CO.out ?_
      rintro e w3 ⟨rfl, rfl⟩
      cases ov with
      | true =>
        have HRX := Lib.hid (show RX = (zNd, 15) by rw [HJX.out, if_neg (by simp)]; exact if_pos (of_decide_eq_true HOV.out.symm))
        go_wp2_with (first
          | (refine wpList_build_any (cells := nodeCells zNd) rfl #[] rfl node_zero ?_)
          | (refine wpList_put_box (x := .tmp 6) (cells := nodeCells zNd) HO2.out rfl rfl rfl rfl nodeT_size rfl (nodeCells_one _) ?_; intro w9 hb9 hw9))
        have HB9 := Lib.hid hb9
        have HF9 := Lib.hid (hw9.below HBW.out (by omega) (HBW.out).size)
        refine bodyPost_ret (results_box_tmp (P := Tryd.prog) rfl rfl HB9.out huj rfl nodeT_size) rfl ?_
        exact ⟨by rw [HRX.out]; rfl, HF9.out⟩
      | false =>
        have HRX := Lib.hid (show RX = (JD, 0) by rw [HJX.out, if_neg (by simp)]; exact if_neg (of_decide_eq_false HOV.out.symm))
        go_wp2_with (first
          | (refine wpList_get_box (x := .tmp 8) (cs := nodeCells JD) HJ2.out rfl rfl rfl huj rfl nodeT_size ?_)
          | (refine wpList_put_box (x := .tmp 6) (cells := nodeCells JD) HO2.out rfl rfl rfl rfl nodeT_size rfl (nodeCells_one _) ?_; intro w9 hb9 hw9))
        have HB9 := Lib.hid hb9
        have HF9 := Lib.hid (hw9.below HBW.out (by omega) (HBW.out).size)
        refine bodyPost_ret (results_box_tmp (P := Tryd.prog) rfl rfl HB9.out huj rfl nodeT_size) rfl ?_
        exact ⟨by rw [HRX.out]; rfl, HF9.out⟩
end Go.Proofs.YtilhhigdegccgaaDoor
