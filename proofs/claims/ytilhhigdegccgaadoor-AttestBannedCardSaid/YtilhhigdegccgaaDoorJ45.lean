/-
  Joined texts: Id5 Id6.
-/
import Derived.Deep.DeepCutAuto
import Derived.Test.YtilhhigdegccgaaDoorJ44
import Derived.Test.YtilhhigdegccgaaDoorJ34
/-
  Walks: ids.Path over the iterator; ids.Agent.
-/
namespace Go.Proofs.YtilhhigdegccgaaDoor.Js
set_option linter.unusedSimpArgs false
set_option linter.unusedVariables false
open Go.RowKit Go.Shelf
attribute [local go_sem] Oper.semAt_some
theorem results_cell1 {fn : Func} {p : Tmp} {ty : TypeId} (h : fn.results = #[.cell p ty]) {tmps : Array Value} {w : World} {g : Nat} {v : Value} (hp : tmps.getD p undef = .pointer (some ⟨g, 0, none⟩)) (hv : (loadVar ty ⟨g, 0, none⟩).run Tryd.prog w = .ok v w) :
    (results fn tmps).run Tryd.prog w = .ok v w := by
  have hp' : tmps[p]?.getD undef = .pointer (some ⟨g, 0, none⟩) := by simpa using hp
  simp only [results, h]
  simp [Sem.run_bind, Result.andThen, hp', asAddr, hv]
theorem bool_info9 : (Tryd.prog.info? 4).map (·.size) = some 1 := by kernel_rfl
theorem load_bool9 (w : World) (g : Nat) (b : Bool) (h : Blk w g 4 #[.bool b]) : (loadVar 4 ⟨g, 0, none⟩).run Tryd.prog w = .ok (.bool b) w := by
  have d0 : w.cell? ⟨g, 0, none⟩ = some (.bool b) := h.cell 0
  have hagg : (isAgg 4).run Tryd.prog w = .ok false w := by
    unfold isAgg
    rw [Sem.run_bind, run_underlying Tryd.underlying4 w]
    rfl
  simp [loadVar, Sem.run_bind, hagg, Result.andThen, d0]
theorem ownFrom_blk9 {β : Type} (B g : Nat) (t : TypeId) (f : β → Array Value) : OwnFrom B (fun s W => Blk W g t (f s)) := fun s W W' row hs hg hr =>
  Blk.grown hs hg (fun e => by
    obtain ⟨-, o, ho, hc⟩ := hr g e.symm
    rw [show W.heap[g]? = _ from hs] at ho
    cases ho
    cases hc)
theorem blk_putObj9 {w : World} {g D : Nat} {t : TypeId} {cs : Array Value} {d : Option (List Deferred)} (h : Blk w g t cs) (hK : w.heap[D]? = some (.deferred d)) (o : Obj) : Blk (w.putObj D o) g t cs :=
  Blk.grown h (grownBy_putObj' w D o) (fun e => by
    cases e
    rw [show w.heap[g]? = _ from h] at hK
    cases hK)
theorem wrote_defd9 {w w' : World} {g D : Nat} {t : TypeId} {cs : Array Value} {d : Option (List Deferred)} (hw : Wrote g w w') (h : Blk w g t cs) (hK : w.heap[D]? = some (.deferred d)) : w'.heap[D]? = some (.deferred d) :=
  (hw.grown.block D (Array.getElem?_eq_some_iff.1 hK).1 (fun e => by
    cases e
    rw [show w.heap[g]? = _ from h] at hK
    cases hK)).trans hK
theorem pre47 (c : UInt8) (r : List UInt8) : ([47] : List UInt8).isPrefixOf (c :: r) = decide ((c :: r).take 1 = [47]) := by
  by_cases h : c = 47
  · subst h; rfl
  · have e1 : ((47 : UInt8) == c) = false := by simpa using Ne.symm h
    have e2 : ¬ (c :: r).take 1 = [47] := fun e => h (by simpa using e)
    rw [decide_eq_false e2, List.isPrefixOf, e1]
    rfl
theorem pathB_segs (s : ByteArray) (h : s.data.toList.take 1 = [47]) (h40 : s.size ≤ 40) : pathB s.data.toList = (segL s).all fun u => segOk u.data.toList := by
  have h5 : s.data.toList.length = s.size := rfl
  have hd : (Lib.splitB ⟨#[47]⟩ 0 (Lib.countB s ⟨#[47]⟩) s).map (·.data.toList) = Lib.split s.data.toList [47] := Lib.splitB_data _ _ _ _
  have e : ((segL s).all fun u => segOk u.data.toList) = ((Lib.split s.data.toList [47]).tail).all segOk := by
    rw [← hd, ← List.map_tail, List.all_map]
    rfl
  rw [e, pathB, h5, decide_eq_true h40, decide_eq_true h]
  generalize s.data.toList = L at h
  match L, h with
  | c :: r, h =>
    have hc : c = 47 := by simpa using h
    subst hc
    rw [path_split]
    rfl
set_option maxRecDepth 100000 in
set_option maxHeartbeats 4000000 in
theorem path_any (s : ByteArray) (hs : s.size ≤ 1000) (m : Int) (w : World) (hm : w.cell? ⟨0, 0, none⟩ = some (.int .i64 m)) :
    Calls Tryd.prog 34 #[.string s] w fun e w' => e = .returned (.bool (pathB s.data.toList)) ∧ Below w.heap.size w w' := by
  obtain ⟨W0, hW0⟩ : ∃ W0, W0 = w.alloc (.cells #[.bool false] 4) := ⟨_, rfl⟩
  obtain ⟨W1, hW1⟩ : ∃ W1, W1 = W0.alloc (.cells #[.string s] 9) := ⟨_, rfl⟩
  have hb0 : Below w.heap.size w W0 := by rw [hW0]; exact (Below.refl _ w).alloc (Nat.le_refl _) _
  have hb01 : Below W0.heap.size W0 W1 := by rw [hW1]; exact (Below.refl _ _).alloc (Nat.le_refl _) _
  have hz0 : W0.heap.size = w.heap.size + 1 := by rw [hW0]; simp
  have HB0 := Lib.hid hb0
  have HB1 := Lib.hid (hb0.trans (hb01.mono hb0.size))
  have HK0 := Lib.hid (show Blk W0 w.heap.size 4 #[.bool false] by rw [hW0]; exact Blk.new _ _ _)
  have HK1 := Lib.hid (HK0.out.below hb01 HK0.out.lt)
  have HS1 := Lib.hid (show Blk W1 (w.heap.size + 1) 9 #[.string s] by rw [hW1, ← hz0]; exact Blk.new _ _ _)
  have HZ := Lib.hid (show W1.heap.size = w.heap.size + 2 by rw [hW1]; simp [hz0])
  have HSQ := Lib.hid (segs_stops 4 (by omega) s hs m (w.heap.size + 1) W1 HS1.out ((HB1.out.cell (World.block_lt_of_cell? w _ hm)).trans hm))
  have CH := Lib.hid (hasp9_any s ⟨#[47]⟩ W0)
  have CS := Lib.hid (show Calls Tryd.prog 48 #[.string s] W0 (fun e w' => e = .returned (.func (.func 68) #[] #[.pointer (some ⟨w.heap.size + 1, 0, none⟩)]) ∧ w' = W1) by
    have h := segments_any s W0
    rw [hz0, ← hW1] at h
    exact h)
  have HW0 := Lib.hid hW0
  obtain ⟨R, hR⟩ : ∃ R, R = pathB s.data.toList := ⟨_, rfl⟩
  have HR := Lib.hid hR
  rw [← hR]
  have HPF := Lib.hid (show ([47] : List UInt8).isPrefixOf s.data.toList = decide (s.data.toList.take 1 = [47]) by
    generalize s.data.toList = L
    cases L with
    | nil => rfl
    | cons c r => exact pre47 c r)
  clear hW0 hW1 hb0 hb01 hz0 hR hm
  obtain ⟨q, hq⟩ : ∃ q, q = ([47] : List UInt8).isPrefixOf s.data.toList := ⟨_, rfl⟩
  rw [show (⟨#[47]⟩ : ByteArray).data.toList = ([47] : List UInt8) from rfl, ← hq] at CH
  rw [← hq] at HPF
  clear hq
  refine (callsIn_wide (n := 5)).1 ?_
  refine callsIn_of_wp_marks Tryd.func34 rfl trivial ?_ rfl
  simp only [Tryd.ntmps34, List.size_toArray, List.length_cons, List.length_nil, Nat.reduceAdd, Nat.reduceSub, Array.replicate_succ, Array.replicate_zero, List.push_toArray, List.append_toArray, List.nil_append, List.cons_append]
  refine wpIn_wide.2 ?_
  by_cases h40 : s.size ≤ 40
  · have d1 : ¬ (40 : Int) < (s.size : Int) := by omega
    cases q with
    | false =>
      have HRF := Lib.hid (show R = false by rw [HR.out, pathB, ← HPF.out]; simp)
      go_upto_region 1 with (fail)
      rw [show w.alloc (.cells #[.bool false] 4) = W0 from HW0.out.symm]
      go_wp2_with fail
      refine calls_then CH.out ?_
      rintro e w1 ⟨rfl, rfl⟩
      go_wp2_with (refine wpList_put_cell (i := 0) (v := .bool false) HK0.out rfl rfl rfl rfl bool_info9 (by simp) rfl ?_; intro w3 hb3 hw3)
      have HF9 := Lib.hid (hw3.below HB0.out (Nat.le_refl _) HB0.out.size)
      refine ⟨_, results_cell1 rfl rfl (load_bool9 _ _ _ hb3), by rw [HRF.out], ?_⟩
      exact HF9.out
    | true =>
      have HRS := Lib.hid (show R = (segL s).all fun u => segOk u.data.toList by rw [HR.out]; exact pathB_segs s (of_decide_eq_true HPF.out.symm) h40)
      go_upto_region 1 with (fail)
      rw [show w.alloc (.cells #[.bool false] 4) = W0 from HW0.out.symm]
      go_wp2_with fail
      refine calls_then CH.out ?_
      rintro e w1 ⟨rfl, rfl⟩
      go_wp2_with fail
      refine calls_then CS.out ?_
      rintro e w2 ⟨rfl, rfl⟩
      go_wp2_with fail
      refine (wpIn_wide (n := 5)).1 ?_
      refine wpIn_rangeFunc_ownH rfl (by omega) (gf := 68) (lb := #[.pointer (some ⟨w.heap.size + 1, 0, none⟩)]) rfl trivial (enters_of Tryd.func68 (by kernel_rfl) rfl)
        HSQ.out kc_t kc_b (Below.refl _ _) (fun _ => rfl)
        (fun pre W => Below w2.heap.size w2 W ∧ ∀ u ∈ pre, segOk (fixS u).data.toList = true)
        (fun cd pre W => (Blk W w.heap.size 4 #[.bool false] ∧ Below w.heap.size w W) ∧ (cd = .ret ∧ ∃ u ∈ pre, segOk (fixS u).data.toList = false))
        (OwnFrom.and (ownFrom_below (Nat.le_refl _) (Nat.le_refl _)) (ownFrom_pure _ _))
        (fun _ => OwnFrom.and (OwnFrom.and (ownFrom_blk9 _ _ _ (fun _ => #[.bool false])) (ownFrom_below (Nat.le_refl _) HB1.out.size)) (ownFrom_pure _ _))
        ⟨Below.refl _ _, fun u hu => by cases hu⟩
        (fun x a' W => a' = { tmps := #[.string s, undef, .pointer (some ⟨w.heap.size, 0, none⟩), .string (fixS x), .string s, .int .i64 (s.size : Int), .bool false, .bool false, .string s, .bool true, .bool false, .bool false, .string s, .func (.func 68) #[] #[.pointer (some ⟨w.heap.size + 1, 0, none⟩)], .string (fixS x), undef, undef, undef, undef, undef, undef, undef, undef, undef, undef, undef], defers := [] })
        (fun x a' => ownFrom_pure _ _) ?assign ?body ?done ?stop
      case assign =>
        rintro lp pre x W K ⟨i0, i1⟩ hK
        gi_wp2
        exact hK _ _ (KeepsFrom.refl _ _) (KC.refl _) ⟨i0, i1⟩ rfl
      case body =>
        rintro lp pre x a' W hl ⟨r, hr⟩ ⟨i0, i1⟩ rfl _
        have HI0 := Lib.hid i0
        have HI1 := Lib.hid i1
        clear i0 i1
        obtain ⟨u, hu⟩ : ∃ u, u = fixS x := ⟨_, rfl⟩
        have CA := Lib.hid (allN_any u (by rw [hu]; have := fixS_size x; omega) W)
        have HSO := Lib.hid (show segOk u.data.toList = (allN u.data.toList && (!(u.toList == ([46] : List UInt8)) && !(u.toList == ([46, 46] : List UInt8)))) by
          rw [segOk, eq_lit, eq_lit]
          simp)
        have HBAD := Lib.hid (show segOk u.data.toList = false → ∃ v ∈ pre ++ [x], segOk (fixS v).data.toList = false from fun h => ⟨x, by simp, by rw [← hu]; exact h⟩)
        have HGOOD := Lib.hid (show segOk u.data.toList = true → ∀ v ∈ pre ++ [x], segOk (fixS v).data.toList = true from fun h v hv => by
          rcases List.mem_append.1 hv with hv | hv
          · exact HI1.out v hv
          · rw [List.mem_singleton] at hv
            rw [hv, ← hu]; exact h)
        rw [← hu]
        obtain ⟨b, hb⟩ : ∃ b, b = allN u.data.toList := ⟨_, rfl⟩
        rw [← hb] at CA HSO
        obtain ⟨q1, hq1⟩ : ∃ q, (u.toList == ([46] : List UInt8)) = q := ⟨_, rfl⟩
        obtain ⟨q2, hq2⟩ : ∃ q, (u.toList == ([46, 46] : List UInt8)) = q := ⟨_, rfl⟩
        rw [hq1, hq2] at HSO
        have HK2 := Lib.hid (HK1.out.below HI0.out HK1.out.lt)
        have HB2 := Lib.hid (HB1.out.trans (HI0.out.mono HB1.out.size))
        clear hb hu
        gi_wp2
        refine ⟨trivial, (CallsIn.inRound lp (callsIn_wide.2 CA.out)).mono ?_⟩
        rintro e W' ⟨rfl, rfl⟩
        cases b with
        | false =>
          have HF := Lib.hid (HBAD.out (by rw [HSO.out]; rfl))
          gi_wp2_with (refine wpListIn_put_cell (i := 0) (v := .bool false) HK2.out rfl rfl rfl rfl bool_info9 (by simp) rfl ?_; intro w3 hb3 hw3 e3; clear e3)
          exact ⟨KeepsFrom.of_grownBy hw3.grown (fun j e => by cases e; have := HZ.out; omega), ⟨hb3, hw3.below HB2.out (Nat.le_refl _) HB2.out.size⟩, rfl, HF.out⟩
        | true =>
          cases q1 with
          | true =>
            have HF := Lib.hid (HBAD.out (by rw [HSO.out]; rfl))
            gi_wp2_with (refine wpListIn_put_cell (i := 0) (v := .bool false) HK2.out rfl rfl rfl rfl bool_info9 (by simp) rfl ?_; intro w3 hb3 hw3 e3; clear e3)
            exact ⟨KeepsFrom.of_grownBy hw3.grown (fun j e => by cases e; have := HZ.out; omega), ⟨hb3, hw3.below HB2.out (Nat.le_refl _) HB2.out.size⟩, rfl, HF.out⟩
          | false =>
            cases q2 with
            | true =>
              have HF := Lib.hid (HBAD.out (by rw [HSO.out]; rfl))
              gi_wp2_with (refine wpListIn_put_cell (i := 0) (v := .bool false) HK2.out rfl rfl rfl rfl bool_info9 (by simp) rfl ?_; intro w3 hb3 hw3 e3; clear e3)
              exact ⟨KeepsFrom.of_grownBy hw3.grown (fun j e => by cases e; have := HZ.out; omega), ⟨hb3, hw3.below HB2.out (Nat.le_refl _) HB2.out.size⟩, rfl, HF.out⟩
            | false =>
              have HT := Lib.hid (HGOOD.out (by rw [HSO.out]; rfl))
              gi_wp2
              exact ⟨KeepsFrom.refl _ _, KC.refl _, HI0.out, HT.out⟩
      case done =>
        rintro D ys W hD rfl ⟨i0, hys⟩ hKD
        have HRT := Lib.hid (show R = true by
          rw [HRS.out, List.all_eq_true]
          intro u hu
          have := hys u hu
          rwa [fixS_eq (Nat.le_trans (segL_size hu) hs)] at this)
        have HK2 := Lib.hid (HK1.out.below i0 HK1.out.lt)
        have HB2 := Lib.hid (HB1.out.trans (i0.mono HB1.out.size))
        clear hys i0
        go_wp2_with (refine wpList_put_cell (i := 0) (v := .bool true) HK2.out rfl rfl rfl rfl bool_info9 (by simp) rfl ?_; intro w3 hb3 hw3)
        have hK3 := wrote_defd9 hw3 HK2.out hKD
        have hbel : Below w.heap.size w w3 := hw3.below HB2.out (Nat.le_refl _) HB2.out.size
        refine ⟨by simp, .inl ⟨_, _, rfl, run_takeDeferred hK3, ?_⟩⟩
        refine ⟨_, results_cell1 rfl rfl (load_bool9 _ _ _ (blk_putObj9 hb3 hK3 _)), by rw [HRT.out], ?_⟩
        exact hbel.trans (belowK_b (w := w) (Nat.le_refl _) w3 D _ _ (by have := HZ.out; omega) hK3 rfl rfl)
      case stop =>
        rintro D cd pre W hD hSp ⟨⟨i1, i2⟩, rfl, u, hu, hbad⟩ hKD
        have HRF := Lib.hid (show R = false by
          rw [HRS.out, List.all_eq_false]
          have hu2 := hSp.subset hu
          exact ⟨u, hu2, by rw [fixS_eq (Nat.le_trans (segL_size hu2) hs)] at hbad; rw [hbad]; simp⟩)
        clear hu hbad hSp
        gi_wp2
        refine ⟨by simp, .inl ⟨_, _, rfl, run_takeDeferred hKD, ?_⟩⟩
        refine ⟨_, results_cell1 rfl rfl (load_bool9 _ _ _ (blk_putObj9 i1 hKD _)), by rw [HRF.out], ?_⟩
        exact i2.trans (belowK_b (w := w) (Nat.le_refl _) W D _ _ (by have := HZ.out; omega) hKD rfl rfl)
  · have HRF := Lib.hid (show R = false by rw [HR.out, pathB, decide_eq_false (show ¬ s.data.toList.length ≤ 40 from h40)]; rfl)
    have d1 : (40 : Int) < (s.size : Int) := by omega
    go_upto_region 1 with (fail)
    rw [show w.alloc (.cells #[.bool false] 4) = W0 from HW0.out.symm]
    go_wp2_with (refine wpList_put_cell (i := 0) (v := .bool false) HK0.out rfl rfl rfl rfl bool_info9 (by simp) rfl ?_; intro w3 hb3 hw3)
    have HF9 := Lib.hid (hw3.below HB0.out (Nat.le_refl _) HB0.out.size)
    refine ⟨_, results_cell1 rfl rfl (load_bool9 _ _ _ hb3), by rw [HRF.out], ?_⟩
    exact HF9.out
end Go.Proofs.YtilhhigdegccgaaDoor.Js
/-
  Walk: ids.Agent.
-/
namespace Go.Proofs.YtilhhigdegccgaaDoor.Js
set_option linter.unusedSimpArgs false
set_option linter.unusedVariables false
open Go.RowKit Go.Shelf
theorem ib_mem (l : List UInt8) (c : UInt8) : decide (0 ≤ Lib.indexByte l c) = decide (c ∈ l) := by
  induction l with
  | nil => rfl
  | cons b r ih =>
    have hge := Lib.indexByte_ge r c
    rw [Lib.indexByte]
    by_cases h : b = c
    · subst h; simp
    · have e : (b == c) = false := by simpa using h
      have hm : (c ∈ b :: r) ↔ c ∈ r := by simp [Ne.symm h]
      have ih2 : (0 ≤ Lib.indexByte r c) ↔ c ∈ r := by simpa using ih
      simp only [e, Bool.false_eq_true, if_false, hm]
      rw [decide_eq_decide, ← ih2]
      by_cases h1 : Lib.indexByte r c = -1
      · simp [h1]
      · have e1 : (Lib.indexByte r c == -1) = false := by simpa using h1
        simp only [e1, Bool.false_eq_true, if_false]
        omega
theorem pre_take : ∀ (p l : List UInt8), p.isPrefixOf l = decide (l.take p.length = p)
  | [], l => by simp
  | a :: p, [] => by simp
  | a :: p, b :: l => by
    rw [List.isPrefixOf, pre_take p l, List.length_cons, List.take_succ_cons]
    by_cases h : a = b
    · subst h; simp
    · have e : (a == b) = false := by simpa using h
      have e2 : ¬ (b :: l.take p.length = a :: p) := fun h2 => h (by injection h2 with h2; exact h2.symm)
      rw [e, decide_eq_false e2]; rfl
set_option maxRecDepth 100000 in
set_option maxHeartbeats 2000000 in
theorem agent_any (s : ByteArray) (hs : s.size ≤ 1000) (m : Int) (w : World) (hm : w.cell? ⟨0, 0, none⟩ = some (.int .i64 m)) :
    Calls Tryd.prog 23 #[.string s] w fun e w' => e = .returned (.bool (agentB s.data.toList)) ∧ Below w.heap.size w w' := by
  have CC := Lib.hid (cutp_any s ⟨#[47, 97, 103, 101, 110, 116, 47]⟩ w)
  have CP := Lib.hid (path_any s hs m w hm)
  have HE := Lib.hid (show agentB s.data.toList = (decide (s.data.toList.take 7 = agentT) && (pathB s.data.toList && decide (47 ∉ s.data.toList.drop 7))) from rfl)
  obtain ⟨R, hR⟩ : ∃ R, R = agentB s.data.toList := ⟨_, rfl⟩
  rw [← hR] at HE ⊢
  obtain ⟨q, hq⟩ : ∃ q, q = decide (s.data.toList.take 7 = agentT) := ⟨_, rfl⟩
  have hpq : (⟨#[47, 97, 103, 101, 110, 116, 47]⟩ : ByteArray).data.toList.isPrefixOf s.data.toList = q := by rw [pre_take, hq]; rfl
  obtain ⟨P, hP⟩ : ∃ P, P = pathB s.data.toList := ⟨_, rfl⟩
  obtain ⟨C, hC⟩ : ∃ C, C = cutP s ⟨#[47, 97, 103, 101, 110, 116, 47]⟩ := ⟨_, rfl⟩
  have HCT := Lib.hid (show q = true → C.data.toList = s.data.toList.drop 7 from fun h => by
    rw [hC, cutP, hpq, if_pos h, Lib.extract_to_end]
    rfl)
  have CN := Lib.hid (fun u => show Calls Tryd.prog 35 #[.string C, .string ⟨#[47]⟩] u fun e w' => e = .returned (.bool (decide (47 ∈ C.data.toList))) ∧ w' = u from (Any.strings_Contains_one contL C 47 u).mono fun e w' h => ⟨by rw [h.1, ib_mem], h.2⟩)
  rw [← hq, ← hP] at HE
  rw [← hP] at CP
  rw [hpq, ← hC] at CC
  have HB := Lib.hid (Below.refl w.heap.size w)
  clear hR hq hpq hP hC hm
  go_enter Tryd.func23, Tryd.ntmps23
  go_wp2_with fail
  refine calls_then CC.out ?_
  rintro e w1 ⟨rfl, rfl⟩
  cases q with
  | false =>
    have HRF := Lib.hid (show R = false by rw [HE.out]; rfl)
    go_wp2_with fail
    go_ret
    exact ⟨by rw [HRF.out]; rfl, HB.out⟩
  | true =>
    have HCL := Lib.hid (HCT.out rfl)
    go_wp2_with fail
    refine calls_then CP.out ?_
    rintro e w2 ⟨rfl, hb2⟩
    have HB2 := Lib.hid hb2
    clear hb2
    cases P with
    | false =>
      have HRF := Lib.hid (show R = false by rw [HE.out]; rfl)
      go_wp2_with fail
      go_ret
      exact ⟨by rw [HRF.out]; rfl, HB2.out⟩
    | true =>
      obtain ⟨M, hM⟩ : ∃ M, M = decide (47 ∈ C.data.toList) := ⟨_, rfl⟩
      have HRM := Lib.hid (show R = !M by rw [HE.out, hM, HCL.out, ← decide_not]; rfl)
      rw [← hM] at CN
      clear hM
      go_wp2_with fail
      refine calls_then (CN.out _) ?_
      rintro e w3 ⟨rfl, rfl⟩
      go_wp2_with fail
      go_ret
      exact ⟨by rw [HRM.out]; rfl, HB2.out⟩
end Go.Proofs.YtilhhigdegccgaaDoor.Js
