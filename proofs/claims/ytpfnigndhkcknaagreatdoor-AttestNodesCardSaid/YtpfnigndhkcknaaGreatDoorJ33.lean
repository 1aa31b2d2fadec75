/-
  Joined texts: Id4 Id2.
-/
import Derived.RangeFuncBox
import Derived.RangeFuncNested
import Derived.RangeFuncBound
import Derived.RangeFuncCalls
import Derived.RangeFuncLeaves
import Derived.Shelf.RegionOpen
import Derived.OwnWalkIn
import Derived.TacticsInMore
import Derived.LoopNIn
import Derived.LoopIn
import Derived.Test.YtpfnigndhkcknaaGreatDoorJ32
/-
  Walks: strings.HasPrefix, strings.CutPrefix; ids.segments, an iterator over a path's segments.
-/
namespace Go.Proofs.YtpfnigndhkcknaaGreatDoor.Js
set_option linter.unusedSimpArgs false
set_option linter.unusedVariables false
open Go.RowKit Go.Shelf
attribute [local go_sem] Oper.semAt_some

set_option maxHeartbeats 1000000 in
theorem hasq_any (s p : ByteArray) (w : World) :
    Calls Tryz.prog 77 #[.string s, .string p] w fun e w' => e = .returned (.bool (p.data.toList.isPrefixOf s.data.toList)) ∧ w' = w := by
  show Calls Tryz.prog 77 #[.string s, .string p] w fun e w' => e = .returned (.bool (Lib.hasPrefix s.data.toList p.data.toList)) ∧ w' = w
  rw [← Lib.hasPrefix_of_take, ← Lib.size_eq, ← Lib.size_eq]
  go_enter Tryz.func77, Tryz.ntmps77
  go_wp2
  · rename_i h
    go_ret
    refine ⟨?_, rfl⟩
    show Ending.returned (Value.bool ((s.extract 0 p.size).toList == p.toList)) = _
    rw [Lib.extract_toList, Lib.toList_data]
    simp [h]
  · rename_i h
    go_ret
    refine ⟨?_, rfl⟩
    show Ending.returned (Value.bool false) = _
    simp [h]
theorem hasp9_any (s p : ByteArray) (w : World) :
    Calls Tryz.prog 58 #[.string s, .string p] w fun e w' => e = .returned (.bool (p.data.toList.isPrefixOf s.data.toList)) ∧ w' = w := by
  have C := Lib.hid (hasq_any s p w)
  obtain ⟨q, hq⟩ : ∃ q, q = p.data.toList.isPrefixOf s.data.toList := ⟨_, rfl⟩
  rw [← hq] at C ⊢
  clear hq
  go_enter Tryz.func58, Tryz.ntmps58
  go_wp2_with (go_at_call 77; refine calls_then C.out ?_; rintro e w' ⟨rfl, rfl⟩)
  go_ret
  exact ⟨rfl, rfl⟩
/-- what CutPrefix leaves -/
def cutP (s p : ByteArray) : ByteArray := if p.data.toList.isPrefixOf s.data.toList = true then s.extract p.size s.size else s
theorem cutq_any (s p : ByteArray) (w : World) :
    Calls Tryz.prog 57 #[.string s, .string p] w fun e w' => e = .returned (.tuple #[.string (cutP s p), .bool (p.data.toList.isPrefixOf s.data.toList)]) ∧ w' = w := by
  have C := Lib.hid (hasq_any s p w)
  have HE := Lib.hid (show cutP s p = if p.data.toList.isPrefixOf s.data.toList = true then s.extract p.size s.size else s from rfl)
  have HL := Lib.hid (show p.data.toList.isPrefixOf s.data.toList = true → p.size ≤ s.size from fun h => (List.isPrefixOf_iff_prefix.1 h).length_le)
  obtain ⟨q, hq⟩ : ∃ q, q = p.data.toList.isPrefixOf s.data.toList := ⟨_, rfl⟩
  obtain ⟨R, hR⟩ : ∃ R, R = cutP s p := ⟨_, rfl⟩
  rw [← hR] at HE ⊢
  rw [← hq] at C HE HL ⊢
  clear hq hR
  go_enter Tryz.func57, Tryz.ntmps57
  cases q with
  | false =>
    have HR := Lib.hid (show R = s from HE.out)
    go_wp2_with (go_at_call 77; refine calls_then C.out ?_; rintro e w' ⟨rfl, rfl⟩)
    go_ret2
    exact ⟨by rw [HR.out]; rfl, rfl⟩
  | true =>
    have HR := Lib.hid (show R = s.extract p.size s.size from HE.out)
    have h1 := HL.out rfl
    have h2 : (p.size : Int) ≤ (s.size : Int) := by omega
    go_wp2_with (go_at_call 77; refine calls_then C.out ?_; rintro e w' ⟨rfl, rfl⟩)
    go_ret2
    exact ⟨by rw [HR.out]; rfl, rfl⟩
theorem cutp_any (s p : ByteArray) (w : World) :
    Calls Tryz.prog 35 #[.string s, .string p] w fun e w' => e = .returned (.tuple #[.string (cutP s p), .bool (p.data.toList.isPrefixOf s.data.toList)]) ∧ w' = w := by
  have C := Lib.hid (cutq_any s p w)
  obtain ⟨q, hq⟩ : ∃ q, q = p.data.toList.isPrefixOf s.data.toList := ⟨_, rfl⟩
  obtain ⟨R, hR⟩ : ∃ R, R = cutP s p := ⟨_, rfl⟩
  rw [← hR, ← hq] at C ⊢
  clear hq hR
  go_enter Tryz.func35, Tryz.ntmps35
  go_wp2_with (go_at_call 57; refine calls_then C.out ?_; rintro e w' ⟨rfl, rfl⟩)
  go_ret2
  exact ⟨rfl, rfl⟩
theorem segments_any (s : ByteArray) (w : World) :
    Calls Tryz.prog 59 #[.string s] w (fun e w' => e = .returned (.func (.func 78) #[] #[.pointer (some ⟨w.heap.size, 0, none⟩)]) ∧ w' = w.alloc (.cells #[.string s] 9)) := by
  go_enter Tryz.func59, Tryz.ntmps59
  go_wp2
  go_ret
  exact ⟨rfl, rfl⟩
/-- what is laid in cells stays -/
def KC (A B : World) : Prop := A.heap.size ≤ B.heap.size ∧ ∀ (k : Nat) (cs : Array Value) (t : TypeId) (f : Nat × Nat), A.heap[k]? = some (.cells cs t f) → B.heap[k]? = some (.cells cs t f)
theorem KC.refl (A : World) : KC A A := ⟨Nat.le_refl _, fun _ _ _ _ h => h⟩
theorem kc_t {A B C : World} (h : KC A B) (k : KC B C) : KC A C := ⟨Nat.le_trans h.1 k.1, fun i cs t f hi => k.2 i cs t f (h.2 i cs t f hi)⟩
theorem kc_grown {A B : World} (h : A.grownBy B none) : KC A B := ⟨h.size, fun i cs t f hi => (h.block i (Array.getElem?_eq_some_iff.1 hi).1 (by simp)).trans hi⟩
theorem kc_b {w : World} (W : World) (l : Nat) (o o' : Obj) (hl : w.heap.size ≤ l) (h : W.heap[l]? = some o) (hc : o.isCells = false) (_ : o.isWalk = false) : KC W (W.putObj l o') :=
  have hg := grownBy_putObj' W l o'
  ⟨hg.size, fun i cs t f hi => (hg.block i (Array.getElem?_eq_some_iff.1 hi).1 (fun e => by
    cases e
    rw [hi] at h
    cases h
    cases hc)).trans hi⟩
theorem KC.blk {A B : World} {g : Nat} {t : TypeId} {cs : Array Value} (h : KC A B) (hb : Blk A g t cs) : Blk B g t cs := h.2 g cs t (0, 0) hb
/-- a path's segments -/
def segL (s : ByteArray) : List ByteArray := (Lib.splitB ⟨#[47]⟩ 0 (Lib.countB s ⟨#[47]⟩) s).tail
/-- a text of a segment's size -/
def fixS (u : ByteArray) : ByteArray := if u.size ≤ 1000 then u else ⟨#[]⟩
theorem fixS_size (u : ByteArray) : (fixS u).size ≤ 1000 := by
  unfold fixS
  split
  · assumption
  · show 0 ≤ 1000; omega
theorem fixS_eq {u : ByteArray} (h : u.size ≤ 1000) : fixS u = u := if_pos h
theorem splitB_size (sep : ByteArray) : ∀ (k : Nat) (s u : ByteArray), u ∈ Lib.splitB sep 0 k s → u.size ≤ s.size
  | 0, s, u, h => by
    rw [Lib.splitB_zero, List.mem_singleton] at h
    rw [h]; exact Nat.le_refl _
  | k + 1, s, u, h => by
    unfold Lib.splitB at h
    split at h
    · rw [List.mem_singleton] at h
      rw [h]; exact Nat.le_refl _
    · rcases List.mem_cons.1 h with h | h
      · rw [h, ByteArray.size_extract]; omega
      · have := splitB_size sep k _ u h
        rw [ByteArray.size_extract] at this
        omega
theorem segL_size {s u : ByteArray} (h : u ∈ segL s) : u.size ≤ s.size := splitB_size _ _ _ _ (List.mem_of_mem_tail h)
theorem grown_of_below9 {w w1 : World} (h : Below w.heap.size w w1) : w.grownBy w1 none := ⟨h.os, h.tape, h.output, h.size, fun k hk _ => h.block k hk⟩
theorem max_global : splitL_ren.g 1 = 0 := by decide
set_option maxRecDepth 100000 in
set_option maxHeartbeats 4000000 in
theorem segs_stops (n : Nat) (hn : 1 ≤ n) (s : ByteArray) (hs : s.size ≤ 1000) (m : Int) (bl : Nat) (w : World) (cl : Blk w bl 9 #[.string s]) (hm : w.cell? ⟨0, 0, none⟩ = some (.int .i64 m)) :
    SeqStopsK Fence.wide n Tryz.prog 78 #[.pointer (some ⟨bl, 0, none⟩)] (fun u : ByteArray => #[.string (fixS u)]) KC (fun ys => ys = segL s) (fun pre => pre <+: segL s) 1001 w := fun lp J Jx W hW hJ hJx hY h0 => by
  have c0 : W.cell? ⟨bl, 0, none⟩ = some (.string s) := (cl.below hW cl.lt).cell 0
  have hm' : W.cell? ⟨splitL_ren.g 1, 0, none⟩ = some (.int .i64 m) := by rw [max_global]; exact (hW.cell (World.block_lt_of_cell? w _ hm)).trans hm
  have SP := Lib.hid (Any.strings_Split splitL (by kernel_rfl) s ⟨#[47]⟩ m W (by omega) hm' (by decide))
  obtain ⟨k, hk⟩ : ∃ k, k = Lib.countB s ⟨#[47]⟩ := ⟨_, rfl⟩
  obtain ⟨L, hL⟩ : ∃ L, L = Lib.splitB ⟨#[47]⟩ 0 k s := ⟨_, rfl⟩
  have HLL := Lib.hid (show L.length = k + 1 by rw [hL]; exact Lib.splitB_all ⟨#[47]⟩ (by decide) 0 k s hk.symm)
  have HKL := Lib.hid (show k ≤ 1000 by have := Lib.countB_le ⟨#[47]⟩ (by decide) s.size s (Nat.le_refl _); omega)
  obtain ⟨T, hT⟩ : ∃ T, T = segL s := ⟨_, rfl⟩
  have HSS := Lib.hid (show ∀ u ∈ T, u.size ≤ s.size from fun u hu => segL_size (by rw [← hT]; exact hu))
  have HTL := Lib.hid (show T = L.tail by rw [hT, segL, ← hk, ← hL])
  have HTK := Lib.hid (show T.length = k by rw [HTL.out, List.length_tail, HLL.out]; rfl)
  rw [← hk, ← hL] at SP
  rw [← hT]
  obtain ⟨W1, hW1⟩ : ∃ W1, W1 = W.alloc (.cells (L.map Value.string).toArray 9) := ⟨_, rfl⟩
  have HW1 := Lib.hid hW1
  have HB1 := Lib.hid (show Blk W1 W.heap.size 9 (L.map Value.string).toArray by rw [hW1]; exact Blk.new _ _ _)
  have HJ1 := Lib.hid (show J [] W1 from hJ _ W W1 none h0 (by rw [hW1]; exact grown_of_below9 ((Below.refl _ W).alloc (Nat.le_refl _) _)) (by simp))
  have HSP := Lib.hid (show Calls Tryz.prog 79 #[.string s, .string ⟨#[47]⟩] W (fun e w' => e = .returned (.slice (some ⟨W.heap.size, 0, none⟩) (k + 1) (k + 1)) ∧ w' = W1) by rw [hW1]; exact SP.out)
  have HYY := Lib.hid hY
  clear hW1 hk hL hT SP hm hm' cl h0 hY
  refine callsIn_of_wp Tryz.func78 rfl trivial ?_ rfl
  simp only [Tryz.ntmps78, List.size_toArray, List.length_cons, List.length_nil, Nat.reduceAdd, Nat.reduceSub, Array.replicate_succ, Array.replicate_zero, List.push_toArray, List.append_toArray, List.nil_append, List.cons_append]
  have i1 : (1 : Int) ≤ ((k + 1 : Nat) : Int) := by omega
  by_cases hk0 : k = 0
  · have HT0 := Lib.hid (show T = [] from List.length_eq_zero_iff.1 (by rw [HTK.out]; exact hk0))
    subst hk0
    gi_wp2
    refine ⟨trivial, (callsIn_wide.2 HSP.out).mono ?_⟩
    rintro e w' ⟨rfl, hw'⟩
    rw [hw']
    clear hw'
    gi_wp2
    gi_loopw [9] (fun i wr => i = .int .i64 0 ∧ wr = W1) (fun _ _ => 0)
    case atStart => exact ⟨rfl, rfl⟩
    case round =>
      obtain ⟨rfl, rfl⟩ := hrel
      gi_wp2
      go_end0
      exact ⟨⟨_, rfl⟩, .inl ⟨_, HT0.out.symm, HJ1.out⟩⟩
  · gi_wp2
    refine ⟨trivial, (callsIn_wide.2 HSP.out).mono ?_⟩
    rintro e w' ⟨rfl, hw'⟩
    rw [hw']
    clear hw'
    gi_wp2
    gi_loopw [9] (fun i wr => ∃ j : Nat, j ≤ k ∧ i = .int .i64 (j : Int) ∧ J (T.take j) wr ∧ KC W1 wr) (fun i _ => k - (intOf i).toNat)
    case atStart => exact ⟨0, Nat.zero_le _, rfl, by rw [List.take_zero]; exact HJ1.out, KC.refl _⟩
    case round =>
      clear c0
      obtain ⟨j, hj, rfl, hJs, hkc⟩ := hrel
      have HKC := Lib.hid hkc
      have HJS := Lib.hid hJs
      clear hkc
      by_cases hlt : j < k
      · have hlt' : (j : Int) < (k : Int) := by omega
        have hjt : j < T.length := by rw [HTK.out]; exact hlt
        obtain ⟨X, hX⟩ : ∃ X, X = T[j] := ⟨_, rfl⟩
        have hcell : wr.cell? ⟨W.heap.size, 1 + j, none⟩ = some (.string X) := by
          have h := (HKC.out.blk HB1.out).cell (1 + j)
          have hl : 1 + j < L.length := by rw [HLL.out]; omega
          rw [show (L.map Value.string).toArray[1 + j]? = some (.string L[1 + j]) by simp [hl]] at h
          have e : X = L[1 + j] := by
            rw [hX]
            have ht := HTL.out
            subst ht
            simp [List.getElem_tail, Nat.add_comm]
          rw [e]
          exact h
        have HTN := Lib.hid (show T.take (j + 1) = T.take j ++ [X] by rw [List.take_succ_eq_append_getElem hjt, hX])
        have HPF := Lib.hid (show T.take j ++ [X] <+: T by rw [← HTN.out]; exact List.take_prefix _ _)
        have HYX := HYY.out _ X wr hJs (by rw [List.length_take]; have := HKL.out; omega)
        rw [fixS_eq (Nat.le_trans (HSS.out X (by rw [hX]; exact List.getElem_mem _)) hs)] at HYX
        obtain ⟨fn, tmps, assign, body, hy, hR⟩ := HYX
        clear hX hjt hJs
        have HLT := Lib.hid hlt
        have hk9 := HKL.out
        gi_wp2
        refine hR.mono ?_
        rintro e W3 (⟨rfl, hJ3, hk3⟩ | ⟨rfl, hJx3⟩)
        · gi_wp2
          go_roundw
          case rel => exact ⟨j + 1, HLT.out, by simp, by rw [HTN.out]; exact hJ3, kc_t HKC.out hk3⟩
          case measure => have := HLT.out; simp [intOf]; omega
        · gi_wp2
          refine bodyPost_ret (results_none rfl _ _ _) rfl ?_
          exact ⟨⟨_, rfl⟩, .inr ⟨_, HPF.out, hJx3⟩⟩
      · obtain rfl : j = k := by omega
        have HALL := Lib.hid (show T.take j = T from List.take_of_length_le (by rw [HTK.out]; exact Nat.le_refl _))
        gi_wp2
        go_end0
        exact ⟨⟨_, rfl⟩, .inl ⟨_, HALL.out, HJS.out⟩⟩
end Go.Proofs.YtpfnigndhkcknaaGreatDoor.Js
/-
  Walks: brevetref09.Path, brevetref09.Agent, by value.
-/
namespace Go.Proofs.YtpfnigndhkcknaaGreatDoor.Js
set_option linter.unusedSimpArgs false
set_option linter.unusedVariables false
open Go.RowKit

theorem ext_next (s : ByteArray) {a k : Nat} (h : a ≤ k) (hk : k < s.size) : (s.extract a (k + 1)).data.toList = (s.extract a k).data.toList ++ [s[k]] := by
  have e : ∀ b, (s.extract a b).data.toList = (s.data.toList.take b).drop a := fun b => by
    rw [Lib.extract_data, List.drop_take]
  have hl : k < s.data.toList.length := hk
  rw [e, e, List.take_succ_eq_append_getElem hl, List.drop_append_of_le_length (by rw [List.length_take]; omega)]
  rfl
theorem ext_nil (s : ByteArray) (k : Nat) : (s.extract k k).data.toList = [] := by
  rw [Lib.extract_data]; simp
theorem rofN_any (u : ByteArray) (hu : u.size ≤ 40) (w : World) : Calls Tryz.prog 64 #[.string u, .string ⟨#[97, 98, 99, 100, 101, 102, 103, 104, 105, 106, 107, 108, 109, 110, 111, 112, 113, 114, 115, 116, 117, 118, 119, 120, 121, 122, 65, 66, 67, 68, 69, 70, 71, 72, 73, 74, 75, 76, 77, 78, 79, 80, 81, 82, 83, 84, 85, 86, 87, 88, 89, 90, 48, 49, 50, 51, 52, 53, 54, 55, 56, 57, 46, 45, 95]⟩, .int .i64 40] w fun e w' => e = .returned (.bool (allN u.data.toList)) ∧ w' = w := by
  have hl : u.data.toList.length ≤ 40 := hu
  have h := rof_any u.data.toList pathC 40 (by omega) (by decide) (by decide) w
  have hbs : bs u.data.toList = u := by apply ByteArray.ext; simp [bs]
  rw [of9_named _ hl, hbs] at h
  exact h
theorem eq_lit (u : ByteArray) (l : List UInt8) : (u.toList == l) = decide (u.data.toList = l) := by
  rw [← Lib.toList_data]
  by_cases h : u.toList = l
  · rw [decide_eq_true h]; simpa using h
  · rw [decide_eq_false h]; simpa using h
set_option maxRecDepth 100000 in
set_option maxHeartbeats 4000000 in
theorem rpath_any (s : ByteArray) (hs : s.size ≤ 1000) (w : World) : Calls Tryz.prog 41 #[.string s] w fun e w' => e = .returned (.bool (pathB s.data.toList)) ∧ w' = w := by
  have hs' : (s.size : Int) ≤ 1000 := by omega
  obtain ⟨R, hR⟩ : ∃ R, R = pathB s.data.toList := ⟨_, rfl⟩
  obtain ⟨S, hS⟩ : ∃ S, S = segsOk [] (s.data.toList.drop 1) := ⟨_, rfl⟩
  have HR := Lib.hid (show R = (decide (s.size ≤ 40) && (decide (s.data.toList.take 1 = [47]) && S)) by rw [hR, hS]; rfl)
  have HS := Lib.hid hS
  have h5 : s.data.toList.length = s.size := rfl
  have H5 := Lib.hid h5
  rw [← hR]
  clear hR hS h5
  by_cases h1 : s.size < 2
  · have HRF := Lib.hid (show R = false by
      rw [HR.out]
      have h5 := H5.out
      have hS := HS.out
      generalize s.data.toList = L at h5 hS ⊢
      match L, h5 with
      | [], _ => simp
      | [c], _ => rw [hS]; simp [segsOk, segOk, allN]
      | _ :: _ :: _, h => simp at h; omega)
    have d1 : decide ((s.size : Int) < 2) = true := by simp; omega
    go_enter Tryz.func41, Tryz.ntmps41
    go_wp2_with fail
    go_ret
    exact ⟨by rw [HRF.out]; rfl, rfl⟩
  · by_cases h2 : 40 < s.size
    · have HRF := Lib.hid (show R = false by rw [HR.out, decide_eq_false (by omega)]; rfl)
      have d1 : decide ((s.size : Int) < 2) = false := by simp; omega
      have d2 : decide ((s.size : Int) > 40) = true := by simp; omega
      have d3 : decide ((40 : Int) < (s.size : Int)) = true := by simp; omega
      go_enter Tryz.func41, Tryz.ntmps41
      go_wp2_with fail
      go_ret
      exact ⟨by rw [HRF.out]; rfl, rfl⟩
    · have d1 : decide ((s.size : Int) < 2) = false := by simp; omega
      have d2 : decide ((s.size : Int) > 40) = false := by simp; omega
      have d3 : decide ((40 : Int) < (s.size : Int)) = false := by simp; omega
      have h0 : 0 < s.size := by omega
      have HT1 := Lib.hid (show s.data.toList.take 1 = [s[0]] by
        have hl : 0 < s.data.toList.length := h0
        rw [show (1 : Nat) = 0 + 1 from rfl, List.take_succ_eq_append_getElem hl]
        rfl)
      by_cases h3 : ((s[0].toNat : Nat) : Int) = 47
      · have HRS := Lib.hid (show R = S by
          have hc : s[0] = 47 := UInt8.toNat_inj.1 (by have := h3; show s[0].toNat = 47; omega)
          rw [HR.out, decide_eq_true (show s.size ≤ 40 by omega), HT1.out, hc]
          simp)
        have HSZ := Lib.hid (show s.size ≤ 40 by omega)
        have CO := Lib.hid (fun (a k : Nat) => rofN_any (s.extract a k) (by have := HSZ.out; simp; omega) w)
        have HI0 := Lib.hid (show ∀ a k : Nat, a = 1 → k = 1 → S = segsOk (s.extract a k).data.toList (s.data.toList.drop k) from fun a k ha hk => by rw [ha, hk, ext_nil, HS.out])
        go_enter Tryz.func41, Tryz.ntmps41
        go_wp2_with fail
        go_loop [3, 4] (fun f i => ∃ a k : Nat, 1 ≤ a ∧ a ≤ k ∧ k ≤ s.size + 1 ∧ f = .int .i64 (a : Int) ∧ i = .int .i64 (k : Int) ∧ Hid ((k ≤ s.size → S = segsOk (s.extract a k).data.toList (s.data.toList.drop k)) ∧ (k = s.size + 1 → S = true))) (fun _ i => s.size + 1 - (intOf i).toNat)
        case atStart => exact ⟨1, 1, by omega, by omega, by omega, rfl, rfl, Lib.hid ⟨fun _ => HI0.out 1 1 rfl rfl, fun h => by omega⟩⟩
        case round =>
          obtain ⟨a, k, ha, hak, hk, rfl, rfl, HI⟩ := hrel
          by_cases hle : k ≤ s.size
          · have l1 : decide ((k : Int) ≤ (s.size : Int)) = true := by simp; omega
            have HSK := Lib.hid (HI.out.1 hle)
            by_cases hq : ∃ h : k < s.size, ((s[k].toNat : Nat) : Int) ≠ 47
            · obtain ⟨hlt, hq⟩ := hq
              have HNX := Lib.hid (show S = segsOk (s.extract a (k + 1)).data.toList (s.data.toList.drop (k + 1)) by
                have hl : k < s.data.toList.length := hlt
                rw [HSK.out, List.drop_eq_getElem_cons hl, segsOk, if_neg (fun e => hq (by rw [show s.data.toList[k] = s[k] from rfl] at e; rw [e]; rfl)), ext_next s hak hlt]
                rfl)
              have l2 : decide ((k : Int) < (s.size : Int)) = true := by simp; omega
              have l2' : (k : Int) < (s.size : Int) := by omega
              go_wp2_with fail
              go_round
              case rel => exact ⟨a, k + 1, ha, by omega, by omega, rfl, by go_num, Lib.hid ⟨fun _ => HNX.out, fun h => by omega⟩⟩
              case measure => simp [intOf]; omega
            · have i1 : (a : Int) ≤ (k : Int) := by omega
              have i2 : (k : Int) ≤ (s.size : Int) := by omega
              have i3 : (0 : Int) ≤ (a : Int) := by omega
              obtain ⟨u, hu⟩ : ∃ u, u = s.extract a k := ⟨_, rfl⟩
              obtain ⟨T, hT⟩ : ∃ T : Bool, T = (if k < s.size then segsOk [] (s.data.toList.drop (k + 1)) else true) := ⟨_, rfl⟩
              have HST := Lib.hid (show S = (segOk u.data.toList && T) by
                rw [HSK.out, hu, hT]
                by_cases hlt : k < s.size
                · have hl : k < s.data.toList.length := hlt
                  have hc : s[k] = 47 := UInt8.toNat_inj.1 (by
                    have : ((s[k].toNat : Nat) : Int) = 47 := Classical.byContradiction fun h => hq ⟨hlt, h⟩
                    show s[k].toNat = 47; omega)
                  rw [if_pos hlt, List.drop_eq_getElem_cons hl, segsOk, if_pos (show s.data.toList[k] = 47 from hc)]
                · rw [if_neg hlt, List.drop_of_length_le (by rw [H5.out]; omega), segsOk, Bool.and_true])
              have HNX := Lib.hid (show segOk u.data.toList = true → ((k + 1 ≤ s.size → S = segsOk (s.extract (k + 1) (k + 1)).data.toList (s.data.toList.drop (k + 1))) ∧ (k + 1 = s.size + 1 → S = true)) from fun h => by
                rw [HST.out, h, hT, Bool.true_and, ext_nil]
                exact ⟨fun h => by rw [if_pos (by omega)], fun h => by rw [if_neg (by omega)]⟩)
              have CU := Lib.hid (CO.out a k)
              rw [← hu] at CU
              have HSO := Lib.hid (show segOk u.data.toList = (allN u.data.toList && (!(u.toList == ([46] : List UInt8)) && !(u.toList == ([46, 46] : List UInt8)))) by
                rw [segOk, eq_lit, eq_lit]
                simp)
              obtain ⟨b, hb⟩ : ∃ b, b = allN u.data.toList := ⟨_, rfl⟩
              rw [← hb] at CU HSO
              obtain ⟨q1, hq1⟩ : ∃ q, (u.toList == ([46] : List UInt8)) = q := ⟨_, rfl⟩
              obtain ⟨q2, hq2⟩ : ∃ q, (u.toList == ([46, 46] : List UInt8)) = q := ⟨_, rfl⟩
              rw [hq1, hq2] at HSO
              have HEX := Lib.hid hu
              clear hb hT hu
              by_cases hlt : k < s.size
              · have l2 : decide ((k : Int) < (s.size : Int)) = true := by simp; omega
                have l2' : (k : Int) < (s.size : Int) := by omega
                have hs47 : ((s[k].toNat : Nat) : Int) = 47 := by
                  refine Classical.byContradiction fun h => hq ⟨hlt, h⟩
                clear hq
                go_wp2_with fail
                rw [show s.extract a k = u from HEX.out.symm]
                refine calls_then CU.out ?_
                rintro e w' ⟨rfl, rfl⟩
                cases b with
                | false =>
                  have HRF := Lib.hid (show R = false by rw [HRS.out, HST.out, HSO.out]; rfl)
                  go_wp2_with fail
                  go_ret
                  exact ⟨by rw [HRF.out]; rfl, rfl⟩
                | true =>
                  cases q1 with
                  | true =>
                    have HRF := Lib.hid (show R = false by rw [HRS.out, HST.out, HSO.out]; rfl)
                    go_wp2_with fail
                    go_ret
                    exact ⟨by rw [HRF.out]; rfl, rfl⟩
                  | false =>
                    cases q2 with
                    | true =>
                      have HRF := Lib.hid (show R = false by rw [HRS.out, HST.out, HSO.out]; rfl)
                      go_wp2_with fail
                      go_ret
                      exact ⟨by rw [HRF.out]; rfl, rfl⟩
                    | false =>
                      have HN2 := Lib.hid (HNX.out (by rw [HSO.out]; rfl))
                      go_wp2_with fail
                      go_round
                      case rel => exact ⟨k + 1, k + 1, by omega, by omega, by omega, by go_num, by go_num, HN2⟩
                      case measure => simp [intOf]; omega
              · have l2 : decide ((k : Int) < (s.size : Int)) = false := by simp; omega
                have l2' : ¬ (k : Int) < (s.size : Int) := by omega
                clear hq
                go_wp2_with fail
                rw [show s.extract a k = u from HEX.out.symm]
                refine calls_then CU.out ?_
                rintro e w' ⟨rfl, rfl⟩
                cases b with
                | false =>
                  have HRF := Lib.hid (show R = false by rw [HRS.out, HST.out, HSO.out]; rfl)
                  go_wp2_with fail
                  go_ret
                  exact ⟨by rw [HRF.out]; rfl, rfl⟩
                | true =>
                  cases q1 with
                  | true =>
                    have HRF := Lib.hid (show R = false by rw [HRS.out, HST.out, HSO.out]; rfl)
                    go_wp2_with fail
                    go_ret
                    exact ⟨by rw [HRF.out]; rfl, rfl⟩
                  | false =>
                    cases q2 with
                    | true =>
                      have HRF := Lib.hid (show R = false by rw [HRS.out, HST.out, HSO.out]; rfl)
                      go_wp2_with fail
                      go_ret
                      exact ⟨by rw [HRF.out]; rfl, rfl⟩
                    | false =>
                      have HN2 := Lib.hid (HNX.out (by rw [HSO.out]; rfl))
                      go_wp2_with fail
                      go_round
                      case rel => exact ⟨k + 1, k + 1, by omega, by omega, by omega, by go_num, by go_num, HN2⟩
                      case measure => simp [intOf]; omega
          · have l1 : decide ((k : Int) ≤ (s.size : Int)) = false := by simp; omega
            have l1' : ¬ (k : Int) ≤ (s.size : Int) := by omega
            have HRT := Lib.hid (show R = true by rw [HRS.out]; exact HI.out.2 (by omega))
            go_wp2_with fail
            go_ret
            exact ⟨by rw [HRT.out]; rfl, rfl⟩
      · have HRF := Lib.hid (show R = false by
          rw [HR.out, HT1.out, decide_eq_false (p := [s[0]] = [47]) (fun h => h3 (by injection h with h; rw [h]; rfl))]
          simp)
        clear HT1
        go_enter Tryz.func41, Tryz.ntmps41
        go_wp2_with fail
        go_ret
        exact ⟨by rw [HRF.out]; rfl, rfl⟩
theorem agent_short (s : ByteArray) (h : s.size < 8) : agentB s.data.toList = false := by
  unfold agentB
  by_cases h7 : s.data.toList.take 7 = agentT
  · have hl : s.data.toList.length = s.size := rfl
    have e : s.data.toList = agentT := by
      have : s.data.toList.take 7 = s.data.toList := List.take_of_length_le (by omega)
      rw [← this]; exact h7
    rw [e]
    decide
  · rw [decide_eq_false h7]; rfl
set_option maxRecDepth 100000 in
set_option maxHeartbeats 2000000 in
theorem ragent_any (s : ByteArray) (hs : s.size ≤ 1000) (w : World) : Calls Tryz.prog 22 #[.string s] w fun e w' => e = .returned (.bool (agentB s.data.toList)) ∧ w' = w := by
  have hs' : (s.size : Int) ≤ 1000 := by omega
  have CP := Lib.hid (rpath_any s hs w)
  have CI := Lib.hid (show Calls Tryz.prog 42 #[.int .u8 47, .string (s.extract 7 s.size)] w fun e w' => e = .returned (.bool (decide (47 ∈ s.data.toList.drop 7))) ∧ w' = w by
    have h5 : s.data.toList.length = s.size := rfl
    have h := rin_any 47 (s.data.toList.drop 7) (by rw [List.length_drop, h5]; omega) w
    have e : bs (s.data.toList.drop 7) = s.extract 7 s.size := by
      apply ByteArray.ext
      apply Array.ext'
      rw [Lib.extract_data]
      simp [bs]
      rw [List.take_of_length_le (by rw [List.length_drop]; simp)]
    rw [e] at h
    exact h)
  have HE := Lib.hid (show agentB s.data.toList = (((s.extract 0 7).toList == ([47, 97, 103, 101, 110, 116, 47] : List UInt8)) && (pathB s.data.toList && !decide (47 ∈ s.data.toList.drop 7))) by
    rw [eq_lit, Lib.extract_from_zero, agentB, decide_not]
    congr)
  have HF := Lib.hid (agent_short s)
  obtain ⟨R, hR⟩ : ∃ R, R = agentB s.data.toList := ⟨_, rfl⟩
  rw [← hR] at HE HF ⊢
  obtain ⟨P, hP⟩ : ∃ P, P = pathB s.data.toList := ⟨_, rfl⟩
  rw [← hP] at HE CP
  obtain ⟨M, hM⟩ : ∃ M, M = decide (47 ∈ s.data.toList.drop 7) := ⟨_, rfl⟩
  rw [← hM] at HE CI
  obtain ⟨q, hq⟩ : ∃ q, ((s.extract 0 7).toList == ([47, 97, 103, 101, 110, 116, 47] : List UInt8)) = q := ⟨_, rfl⟩
  rw [hq] at HE
  clear hR hP hM
  by_cases h8 : s.size < 8
  · have HRF := Lib.hid (HF.out h8)
    have d1 : decide ((s.size : Int) < 8) = true := by simp; omega
    clear hq
    go_enter Tryz.func22, Tryz.ntmps22
    go_wp2_with fail
    refine calls_then CP.out ?_
    rintro e w' ⟨rfl, rfl⟩
    cases P with
    | true =>
      go_wp2_with fail
      go_ret
      exact ⟨by rw [HRF.out]; rfl, rfl⟩
    | false =>
      go_wp2_with fail
      go_ret
      exact ⟨by rw [HRF.out]; rfl, rfl⟩
  · have d1 : decide ((s.size : Int) < 8) = false := by simp; omega
    have i7 : (7 : Int) ≤ (s.size : Int) := by omega
    go_enter Tryz.func22, Tryz.ntmps22
    go_wp2_with fail
    refine calls_then CP.out ?_
    rintro e w' ⟨rfl, rfl⟩
    cases P with
    | false =>
      have HRF := Lib.hid (show R = false by rw [HE.out]; simp)
      go_wp2_with fail
      go_ret
      exact ⟨by rw [HRF.out]; rfl, rfl⟩
    | true =>
      cases q with
      | false =>
        have HRF := Lib.hid (show R = false by rw [HE.out]; rfl)
        go_wp2_with fail
        go_ret
        exact ⟨by rw [HRF.out]; rfl, rfl⟩
      | true =>
        have HRM := Lib.hid (show R = !M by rw [HE.out]; rfl)
        go_wp2_with fail
        refine calls_then CI.out ?_
        rintro e w' ⟨rfl, rfl⟩
        go_wp2_with fail
        go_ret
        exact ⟨by rw [HRM.out]; rfl, rfl⟩
end Go.Proofs.YtpfnigndhkcknaaGreatDoor.Js
