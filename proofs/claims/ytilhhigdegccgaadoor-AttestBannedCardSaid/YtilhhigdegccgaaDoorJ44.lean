/-
  Joined texts: Spl Id4 Kin.
-/
import Derived.Test.YtilhhigdegccgaaDoorProg
import Derived.Shelf.Strings.Split
import Derived.RangeFuncBox
import Derived.RangeFuncNested
import Derived.RangeFuncBound
import Derived.RangeFuncCalls
import Derived.RangeFuncLeaves
import Derived.Shelf.RegionOpen
import Derived.OwnWalkIn
import Derived.TacticsInMore
import Derived.LoopNIn
import Derived.LoopIn
import Derived.Shelf.Abstract
import Derived.Test.YtilhhigdegccgaaDoorJ43
import Derived.Test.YtilhhigdegccgaaDoorJ5
import Derived.Test.YtilhhigdegccgaaDoorJ6
/-
  strings.Split's and strings.Contains' contracts lie at this seat (printed by the kit's lay-plain over gen/split13.py; the numbers are this seat's).
-/
namespace Go.Proofs.YtilhhigdegccgaaDoor
open Go.Shelf Go.Proofs
def splitL_ren : Go.Shelf.Ren := ⟨fun | 146 => 69 | 221 => 81 | 268 => 92 | 138 => 93 | 143 => 51 | 195 => 97 | 197 => 98 | 218 => 99 | 219 => 71 | 260 => 100 | 217 => 84 | 225 => 85 | 224 => 86 | 267 => 87 | 266 => 94 | 314 => 95 | n => n, fun | 9 => 9 | 31 => 28 | 3 => 3 | 4 => 4 | 0 => 0 | 105 => 132 | 21 => 21 | 5 => 5 | 46 => 122 | 119 => 134 | 139 => 137 | 138 => 136 | 146 => 128 | 51 => 127 | n => n, fun | 1 => 0 | 3 => 1 | 4 => 2 | n => n⟩
theorem splitL : Go.Proofs.Lays.n146 Tryd.prog splitL_ren := {
  mixed := by kernel_rfl
  f138 := Tryd.func93.trans (congrArg some (by kernel_rfl))
  f143 := Tryd.func51.trans (congrArg some (by kernel_rfl))
  f146 := Tryd.func69.trans (congrArg some (by kernel_rfl))
  f195 := Tryd.func97.trans (congrArg some (by kernel_rfl))
  f197 := Tryd.func98.trans (congrArg some (by kernel_rfl))
  f217 := Tryd.func84.trans (congrArg some (by kernel_rfl))
  f218 := Tryd.func99.trans (congrArg some (by kernel_rfl))
  f219 := Tryd.func71.trans (congrArg some (by kernel_rfl))
  f221 := Tryd.func81.trans (congrArg some (by kernel_rfl))
  f224 := Tryd.func86.trans (congrArg some (by kernel_rfl))
  f225 := Tryd.func85.trans (congrArg some (by kernel_rfl))
  f260 := Tryd.func100.trans (congrArg some (by kernel_rfl))
  f266 := Tryd.func94.trans (congrArg some (by kernel_rfl))
  f267 := Tryd.func87.trans (congrArg some (by kernel_rfl))
  f268 := Tryd.func92.trans (congrArg some (by kernel_rfl))
  f314 := Tryd.func95.trans (congrArg some (by kernel_rfl))
  t0 := Tryd.underlying0
  a0 := Tryd.isAgg0
  z0 := Tryd.sizeOf0
  v0 := Tryd.zeroValue0
  t3 := Tryd.underlying3
  a3 := Tryd.isAgg3
  z3 := Tryd.sizeOf3
  v3 := Tryd.zeroValue3
  t4 := Tryd.underlying4
  a4 := Tryd.isAgg4
  z4 := Tryd.sizeOf4
  v4 := Tryd.zeroValue4
  t5 := Tryd.underlying5
  a5 := Tryd.isAgg5
  z5 := Tryd.sizeOf5
  v5 := Tryd.zeroValue5
  t9 := Tryd.underlying9
  a9 := Tryd.isAgg9
  z9 := Tryd.sizeOf9
  v9 := Tryd.zeroValue9
  t21 := Tryd.underlying21
  a21 := Tryd.isAgg21
  z21 := Tryd.sizeOf21
  v21 := Tryd.zeroValue21
  t31 := Tryd.underlying28
  a31 := Tryd.isAgg28
  z31 := Tryd.sizeOf28
  v31 := Tryd.zeroValue28
  t46 := Tryd.underlying122
  a46 := Tryd.isAgg122
  z46 := Tryd.sizeOf122
  v46 := Tryd.zeroValue122
  t51 := Tryd.underlying127
  a51 := Tryd.isAgg127
  z51 := Tryd.sizeOf127
  v51 := Tryd.zeroValue127
  t105 := Tryd.underlying132
  a105 := Tryd.isAgg132
  z105 := Tryd.sizeOf132
  v105 := Tryd.zeroValue132
  t119 := Tryd.underlying134
  a119 := Tryd.isAgg134
  z119 := Tryd.sizeOf134
  t138 := Tryd.underlying136
  a138 := Tryd.isAgg136
  z138 := Tryd.sizeOf136
  v138 := Tryd.zeroValue136
  t139 := Tryd.underlying137
  a139 := Tryd.isAgg137
  z139 := Tryd.sizeOf137
  v139 := Tryd.zeroValue137
  t146 := Tryd.underlying128
  a146 := Tryd.isAgg128
  z146 := Tryd.sizeOf128
  v146 := Tryd.zeroValue128
  g1 := by kernel_rfl
  g3 := by kernel_rfl
  g4 := by kernel_rfl }
def contL_ren : Go.Shelf.Ren := ⟨fun | 144 => 35 | 143 => 51 | 219 => 71 | 217 => 84 | 225 => 85 | 224 => 86 | 267 => 87 | 266 => 94 | 314 => 95 | n => n, fun | 9 => 9 | 4 => 4 | 3 => 3 | 5 => 5 | 46 => 122 | 146 => 128 | 51 => 127 | n => n, fun | 1 => 0 | n => n⟩
theorem contL : Go.Proofs.Lays.n144 Tryd.prog contL_ren := {
  mixed := by kernel_rfl
  f143 := Tryd.func51.trans (congrArg some (by kernel_rfl))
  f144 := Tryd.func35.trans (congrArg some (by kernel_rfl))
  f217 := Tryd.func84.trans (congrArg some (by kernel_rfl))
  f219 := Tryd.func71.trans (congrArg some (by kernel_rfl))
  f224 := Tryd.func86.trans (congrArg some (by kernel_rfl))
  f225 := Tryd.func85.trans (congrArg some (by kernel_rfl))
  f266 := Tryd.func94.trans (congrArg some (by kernel_rfl))
  f267 := Tryd.func87.trans (congrArg some (by kernel_rfl))
  f314 := Tryd.func95.trans (congrArg some (by kernel_rfl))
  t3 := Tryd.underlying3
  a3 := Tryd.isAgg3
  z3 := Tryd.sizeOf3
  v3 := Tryd.zeroValue3
  t4 := Tryd.underlying4
  a4 := Tryd.isAgg4
  z4 := Tryd.sizeOf4
  v4 := Tryd.zeroValue4
  t5 := Tryd.underlying5
  a5 := Tryd.isAgg5
  z5 := Tryd.sizeOf5
  v5 := Tryd.zeroValue5
  t9 := Tryd.underlying9
  a9 := Tryd.isAgg9
  z9 := Tryd.sizeOf9
  v9 := Tryd.zeroValue9
  t46 := Tryd.underlying122
  a46 := Tryd.isAgg122
  z46 := Tryd.sizeOf122
  v46 := Tryd.zeroValue122
  t51 := Tryd.underlying127
  a51 := Tryd.isAgg127
  z51 := Tryd.sizeOf127
  v51 := Tryd.zeroValue127
  t146 := Tryd.underlying128
  a146 := Tryd.isAgg128
  z146 := Tryd.sizeOf128
  v146 := Tryd.zeroValue128
  g1 := by kernel_rfl }
end Go.Proofs.YtilhhigdegccgaaDoor
/-
  Walks: strings.HasPrefix, strings.CutPrefix; ids.segments, an iterator over a path's segments.
-/
namespace Go.Proofs.YtilhhigdegccgaaDoor.Js
set_option linter.unusedSimpArgs false
set_option linter.unusedVariables false
open Go.RowKit Go.Shelf
attribute [local go_sem] Oper.semAt_some
set_option maxHeartbeats 1000000 in
theorem hasq_any (s p : ByteArray) (w : World) :
    Calls Tryd.prog 67 #[.string s, .string p] w fun e w' => e = .returned (.bool (p.data.toList.isPrefixOf s.data.toList)) ∧ w' = w := by
  show Calls Tryd.prog 67 #[.string s, .string p] w fun e w' => e = .returned (.bool (Lib.hasPrefix s.data.toList p.data.toList)) ∧ w' = w
  rw [← Lib.hasPrefix_of_take, ← Lib.size_eq, ← Lib.size_eq]
  go_enter Tryd.func67, Tryd.ntmps67
  go_wp2
  · rename_i h
    go_ret
    refine ⟨?_, rfl⟩
    show Ending.returned (Value.bool ((s.extract 0 p.size).toList == p.toList)) = _
    rw [Lib.extract_toList, Lib.toList_data]
    simp [h]
  · rename_i h
    go_ret
    refine ⟨?_, rfl⟩
    show Ending.returned (Value.bool false) = _
    simp [h]
theorem hasp9_any (s p : ByteArray) (w : World) :
    Calls Tryd.prog 47 #[.string s, .string p] w fun e w' => e = .returned (.bool (p.data.toList.isPrefixOf s.data.toList)) ∧ w' = w := by
  have C := Lib.hid (hasq_any s p w)
  obtain ⟨q, hq⟩ : ∃ q, q = p.data.toList.isPrefixOf s.data.toList := ⟨_, rfl⟩
  rw [← hq] at C ⊢
  clear hq
  go_enter Tryd.func47, Tryd.ntmps47
  go_wp2_with (go_at_call 67; refine calls_then C.out ?_; rintro e w' ⟨rfl, rfl⟩)
  go_ret
  exact ⟨rfl, rfl⟩
def cutP (s p : ByteArray) : ByteArray := if p.data.toList.isPrefixOf s.data.toList = true then s.extract p.size s.size else s
theorem cutq_any (s p : ByteArray) (w : World) :
    Calls Tryd.prog 46 #[.string s, .string p] w fun e w' => e = .returned (.tuple #[.string (cutP s p), .bool (p.data.toList.isPrefixOf s.data.toList)]) ∧ w' = w := by
  have C := Lib.hid (hasq_any s p w)
  have HE := Lib.hid (show cutP s p = if p.data.toList.isPrefixOf s.data.toList = true then s.extract p.size s.size else s from rfl)
  have HL := Lib.hid (show p.data.toList.isPrefixOf s.data.toList = true → p.size ≤ s.size from fun h => (List.isPrefixOf_iff_prefix.1 h).length_le)
  obtain ⟨q, hq⟩ : ∃ q, q = p.data.toList.isPrefixOf s.data.toList := ⟨_, rfl⟩
  obtain ⟨R, hR⟩ : ∃ R, R = cutP s p := ⟨_, rfl⟩
  rw [← hR] at HE ⊢
  rw [← hq] at C HE HL ⊢
  clear hq hR
  go_enter Tryd.func46, Tryd.ntmps46
  cases q with
  | false =>
    have HR := Lib.hid (show R = s from HE.out)
    go_wp2_with (go_at_call 67; refine calls_then C.out ?_; rintro e w' ⟨rfl, rfl⟩)
    go_ret2
    exact ⟨by rw [HR.out]; rfl, rfl⟩
  | true =>
    have HR := Lib.hid (show R = s.extract p.size s.size from HE.out)
    have h1 := HL.out rfl
    have h2 : (p.size : Int) ≤ (s.size : Int) := by omega
    go_wp2_with (go_at_call 67; refine calls_then C.out ?_; rintro e w' ⟨rfl, rfl⟩)
    go_ret2
    exact ⟨by rw [HR.out]; rfl, rfl⟩
theorem cutp_any (s p : ByteArray) (w : World) :
    Calls Tryd.prog 33 #[.string s, .string p] w fun e w' => e = .returned (.tuple #[.string (cutP s p), .bool (p.data.toList.isPrefixOf s.data.toList)]) ∧ w' = w := by
  have C := Lib.hid (cutq_any s p w)
  obtain ⟨q, hq⟩ : ∃ q, q = p.data.toList.isPrefixOf s.data.toList := ⟨_, rfl⟩
  obtain ⟨R, hR⟩ : ∃ R, R = cutP s p := ⟨_, rfl⟩
  rw [← hR, ← hq] at C ⊢
  clear hq hR
  go_enter Tryd.func33, Tryd.ntmps33
  go_wp2_with (go_at_call 46; refine calls_then C.out ?_; rintro e w' ⟨rfl, rfl⟩)
  go_ret2
  exact ⟨rfl, rfl⟩
theorem segments_any (s : ByteArray) (w : World) :
    Calls Tryd.prog 48 #[.string s] w (fun e w' => e = .returned (.func (.func 68) #[] #[.pointer (some ⟨w.heap.size, 0, none⟩)]) ∧ w' = w.alloc (.cells #[.string s] 9)) := by
  go_enter Tryd.func48, Tryd.ntmps48
  go_wp2
  go_ret
  exact ⟨rfl, rfl⟩
def KC (A B : World) : Prop := A.heap.size ≤ B.heap.size ∧ ∀ (k : Nat) (cs : Array Value) (t : TypeId) (f : Nat × Nat), A.heap[k]? = some (.cells cs t f) → B.heap[k]? = some (.cells cs t f)
theorem KC.refl (A : World) : KC A A := ⟨Nat.le_refl _, fun _ _ _ _ h => h⟩
theorem kc_t {A B C : World} (h : KC A B) (k : KC B C) : KC A C := ⟨Nat.le_trans h.1 k.1, fun i cs t f hi => k.2 i cs t f (h.2 i cs t f hi)⟩
theorem kc_b {w : World} (W : World) (l : Nat) (o o' : Obj) (hl : w.heap.size ≤ l) (h : W.heap[l]? = some o) (hc : o.isCells = false) (_ : o.isWalk = false) : KC W (W.putObj l o') :=
  have hg := grownBy_putObj' W l o'
  ⟨hg.size, fun i cs t f hi => (hg.block i (Array.getElem?_eq_some_iff.1 hi).1 (fun e => by
    cases e
    rw [hi] at h
    cases h
    cases hc)).trans hi⟩
theorem KC.blk {A B : World} {g : Nat} {t : TypeId} {cs : Array Value} (h : KC A B) (hb : Blk A g t cs) : Blk B g t cs := h.2 g cs t (0, 0) hb
def segL (s : ByteArray) : List ByteArray := (Lib.splitB ⟨#[47]⟩ 0 (Lib.countB s ⟨#[47]⟩) s).tail
def fixS (u : ByteArray) : ByteArray := if u.size ≤ 1000 then u else ⟨#[]⟩
theorem fixS_size (u : ByteArray) : (fixS u).size ≤ 1000 := by
  unfold fixS
  split
  · assumption
  · show 0 ≤ 1000; omega
theorem fixS_eq {u : ByteArray} (h : u.size ≤ 1000) : fixS u = u := if_pos h
theorem splitB_size (sep : ByteArray) : ∀ (k : Nat) (s u : ByteArray), u ∈ Lib.splitB sep 0 k s → u.size ≤ s.size
  | 0, s, u, h => by
    rw [Lib.splitB_zero, List.mem_singleton] at h
    rw [h]; exact Nat.le_refl _
  | k + 1, s, u, h => by
    unfold Lib.splitB at h
    split at h
    · rw [List.mem_singleton] at h
      rw [h]; exact Nat.le_refl _
    · rcases List.mem_cons.1 h with h | h
      · rw [h, ByteArray.size_extract]; omega
      · have := splitB_size sep k _ u h
        rw [ByteArray.size_extract] at this
        omega
theorem segL_size {s u : ByteArray} (h : u ∈ segL s) : u.size ≤ s.size := splitB_size _ _ _ _ (List.mem_of_mem_tail h)
theorem grown_of_below9 {w w1 : World} (h : Below w.heap.size w w1) : w.grownBy w1 none := ⟨h.os, h.tape, h.output, h.size, fun k hk _ => h.block k hk⟩
theorem max_global : splitL_ren.g 1 = 0 := by decide
set_option maxRecDepth 100000 in
set_option maxHeartbeats 4000000 in
theorem segs_stops (n : Nat) (hn : 1 ≤ n) (s : ByteArray) (hs : s.size ≤ 1000) (m : Int) (bl : Nat) (w : World) (cl : Blk w bl 9 #[.string s]) (hm : w.cell? ⟨0, 0, none⟩ = some (.int .i64 m)) :
    SeqStopsK Fence.wide n Tryd.prog 68 #[.pointer (some ⟨bl, 0, none⟩)] (fun u : ByteArray => #[.string (fixS u)]) KC (fun ys => ys = segL s) (fun pre => pre <+: segL s) 1001 w := fun lp J Jx W hW hJ hJx hY h0 => by
  have c0 : W.cell? ⟨bl, 0, none⟩ = some (.string s) := (cl.below hW cl.lt).cell 0
  have hm' : W.cell? ⟨splitL_ren.g 1, 0, none⟩ = some (.int .i64 m) := by rw [max_global]; exact (hW.cell (World.block_lt_of_cell? w _ hm)).trans hm
  have SP := Lib.hid (Any.strings_Split splitL (by kernel_rfl) s ⟨#[47]⟩ m W (by omega) hm' (by decide))
  obtain ⟨k, hk⟩ : ∃ k, k = Lib.countB s ⟨#[47]⟩ := ⟨_, rfl⟩
  obtain ⟨L, hL⟩ : ∃ L, L = Lib.splitB ⟨#[47]⟩ 0 k s := ⟨_, rfl⟩
  have HLL := Lib.hid (show L.length = k + 1 by rw [hL]; exact Lib.splitB_all ⟨#[47]⟩ (by decide) 0 k s hk.symm)
  have HKL := Lib.hid (show k ≤ 1000 by have := Lib.countB_le ⟨#[47]⟩ (by decide) s.size s (Nat.le_refl _); omega)
  obtain ⟨T, hT⟩ : ∃ T, T = segL s := ⟨_, rfl⟩
  have HSS := Lib.hid (show ∀ u ∈ T, u.size ≤ s.size from fun u hu => segL_size (by rw [← hT]; exact hu))
  have HTL := Lib.hid (show T = L.tail by rw [hT, segL, ← hk, ← hL])
  have HTK := Lib.hid (show T.length = k by rw [HTL.out, List.length_tail, HLL.out]; rfl)
  rw [← hk, ← hL] at SP
  rw [← hT]
  obtain ⟨W1, hW1⟩ : ∃ W1, W1 = W.alloc (.cells (L.map Value.string).toArray 9) := ⟨_, rfl⟩
  have HW1 := Lib.hid hW1
  have HB1 := Lib.hid (show Blk W1 W.heap.size 9 (L.map Value.string).toArray by rw [hW1]; exact Blk.new _ _ _)
  have HJ1 := Lib.hid (show J [] W1 from hJ _ W W1 none h0 (by rw [hW1]; exact grown_of_below9 ((Below.refl _ W).alloc (Nat.le_refl _) _)) (by simp))
  have HSP := Lib.hid (show Calls Tryd.prog 69 #[.string s, .string ⟨#[47]⟩] W (fun e w' => e = .returned (.slice (some ⟨W.heap.size, 0, none⟩) (k + 1) (k + 1)) ∧ w' = W1) by rw [hW1]; exact SP.out)
  have HYY := Lib.hid hY
  clear hW1 hk hL hT SP hm hm' cl h0 hY
  refine callsIn_of_wp Tryd.func68 rfl trivial ?_ rfl
  simp only [Tryd.ntmps68, List.size_toArray, List.length_cons, List.length_nil, Nat.reduceAdd, Nat.reduceSub, Array.replicate_succ, Array.replicate_zero, List.push_toArray, List.append_toArray, List.nil_append, List.cons_append]
  have i1 : (1 : Int) ≤ ((k + 1 : Nat) : Int) := by omega
  by_cases hk0 : k = 0
  · have HT0 := Lib.hid (show T = [] from List.length_eq_zero_iff.1 (by rw [HTK.out]; exact hk0))
    subst hk0
    gi_wp2
    refine ⟨trivial, (callsIn_wide.2 HSP.out).mono ?_⟩
    rintro e w' ⟨rfl, hw'⟩
    rw [hw']
    clear hw'
    gi_wp2
    gi_loopw [9] (fun i wr => i = .int .i64 0 ∧ wr = W1) (fun _ _ => 0)
    case atStart => exact ⟨rfl, rfl⟩
    case round =>
      obtain ⟨rfl, rfl⟩ := hrel
      gi_wp2
      go_end0
      exact ⟨⟨_, rfl⟩, .inl ⟨_, HT0.out.symm, HJ1.out⟩⟩
  · gi_wp2
    refine ⟨trivial, (callsIn_wide.2 HSP.out).mono ?_⟩
    rintro e w' ⟨rfl, hw'⟩
    rw [hw']
    clear hw'
    gi_wp2
    gi_loopw [9] (fun i wr => ∃ j : Nat, j ≤ k ∧ i = .int .i64 (j : Int) ∧ J (T.take j) wr ∧ KC W1 wr) (fun i _ => k - (intOf i).toNat)
    case atStart => exact ⟨0, Nat.zero_le _, rfl, by rw [List.take_zero]; exact HJ1.out, KC.refl _⟩
    case round =>
      clear c0
      obtain ⟨j, hj, rfl, hJs, hkc⟩ := hrel
      have HKC := Lib.hid hkc
      have HJS := Lib.hid hJs
      clear hkc
      by_cases hlt : j < k
      · have hlt' : (j : Int) < (k : Int) := by omega
        have hjt : j < T.length := by rw [HTK.out]; exact hlt
        obtain ⟨X, hX⟩ : ∃ X, X = T[j] := ⟨_, rfl⟩
        have hcell : wr.cell? ⟨W.heap.size, 1 + j, none⟩ = some (.string X) := by
          have h := (HKC.out.blk HB1.out).cell (1 + j)
          have hl : 1 + j < L.length := by rw [HLL.out]; omega
          rw [show (L.map Value.string).toArray[1 + j]? = some (.string L[1 + j]) by simp [hl]] at h
          have e : X = L[1 + j] := by
            rw [hX]
            have ht := HTL.out
            subst ht
            simp [List.getElem_tail, Nat.add_comm]
          rw [e]
          exact h
        have HTN := Lib.hid (show T.take (j + 1) = T.take j ++ [X] by rw [List.take_succ_eq_append_getElem hjt, hX])
        have HPF := Lib.hid (show T.take j ++ [X] <+: T by rw [← HTN.out]; exact List.take_prefix _ _)
        have HYX := HYY.out _ X wr hJs (by rw [List.length_take]; have := HKL.out; omega)
        rw [fixS_eq (Nat.le_trans (HSS.out X (by rw [hX]; exact List.getElem_mem _)) hs)] at HYX
        obtain ⟨fn, tmps, assign, body, hy, hR⟩ := HYX
        clear hX hjt hJs
        have HLT := Lib.hid hlt
        have hk9 := HKL.out
        gi_wp2
        refine hR.mono ?_
        rintro e W3 (⟨rfl, hJ3, hk3⟩ | ⟨rfl, hJx3⟩)
        · gi_wp2
          go_roundw
          case rel => exact ⟨j + 1, HLT.out, by simp, by rw [HTN.out]; exact hJ3, kc_t HKC.out hk3⟩
          case measure => have := HLT.out; simp [intOf]; omega
        · gi_wp2
          refine bodyPost_ret (results_none rfl _ _ _) rfl ?_
          exact ⟨⟨_, rfl⟩, .inr ⟨_, HPF.out, hJx3⟩⟩
      · obtain rfl : j = k := by omega
        have HALL := Lib.hid (show T.take j = T from List.take_of_length_le (by rw [HTK.out]; exact Nat.le_refl _))
        gi_wp2
        go_end0
        exact ⟨⟨_, rfl⟩, .inl ⟨_, HALL.out, HJS.out⟩⟩
end Go.Proofs.YtilhhigdegccgaaDoor.Js
/-
  Laws of my own within a fence: whole structs loaded and stored; a guard that holds; results in two boxes.
-/
namespace Go.Proofs.YtilhhigdegccgaaDoor
set_option linter.unusedSimpArgs false
set_option linter.unusedVariables false
open Go.RowKit Go.Shelf
section
variable {P : Program} {F : Fence} {n : Nat} {w : World} {ops : Array Oper} {rest : List Oper} {o : Oper} {a : Act} {Q : Exit → Act → World → Prop}
theorem wpListIn_put_cell {ty : TypeId} {x y : Operand} {g i : Nat} {v : Value} {cs : Array Value} {t : TypeId}
    (hg : Blk w g t cs) (hgd : o.guard = none) (ho : o.op = .store ty x y) (hx : a.eval x = .pointer (some ⟨g, i, none⟩)) (hy : a.eval y = v)
    (hi : (P.info? ty).map (·.size) = some 1) (hlt : i < cs.size) (h1 : v.oneCell' = true)
    (h : ∀ w', Blk w' g t (cs.setIfInBounds i v) → Wrote g w w' → w' = w.setRow g (cs.setIfInBounds i v) → wpListIn F n P ops Q rest (a.put o.dst undef) w') : wpListIn F n P ops Q (o :: rest) a w := by
  refine wpListIn_plain hgd fun K hK => ?_
  have hr := run_store_cell (P := P) (ty := ty) hg hi hlt h1
  unfold Oper.wpIn
  refine ⟨by simp [Oper.about, ho], ?_⟩
  rw [Oper.semAt_plain F _ _ (by rw [ho]; intro c hc'; cases hc')]
  simp only [execOp, ho, hx, hy, Instr.storeAt, Instr.sureAddr, Sem.run_bind, Sem.run_pure, Result.andThen_ok, hr]
  exact hK _ _ (h _ (setRow_heap w g cs _ t (0, 0) hg) (wrote_setRow w g _) rfl)
end
end Go.Proofs.YtilhhigdegccgaaDoor
