/-
  Walk: the reference's bytes of a word.
-/
import Derived.Test.YtfpbcihpjcocmaaDoorRefX
import Derived.Test.YtfpbcihpjcocmaaDoorShaS
import Derived.Test.YtfpbcihpjcocmaaDoorSum32
namespace Go.Proofs.YtfpbcihpjcocmaaDoor
set_option linter.unusedSimpArgs false
set_option linter.unusedVariables false
open Go.RowKit

/-- so many bytes, of which the last ones are written -/
def backC (e : Nat) (ws : List UInt8) (j : Nat) : Array Value := (List.replicate (e - j) (Value.int .u8 0) ++ (bytesV ws).drop (e - j)).toArray
theorem backC_size (e : Nat) (ws : List UInt8) (j : Nat) (hw : ws.length = e) (hj : j ≤ e) : (backC e ws j).size = e := by
  have h : ((bytesV ws).drop (e - j)).length = j := by rw [List.length_drop, bytesV_length, hw]; omega
  rw [backC, List.size_toArray, List.length_append, List.length_replicate, h]; omega
theorem backC_end (e : Nat) (ws : List UInt8) : backC e ws e = (bytesV ws).toArray := by simp [backC]
theorem backC_set (e : Nat) (ws : List UInt8) (j i : Nat) (v : Value) (hw : ws.length = e) (hi : i + j + 1 = e) (hv : (bytesV ws)[i]? = some v) : (backC e ws j).setIfInBounds i v = backC e ws (j + 1) := by
  apply Array.ext'
  have h1 : e - j = i + 1 := by omega
  have h2 : e - (j + 1) = i := by omega
  have hlt : i < (bytesV ws).length := by simp [bytesV]; omega
  have hv2 : (bytesV ws)[i] = v := by rw [List.getElem?_eq_getElem hlt] at hv; exact Option.some.inj hv
  rw [Array.toList_setIfInBounds, backC, backC, h1, h2, List.drop_eq_getElem_cons hlt, hv2]
  simp only [List.replicate_succ', List.append_assoc]
  rw [List.set_append_right (s := List.replicate i (Value.int .u8 0)) _ _ (by simp)]
  simp
theorem backC_zero (e : Nat) (ws : List UInt8) (hw : ws.length = e) : backC e ws 0 = (List.replicate e (Value.int .u8 0)).toArray := by
  rw [backC, Nat.sub_zero, List.drop_of_length_le (by rw [bytesV_length, hw]; exact Nat.le_refl _), List.append_nil]
theorem wordB_get (b x : Nat) : ∀ (k i : Nat), i < k → (wordB b x k)[i]? = some (UInt8.ofNat (x / 2 ^ (b - 8 - 8 * i)))
  | k + 1, i, h => by
    rw [wordB, List.getElem?_append, wordB_length]
    split
    · rename_i h2; exact wordB_get b x k i h2
    · obtain rfl : i = k := by omega
      simp
structure ByStR (w0 : World) (gf : Nat) (cs : Array Value) (gw : Nat) (r : Array Value) (u : World) : Prop where
  bel : Below gf w0 u
  h : Blk u gf 38 cs
  row : Blk u gw 5 r
  lw : gf < gw
theorem ByStR.put {w u u' : World} {gf gw : Nat} {cs r r' : Array Value} (h : ByStR w gf cs gw r u) (hw : Wrote gw u u') (hb : Blk u' gw 5 r') : ByStR w gf cs gw r' u' :=
  ⟨hw.below h.bel (by have := h.lw; omega) (by have := h.h.lt; omega), hw.blk h.h (by have := h.lw; omega), hb, h.lw⟩
def BytesPost (bits x : Nat) (w : World) (e : Ending) (w' : World) : Prop :=
  ∃ g, e = .returned (.slice (some ⟨g, 0, none⟩) (bits / 8) (bits / 8)) ∧ w.heap.size ≤ g ∧ Blk w' g 5 (bytesV (wordB bits x (bits / 8))).toArray ∧ Below w.heap.size w w'
set_option maxRecDepth 100000 in
set_option maxHeartbeats 2000000 in
theorem bytes_any (bits steps : Nat) (a b c d k f : Value) (w : World) (hb : bits = 32 ∨ bits = 64) (x : Nat) (hx : x < 2 ^ bits) :
    Calls Tryd.prog 27 #[.agg (hC bits steps a b c d k f), .int .u64 x] w (BytesPost bits x w) := by
  have hbel := below_new w (.cells (hC bits steps a b c d k f) 38)
  have hblk := Blk.new w 38 (hC bits steps a b c d k f)
  have c0 := hblk.cell 0
  simp only [hC, List.getElem?_toArray, List.getElem?_cons_zero] at c0
  have hx64 : (x : Int) < 18446744073709551616 := by
    have : x < 2 ^ 64 := Nat.lt_of_lt_of_le hx (Nat.pow_le_pow_right (by omega) (by omega))
    omega
  have HBEL := Lib.hid hbel
  have HBLK := Lib.hid hblk
  obtain ⟨ie, hie, hez, hes, heb⟩ := info_parts (show (Tryd.prog.info? 5).map (fun i => (i.zero, i.size, i.bytes)) = some (some (.int .u8 0), 1, 1) by kernel_rfl)
  have hmk4 : ∀ u : World, (Instr.makeSlice 22 (.int .i64 4) (.int .i64 4)).run Tryd.prog u = .ok (.slice (some ⟨u.heap.size, 0, none⟩) 4 4) (u.alloc (.cells (List.replicate 4 (Value.int .u8 0)).toArray 5)) := fun _ => by kernel_rfl
  have hmk8 : ∀ u : World, (Instr.makeSlice 22 (.int .i64 8) (.int .i64 8)).run Tryd.prog u = .ok (.slice (some ⟨u.heap.size, 0, none⟩) 8 8) (u.alloc (.cells (List.replicate 8 (Value.int .u8 0)).toArray 5)) := fun _ => by kernel_rfl
  rw [hC] at *
  clear hbel hblk hx
  rcases hb with rfl | rfl
  · obtain ⟨ws, hws⟩ : ∃ ws, ws = wordB 32 x 4 := ⟨_, rfl⟩
    have hwl : ws.length = 4 := by rw [hws]; exact wordB_length _ _ _
    have HWS := Lib.hid hws
    have HWL := Lib.hid hwl
    clear hws hwl
    go_enter Tryd.func27, Tryd.ntmps27
    go_wp2_with fail
    obtain ⟨hs, hhs⟩ : ∃ hs : Array Value, hs = #[.int .i64 32, .int .i64 steps, a, b, c, d, k, f] := ⟨_, rfl⟩
    have hst0 : ByStR w w.heap.size hs (w.heap.size + 1) (backC 4 ws 0) ((w.alloc (.cells hs 38)).alloc (.cells (List.replicate 4 (Value.int .u8 0)).toArray 5)) := by
      rw [backC_zero _ _ HWL.out]
      exact ⟨(below_new _ _).alloc (by simp) _, (Blk.new _ _ _).alloc _, by have := Blk.new (w.alloc (.cells hs 38)) 5 (List.replicate 4 (Value.int .u8 0)).toArray; simpa using this, by omega⟩
    rw [hhs] at hst0
    generalize hgw : w.heap.size + 1 = gw at *
    generalize hgf : w.heap.size = gf at *
    have HGF := Lib.hid hgf
    have HGW := Lib.hid hgw
    clear hgf hgw c0 hmk4 hmk8 HBEL HBLK hhs hs
    go_loopw [1, 6] (fun v i wr => ∃ (j : Nat) (y : Nat), j ≤ 4 ∧ y = x / 2 ^ (8 * j) ∧ v = .int .u64 y ∧ i = .int .i64 ((4 : Int) - 1 - (j : Int)) ∧ ByStR w gf #[.int .i64 32, .int .i64 steps, a, b, c, d, k, f] gw (backC 4 ws j) wr) (fun _ i _ => (intOf i + 1).toNat)
    case atStart => exact ⟨0, x, by omega, by simp, rfl, rfl, hst0⟩
    case round =>
      obtain ⟨j, y, hj, hy, rfl, rfl, hst⟩ := hrel
      clear hst0
      have hyx : y ≤ x := by rw [hy]; exact Nat.div_le_self _ _
      have hy64 : (y : Int) < 18446744073709551616 := by omega
      by_cases hlt : j < 4
      · obtain ⟨ix, hix⟩ : ∃ ix : Nat, (4 : Int) - 1 - (j : Int) = (ix : Int) := ⟨4 - 1 - j, by omega⟩
        have hix2 : ix + j + 1 = 4 := by omega
        have hval : (bytesV ws)[ix]? = some (.int .u8 ((y % 256 : Nat) : Int)) := by
          rw [bytesV, List.getElem?_map, HWS.out, wordB_get _ _ _ _ (by omega)]
          simp only [Option.map_some, byteV]
          rw [show 32 - 8 - 8 * ix = 8 * j by omega, ← hy]
          simp
        have hset := backC_set 4 ws j ix _ HWL.out hix2 hval
        have hsz := backC_size 4 ws j HWL.out hj
        have hnx : x / 2 ^ (8 * (j + 1)) = y / 256 := by rw [hy, show 8 * (j + 1) = 8 * j + 8 by omega, Nat.pow_add, ← Nat.div_div_eq_div_mul]
        rw [hix]
        have dcell := hst.row.cell ix
        obtain ⟨ov, hov⟩ : ∃ ov, (backC 4 ws j)[ix]? = some ov := ⟨_, Array.getElem?_eq_getElem (by omega)⟩
        rw [hov] at dcell
        have dfree := hst.row.free ix
        have hixl : (ix : Int) < 4 := by omega
        have HSET := Lib.hid hset
        have HNX := Lib.hid hnx
        have HST := Lib.hid hst
        have HIX := Lib.hid hix
        have HIX2 := Lib.hid hix2
        clear hset hnx hst hix hix2 hval hy hsz hov
        go_wp2_with fail
        refine ⟨⟨j + 1, y / 256, by omega, by rw [HNX.out], by go_num, by have := HIX.out; exact congrArg (Value.int .i64) (by omega), ?_⟩, by simp [intOf]⟩
        refine HST.out.put (wrote_setCell_at _ _ _ _) ?_
        have h := blk_setCell_at (i := ix) HST.out.row (.int .u8 ((y % 256 : Nat) : Int))
        rw [HSET.out] at h
        exact h
      · obtain rfl : j = 4 := by omega
        rw [backC_end] at hst
        have HST := Lib.hid hst
        clear hst hy
        go_wp2_with fail
        go_ret
        refine ⟨gw, rfl, by rw [HGF.out, ← HGW.out]; omega, ?_, by rw [HGF.out]; exact HST.out.bel⟩
        have h := HST.out.row
        rw [HWS.out] at h
        exact h
  · obtain ⟨ws, hws⟩ : ∃ ws, ws = wordB 64 x 8 := ⟨_, rfl⟩
    have hwl : ws.length = 8 := by rw [hws]; exact wordB_length _ _ _
    have HWS := Lib.hid hws
    have HWL := Lib.hid hwl
    clear hws hwl
    go_enter Tryd.func27, Tryd.ntmps27
    go_wp2_with fail
    obtain ⟨hs, hhs⟩ : ∃ hs : Array Value, hs = #[.int .i64 64, .int .i64 steps, a, b, c, d, k, f] := ⟨_, rfl⟩
    have hst0 : ByStR w w.heap.size hs (w.heap.size + 1) (backC 8 ws 0) ((w.alloc (.cells hs 38)).alloc (.cells (List.replicate 8 (Value.int .u8 0)).toArray 5)) := by
      rw [backC_zero _ _ HWL.out]
      exact ⟨(below_new _ _).alloc (by simp) _, (Blk.new _ _ _).alloc _, by have := Blk.new (w.alloc (.cells hs 38)) 5 (List.replicate 8 (Value.int .u8 0)).toArray; simpa using this, by omega⟩
    rw [hhs] at hst0
    generalize hgw : w.heap.size + 1 = gw at *
    generalize hgf : w.heap.size = gf at *
    have HGF := Lib.hid hgf
    have HGW := Lib.hid hgw
    clear hgf hgw c0 hmk4 hmk8 HBEL HBLK hhs hs
    go_loopw [1, 6] (fun v i wr => ∃ (j : Nat) (y : Nat), j ≤ 8 ∧ y = x / 2 ^ (8 * j) ∧ v = .int .u64 y ∧ i = .int .i64 ((8 : Int) - 1 - (j : Int)) ∧ ByStR w gf #[.int .i64 64, .int .i64 steps, a, b, c, d, k, f] gw (backC 8 ws j) wr) (fun _ i _ => (intOf i + 1).toNat)
    case atStart => exact ⟨0, x, by omega, by simp, rfl, rfl, hst0⟩
    case round =>
      obtain ⟨j, y, hj, hy, rfl, rfl, hst⟩ := hrel
      clear hst0
      have hyx : y ≤ x := by rw [hy]; exact Nat.div_le_self _ _
      have hy64 : (y : Int) < 18446744073709551616 := by omega
      by_cases hlt : j < 8
      · obtain ⟨ix, hix⟩ : ∃ ix : Nat, (8 : Int) - 1 - (j : Int) = (ix : Int) := ⟨8 - 1 - j, by omega⟩
        have hix2 : ix + j + 1 = 8 := by omega
        have hval : (bytesV ws)[ix]? = some (.int .u8 ((y % 256 : Nat) : Int)) := by
          rw [bytesV, List.getElem?_map, HWS.out, wordB_get _ _ _ _ (by omega)]
          simp only [Option.map_some, byteV]
          rw [show 64 - 8 - 8 * ix = 8 * j by omega, ← hy]
          simp
        have hset := backC_set 8 ws j ix _ HWL.out hix2 hval
        have hsz := backC_size 8 ws j HWL.out hj
        have hnx : x / 2 ^ (8 * (j + 1)) = y / 256 := by rw [hy, show 8 * (j + 1) = 8 * j + 8 by omega, Nat.pow_add, ← Nat.div_div_eq_div_mul]
        rw [hix]
        have dcell := hst.row.cell ix
        obtain ⟨ov, hov⟩ : ∃ ov, (backC 8 ws j)[ix]? = some ov := ⟨_, Array.getElem?_eq_getElem (by omega)⟩
        rw [hov] at dcell
        have dfree := hst.row.free ix
        have hixl : (ix : Int) < 8 := by omega
        have HSET := Lib.hid hset
        have HNX := Lib.hid hnx
        have HST := Lib.hid hst
        have HIX := Lib.hid hix
        have HIX2 := Lib.hid hix2
        clear hset hnx hst hix hix2 hval hy hsz hov
        go_wp2_with fail
        refine ⟨⟨j + 1, y / 256, by omega, by rw [HNX.out], by go_num, by have := HIX.out; exact congrArg (Value.int .i64) (by omega), ?_⟩, by simp [intOf]⟩
        refine HST.out.put (wrote_setCell_at _ _ _ _) ?_
        have h := blk_setCell_at (i := ix) HST.out.row (.int .u8 ((y % 256 : Nat) : Int))
        rw [HSET.out] at h
        exact h
      · obtain rfl : j = 8 := by omega
        rw [backC_end] at hst
        have HST := Lib.hid hst
        clear hst hy
        go_wp2_with fail
        go_ret
        refine ⟨gw, rfl, by rw [HGF.out, ← HGW.out]; omega, ?_, by rw [HGF.out]; exact HST.out.bel⟩
        have h := HST.out.row
        rw [HWS.out] at h
        exact h
end Go.Proofs.YtfpbcihpjcocmaaDoor
