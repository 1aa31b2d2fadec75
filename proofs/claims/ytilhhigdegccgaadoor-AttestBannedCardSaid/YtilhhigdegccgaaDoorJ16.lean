/-
  Joined texts: RefB8 Dgs.
-/
import Derived.Test.YtilhhigdegccgaaDoorJ15
import Derived.Test.YtilhhigdegccgaaDoorJ14
/-
  Walk: the reference's bytes of a word.
-/
namespace Go.Proofs.YtilhhigdegccgaaDoor.Sh
set_option linter.unusedSimpArgs false
set_option linter.unusedVariables false
open Go.RowKit
def backC (e : Nat) (ws : List UInt8) (j : Nat) : Array Value := (List.replicate (e - j) (Value.int .u8 0) ++ (bytesV ws).drop (e - j)).toArray
theorem backC_size (e : Nat) (ws : List UInt8) (j : Nat) (hw : ws.length = e) (hj : j ≤ e) : (backC e ws j).size = e := by
  have h : ((bytesV ws).drop (e - j)).length = j := by rw [List.length_drop, bytesV_length, hw]; omega
  rw [backC, List.size_toArray, List.length_append, List.length_replicate, h]; omega
theorem backC_end (e : Nat) (ws : List UInt8) : backC e ws e = (bytesV ws).toArray := by simp [backC]
theorem backC_set (e : Nat) (ws : List UInt8) (j i : Nat) (v : Value) (hw : ws.length = e) (hi : i + j + 1 = e) (hv : (bytesV ws)[i]? = some v) : (backC e ws j).setIfInBounds i v = backC e ws (j + 1) := by
  apply Array.ext'
  have h1 : e - j = i + 1 := by omega
  have h2 : e - (j + 1) = i := by omega
  have hlt : i < (bytesV ws).length := by simp [bytesV]; omega
  have hv2 : (bytesV ws)[i] = v := by rw [List.getElem?_eq_getElem hlt] at hv; exact Option.some.inj hv
  rw [Array.toList_setIfInBounds, backC, backC, h1, h2, List.drop_eq_getElem_cons hlt, hv2]
  simp only [List.replicate_succ', List.append_assoc]
  rw [List.set_append_right (s := List.replicate i (Value.int .u8 0)) _ _ (by simp)]
  simp
theorem backC_zero (e : Nat) (ws : List UInt8) (hw : ws.length = e) : backC e ws 0 = (List.replicate e (Value.int .u8 0)).toArray := by
  rw [backC, Nat.sub_zero, List.drop_of_length_le (by rw [bytesV_length, hw]; exact Nat.le_refl _), List.append_nil]
theorem wordB_get (b x : Nat) : ∀ (k i : Nat), i < k → (wordB b x k)[i]? = some (UInt8.ofNat (x / 2 ^ (b - 8 - 8 * i)))
  | k + 1, i, h => by
    rw [wordB, List.getElem?_append, wordB_length]
    split
    · rename_i h2; exact wordB_get b x k i h2
    · obtain rfl : i = k := by omega
      simp
structure ByStR (w0 : World) (gf : Nat) (cs : Array Value) (gw : Nat) (r : Array Value) (u : World) : Prop where
  bel : Below gf w0 u
  h : Blk u gf 108 cs
  row : Blk u gw 5 r
  lw : gf < gw
theorem ByStR.put {w u u' : World} {gf gw : Nat} {cs r r' : Array Value} (h : ByStR w gf cs gw r u) (hw : Wrote gw u u') (hb : Blk u' gw 5 r') : ByStR w gf cs gw r' u' :=
  ⟨hw.below h.bel (by have := h.lw; omega) (by have := h.h.lt; omega), hw.blk h.h (by have := h.lw; omega), hb, h.lw⟩
def BytesPost (bits x : Nat) (w : World) (e : Ending) (w' : World) : Prop :=
  ∃ g, e = .returned (.slice (some ⟨g, 0, none⟩) (bits / 8) (bits / 8)) ∧ w.heap.size ≤ g ∧ Blk w' g 5 (bytesV (wordB bits x (bits / 8))).toArray ∧ Below w.heap.size w w'
set_option maxRecDepth 100000 in
set_option maxHeartbeats 2000000 in
theorem bytes_any (bits steps : Nat) (a b c d k f : Value) (w : World) (hb : bits = 32 ∨ bits = 64) (x : Nat) (hx : x < 2 ^ bits) :
    Calls Tryd.prog 80 #[.agg (hC bits steps a b c d k f), .int .u64 x] w (BytesPost bits x w) := by
  have hbel := below_new w (.cells (hC bits steps a b c d k f) 108)
  have hblk := Blk.new w 108 (hC bits steps a b c d k f)
  have c0 := hblk.cell 0
  simp only [hC, List.getElem?_toArray, List.getElem?_cons_zero] at c0
  have hx64 : (x : Int) < 18446744073709551616 := by
    have : x < 2 ^ 64 := Nat.lt_of_lt_of_le hx (Nat.pow_le_pow_right (by omega) (by omega))
    omega
  have HBEL := Lib.hid hbel
  have HBLK := Lib.hid hblk
  obtain ⟨ie, hie, hez, hes, heb⟩ := info_parts (show (Tryd.prog.info? 5).map (fun i => (i.zero, i.size, i.bytes)) = some (some (.int .u8 0), 1, 1) by kernel_rfl)
  have hmk4 : ∀ u : World, (Instr.makeSlice 79 (.int .i64 4) (.int .i64 4)).run Tryd.prog u = .ok (.slice (some ⟨u.heap.size, 0, none⟩) 4 4) (u.alloc (.cells (List.replicate 4 (Value.int .u8 0)).toArray 5)) := fun _ => by kernel_rfl
  have hmk8 : ∀ u : World, (Instr.makeSlice 79 (.int .i64 8) (.int .i64 8)).run Tryd.prog u = .ok (.slice (some ⟨u.heap.size, 0, none⟩) 8 8) (u.alloc (.cells (List.replicate 8 (Value.int .u8 0)).toArray 5)) := fun _ => by kernel_rfl
  rw [hC] at *
  clear hbel hblk hx
  rcases hb with rfl | rfl
  · obtain ⟨ws, hws⟩ : ∃ ws, ws = wordB 32 x 4 := ⟨_, rfl⟩
    have hwl : ws.length = 4 := by rw [hws]; exact wordB_length _ _ _
    have HWS := Lib.hid hws
    have HWL := Lib.hid hwl
    clear hws hwl
    go_enter Tryd.func80, Tryd.ntmps80
    go_wp2_with fail
    obtain ⟨hs, hhs⟩ : ∃ hs : Array Value, hs = #[.int .i64 32, .int .i64 steps, a, b, c, d, k, f] := ⟨_, rfl⟩
    have hst0 : ByStR w w.heap.size hs (w.heap.size + 1) (backC 4 ws 0) ((w.alloc (.cells hs 108)).alloc (.cells (List.replicate 4 (Value.int .u8 0)).toArray 5)) := by
      rw [backC_zero _ _ HWL.out]
      exact ⟨(below_new _ _).alloc (by simp) _, (Blk.new _ _ _).alloc _, by have := Blk.new (w.alloc (.cells hs 108)) 5 (List.replicate 4 (Value.int .u8 0)).toArray; simpa using this, by omega⟩
    rw [hhs] at hst0
    generalize hgw : w.heap.size + 1 = gw at *
    generalize hgf : w.heap.size = gf at *
    have HGF := Lib.hid hgf
    have HGW := Lib.hid hgw
    clear hgf hgw c0 hmk4 hmk8 HBEL HBLK hhs hs
    go_loopw [1, 6] (fun v i wr => ∃ (j : Nat) (y : Nat), j ≤ 4 ∧ y = x / 2 ^ (8 * j) ∧ v = .int .u64 y ∧ i = .int .i64 ((4 : Int) - 1 - (j : Int)) ∧ ByStR w gf #[.int .i64 32, .int .i64 steps, a, b, c, d, k, f] gw (backC 4 ws j) wr) (fun _ i _ => (intOf i + 1).toNat)
    case atStart => exact ⟨0, x, by omega, by simp, rfl, rfl, hst0⟩
    case round =>
      obtain ⟨j, y, hj, hy, rfl, rfl, hst⟩ := hrel
      clear hst0
      have hyx : y ≤ x := by rw [hy]; exact Nat.div_le_self _ _
      have hy64 : (y : Int) < 18446744073709551616 := by omega
      by_cases hlt : j < 4
      · obtain ⟨ix, hix⟩ : ∃ ix : Nat, (4 : Int) - 1 - (j : Int) = (ix : Int) := ⟨4 - 1 - j, by omega⟩
        have hix2 : ix + j + 1 = 4 := by omega
        have hval : (bytesV ws)[ix]? = some (.int .u8 ((y % 256 : Nat) : Int)) := by
          rw [bytesV, List.getElem?_map, HWS.out, wordB_get _ _ _ _ (by omega)]
          simp only [Option.map_some, byteV]
          rw [show 32 - 8 - 8 * ix = 8 * j by omega, ← hy]
          simp
        have hset := backC_set 4 ws j ix _ HWL.out hix2 hval
        have hsz := backC_size 4 ws j HWL.out hj
        have hnx : x / 2 ^ (8 * (j + 1)) = y / 256 := by rw [hy, show 8 * (j + 1) = 8 * j + 8 by omega, Nat.pow_add, ← Nat.div_div_eq_div_mul]
        rw [hix]
        have dcell := hst.row.cell ix
        obtain ⟨ov, hov⟩ : ∃ ov, (backC 4 ws j)[ix]? = some ov := ⟨_, Array.getElem?_eq_getElem (by omega)⟩
        rw [hov] at dcell
        have dfree := hst.row.free ix
        have hixl : (ix : Int) < 4 := by omega
        have HSET := Lib.hid hset
        have HNX := Lib.hid hnx
        have HST := Lib.hid hst
        have HIX := Lib.hid hix
        have HIX2 := Lib.hid hix2
        clear hset hnx hst hix hix2 hval hy hsz hov
        go_wp2_with fail
        refine ⟨⟨j + 1, y / 256, by omega, by rw [HNX.out], by go_num, by have := HIX.out; exact congrArg (Value.int .i64) (by omega), ?_⟩, by simp [intOf]⟩
        refine HST.out.put (wrote_setCell_at _ _ _ _) ?_
        have h := blk_setCell_at (i := ix) HST.out.row (.int .u8 ((y % 256 : Nat) : Int))
        rw [HSET.out] at h
        exact h
      · obtain rfl : j = 4 := by omega
        rw [backC_end] at hst
        have HST := Lib.hid hst
        clear hst hy
        go_wp2_with fail
        go_ret
        refine ⟨gw, rfl, by rw [HGF.out, ← HGW.out]; omega, ?_, by rw [HGF.out]; exact HST.out.bel⟩
        have h := HST.out.row
        rw [HWS.out] at h
        exact h
  · obtain ⟨ws, hws⟩ : ∃ ws, ws = wordB 64 x 8 := ⟨_, rfl⟩
    have hwl : ws.length = 8 := by rw [hws]; exact wordB_length _ _ _
    have HWS := Lib.hid hws
    have HWL := Lib.hid hwl
    clear hws hwl
    go_enter Tryd.func80, Tryd.ntmps80
    go_wp2_with fail
    obtain ⟨hs, hhs⟩ : ∃ hs : Array Value, hs = #[.int .i64 64, .int .i64 steps, a, b, c, d, k, f] := ⟨_, rfl⟩
    have hst0 : ByStR w w.heap.size hs (w.heap.size + 1) (backC 8 ws 0) ((w.alloc (.cells hs 108)).alloc (.cells (List.replicate 8 (Value.int .u8 0)).toArray 5)) := by
      rw [backC_zero _ _ HWL.out]
      exact ⟨(below_new _ _).alloc (by simp) _, (Blk.new _ _ _).alloc _, by have := Blk.new (w.alloc (.cells hs 108)) 5 (List.replicate 8 (Value.int .u8 0)).toArray; simpa using this, by omega⟩
    rw [hhs] at hst0
    generalize hgw : w.heap.size + 1 = gw at *
    generalize hgf : w.heap.size = gf at *
    have HGF := Lib.hid hgf
    have HGW := Lib.hid hgw
    clear hgf hgw c0 hmk4 hmk8 HBEL HBLK hhs hs
    go_loopw [1, 6] (fun v i wr => ∃ (j : Nat) (y : Nat), j ≤ 8 ∧ y = x / 2 ^ (8 * j) ∧ v = .int .u64 y ∧ i = .int .i64 ((8 : Int) - 1 - (j : Int)) ∧ ByStR w gf #[.int .i64 64, .int .i64 steps, a, b, c, d, k, f] gw (backC 8 ws j) wr) (fun _ i _ => (intOf i + 1).toNat)
    case atStart => exact ⟨0, x, by omega, by simp, rfl, rfl, hst0⟩
    case round =>
      obtain ⟨j, y, hj, hy, rfl, rfl, hst⟩ := hrel
      clear hst0
      have hyx : y ≤ x := by rw [hy]; exact Nat.div_le_self _ _
      have hy64 : (y : Int) < 18446744073709551616 := by omega
      by_cases hlt : j < 8
      · obtain ⟨ix, hix⟩ : ∃ ix : Nat, (8 : Int) - 1 - (j : Int) = (ix : Int) := ⟨8 - 1 - j, by omega⟩
        have hix2 : ix + j + 1 = 8 := by omega
        have hval : (bytesV ws)[ix]? = some (.int .u8 ((y % 256 : Nat) : Int)) := by
          rw [bytesV, List.getElem?_map, HWS.out, wordB_get _ _ _ _ (by omega)]
          simp only [Option.map_some, byteV]
          rw [show 64 - 8 - 8 * ix = 8 * j by omega, ← hy]
          simp
        have hset := backC_set 8 ws j ix _ HWL.out hix2 hval
        have hsz := backC_size 8 ws j HWL.out hj
        have hnx : x / 2 ^ (8 * (j + 1)) = y / 256 := by rw [hy, show 8 * (j + 1) = 8 * j + 8 by omega, Nat.pow_add, ← Nat.div_div_eq_div_mul]
        rw [hix]
        have dcell := hst.row.cell ix
        obtain ⟨ov, hov⟩ : ∃ ov, (backC 8 ws j)[ix]? = some ov := ⟨_, Array.getElem?_eq_getElem (by omega)⟩
        rw [hov] at dcell
        have dfree := hst.row.free ix
        have hixl : (ix : Int) < 8 := by omega
        have HSET := Lib.hid hset
        have HNX := Lib.hid hnx
        have HST := Lib.hid hst
        have HIX := Lib.hid hix
        have HIX2 := Lib.hid hix2
        clear hset hnx hst hix hix2 hval hy hsz hov
        go_wp2_with fail
        refine ⟨⟨j + 1, y / 256, by omega, by rw [HNX.out], by go_num, by have := HIX.out; exact congrArg (Value.int .i64) (by omega), ?_⟩, by simp [intOf]⟩
        refine HST.out.put (wrote_setCell_at _ _ _ _) ?_
        have h := blk_setCell_at (i := ix) HST.out.row (.int .u8 ((y % 256 : Nat) : Int))
        rw [HSET.out] at h
        exact h
      · obtain rfl : j = 8 := by omega
        rw [backC_end] at hst
        have HST := Lib.hid hst
        clear hst hy
        go_wp2_with fail
        go_ret
        refine ⟨gw, rfl, by rw [HGF.out, ← HGW.out]; omega, ?_, by rw [HGF.out]; exact HST.out.bel⟩
        have h := HST.out.row
        rw [HWS.out] at h
        exact h
end Go.Proofs.YtilhhigdegccgaaDoor.Sh
/-
  Plain: numbers as digits of 65536, the lowest first; roots found bit by bit.
-/
namespace Go.Proofs.YtilhhigdegccgaaDoor.Sh
set_option linter.unusedSimpArgs false
set_option linter.unusedVariables false
open Go.RowKit
def dval : List Nat → Nat
  | [] => 0
  | d :: r => d + 65536 * dval r
def digs : Nat → Nat → List Nat
  | 0, _ => []
  | n + 1, N => N % 65536 :: digs n (N / 65536)
theorem digs_length : ∀ n N, (digs n N).length = n
  | 0, _ => rfl
  | n + 1, N => by simp [digs, digs_length n]
theorem digs_lt : ∀ n N, ∀ d ∈ digs n N, d < 65536
  | 0, _, d, h => by simp [digs] at h
  | n + 1, N, d, h => by
    simp only [digs, List.mem_cons] at h
    rcases h with rfl | h
    · exact Nat.mod_lt _ (by decide)
    · exact digs_lt n _ d h
theorem dval_digs : ∀ n N, N < 65536 ^ n → dval (digs n N) = N
  | 0, N, h => by simp at h; simp [digs, dval, h]
  | n + 1, N, h => by
    rw [digs, dval, dval_digs n (N / 65536) (by rw [Nat.div_lt_iff_lt_mul (by decide)]; rwa [Nat.pow_succ] at h)]
    omega
theorem digs_dval : ∀ l : List Nat, (∀ d ∈ l, d < 65536) → digs l.length (dval l) = l
  | [], _ => rfl
  | d :: r, h => by
    have hd := h d (List.mem_cons_self ..)
    rw [List.length_cons, dval, digs, show (d + 65536 * dval r) % 65536 = d by omega, show (d + 65536 * dval r) / 65536 = dval r by omega, digs_dval r fun x hx => h x (List.mem_cons_of_mem _ hx)]
theorem dval_lt : ∀ l : List Nat, (∀ d ∈ l, d < 65536) → dval l < 65536 ^ l.length
  | [], _ => by simp [dval]
  | d :: r, h => by
    have hd := h d (List.mem_cons_self ..)
    have ih := dval_lt r fun x hx => h x (List.mem_cons_of_mem _ hx)
    rw [List.length_cons, dval, Nat.pow_succ]
    omega
theorem dval_take_succ : ∀ (l : List Nat) (j : Nat), j < l.length → dval (l.take (j + 1)) = dval (l.take j) + l.getD j 0 * 65536 ^ j
  | d :: r, 0, _ => by simp [dval]
  | d :: r, j + 1, h => by
    have ih := dval_take_succ r j (by simpa using h)
    rw [List.take_succ_cons, dval, ih, List.take_succ_cons, dval, List.getD_cons_succ, Nat.pow_succ]
    rw [Nat.mul_add, ← Nat.mul_assoc, Nat.mul_comm 65536 (r.getD j 0), Nat.mul_assoc (r.getD j 0), Nat.mul_comm 65536 (65536 ^ j)]
    omega
theorem dval_set : ∀ (l : List Nat) (i d : Nat), i < l.length → dval (l.set i d) + l.getD i 0 * 65536 ^ i = dval l + d * 65536 ^ i
  | x :: r, 0, d, _ => by simp [dval]; omega
  | x :: r, i + 1, d, h => by
    have ih := dval_set r i d (by simpa using h)
    rw [List.set_cons_succ, dval, dval, List.getD_cons_succ, Nat.pow_succ, ← Nat.mul_assoc, ← Nat.mul_assoc]
    omega
theorem getD_dig : ∀ (l : List Nat) (i : Nat), (∀ d ∈ l, d < 65536) → l.getD i 0 = dval l / 65536 ^ i % 65536
  | [], i, _ => by simp [dval]
  | d :: r, 0, h => by
    have hd := h d (List.mem_cons_self ..)
    simp [dval]; omega
  | d :: r, i + 1, h => by
    have hd := h d (List.mem_cons_self ..)
    rw [List.getD_cons_succ, getD_dig r i fun x hx => h x (List.mem_cons_of_mem _ hx), dval, Nat.pow_succ, Nat.mul_comm (65536 ^ i), ← Nat.div_div_eq_div_mul, show (d + 65536 * dval r) / 65536 = dval r by omega]
theorem dig_lt {l : List Nat} (h : ∀ d ∈ l, d < 65536) (i : Nat) : l.getD i 0 < 65536 := getD_lt h (by decide) i
theorem set_lt {l : List Nat} {i d : Nat} (h : ∀ x ∈ l, x < 65536) (hd : d < 65536) : ∀ x ∈ l.set i d, x < 65536 := fun x hx => by
  rcases List.mem_or_eq_of_mem_set hx with h1 | h1
  · exact h x h1
  · rw [h1]; exact hd
theorem getD_set_ne (l : List Nat) (i j d : Nat) (h : i ≠ j) : (l.set i d).getD j 0 = l.getD j 0 := by simp [List.getElem?_set, h]
theorem wordsV_set (K : IntKind) (l : List Nat) (i d : Nat) : (wordsV K l).toArray.setIfInBounds i (.int K (d : Int)) = (wordsV K (l.set i d)).toArray := by
  apply Array.ext'
  simp [wordsV, Array.toList_setIfInBounds, List.map_set]
theorem mul_step {n k c P a b d i j t : Nat} (hv : t + c * 65536 ^ (i + j) = P + a * d * 65536 ^ i) (h : n + (k * 65536 ^ (i + j)) = t + ((k + a * b + c) % 65536) * 65536 ^ (i + j)) :
    n + (k + a * b + c) / 65536 * 65536 ^ (i + (j + 1)) = P + a * (d + b * 65536 ^ j) * 65536 ^ i := by
  have e1 : 65536 ^ (i + (j + 1)) = 65536 * 65536 ^ (i + j) := by rw [← Nat.add_assoc, Nat.pow_succ, Nat.mul_comm]
  have e2 : a * (d + b * 65536 ^ j) * 65536 ^ i = a * d * 65536 ^ i + a * b * 65536 ^ (i + j) := by
    rw [Nat.mul_add, Nat.add_mul, Nat.pow_add, ← Nat.mul_assoc a b]
    congr 1
    rw [Nat.mul_assoc, Nat.mul_comm (65536 ^ j)]
  rw [e1, e2]
  generalize 65536 ^ (i + j) = q at *
  obtain ⟨v, hv2⟩ : ∃ v, v = k + a * b + c := ⟨_, rfl⟩
  have e3 : v / 65536 * (65536 * q) + v % 65536 * q = v * q := by
    rw [← Nat.mul_assoc, ← Nat.add_mul, Nat.div_add_mod']
  have e4 : v * q = k * q + a * b * q + c * q := by rw [hv2, Nat.add_mul, Nat.add_mul]
  rw [← hv2] at h ⊢
  omega
def rootX (p k : Nat) : Nat → Nat
  | 0 => 0
  | n + 1 => if p * 65536 ^ (4 * k) < (rootX p k n + 2 ^ (68 - n)) ^ k then rootX p k n else rootX p k n + 2 ^ (68 - n)
def rootN (p k : Nat) : Nat := rootX p k 69 % 2 ^ 64
theorem rootX_dvd (p k : Nat) : ∀ n, n ≤ 69 → 2 ^ (69 - n) ∣ rootX p k n
  | 0, _ => Nat.dvd_zero _
  | n + 1, h => by
    have ih := rootX_dvd p k n (by omega)
    have h1 : 2 ^ (69 - (n + 1)) ∣ rootX p k n := Nat.dvd_trans (Nat.pow_dvd_pow 2 (by omega)) ih
    rw [rootX]
    split
    · exact h1
    · rw [show 68 - n = 69 - (n + 1) by omega]
      exact Nat.dvd_add h1 (Nat.dvd_refl _)
theorem rootX_lt (p k : Nat) : ∀ n, n ≤ 69 → rootX p k n + 2 ^ (69 - n) ≤ 2 ^ 69
  | 0, _ => by simp [rootX]
  | n + 1, h => by
    have ih := rootX_lt p k n (by omega)
    have e : 2 ^ (69 - n) = 2 * 2 ^ (69 - (n + 1)) := by rw [show 69 - n = 69 - (n + 1) + 1 by omega, Nat.pow_succ, Nat.mul_comm]
    rw [rootX]
    split
    · omega
    · rw [show 68 - n = 69 - (n + 1) by omega]
      omega
theorem dig_room {X r at_ : Nat} (hr : r < 16) (h : 2 ^ (16 * at_ + r + 1) ∣ X) : X / 65536 ^ at_ % 65536 + 2 ^ r < 65536 := by
  obtain ⟨q, rfl⟩ := h
  have e1 : (65536 : Nat) ^ at_ = 2 ^ (16 * at_) := by rw [Nat.pow_mul]
  have e2 : 2 ^ (16 * at_ + r + 1) * q / 2 ^ (16 * at_) = 2 ^ (r + 1) * q := by
    rw [Nat.add_assoc, Nat.pow_add, Nat.mul_assoc, Nat.mul_div_cancel_left _ (Nat.two_pow_pos _)]
  rw [e1, e2]
  obtain ⟨s, hs⟩ : ∃ s, r + 1 + s = 16 := ⟨15 - r, by omega⟩
  have e3 : (65536 : Nat) = 2 ^ (r + 1) * 2 ^ s := by rw [← Nat.pow_add, hs]
  have h4 : 2 ^ (r + 1) * q % 65536 = 2 ^ (r + 1) * (q % 2 ^ s) := by rw [e3, Nat.mul_mod_mul_left]
  have h5 : q % 2 ^ s < 2 ^ s := Nat.mod_lt _ (Nat.two_pow_pos _)
  have h6 : 2 ^ (r + 1) * (q % 2 ^ s) + 2 ^ (r + 1) ≤ 2 ^ (r + 1) * 2 ^ s := by
    rw [← Nat.mul_succ]; exact Nat.mul_le_mul_left _ h5
  have h7 : 2 ^ (r + 1) = 2 * 2 ^ r := by rw [Nat.pow_succ, Nat.mul_comm]
  have h8 := Nat.two_pow_pos r
  omega
theorem dig_add {X n bit : Nat} (hX : X < 65536 ^ n) (hb : bit / 16 < n) (h : 2 ^ (bit + 1) ∣ X) :
    (digs n X).set (bit / 16) ((digs n X).getD (bit / 16) 0 + 2 ^ (bit % 16)) = digs n (X + 2 ^ bit) ∧ (digs n X).getD (bit / 16) 0 + 2 ^ (bit % 16) < 65536 := by
  have hlt := digs_lt n X
  have hv := dval_digs n X hX
  have hg := getD_dig (digs n X) (bit / 16) hlt
  rw [hv] at hg
  have hroom : (digs n X).getD (bit / 16) 0 + 2 ^ (bit % 16) < 65536 := by
    rw [hg]
    exact dig_room (Nat.mod_lt _ (by decide)) (by rw [show 16 * (bit / 16) + bit % 16 + 1 = bit + 1 by omega]; exact h)
  refine ⟨?_, hroom⟩
  have h1 := digs_dval _ (set_lt (i := bit / 16) hlt hroom)
  rw [← h1, List.length_set, digs_length]
  congr 1
  have h2 := dval_set (digs n X) (bit / 16) ((digs n X).getD (bit / 16) 0 + 2 ^ (bit % 16)) (by rw [digs_length]; exact hb)
  rw [hv, Nat.add_mul] at h2
  have h3 : 2 ^ (bit % 16) * 65536 ^ (bit / 16) = 2 ^ bit := by
    rw [show (65536 : Nat) = 2 ^ 16 from rfl, ← Nat.pow_mul, ← Nat.pow_add]
    congr 1
    omega
  rw [h3] at h2
  omega
theorem mul_w64 (a b : Nat) (h : a * b ≤ 9223372036854775807) : wrap64 ((a : Int) * (b : Int)) = ((a * b : Nat) : Int) := by
  rw [← Int.natCast_mul]; unfold wrap64; omega
theorem add_w64 (a b : Nat) (h : a + b ≤ 9223372036854775807) : wrap64 ((a : Int) + (b : Int)) = ((a + b : Nat) : Int) := by
  unfold wrap64; omega
end Go.Proofs.YtilhhigdegccgaaDoor.Sh
