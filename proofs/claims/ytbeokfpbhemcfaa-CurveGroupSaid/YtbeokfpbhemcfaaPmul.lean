/-
  Walk: a point's multiple.
-/
import Derived.Test.YtbeokfpbhemcfaaPa
namespace Go.Proofs.Ytbeokfpbhemcfaa
set_option linter.unusedSimpArgs false
set_option linter.unusedVariables false
open Go.RowKit

def pmS (T : E5) (p out : Pt4) (bit : Nat) : Pt4 := if bit = 1 then sumP (sumP out out T) p T else sumP out out T
def pmB (T : E5) (p out : Pt4) (b : Nat) : Nat → Pt4
  | 0 => out
  | j + 1 => pmS T p (pmB T p out b j) (b / 2 ^ (7 - j) % 2)
def pmL (T : E5) (p : Pt4) (l : List Nat) : Nat → Pt4
  | 0 => zeroP
  | j + 1 => pmB T p (pmL T p l j) (l.getD (l.length - 1 - j) 0) 8
section
variable {T : E5} {p out : Pt4} (hT : T.Ok) (hp : p.Ok)
include hT hp
theorem pmS_ok (ho : out.Ok) (bit : Nat) : (pmS T p out bit).Ok := by
  unfold pmS
  split
  · exact sumP_ok (sumP_ok ho ho hT) hp hT
  · exact sumP_ok ho ho hT
theorem pmB_ok (ho : out.Ok) (b : Nat) : ∀ j, (pmB T p out b j).Ok
  | 0 => ho
  | j + 1 => pmS_ok hT hp (pmB_ok ho b j) _
theorem pmL_ok (l : List Nat) : ∀ j, (pmL T p l j).Ok
  | 0 => zeroP_ok
  | j + 1 => pmB_ok hT hp (pmL_ok l j) _ 8
end
def mulP (p : Pt4) (l : List UInt8) : Pt4 := pmL (addE dE dE) p (digs (l.take 32)) (min l.length 32)
theorem mulP_ok {p : Pt4} (hp : p.Ok) (l : List UInt8) : (mulP p l).Ok := pmL_ok d2_ok hp _ _
structure PM (w0 : World) (g r o ow : Nat) (p cur : Pt4) (T : E5) (u : World) : Prop where
  bel : Below w0.heap.size w0 u
  x : Blk u g 28 (ptV p)
  z : Blk u r 28 (ptV zP)
  y : Blk u o 28 (ptV cur)
  t : Blk u ow 26 (eV T)
  lo : w0.heap.size ≤ o
  lr : w0.heap.size ≤ r
  go : g ≠ o
  ro : r ≠ o
  wo : ow ≠ o
theorem PM.next {w0 u u' : World} {g r o ow : Nat} {p cur : Pt4} {T : E5} (k : PM w0 g r o ow p cur T u) (hb : Below u.heap.size u u') : PM w0 g r o ow p cur T u' :=
  ⟨k.bel.trans (hb.mono k.bel.size), k.x.below hb k.x.lt, k.z.below hb k.z.lt, k.y.below hb k.y.lt, k.t.below hb k.t.lt, k.lo, k.lr, k.go, k.ro, k.wo⟩
theorem PM.put {w0 u u' : World} {g r o ow : Nat} {p cur cur' : Pt4} {T : E5} (k : PM w0 g r o ow p cur T u) (hw : Wrote o u u') (hb : Blk u' o 28 (ptV cur')) : PM w0 g r o ow p cur' T u' :=
  ⟨hw.below k.bel k.lo k.bel.size, hw.blk k.x k.go, hw.blk k.z k.ro, hb, hw.blk k.t k.wo, k.lo, k.lr, k.go, k.ro, k.wo⟩
theorem and8_one' (l : Nat) (h : l < 256) : bits .and .u8 (l : Int) 1 = ((l % 2 : Nat) : Int) := and8_one l h
set_option maxRecDepth 100000 in
set_option maxHeartbeats 2000000 in
theorem pmul_any (p : Pt4) (hkp : p.Ok) (l : List UInt8) (A : Option Addr) (c : Nat) (w : World) (hr : Rd w w.heap.size A (bytesV l)) (hc : l.length ≤ c) :
    Calls Try.prog 11 #[.agg (ptV p), .slice A l.length c] w (PtPost (mulP p l) w) := by
  have hu := Try.underlying26
  have hp := Try.underlying28
  obtain ⟨X, hX⟩ : ∃ X, X = dE := ⟨_, rfl⟩
  obtain ⟨T, hT⟩ : ∃ T, T = addE X X := ⟨_, rfl⟩
  have okX : X.Ok := by rw [hX]; exact dE_ok
  have okT : T.Ok := by rw [hT]; exact add_ok okX okX
  have CD := Lib.hid (show ∀ u, Calls Try.prog 31 #[] u (ElemPost X u) from fun u => by rw [hX]; exact d_any u)
  have CA := Lib.hid (show ∀ u, Calls Try.prog 32 #[.agg (eV X), .agg (eV X)] u (ElemPost T u) from fun u => by rw [hT]; exact add_c X X u okX okX)
  have CS := Lib.hid (show ∀ (a b : Pt4), a.Ok → b.Ok → ∀ u, Calls Try.prog 33 #[.agg (ptV a), .agg (ptV b), .agg (eV T)] u (PtPost (sumP a b T) u) from fun a b ha hb u => sum_any a b T u ha hb okT)
  have hmul : mulP p l = pmL T p (digs (l.take 32)) (min l.length 32) := by rw [hT, hX]; rfl
  obtain ⟨Z, hZ⟩ : ∃ Z, Z = zeroP := ⟨_, rfl⟩
  have CZ := Lib.hid (show ∀ u, Calls Try.prog 26 #[] u (PtPost Z u) from fun u => by rw [hZ]; exact zero_any u)
  obtain ⟨n, hn⟩ : ∃ n, n = l.length := ⟨_, rfl⟩
  rw [hmul, ← hn]
  rw [← hn] at hc
  obtain ⟨m, hm⟩ : ∃ m, m = min n 32 := ⟨_, rfl⟩
  have hmin1 : (if (32 : Int) < (n : Int) then (32 : Int) else (n : Int)) = (m : Int) := by rw [hm]; split <;> omega
  have hmin2 : (if 32 < n then (32 : Int) else (n : Int)) = (m : Int) := by rw [hm]; split <;> omega
  have hm32 : (m : Int) ≤ 32 := by omega
  have hmn : (m : Int) ≤ (n : Int) := by omega
  rw [← hm]
  generalize hL : digs (l.take 32) = L at *
  have hLl : L.length = m := by rw [← hL, digs, List.length_map, List.length_take, hm, hn, Nat.min_comm]
  have hLat : ∀ k, k < m → ∀ u, Below w.heap.size w u → ∃ ad, A = some ad ∧ u.cell? (ad.add k) = some (.int .u8 ((L.getD k 0 : Nat) : Int)) := fun k hk u hb => by
    have hkl : k < l.length := by omega
    obtain ⟨ad, h1, _, h3⟩ := (hr.below hb).at_ (k := k) (by rw [bytesV_length]; exact hkl)
    refine ⟨ad, h1, ?_⟩
    rw [h3, ← hL]
    have hk32 : k < 32 := by omega
    simp [bytesV, byteV, digs, List.getD_eq_getElem?_getD, List.getElem?_take, hk32, hkl]
  have hLd : Dg L := by rw [← hL]; exact digs_lt _
  have KP := Lib.hid hkp
  have OKT := Lib.hid okT
  have HLAT := Lib.hid hLat
  have HLL := Lib.hid hLl
  have HLD := Lib.hid hLd
  have HZ := Lib.hid hZ
  obtain ⟨w0, hw0⟩ : ∃ w0, w0 = (w.alloc (.cells (ptV p) 28)).alloc (.cells (ptV zP) 28) := ⟨_, rfl⟩
  have HX0 := Lib.hid (show Blk w0 w.heap.size 28 (ptV p) by rw [hw0]; exact (Blk.new _ _ _).alloc _)
  have HR0 := Lib.hid (show Blk w0 (w.heap.size + 1) 28 (ptV zP) by rw [hw0]; exact Blk.newAt (by simp))
  have HB0 := Lib.hid (show Below w.heap.size w w0 by rw [hw0]; exact (below_new _ _).alloc (by simp) _)
  have HLR := Lib.hid (show w.heap.size ≤ w.heap.size + 1 by omega)
  have HW := Lib.hid hw0
  clear hw0 hkp hX hT okX okT hmul hZ hn hm hL hLl hLat hLd hr hc
  go_enter Try.func11, Try.ntmps11
  go_wp2_with fail
  show Calls _ _ _ ((w.alloc (.cells (ptV p) _)).alloc (.cells (ptV zP) _)) _
  rw [← HW.out]
  generalize w.heap.size + 1 = r at *
  generalize hgg : w.heap.size = g at HX0 ⊢
  clear hgg HW
  refine calls_then (CZ.out _) ?_
  rintro e w1 ⟨rfl, hb1⟩
  have HX1 := Lib.hid (HX0.out.below hb1 HX0.out.lt)
  have HR1 := Lib.hid (HR0.out.below hb1 HR0.out.lt)
  have HB1 := Lib.hid (HB0.out.trans (hb1.mono HB0.out.size))
  clear hb1 HX0 HR0 HB0
  go_wp2_with fail
  refine calls_then (CD.out _) ?_
  rintro e w2 ⟨rfl, hb2⟩
  have HX2 := Lib.hid (HX1.out.below hb2 HX1.out.lt)
  have HR2 := Lib.hid (HR1.out.below hb2 HR1.out.lt)
  have HB2 := Lib.hid (HB1.out.trans (hb2.mono HB1.out.size))
  clear hb2 HX1 HR1 HB1
  go_wp2_with fail
  refine calls_then (CD.out _) ?_
  rintro e w3 ⟨rfl, hb3⟩
  have HX3 := Lib.hid (HX2.out.below hb3 HX2.out.lt)
  have HR3 := Lib.hid (HR2.out.below hb3 HR2.out.lt)
  have HB3 := Lib.hid (HB2.out.trans (hb3.mono HB2.out.size))
  clear hb3 HX2 HR2 HB2
  go_wp2_with fail
  refine calls_then (CA.out _) ?_
  rintro e w4 ⟨rfl, hb4⟩
  have hx4 := HX3.out.below hb4 HX3.out.lt
  have hr4 := HR3.out.below hb4 HR3.out.lt
  have hb4' := HB3.out.trans (hb4.mono HB3.out.size)
  clear hb4 HX3 HR3 HB3
  obtain ⟨w5, hw5⟩ : ∃ w5, w5 = (w4.alloc (.cells (ptV zP) 28)).alloc (.cells (eV zE) 26) := ⟨_, rfl⟩
  have hsz5 : (w4.alloc (.cells (ptV zP) 28)).heap.size = w4.heap.size + 1 := by simp
  have HB5 := Lib.hid (show Below w.heap.size w w5 by rw [hw5]; exact (hb4'.alloc hb4'.size _).alloc (by rw [hsz5]; have := hb4'.size; omega) _)
  have HX5 := Lib.hid (show Blk w5 g 28 (ptV p) by rw [hw5]; exact (hx4.alloc _).alloc _)
  have HR5 := Lib.hid (show Blk w5 r 28 (ptV zP) by rw [hw5]; exact (hr4.alloc _).alloc _)
  have HY5 := Lib.hid (show Blk w5 w4.heap.size 28 (ptV zP) by rw [hw5]; exact (Blk.new _ _ _).alloc _)
  have HT5 := Lib.hid (show Blk w5 (w4.heap.size + 1) 26 (eV zE) by rw [hw5]; exact Blk.newAt (by simp))
  have HGO := Lib.hid (Nat.ne_of_lt hx4.lt)
  have HRO := Lib.hid (Nat.ne_of_lt hr4.lt)
  have HLO := Lib.hid hb4'.size
  have HW5 := Lib.hid hw5
  have HWO := Lib.hid (show w4.heap.size + 1 ≠ w4.heap.size by omega)
  have HLW := Lib.hid (show w.heap.size ≤ w4.heap.size + 1 by have := hb4'.size; omega)
  have HGW := Lib.hid (show g ≠ w4.heap.size + 1 by have := hx4.lt; omega)
  have HRW := Lib.hid (show r ≠ w4.heap.size + 1 by have := hr4.lt; omega)
  clear hw5 hx4 hr4 hb4' hsz5
  go_wp2_with (first
    | (refine wpList_put_box (x := .tmp 5) (g := w4.heap.size) (cells := ptV Z) (old := ptV zP) (t := 28) ((Blk.new _ _ _).alloc _) rfl rfl rfl rfl point_size rfl (by simp [ptV, wV, limbs, Value.oneCell']) ?_; intro w6 hb6 hw6)
    | (refine wpList_put_box (x := .tmp 6) (g := w4.heap.size + 1) (cells := eV T) (old := eV zE) (t := 26) (hw6.blk (Blk.newAt (by simp)) HWO.out) rfl rfl rfl rfl elem_size rfl (by simp [eV, wV, limbs, Value.oneCell']) ?_; intro w7 hb7 hw7))
  have hw6' : Wrote w4.heap.size w5 w6 := by rw [HW5.out]; exact hw6
  have hst : PM w g r w4.heap.size (w4.heap.size + 1) p (pmL T p L 0) T w7 := by
    have h6 := hw6'.below HB5.out HLO.out HB5.out.size
    refine ⟨hw7.below h6 HLW.out h6.size, hw7.blk (hw6'.blk HX5.out HGO.out) HGW.out, hw7.blk (hw6'.blk HR5.out HRO.out) HRW.out, ?_, hb7, HLO.out, HLR.out, HGO.out, HRO.out, HWO.out⟩
    rw [HZ.out] at hb6
    exact hw7.blk hb6 (Ne.symm HWO.out)
  have HST := Lib.hid hst
  clear hw6' hst hb6 hw6 hb7 hw7 HB5 HX5 HR5 HY5 HT5 HGO HRO HLO HW5 HWO HLW HGW HRW hmin1 hmin2 HZ CZ CD CA HLR
  generalize w4.heap.size + 1 = ow at *
  generalize w4.heap.size = o at *
  clear w5
  go_loopw [7] (fun i wr => ∃ j : Nat, j ≤ m ∧ i = .int .i64 ((m : Int) - 1 - (j : Int)) ∧ PM w g r o ow p (pmL T p L j) T wr) (fun i _ => (intOf i + 1).toNat)
  case atStart => exact ⟨0, Nat.zero_le _, by go_num, HST.out⟩
  case round =>
    clear HST
    obtain ⟨j, hj, rfl, hst⟩ := hrel
    by_cases hlt : j < m
    · obtain ⟨q, hq⟩ : ∃ q, q + 1 + j = m := ⟨m - 1 - j, by omega⟩
      have hqi : (m : Int) - 1 - (j : Int) = (q : Int) := by omega
      rw [hqi]
      obtain ⟨cur, hcur⟩ : ∃ cur, cur = pmL T p L j := ⟨_, rfl⟩
      rw [← hcur] at hst
      obtain ⟨b, hb⟩ : ∃ b, b = L.getD q 0 := ⟨_, rfl⟩
      have hst' : PM w g r o ow p (pmB T p cur b 0) T wr := hst
      have hcok : cur.Ok := by rw [hcur]; exact pmL_ok OKT.out KP.out L j
      have hqm : (q : Int) < (m : Int) := by omega
      have HST := Lib.hid hst'
      have HCUR := Lib.hid hcur
      have HCOK := Lib.hid hcok
      have HB := Lib.hid hb
      have HQ := Lib.hid hq
      have HJ := Lib.hid hlt
      clear hst hst' hcur hcok hb hqi hq hlt hj
      go_wp2_with fail
      obtain ⟨wo, rfl⟩ : ∃ x, x = wr := ⟨_, rfl⟩
      go_loopw [8] (fun c wr => ∃ k : Nat, k ≤ 8 ∧ c = .int .i64 (7 - (k : Int)) ∧ PM w g r o ow p (pmB T p cur b k) T wr) (fun c _ => (intOf c + 1).toNat)
      case atStart => exact ⟨0, by omega, rfl, HST.out⟩
      case round =>
        clear HST
        obtain ⟨k, hk, rfl, hst⟩ := hrel
        by_cases hltk : k < 8
        · obtain ⟨s, hs⟩ : ∃ s, s + k = 7 := ⟨7 - k, by omega⟩
          have hsi : (7 : Int) - (k : Int) = (s : Int) := by omega
          have hs8 : (s : Int) < 8 := by omega
          have hbit : pmB T p cur b (k + 1) = pmS T p (pmB T p cur b k) (b / 2 ^ s % 2) := by rw [pmB, show 7 - k = s by omega]
          obtain ⟨y, hy⟩ : ∃ y, y = pmB T p cur b k := ⟨_, rfl⟩
          have hyok : y.Ok := by rw [hy]; exact pmB_ok OKT.out KP.out HCOK.out b k
          rw [← hy] at hst hbit
          rw [hsi]
          obtain ⟨ad, rfl, _⟩ := HLAT.out q (by omega) wr hst.bel
          have hb256 : b < 256 := by rw [HB.out]; exact dg_getD HLD.out q
          obtain ⟨bq, hbq⟩ : ∃ bq, bq = b / 2 ^ s := ⟨_, rfl⟩
          have hbqi : (b : Int) / 2 ^ s = (bq : Int) := by rw [hbq, shr_int]
          have hbql : bq < 256 := by rw [hbq]; exact Nat.lt_of_le_of_lt (Nat.div_le_self _ _) hb256
          rw [← hbq] at hbit
          have hand := and8_one bq hbql
          obtain ⟨cb, hcb⟩ : ∃ cb, cb = bq % 2 := ⟨_, rfl⟩
          rw [← hcb] at hbit hand
          have hcb2 : cb < 2 := by omega
          have hcell : ∀ u, Below w.heap.size w u → u.cell? (ad.add q) = some (.int .u8 (b : Int)) := fun u hu => by
            obtain ⟨ad2, h1, h2⟩ := HLAT.out q (by omega) u hu
            injection h1 with h1
            rw [h1, HB.out]; exact h2
          have HCELL := Lib.hid hcell
          have HBIT := Lib.hid hbit
          have HAND := Lib.hid hand
          have HYOK := Lib.hid hyok
          have HBQI := Lib.hid hbqi
          have HS := Lib.hid hs
          have HK := Lib.hid hltk
          have HST := Lib.hid hst
          have hqn : (q : Int) < (n : Int) := by omega
          clear hcell hbit hand hyok hbqi hs hst hb256 hbq hbql hcb hy hk hsi
          rcases Nat.lt_or_ge cb 1 with hc1 | hc1
          · have hcc : cb = 0 := by omega
            rw [hcc] at HAND HBIT
            have hand2 : bits .and .u8 ((b : Int) / 2 ^ s) 1 = 0 := by rw [HBQI.out]; exact HAND.out
            clear hcc hcb2 hc1 hltk
            go_wp2_with (first
              | (refine wpList_get_box (x := .tmp 5) HST.out.y rfl rfl rfl hp rfl point_size ?_)
              | (refine wpList_get_box (x := .tmp 6) HST.out.t rfl rfl rfl hu rfl elem_size ?_))
            refine calls_then (CS.out y y HYOK.out HYOK.out _) ?_
            rintro e w3 ⟨rfl, hb3⟩
            have hst3 := HST.out.next hb3
            clear HST
            go_wp2_with (refine wpList_put_box (x := .tmp 5) (cells := ptV (sumP y y T)) hst3.y rfl rfl rfl rfl point_size rfl (by simp [ptV, wV, limbs, Value.oneCell']) ?_; intro w6 hb6 hw6; have hst6 := hst3.put hw6 hb6; have hcell6 := HCELL.out w6 hst6.bel; have HST6 := Lib.hid hst6; clear hst3 hst6 hb6 hw6)
            have hq1 : (s : Int) - 1 = 7 - ((k + 1 : Nat) : Int) := by have := HS.out; omega
            refine ⟨⟨k + 1, by have := HK.out; omega, by rw [hq1], ?_⟩, by simp [intOf]⟩
            rw [HBIT.out]
            exact HST6.out
          · have hcc : cb = 1 := by omega
            rw [hcc] at HAND HBIT
            have hand2 : bits .and .u8 ((b : Int) / 2 ^ s) 1 = 1 := by rw [HBQI.out]; exact HAND.out
            clear hcc hcb2 hc1 hltk
            go_wp2_with (first
              | (refine wpList_get_box (x := .tmp 5) HST.out.y rfl rfl rfl hp rfl point_size ?_)
              | (refine wpList_get_box (x := .tmp 6) HST.out.t rfl rfl rfl hu rfl elem_size ?_))
            refine calls_then (CS.out y y HYOK.out HYOK.out _) ?_
            rintro e w3 ⟨rfl, hb3⟩
            have hst3 := HST.out.next hb3
            clear HST
            go_wp2_with (first
              | (refine wpList_put_box (x := .tmp 5) (cells := ptV (sumP y y T)) hst3.y rfl rfl rfl rfl point_size rfl (by simp [ptV, wV, limbs, Value.oneCell']) ?_; intro w6 hb6 hw6; have hst6 := hst3.put hw6 hb6; have hcell6 := HCELL.out w6 hst6.bel; have HST6 := Lib.hid hst6; clear hst3 hst6 hb6 hw6)
              | (refine wpList_get_box (x := .tmp 5) HST6.out.y rfl rfl rfl hp rfl point_size ?_)
              | (refine wpList_get_box (x := .tmp 2) HST6.out.x rfl rfl rfl hp rfl point_size ?_)
              | (refine wpList_get_box (x := .tmp 6) HST6.out.t rfl rfl rfl hu rfl elem_size ?_))
            refine calls_then (CS.out (sumP y y T) p (sumP_ok HYOK.out HYOK.out OKT.out) KP.out _) ?_
            rintro e w7 ⟨rfl, hb7⟩
            have hst7 := HST6.out.next hb7
            go_wp2_with (refine wpList_put_box (x := .tmp 5) (cells := ptV (sumP (sumP y y T) p T)) hst7.y rfl rfl rfl rfl point_size rfl (by simp [ptV, wV, limbs, Value.oneCell']) ?_; intro w8 hb8 hw8; have hst8 := hst7.put hw8 hb8; have HST8 := Lib.hid hst8; clear hst7 hst8 hb8 hw8)
            have hq1 : (s : Int) - 1 = 7 - ((k + 1 : Nat) : Int) := by have := HS.out; omega
            refine ⟨⟨k + 1, by have := HK.out; omega, by rw [hq1], ?_⟩, by simp [intOf]⟩
            rw [HBIT.out]
            exact HST8.out
        · obtain rfl : k = 8 := by omega
          have hend : pmB T p cur b 8 = pmL T p L (j + 1) := by
            rw [pmL, ← HCUR.out, HB.out, HLL.out, show m - 1 - j = q by have := HQ.out; omega]
          rw [hend] at hst
          have hq1 : (q : Int) - 1 = (m : Int) - 1 - ((j + 1 : Nat) : Int) := by have := HQ.out; omega
          have HQ1 := Lib.hid hq1
          have HST := Lib.hid hst
          clear hst hend hq1 hk hltk
          go_wp2_with fail
          exact ⟨⟨j + 1, HJ.out, by rw [HQ1.out], HST.out⟩, by simp [intOf]⟩
    · obtain rfl : j = m := by omega
      have hpi : (j : Int) - 1 - (j : Int) = -1 := by omega
      rw [hpi]
      have HST := Lib.hid hst
      clear hst hpi hlt
      go_wp2_with (first
        | (refine wpList_get_box (x := .tmp 5) HST.out.y rfl rfl rfl hp rfl point_size ?_)
        | (refine wpList_put_box (x := .tmp 4) (cells := ptV (pmL T p L j)) HST.out.z rfl rfl rfl rfl point_size rfl (by simp [ptV, wV, limbs, Value.oneCell']) ?_; intro w6 hb6 hw6))
      refine bodyPost_ret (results_box (P := Try.prog) rfl rfl hb6 hp rfl point_size) rfl ⟨rfl, ?_⟩
      exact hw6.below HST.out.bel HST.out.lr HST.out.bel.size
end Go.Proofs.Ytbeokfpbhemcfaa
