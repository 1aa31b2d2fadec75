/-
  Walk: the field's Pow.
-/
import Derived.Test.YtbeokfpbhemcfaaFb
import Derived.Test.YtbeokfpbhemcfaaPwr
namespace Go.Proofs.Ytbeokfpbhemcfaa
set_option linter.unusedSimpArgs false
set_option linter.unusedVariables false
open Go.RowKit

theorem and8_one (l : Nat) (h : l < 256) : bits .and .u8 (l : Int) 1 = ((l % 2 : Nat) : Int) := by
  show IntKind.u8.wrap ((BitVec.ofInt 8 (l : Int) &&& BitVec.ofInt 8 (1 : Int)).toNat : Int) = _
  have e1 : (BitVec.ofInt 8 (1 : Int)).toNat = 1 := by decide
  rw [BitVec.toNat_and, BitVec.ofInt_natCast, BitVec.toNat_ofNat, e1, Nat.mod_eq_of_lt (show l < 2 ^ 8 from h), IntKind.wrap_u8]
  have h2 : l &&& 1 = l % 2 := Nat.and_two_pow_sub_one_eq_mod l 1
  rw [h2]
  omega
theorem Rd.atc {w : World} {B k : Nat} {ad : Addr} {xs : List Value} (h : Rd w B (some ad) xs) (hk : k < xs.length) : w.cell? (ad.add k) = some xs[k] := by
  obtain ⟨a2, h1, _, h3⟩ := h.at_ hk
  injection h1 with h1
  rw [h1]; exact h3
set_option maxRecDepth 100000 in
set_option maxHeartbeats 2000000 in
theorem pow_any (x : E5) (hx : x.Ok) (l : List UInt8) (A : Option Addr) (c : Nat) (w : World) (hr : Rd w w.heap.size A (bytesV l)) (hc : l.length ≤ c) (hl : l.length ≤ 1000000) :
    Calls Try.prog 58 #[.agg (eV x), .slice A l.length c] w (ElemPost (pwL x ((l.take 64).map UInt8.toNat) (min l.length 64)) w) := by
  have hu := Try.underlying26
  have hi1 : intE 1 = natE 1 := rfl
  have hint := fun u => int_any 1 (by decide) (by decide) u
  rw [hi1] at hint
  have HX := Lib.hid hx
  have HI := Lib.hid hint
  have HR := Lib.hid hr
  obtain ⟨n, hn⟩ : ∃ n, n = l.length := ⟨_, rfl⟩
  rw [← hn]
  rw [← hn] at hc hl
  have hn63 : (n : Int) ≤ 1000000 := by omega
  have HN := Lib.hid hn
  clear hx hi1 hint hr hn hc hl
  obtain ⟨m, hm⟩ : ∃ m, m = min n 64 := ⟨_, rfl⟩
  have hmin1 : (if (64 : Int) < (n : Int) then (64 : Int) else (n : Int)) = (m : Int) := by rw [hm]; split <;> omega
  have hmin2 : (if 64 < n then (64 : Int) else (n : Int)) = (m : Int) := by rw [hm]; split <;> omega
  have hm64 : (m : Int) ≤ 64 := by omega
  rw [← hm]
  have HM := Lib.hid hm
  clear hm
  all_goals
    go_enter Try.func58, Try.ntmps58
    go_wp2_with fail
    refine calls_then (HI.out _) ?_
    rintro e w2 ⟨rfl, hb2⟩
    go_wp2_with (refine wpList_put_box (x := .tmp 5) (cells := eV (natE 1)) (Blk.new w2 _ _) rfl rfl rfl rfl elem_size rfl (by simp [eV, wV, limbs, Value.oneCell']) ?_; intro w5 hb5 hw5; have HB5 := Lib.hid hb5; have HW5 := Lib.hid hw5; clear hb5 hw5)
    have hst0 : G2 w w.heap.size (w.heap.size + 1) (eV x) (eV zE) _ := g2_new w (eV x) (eV zE)
    have hst2 := hst0.next hb2
    have hst3 : G3 w w.heap.size w2.heap.size (w.heap.size + 1) (eV x) (eV (natE 1)) (eV zE) w5 :=
      ⟨HW5.out.below (hst2.bel.alloc hst2.bel.size _) hst2.bel.size (by simp; have := hst2.bel.size; omega), HW5.out.blk (hst2.x.alloc _) (Nat.ne_of_lt hst2.x.lt), HB5.out, HW5.out.blk (hst2.z.alloc _) (Nat.ne_of_lt hst2.z.lt), hst2.lg, hst2.bel.size, hst2.lr, Nat.ne_of_lt hst2.x.lt, hst2.gr, Ne.symm (Nat.ne_of_lt hst2.z.lt)⟩
    have HST := Lib.hid hst3
    clear hst0 hst2 hst3 HB5 HW5 hb2
    generalize hL : (l.take 64).map UInt8.toNat = L at *
    generalize hg : w.heap.size = g at *
    generalize ho : w2.heap.size = o at *
    generalize hrr : g + 1 = r at *
    have HL := Lib.hid hL
    clear hL hmin1 hmin2
    have HHG := Lib.hid hg
    have HHR := Lib.hid hrr
    have HHO := Lib.hid ho
    clear hg ho hrr
    go_loopw [6] (fun i wr => ∃ j : Nat, j ≤ m ∧ i = .int .i64 ((m : Int) - 1 - (j : Int)) ∧ G3 w g o r (eV x) (eV (pwL x L j)) (eV zE) wr) (fun i _ => (intOf i + 1).toNat)
    case atStart => exact ⟨0, Nat.zero_le _, by go_num, HST.out⟩
    case round =>
      clear HST
      obtain ⟨j, hj, rfl, hst⟩ := hrel
      by_cases hlt : j < m
      · obtain ⟨p, hp⟩ : ∃ p, p + 1 + j = m := ⟨m - 1 - j, by omega⟩
        have hpi : (m : Int) - 1 - (j : Int) = (p : Int) := by omega
        rw [hpi]
        obtain ⟨cur, hcur⟩ : ∃ cur, cur = pwL x L j := ⟨_, rfl⟩
        rw [← hcur] at hst
        obtain ⟨b, hb⟩ : ∃ b, b = L.getD p 0 := ⟨_, rfl⟩
        have hst' : G3 w g o r (eV x) (eV (pwB x cur b 0)) (eV zE) wr := hst
        have hcok : cur.Ok := by rw [hcur]; exact pwL_ok HX.out L j
        have HST := Lib.hid hst'
        have HCUR := Lib.hid hcur
        have HCOK := Lib.hid hcok
        have HB := Lib.hid hb
        clear hst hst' hcur hcok hb hpi
        go_wp2_with fail
        obtain ⟨wo, rfl⟩ : ∃ x, x = wr := ⟨_, rfl⟩
        go_loopw [7] (fun c wr => ∃ k : Nat, k ≤ 8 ∧ c = .int .i64 (7 - (k : Int)) ∧ G3 w g o r (eV x) (eV (pwB x cur b k)) (eV zE) wr) (fun c _ => (intOf c + 1).toNat)
        case atStart => exact ⟨0, by omega, rfl, HST.out⟩
        case round =>
          clear HST
          obtain ⟨k, hk, rfl, hst⟩ := hrel
          by_cases hltk : k < 8
          · obtain ⟨q, hq⟩ : ∃ q, q + k = 7 := ⟨7 - k, by omega⟩
            have hqi : (7 : Int) - (k : Int) = (q : Int) := by omega
            have hq8 : (q : Int) < 8 := by omega
            have hbit : pwB x cur b (k + 1) = pwS x (pwB x cur b k) (b / 2 ^ q % 2) := by rw [pwB, show 7 - k = q by omega]
            obtain ⟨y, hy⟩ : ∃ y, y = pwB x cur b k := ⟨_, rfl⟩
            have hyok : y.Ok := by rw [hy]; exact pwB_ok HX.out HCOK.out b k
            rw [← hy] at hst hbit
            rw [hqi]
            have hpl : p < l.length := by have := HM.out; have := HN.out; omega
            have hp64 : p < 64 := by omega
            have hbel := hst.bel
            rw [HHG.out] at hbel
            have hrd := HR.out.below hbel
            obtain ⟨ad, rfl, hadl, hcell⟩ := hrd.at_ (k := p) (by rw [bytesV_length]; exact hpl)
            have hbv : (bytesV l)[p]'(by rw [bytesV_length]; exact hpl) = .int .u8 (b : Int) := by
              have e1 : b = l[p].toNat := by
                rw [HB.out, ← HL.out]
                simp [List.getD_eq_getElem?_getD, List.getElem?_take, hp64, hpl]
              rw [e1]
              simp [bytesV, byteV]
            have hb256 : b < 256 := by
              have e1 : b = l[p].toNat := by
                rw [HB.out, ← HL.out]
                simp [List.getD_eq_getElem?_getD, List.getElem?_take, hp64, hpl]
              rw [e1]; exact l[p].toNat_lt
            obtain ⟨bq, hbq⟩ : ∃ bq, bq = b / 2 ^ q := ⟨_, rfl⟩
            have hbqi : (b : Int) / 2 ^ q = (bq : Int) := by rw [hbq, shr_int]
            have hbql : bq < 256 := by rw [hbq]; exact Nat.lt_of_le_of_lt (Nat.div_le_self _ _) hb256
            rw [← hbq] at hbit
            have hand := and8_one bq hbql
            obtain ⟨c, hc⟩ : ∃ c, c = bq % 2 := ⟨_, rfl⟩
            rw [← hc] at hbit hand
            have hpn : (p : Int) < (n : Int) := by have := HN.out; omega
            have HCELL := Lib.hid (hcell.trans (congrArg some hbv))
            have HBIT := Lib.hid hbit
            have HAND := Lib.hid hand
            have HYOK := Lib.hid hyok
            have HBQI := Lib.hid hbqi
            have HQ := Lib.hid hq
            have HP := Lib.hid hp
            have HHB := Lib.hid hb256
            have hc2 : c < 2 := by rw [hc]; exact Nat.mod_lt _ (by decide)
            have HHC := Lib.hid hc2
            have HK := Lib.hid hk
            have HJ := Lib.hid hj
            have hm0 : (m : Int) ≤ (n : Int) := by have := HM.out; omega
            clear hrd hcell hbv hbit hand hyok hbqi hb256 hbel hbql hc hbq hc2 hy
            have hbv2 : (bytesV l)[p]'(by rw [bytesV_length]; exact hpl) = .int .u8 (b : Int) := by
              have e1 : b = l[p].toNat := by
                rw [HB.out, ← HL.out]
                simp [List.getD_eq_getElem?_getD, List.getElem?_take, hp64, hpl]
              rw [e1]
              simp [bytesV, byteV]
            have HST := Lib.hid hst
            have HBV := Lib.hid hbv2
            clear hst hbv2 HCELL
            rcases Nat.lt_or_ge c 1 with hc1 | hc1
            · have hcc : c = 0 := by omega
              rw [hcc] at HAND HBIT
              have hand2 : bits .and .u8 ((b : Int) / 2 ^ q) 1 = 0 := by rw [HBQI.out]; exact HAND.out
              go_wp2_with (refine wpList_get_box (x := .tmp 5) HST.out.y rfl rfl rfl hu rfl elem_size ?_)
              refine calls_then (mul_any y y _ HYOK.out HYOK.out) ?_
              rintro e w3 ⟨rfl, hb3⟩
              have hst3 := HST.out.next hb3
              clear HST
              go_wp2_with (refine wpList_put_box (x := .tmp 5) (cells := eV (mulE y y)) hst3.y rfl rfl rfl rfl elem_size rfl (by simp [eV, wV, limbs, Value.oneCell']) ?_; intro w6 hb6 hw6; have hst6 := hst3.putY hw6 hb6; have hcell6 := ((HR.out.below (show Below g w w6 by have h := hst6.bel; rw [HHG.out] at h; exact h)).atc (k := p) (by rw [bytesV_length]; exact hpl)).trans (congrArg some HBV.out); have HST6 := Lib.hid hst6; clear hst3 hst6 hb6 hw6)
              have hq1 : (q : Int) - 1 = 7 - ((k + 1 : Nat) : Int) := by have := HQ.out; omega
              refine ⟨⟨k + 1, by have := HK.out; have := HQ.out; omega, by rw [hq1], ?_⟩, by simp [intOf]⟩
              rw [HBIT.out]
              exact HST6.out
            · have hcc : c = 1 := by have := HHC.out; omega
              rw [hcc] at HAND HBIT
              have hand2 : bits .and .u8 ((b : Int) / 2 ^ q) 1 = 1 := by rw [HBQI.out]; exact HAND.out
              go_wp2_with (refine wpList_get_box (x := .tmp 5) HST.out.y rfl rfl rfl hu rfl elem_size ?_)
              refine calls_then (mul_any y y _ HYOK.out HYOK.out) ?_
              rintro e w3 ⟨rfl, hb3⟩
              have hst3 := HST.out.next hb3
              clear HST
              go_wp2_with (first
                | (refine wpList_put_box (x := .tmp 5) (cells := eV (mulE y y)) hst3.y rfl rfl rfl rfl elem_size rfl (by simp [eV, wV, limbs, Value.oneCell']) ?_; intro w6 hb6 hw6; have hst6 := hst3.putY hw6 hb6; have hcell6 := ((HR.out.below (show Below g w w6 by have h := hst6.bel; rw [HHG.out] at h; exact h)).atc (k := p) (by rw [bytesV_length]; exact hpl)).trans (congrArg some HBV.out); have HST6 := Lib.hid hst6; clear hst3 hst6 hb6 hw6)
                | (refine wpList_get_box (x := .tmp 5) HST6.out.y rfl rfl rfl hu rfl elem_size ?_)
                | (refine wpList_get_box (x := .tmp 2) HST6.out.x rfl rfl rfl hu rfl elem_size ?_))
              refine calls_then (mul_any (mulE y y) x _ (mul_ok HYOK.out HYOK.out) HX.out) ?_
              rintro e w7 ⟨rfl, hb7⟩
              have hst7 := HST6.out.next hb7
              go_wp2_with (refine wpList_put_box (x := .tmp 5) (cells := eV (mulE (mulE y y) x)) hst7.y rfl rfl rfl rfl elem_size rfl (by simp [eV, wV, limbs, Value.oneCell']) ?_; intro w8 hb8 hw8; have hst8 := hst7.putY hw8 hb8; have HST8 := Lib.hid hst8; clear hst7 hst8 hb8 hw8)
              have hq1 : (q : Int) - 1 = 7 - ((k + 1 : Nat) : Int) := by have := HQ.out; omega
              refine ⟨⟨k + 1, by have := HK.out; have := HQ.out; omega, by rw [hq1], ?_⟩, by simp [intOf]⟩
              rw [HBIT.out]
              exact HST8.out
          · obtain rfl : k = 8 := by omega
            have hend : pwB x cur b 8 = pwL x L (j + 1) := by
              have e1 : L.length = m := by rw [← HL.out, List.length_map, List.length_take, HM.out, HN.out]; omega
              rw [pwL, ← HCUR.out, HB.out, e1, show m - 1 - j = p by omega]
            rw [hend] at hst
            have HST := Lib.hid hst
            clear hst hend
            go_wp2_with fail
            exact ⟨⟨j + 1, by omega, by go_num, HST.out⟩, by simp [intOf]⟩
      · obtain rfl : j = m := by omega
        have hpi : (j : Int) - 1 - (j : Int) = -1 := by omega
        rw [hpi]
        have HST := Lib.hid hst
        clear hst
        go_wp2_with (first
          | (refine wpList_get_box (x := .tmp 5) HST.out.y rfl rfl rfl hu rfl elem_size ?_)
          | (refine wpList_put_box (x := .tmp 4) (cells := eV (pwL x L j)) HST.out.z rfl rfl rfl rfl elem_size rfl (by simp [eV, wV, limbs, Value.oneCell']) ?_; intro w6 hb6 hw6))
        refine bodyPost_ret (results_box (P := Try.prog) rfl rfl hb6 hu rfl elem_size) rfl ⟨rfl, ?_⟩
        exact hw6.below HST.out.bel HST.out.lr HST.out.bel.size
end Go.Proofs.Ytbeokfpbhemcfaa
