/-
  Joined texts: Rb Dig Pm Sm Smc Rl Dgn RegV St.
-/
import Derived.Laws.MakeOwn
import Derived.Laws.OwnMore
import Derived.Test.YtbeokfpbhemcfaaJ3
import Derived.Test.YtbeokfpbhemcfaaJ1
/-
  Walks: the reference's Digits and Bytes.
-/
namespace Go.Proofs.Ytbeokfpbhemcfaa
set_option linter.unusedSimpArgs false
set_option linter.unusedVariables false
open Go.RowKit

theorem sl_bytes : SlT Try.prog 22 5 1 1 := SlT.mk1 (z := .int .u8 0) Try.underlying22 (by kernel_rfl) rfl (by decide)
theorem sl_ints : SlT Try.prog 32 3 1 8 := SlT.mk1 (z := .int .i64 0) Try.underlying32 (by kernel_rfl) rfl (by decide)
def numV (n : Nat) : Value := .int .i64 (n : Int)
def dV (l : List Nat) : List Value := l.map numV
theorem dV_length (l : List Nat) : (dV l).length = l.length := by simp [dV]
theorem dV_append (l r : List Nat) : dV (l ++ r) = dV l ++ dV r := by simp [dV]
theorem dV_at {l : List Nat} {j : Nat} (h : j < l.length) : (dV l)[j]'(by rw [dV_length]; exact h) = .int .i64 ((l[j] : Nat) : Int) := by simp [dV, numV]
theorem take_snoc {α : Type} {l : List α} {k : Nat} (h : k < l.length) : l.take (k + 1) = l.take k ++ [l[k]] := List.take_succ_eq_append_getElem h
/-- digits that the call owns -/
def OwnPost (e0 : TypeId) (n : Nat) (xs : List Value) (w : World) (e : Ending) (w' : World) : Prop :=
  ∃ A c, e = .returned (.slice A n c) ∧ OwnX w' w.heap.size e0 1 (.slice A n c) n xs ∧ Below w.heap.size w w'
theorem below_grow {B : Nat} {w w1 w2 : World} {A : Option Addr} {n c : Nat} {e : TypeId} {xs : List Value} (hb : Below B w w1) (ho : OwnX w1 B e 1 (.slice A n c) n xs) (hB : B ≤ w1.heap.size) (hg : w1.grownBy w2 (Value.slice A n c).ownBlock) : Below B w w2 :=
  hb.grown hg hB fun k hk => (ho.lt k hk).1
set_option maxRecDepth 100000 in
set_option maxHeartbeats 2000000 in
theorem digits_any (l : List UInt8) (A : Option Addr) (c : Nat) (w : World) (hr : Rd w w.heap.size A (bytesV l)) (hc : l.length ≤ c) (hl : l.length ≤ 1000000) :
    Calls Try.prog 21 #[.slice A l.length c] w (OwnPost 3 l.length (dV (digs l)) w) := by
  obtain ⟨n, hn⟩ : ∃ n, n = l.length := ⟨_, rfl⟩
  rw [← hn]
  have hn63 : (n : Int) ≤ 1000000 := by omega
  have hown0 : OwnX w w.heap.size 3 1 (.slice none 0 0) 0 (dV ((digs l).take 0)) := OwnX.nil _ _ _ _
  have HR := Lib.hid hr
  have HN := Lib.hid hn
  have HOWN0 := Lib.hid hown0
  clear hr hn hc hl hown0
  go_enter Try.func21, Try.ntmps21
  go_wp2_with fail
  generalize hg : w.heap.size = g at *
  have HHG := Lib.hid hg
  clear hg
  go_loopw [3, 4] (fun v i wr => ∃ (k : Nat) (A1 : Option Addr) (c1 : Nat), k ≤ n ∧ i = .int .i64 k ∧ v = .slice A1 k c1 ∧ OwnX wr g 3 1 (.slice A1 k c1) k (dV ((digs l).take k)) ∧ Below g w wr) (fun _ i _ => n - (intOf i).toNat)
  case atStart => exact ⟨0, none, 0, by omega, rfl, rfl, HOWN0.out, Below.refl _ _⟩
  case round =>
    clear HOWN0
    obtain ⟨k, A1, c1, hk, rfl, rfl, hown, hbel⟩ := hrel
    by_cases hlt : k < n
    · have hlt' : (k : Int) < (n : Int) := by omega
      have hkl : k < l.length := by rw [← HN.out]; exact hlt
      have hrd := HR.out.below hbel
      obtain ⟨ad, rfl, hadl, hcell⟩ := hrd.at_ (k := k) (by rw [bytesV_length]; exact hkl)
      obtain ⟨b, hb⟩ : ∃ b, b = l[k].toNat := ⟨_, rfl⟩
      have hbl : (b : Int) < 256 := by have := l[k].toNat_lt; omega
      have hbv : (bytesV l)[k]'(by rw [bytesV_length]; exact hkl) = .int .u8 (b : Int) := by
        rw [hb]; simp [bytesV, byteV]
      rw [hbv] at hcell
      have hnext : (digs l).take (k + 1) = (digs l).take k ++ [b] := by
        rw [take_snoc (by rw [digs, List.length_map]; exact hkl), hb]
        simp [digs]
      have hsz : g ≤ wr.heap.size := by rw [← HHG.out]; exact (by rw [← HHG.out] at hbel; exact hbel.size)
      have HOWN := Lib.hid hown
      have HBEL := Lib.hid hbel
      have HNEXT := Lib.hid hnext
      have HSZ := Lib.hid hsz
      clear hown hbel hnext hrd hbv hb hkl hsz
      go_wp2_with (refine wpList_append_one sl_ints rfl rfl HOWN.out rfl rfl rfl rfl (by unfold maxLen; omega) (by omega) HSZ.out ?_; intro A2 c2 w2 hown2 hg2 hn2; have HOWN2 := Lib.hid hown2; have HG2 := Lib.hid hg2; clear hown2 hg2 hn2)
      refine ⟨⟨k + 1, A2, c2, by omega, by go_num, rfl, ?_, below_grow HBEL.out HOWN.out HSZ.out HG2.out⟩, by simp [intOf]; omega⟩
      rw [HNEXT.out, dV_append]
      exact HOWN2.out
    · obtain rfl : k = n := by omega
      have HOWN := Lib.hid hown
      have HBEL := Lib.hid hbel
      clear hown hbel
      go_wp2_with fail
      go_ret
      refine ⟨A1, c1, rfl, ?_, by rw [HHG.out]; exact HBEL.out⟩
      rw [HHG.out]
      have h := HOWN.out
      rw [List.take_of_length_le (by rw [digs, List.length_map, HN.out]; exact Nat.le_refl _)] at h
      exact h
/-- the 32 bytes of digits -/
def refB (l : List Nat) : List UInt8 := (List.range 32).map fun i => UInt8.ofNat (l.getD i 0)
set_option maxRecDepth 100000 in
set_option maxHeartbeats 2000000 in
theorem rbytes_any (l : List Nat) (hd : ∀ d ∈ l, d < 256) (A : Option Addr) (c : Nat) (w : World) (hr : Rd w w.heap.size A (dV l)) (hc : l.length ≤ c) (hl : l.length ≤ 1000000) :
    Calls Try.prog 19 #[.slice A l.length c] w (OwnPost 5 32 (bytesV (refB l)) w) := by
  obtain ⟨n, hn⟩ : ∃ n, n = l.length := ⟨_, rfl⟩
  rw [← hn]
  have hn63 : (n : Int) ≤ 1000000 := by omega
  have hown0 : OwnX w w.heap.size 5 1 (.slice none 0 0) 0 (bytesV ((refB l).take 0)) := OwnX.nil _ _ _ _
  have hd' : ∀ k, l.getD k 0 < 256 := fun k => by
    rw [List.getD_eq_getElem?_getD]
    by_cases h : k < l.length
    · rw [List.getElem?_eq_getElem h]; exact hd _ (List.getElem_mem h)
    · rw [List.getElem?_eq_none (by omega)]; decide
  have HR := Lib.hid hr
  have HN := Lib.hid hn
  have HD := Lib.hid hd'
  have HOWN0 := Lib.hid hown0
  clear hr hn hc hl hown0 hd hd'
  go_enter Try.func19, Try.ntmps19
  go_wp2_with fail
  generalize hg : w.heap.size = g at *
  have HHG := Lib.hid hg
  clear hg
  go_loopw [3, 4] (fun v i wr => ∃ (k : Nat) (A1 : Option Addr) (c1 : Nat), k ≤ 32 ∧ i = .int .i64 k ∧ v = .slice A1 k c1 ∧ OwnX wr g 5 1 (.slice A1 k c1) k (bytesV ((refB l).take k)) ∧ Below g w wr) (fun _ i _ => 32 - (intOf i).toNat)
  case atStart => exact ⟨0, none, 0, by omega, rfl, rfl, HOWN0.out, Below.refl _ _⟩
  case round =>
    clear HOWN0
    obtain ⟨k, A1, c1, hk, rfl, rfl, hown, hbel⟩ := hrel
    by_cases hlt : k < 32
    · have hlt' : (k : Int) < 32 := by omega
      have hrd := HR.out.below hbel
      obtain ⟨b, hb⟩ : ∃ b, b = l.getD k 0 := ⟨_, rfl⟩
      have hbl : (b : Int) < 256 := by have := HD.out k; omega
      have hnext : (refB l).take (k + 1) = (refB l).take k ++ [UInt8.ofNat b] := by
        rw [take_snoc (by rw [refB, List.length_map, List.length_range]; exact hlt), hb]
        simp [refB]
      have hbv : byteV (UInt8.ofNat b) = .int .u8 (b : Int) := by
        rw [byteV, UInt8.toNat_ofNat', Nat.mod_eq_of_lt (by omega)]
      have hsz : g ≤ wr.heap.size := by rw [← HHG.out]; exact (by rw [← HHG.out] at hbel; exact hbel.size)
      have HOWN := Lib.hid hown
      have HBEL := Lib.hid hbel
      have HNEXT := Lib.hid hnext
      have HSZ := Lib.hid hsz
      have HBV := Lib.hid hbv
      by_cases hkn : k < n
      · have hkn' : (k : Int) < (n : Int) := by omega
        have hkl : k < l.length := by rw [← HN.out]; exact hkn
        obtain ⟨ad, rfl, hadl, hcell⟩ := hrd.at_ (k := k) (by rw [dV_length]; exact hkl)
        rw [dV_at hkl, show l[k] = b by rw [hb, List.getD_eq_getElem?_getD, List.getElem?_eq_getElem hkl]; rfl] at hcell
        clear hown hbel hnext hrd hb hkl hsz hbv
        go_wp2_with (refine wpList_append_one sl_bytes rfl rfl HOWN.out rfl rfl rfl rfl (by unfold maxLen; omega) (by omega) HSZ.out ?_; intro A2 c2 w2 hown2 hg2 hn2; have HOWN2 := Lib.hid hown2; have HG2 := Lib.hid hg2; clear hown2 hg2 hn2)
        refine ⟨⟨k + 1, A2, c2, by omega, by go_num, rfl, ?_, below_grow HBEL.out HOWN.out HSZ.out HG2.out⟩, by simp [intOf]; omega⟩
        rw [HNEXT.out, bytesV_append, show bytesV [UInt8.ofNat b] = [byteV (UInt8.ofNat b)] from rfl, HBV.out]
        exact HOWN2.out
      · have hkn' : ¬ (k : Int) < (n : Int) := by omega
        have hb0 : b = 0 := by rw [hb, List.getD_eq_getElem?_getD, List.getElem?_eq_none (by rw [← HN.out]; omega)]; rfl
        subst hb0
        clear hown hbel hnext hrd hb hsz hbv
        go_wp2_with (refine wpList_append_one sl_bytes rfl rfl HOWN.out rfl rfl rfl rfl (by unfold maxLen; omega) (by omega) HSZ.out ?_; intro A2 c2 w2 hown2 hg2 hn2; have HOWN2 := Lib.hid hown2; have HG2 := Lib.hid hg2; clear hown2 hg2 hn2)
        refine ⟨⟨k + 1, A2, c2, by omega, by go_num, rfl, ?_, below_grow HBEL.out HOWN.out HSZ.out HG2.out⟩, by simp [intOf]; omega⟩
        rw [HNEXT.out, bytesV_append]
        exact HOWN2.out
    · obtain rfl : k = 32 := by omega
      have HOWN := Lib.hid hown
      have HBEL := Lib.hid hbel
      clear hown hbel
      go_wp2_with fail
      go_ret
      refine ⟨A1, c1, rfl, ?_, by rw [HHG.out]; exact HBEL.out⟩
      rw [HHG.out]
      have h := HOWN.out
      rw [List.take_of_length_le (by rw [refB, List.length_map, List.length_range]; exact Nat.le_refl _)] at h
      exact h
end Go.Proofs.Ytbeokfpbhemcfaa
/-
  Plain: numbers as digits of 256.
-/
namespace Go.Proofs.Ytbeokfpbhemcfaa
set_option linter.unusedSimpArgs false
set_option linter.unusedVariables false
open Go.RowKit

/-- digits -/
def Dg (l : List Nat) : Prop := ∀ d ∈ l, d < 256
theorem dg_getD {l : List Nat} (h : Dg l) (k : Nat) : l.getD k 0 < 256 := by
  rw [List.getD_eq_getElem?_getD]
  by_cases hk : k < l.length
  · rw [List.getElem?_eq_getElem hk]; exact h _ (List.getElem_mem hk)
  · rw [List.getElem?_eq_none (by omega)]; decide
theorem pow_step (N k : Nat) : N / 256 ^ k = N / 256 ^ k % 256 + 256 * (N / 256 ^ (k + 1)) := by
  rw [Nat.pow_succ, ← Nat.div_div_eq_div_mul]
  omega
theorem high_same : ∀ (t k N M : Nat), N < 256 ^ (k + t) → M < 256 ^ (k + t) → (∀ j, k ≤ j → N / 256 ^ j % 256 = M / 256 ^ j % 256) → N / 256 ^ k = M / 256 ^ k
  | 0, k, N, M, hN, hM, _ => by rw [Nat.div_eq_of_lt (show N < 256 ^ k from hN), Nat.div_eq_of_lt (show M < 256 ^ k from hM)]
  | t + 1, k, N, M, hN, hM, h => by
    have ih := high_same t (k + 1) N M (by rw [show k + 1 + t = k + (t + 1) by omega]; exact hN) (by rw [show k + 1 + t = k + (t + 1) by omega]; exact hM) fun j hj => h j (by omega)
    rw [pow_step N k, pow_step M k, ih, h k (Nat.le_refl _)]
theorem leV_big {l : List Nat} (h : Dg l) {t : Nat} (ht : l.length ≤ t) : leV l < 256 ^ t :=
  Nat.lt_of_lt_of_le (leV_lt l h) (Nat.pow_le_pow_right (by decide) ht)
theorem high_same' {a b : List Nat} (ha : Dg a) (hb : Dg b) (k : Nat) (h : ∀ j, k ≤ j → a.getD j 0 = b.getD j 0) : leV a / 256 ^ k = leV b / 256 ^ k :=
  high_same (a.length + b.length) k _ _ (leV_big ha (by omega)) (leV_big hb (by omega)) fun j hj => by rw [leV_at a ha, leV_at b hb, h j hj]
theorem less_at {a b : List Nat} (ha : Dg a) (hb : Dg b) (k : Nat) (h : ∀ j, k < j → a.getD j 0 = b.getD j 0) (hne : a.getD k 0 ≠ b.getD k 0) : (leV a < leV b) = (a.getD k 0 < b.getD k 0) := by
  have hq := high_same' ha hb (k + 1) fun j hj => h j (by omega)
  have e1 := pow_step (leV a) k
  have e2 := pow_step (leV b) k
  rw [leV_at a ha, hq] at e1
  rw [leV_at b hb] at e2
  apply propext
  constructor
  · intro hl
    have h1 : leV a / 256 ^ k ≤ leV b / 256 ^ k := Nat.div_le_div_right (Nat.le_of_lt hl)
    omega
  · intro hl
    have h1 : leV a / 256 ^ k < leV b / 256 ^ k := by omega
    exact Nat.lt_of_not_le fun h2 => absurd (Nat.div_le_div_right (c := 256 ^ k) h2) (by omega)
theorem less_no {a b : List Nat} (ha : Dg a) (hb : Dg b) (h : ∀ j, a.getD j 0 = b.getD j 0) : leV a = leV b := by
  have hq := high_same' ha hb 0 fun j _ => h j
  rw [Nat.pow_zero, Nat.div_one, Nat.div_one] at hq
  exact hq
theorem leV_snoc (l : List Nat) (d : Nat) : leV (l ++ [d]) = leV l + 256 ^ l.length * d := by rw [leV_append]; simp [leV]
theorem leV_take_step (l : List Nat) (k : Nat) : leV (l.take (k + 1)) = leV (l.take k) + 256 ^ k * l.getD k 0 := by
  by_cases h : k < l.length
  · rw [take_snoc h, leV_snoc, List.length_take, Nat.min_eq_left (by omega), List.getD_eq_getElem?_getD, List.getElem?_eq_getElem h]; rfl
  · rw [List.take_of_length_le (by omega), List.take_of_length_le (by omega), List.getD_eq_getElem?_getD, List.getElem?_eq_none (by omega)]; simp
/-- the digits of p -/
def pL : List Nat := 237 :: (List.replicate 30 255 ++ [127])
theorem pL_dg : Dg pL := by unfold Dg pL; decide
theorem pL_val : leV pL = PN := by decide
theorem pL_len : pL.length = 32 := by decide
end Go.Proofs.Ytbeokfpbhemcfaa
/-
  Plain: powers modulo p, reckoned.
-/
namespace Go.Proofs.Ytbeokfpbhemcfaa
set_option linter.unusedSimpArgs false
set_option linter.unusedVariables false
open Go.RowKit

/-- x to the power of a number of digits, modulo m -/
def pm (m x : Nat) : List Nat → Nat
  | [] => 1 % m
  | d :: r => (x ^ d % m) * ((pm m x r) ^ 256 % m) % m
theorem pm_eq (m x : Nat) : ∀ l, pm m x l = x ^ leV l % m
  | [] => by rw [pm, leV, Nat.pow_zero]
  | d :: r => by
    rw [pm, pm_eq m x r, leV, Nat.pow_add, Nat.pow_mul', ← Nat.pow_mod, ← Nat.mul_mod]
theorem invL_val : leV invL = PN - 2 := by decide
theorem invL_dg : Dg invL := by unfold Dg invL; decide
theorem invL_length : invL.length = 32 := by decide
theorem invE_ok {x : E5} (hx : x.Ok) : (invE x).Ok := pwL_ok hx _ _
theorem invE_val (x : E5) : (invE x).val % PN = x.val ^ (PN - 2) % PN := by
  have h := pwL_val x invL invL_dg 32 (by decide)
  rw [show invL.length - 32 = 0 by decide, List.drop_zero, invL_val] at h
  exact h
theorem two_inv : 2 ^ (PN - 2) % PN * 2 % PN = 1 := by
  have h := pm_eq PN 2 invL
  rw [invL_val] at h
  rw [← h]
  decide
def oneE : E5 := mulE (invE (intE 2)) (intE 2)
theorem intE_nat (n : Nat) : intE (n : Int) = natE n := by
  unfold intE
  rw [if_neg (by omega), Int.natAbs_natCast]
theorem oneE_val : oneE.val % PN = 1 := by
  have e : intE 2 = natE 2 := intE_nat 2
  rw [oneE, mul_val, e, Nat.mul_mod, invE_val, natE_val, ← Nat.mul_mod]
  have h := two_inv
  rw [Nat.mod_mul_mod] at h
  exact h
theorem oneE_ok : oneE.Ok := mul_ok (invE_ok (intE_ok (by decide) (by decide))) (intE_ok (by decide) (by decide))
theorem limbs_inj {x y : E5} (h : limbs x = limbs y) : x = y := by
  obtain ⟨a1, b1, c1, d1, e1⟩ := x
  obtain ⟨a2, b2, c2, d2, e2⟩ := y
  simp only [limbs, List.cons.injEq] at h
  obtain ⟨rfl, rfl, rfl, rfl, rfl, _⟩ := h
  rfl
theorem eqE {x y : E5} (hx : x.Lt 18446744073709551616) (hy : y.Lt 18446744073709551616) : (limbs (leastE x) == limbs (leastE y)) = decide (x.val % PN = y.val % PN) := by
  rw [Bool.eq_iff_iff, beq_iff_eq, decide_eq_true_iff, ← least_val hx, ← least_val hy]
  exact ⟨fun h => by rw [limbs_inj h], fun h => by rw [least_inj (least_lt x) (least_lt y) h]⟩
theorem oneE_one : (limbs (leastE oneE) == limbs (leastE (intE 1))) = true := by
  rw [eqE oneE_ok.big (intE_ok (by decide) (by decide)).big, oneE_val, show intE 1 = natE 1 from intE_nat 1, natE_val]
  decide
theorem oneE_zero : (limbs (leastE oneE) == limbs (leastE (intE 0))) = false := by
  rw [eqE oneE_ok.big (intE_ok (by decide) (by decide)).big, oneE_val, show intE 0 = natE 0 from intE_nat 0, natE_val]
  decide
theorem minus_val : (leastE (intE (-1))).val = PN - 1 := by decide
end Go.Proofs.Ytbeokfpbhemcfaa
/-
  Plain: the same modulo p; whether two elements are the same.
-/
namespace Go.Proofs.Ytbeokfpbhemcfaa
set_option linter.unusedSimpArgs false
set_option linter.unusedVariables false
open Go.RowKit

def eqB (x y : E5) : Bool := limbs (leastE x) == limbs (leastE y)
theorem eqB_true {x y : E5} (hx : x.Ok) (hy : y.Ok) (h : x.val % PN = y.val % PN) : eqB x y = true := by
  rw [eqB, eqE hx.big hy.big]; exact decide_eq_true h
/-- the same modulo p -/
def Sm (a b : Nat) : Prop := a % PN = b % PN
theorem Sm.refl (a : Nat) : Sm a a := rfl
theorem Sm.symm {a b : Nat} (h : Sm a b) : Sm b a := Eq.symm h
theorem Sm.trans {a b c : Nat} (h : Sm a b) (k : Sm b c) : Sm a c := Eq.trans h k
theorem Sm.add {a b c d : Nat} (h : Sm a b) (k : Sm c d) : Sm (a + c) (b + d) := by
  unfold Sm at *
  rw [Nat.add_mod, h, k, ← Nat.add_mod]
theorem Sm.mul {a b c d : Nat} (h : Sm a b) (k : Sm c d) : Sm (a * c) (b * d) := by
  unfold Sm at *
  rw [Nat.mul_mod, h, k, ← Nat.mul_mod]
theorem Sm.of {a b : Nat} (h : a = b) : Sm a b := by rw [h]; exact Sm.refl _
theorem Sm.back {a b c : Nat} (h : Sm (a + c) (b + c)) : Sm a b := by
  unfold Sm at *
  simp only [PN] at *
  omega
theorem sm_add (x y : E5) : Sm (addE x y).val (x.val + y.val) := add_val x y
theorem sm_mul (x y : E5) : Sm (mulE x y).val (x.val * y.val) := mul_val x y
theorem sm_sub {x y : E5} (hy : y.Ok) : Sm ((subE x y).val + y.val) x.val := sub_val hy
end Go.Proofs.Ytbeokfpbhemcfaa
/-
  The field's contracts once more; a struct's load behind a guard.
-/
namespace Go.Proofs.Ytbeokfpbhemcfaa
set_option linter.unusedSimpArgs false
set_option linter.unusedVariables false
open Go.RowKit

theorem mul_c (x y : E5) (w : World) (hx : x.Ok) (hy : y.Ok) : Calls Try.prog 38 #[.agg (eV x), .agg (eV y)] w (ElemPost (mulE x y) w) := mul_any x y w hx hy
theorem add_c (x y : E5) (w : World) (hx : x.Ok) (hy : y.Ok) : Calls Try.prog 32 #[.agg (eV x), .agg (eV y)] w (ElemPost (addE x y) w) := add_any x y w (E5.Lt.mono hx (by decide)) (E5.Lt.mono hy (by decide))
theorem sub_c (x y : E5) (w : World) (hx : x.Ok) (hy : y.Ok) : Calls Try.prog 48 #[.agg (eV x), .agg (eV y)] w (ElemPost (subE x y) w) := sub_any x y w (E5.Lt.mono hx (by decide)) hy.big
def BoolPost (b : Bool) (w : World) (e : Ending) (w' : World) : Prop := e = .returned (.bool b) ∧ Below w.heap.size w w'
theorem equal_c (x y : E5) (w : World) (hx : x.Ok) (hy : y.Ok) : Calls Try.prog 47 #[.agg (eV x), .agg (eV y)] w (BoolPost (eqB x y) w) := equal_any x y w hx.big hy.big
theorem equal_t (x y : E5) (w : World) (hx : x.Ok) (hy : y.Ok) (h : eqB x y = true) : Calls Try.prog 47 #[.agg (eV x), .agg (eV y)] w (BoolPost true w) := by
  have h1 := equal_c x y w hx hy
  rw [h] at h1; exact h1
/-- a box that was laid, and what it leaves -/
theorem box_new {w0 u u' : World} {cs : Array Value} {o : Obj} (hbel : Below w0.heap.size w0 u) (hw : Wrote u.heap.size (u.alloc o) u') : Below w0.heap.size w0 u' :=
  hw.below (hbel.alloc hbel.size _) hbel.size (by simp; have := hbel.size; omega)
theorem box_keep {u u' : World} {g : Nat} {t : TypeId} {cs : Array Value} {o : Obj} (h : Blk u g t cs) (hw : Wrote u.heap.size (u.alloc o) u') : Blk u' g t cs :=
  hw.blk (h.alloc _) (Nat.ne_of_lt h.lt)
theorem rd_takeB {w : World} {B n : Nat} {A : Option Addr} {l : List UInt8} (h : Rd w B A (bytesV l)) : Rd w B A (bytesV (l.take n)) := fun i u hi => by
  refine h i u ?_
  rw [bytesV, List.getElem?_map, List.getElem?_take] at hi
  rw [bytesV, List.getElem?_map]
  split at hi
  · exact hi
  · simp at hi
section
variable {P : Program}
/-- 'x := *p', a whole struct, behind a guard that holds -/
theorem wpList_get_boxg {w : World} {ops : Array Oper} {rest : List Oper} {o : Oper} {a : Act} {Q : Exit → Act → World → Prop} {ty : TypeId} {x : Operand} {g : Nat} {cs : Array Value} {t : TypeId} {d : TypeDesc}
    (hg : Blk w g t cs) (hw : Region.wanted o (yielded ops a.tmps) = true) (ho : o.op = .load ty x) (hx : a.eval x = .pointer (some ⟨g, 0, none⟩))
    (hu : P.underlying ty = some d) (hd : (match d with | .struct _ | .array _ _ => true | _ => false) = true) (hi : (P.info? ty).map (·.size) = some cs.size)
    (h : wpList P ops Q rest (a.put o.dst (.agg cs)) w) : wpList P ops Q (o :: rest) a w := by
  refine wpList_step fun K hK => ?_
  rw [if_pos hw]
  exact wp_load_row ty x ho g hx t cs (0, 0) d hg hu hd hi (hK _ _ h)
end
theorem odd_c (x : E5) (hx : x.Ok) (u : World) : Calls Try.prog 40 #[.agg (eV x)] u (BoolPost (decide (x.val % PN % 2 = 1)) u) := by
  have h := odd_any x u hx.big
  have e : (leastE x).a % 2 = x.val % PN % 2 := by
    rw [← least_val hx.big]
    simp only [E5.val]
    omega
  rw [e] at h
  exact h
end Go.Proofs.Ytbeokfpbhemcfaa
/-
  Walks: the reference's P and Less.
-/
namespace Go.Proofs.Ytbeokfpbhemcfaa
set_option linter.unusedSimpArgs false
set_option linter.unusedVariables false
open Go.RowKit

/-- digits that read -/
def DigPost (l : List Nat) (w : World) (e : Ending) (w' : World) : Prop :=
  ∃ A c, e = .returned (.slice A l.length c) ∧ l.length ≤ c ∧ Rd w' w'.heap.size A (dV l) ∧ Below w.heap.size w w'
theorem dV_set (l : List Nat) (j n : Nat) : (dV l).toArray.setIfInBounds j (.int .i64 (n : Int)) = (dV (l.set j n)).toArray := by simp [dV, numV, List.map_set]
/-- a block of digits that the call made -/
structure D1 (w0 : World) (o : Nat) (l : List Nat) (u : World) : Prop where
  bel : Below w0.heap.size w0 u
  out : Blk u o 3 (dV l).toArray
  lo : w0.heap.size ≤ o
theorem D1.put {w0 u u' : World} {o : Nat} {l l' : List Nat} (k : D1 w0 o l u) (hw : Wrote o u u') (hb : Blk u' o 3 (dV l').toArray) : D1 w0 o l' u' :=
  ⟨hw.below k.bel k.lo k.bel.size, hb, k.lo⟩
theorem D1.next {w0 u u' : World} {o : Nat} {l : List Nat} (k : D1 w0 o l u) (hb : Below u.heap.size u u') : D1 w0 o l u' :=
  ⟨k.bel.trans (hb.mono k.bel.size), k.out.below hb k.out.lt, k.lo⟩
theorem D1.drew {w0 u : World} {o : Nat} {l : List Nat} (k : D1 w0 o l u) : D1 w0 o l u.drew := ⟨k.bel.drew, k.out, k.lo⟩
theorem d1_new {w0 u : World} (l : List Nat) (hb : Below w0.heap.size w0 u) : D1 w0 u.heap.size l (u.alloc (.cells (dV l).toArray 3)) :=
  ⟨hb.alloc hb.size _, Blk.new _ _ _, hb.size⟩
theorem D1.post {w0 u : World} {o n c : Nat} {l : List Nat} (k : D1 w0 o l u) (hn : n = l.length) (hc : n ≤ c) : DigPost l w0 (.returned (.slice (some ⟨o, 0, none⟩) n c)) u :=
  ⟨_, c, by rw [hn], by omega, Rd.of_blk k.out k.out.lt, k.bel⟩
theorem dig_len (l : List Nat) : (dV l).toArray.size = l.length := by simp [dV]
theorem int_size : (Try.prog.info? 3).map (·.size) = some 1 := by kernel_rfl
theorem pfill_end : ((fillL 32).set 0 237).set 31 127 = pL := by decide
set_option maxRecDepth 100000 in
set_option maxHeartbeats 2000000 in
theorem p_any (w : World) : Calls Try.prog 35 #[] w (DigPost pL w) := by
  have hmk : ∀ u : World, (Instr.makeSlice 32 (.int .i64 32) (.int .i64 32)).run Try.prog u = .ok (.slice (some ⟨u.heap.size, 0, none⟩) 32 32) (u.alloc (.cells (dV (fillL 0)).toArray 3)) := fun _ => by kernel_rfl
  have hst0 := d1_new (fillL 0) (Below.refl w.heap.size w)
  have HST0 := Lib.hid hst0
  clear hst0
  go_enter Try.func35, Try.ntmps35
  go_wp2_with fail
  generalize ho : w.heap.size = o at HST0 ⊢
  clear ho hmk
  go_loopw [2] (fun i wr => ∃ k : Nat, k ≤ 32 ∧ i = .int .i64 k ∧ D1 w o (fillL k) wr) (fun i _ => 32 - (intOf i).toNat)
  case atStart => exact ⟨0, by omega, rfl, HST0.out⟩
  case round =>
    clear HST0
    obtain ⟨k, hk, rfl, hst⟩ := hrel
    by_cases hlt : k < 32
    · have hlt' : (k : Int) < 32 := by omega
      have HST := Lib.hid hst
      clear hst
      go_wp2_with (refine wpList_put_cell (x := .tmp 10) (i := k) (v := .int .i64 255) HST.out.out rfl rfl rfl rfl int_size (by rw [dig_len, fill_len k (by omega)]; exact hlt) rfl ?_; intro w5 hb5 hw5; have hst5 := HST.out.put (l' := fillL (k + 1)) hw5 (by rw [show (Value.int IntKind.i64 255) = .int .i64 ((255 : Nat) : Int) from rfl, dV_set, fill_set k hlt] at hb5; exact hb5); have HST5 := Lib.hid hst5; clear hst5 hb5 hw5)
      exact ⟨⟨k + 1, by omega, by go_num, HST5.out⟩, by simp [intOf]; omega⟩
    · obtain rfl : k = 32 := by omega
      have HST := Lib.hid hst
      clear hst
      go_wp2_with (first
        | (refine wpList_put_cell (x := .tmp 12) (i := 0) (v := .int .i64 237) HST.out.out rfl rfl rfl rfl int_size (by rw [dig_len, fill_len 32 (by omega)]; decide) rfl ?_; intro w5 hb5 hw5; have hst5 := HST.out.put (l' := (fillL 32).set 0 237) hw5 (by rw [show (Value.int IntKind.i64 237) = .int .i64 ((237 : Nat) : Int) from rfl, dV_set] at hb5; exact hb5); have HST5 := Lib.hid hst5; clear hst5 hb5 hw5)
        | (refine wpList_put_cell (x := .tmp 14) (i := 31) (v := .int .i64 127) HST5.out.out rfl rfl rfl rfl int_size (by rw [dig_len, List.length_set, fill_len 32 (by omega)]; decide) rfl ?_; intro w6 hb6 hw6; have hst6 := HST5.out.put (l' := pL) hw6 (by rw [show (Value.int IntKind.i64 127) = .int .i64 ((127 : Nat) : Int) from rfl, dV_set, pfill_end] at hb6; exact hb6); have HST6 := Lib.hid hst6; clear hst6 hb6 hw6))
      go_ret
      exact HST6.out.post pL_len.symm (by decide)
theorem less_step {a b : List Nat} {j p n m : Nat} (h : ∀ t, n + m + 1 ≤ t + j → a.getD t 0 = b.getD t 0) (hp : p + j = n + m) (he : a.getD p 0 = b.getD p 0) : ∀ t, n + m + 1 ≤ t + (j + 1) → a.getD t 0 = b.getD t 0 := fun t ht => by
  by_cases hpt : t = p
  · rw [hpt]; exact he
  · exact h t (by omega)
set_option maxRecDepth 100000 in
set_option maxHeartbeats 2000000 in
theorem less_any (a b : List Nat) (ha : Dg a) (hb : Dg b) (A B : Option Addr) (c d : Nat) (w : World) (hra : Rd w w.heap.size A (dV a)) (hrb : Rd w w.heap.size B (dV b)) (hla : a.length ≤ 1000000) (hlb : b.length ≤ 1000000) :
    Calls Try.prog 34 #[.slice A a.length c, .slice B b.length d] w (fun e w' => e = .returned (.bool (decide (leV a < leV b))) ∧ w' = w) := by
  obtain ⟨n, hn⟩ : ∃ n, n = a.length := ⟨_, rfl⟩
  obtain ⟨m, hm⟩ : ∃ m, m = b.length := ⟨_, rfl⟩
  rw [← hn, ← hm]
  have hn63 : (n : Int) ≤ 1000000 := by omega
  have hm63 : (m : Int) ≤ 1000000 := by omega
  have HRA := Lib.hid hra
  have HRB := Lib.hid hrb
  have HA := Lib.hid ha
  have HB := Lib.hid hb
  have HN := Lib.hid hn
  have HM := Lib.hid hm
  clear hra hrb ha hb hn hm hla hlb
  go_enter Try.func34, Try.ntmps34
  go_wp2_with fail
  go_loop [5] (fun i => ∃ j : Nat, j ≤ n + m + 1 ∧ i = .int .i64 ((n : Int) + (m : Int) - (j : Int)) ∧ ∀ t, n + m + 1 ≤ t + j → a.getD t 0 = b.getD t 0) (fun i => (intOf i + 1).toNat)
  case atStart => exact ⟨0, by omega, by go_num, fun t ht => by rw [List.getD_eq_getElem?_getD, List.getD_eq_getElem?_getD, List.getElem?_eq_none (by have := HN.out; omega), List.getElem?_eq_none (by have := HM.out; omega)]⟩
  case round =>
    obtain ⟨j, hj, rfl, hsame⟩ := hrel
    have HSAME := Lib.hid hsame
    clear hsame
    by_cases hlt : j < n + m + 1
    · obtain ⟨p, hp⟩ : ∃ p, p + j = n + m := ⟨n + m - j, by omega⟩
      have hpi : (n : Int) + (m : Int) - (j : Int) = (p : Int) := by omega
      rw [hpi]
      obtain ⟨x, hx⟩ : ∃ x, x = a.getD p 0 := ⟨_, rfl⟩
      obtain ⟨y, hy⟩ : ∃ y, y = b.getD p 0 := ⟨_, rfl⟩
      have HX := Lib.hid hx
      have HY := Lib.hid hy
      have HP := Lib.hid hp
      have hpl2 : (p : Int) ≤ 2000000 := by omega
      clear hpi
      have hcase : ∀ Z : Prop, (((p < n → ∃ ad, A = some ad ∧ w.cell? (ad.add p) = some (.int .i64 (x : Int))) → (¬ p < n → x = 0) → (p < m → ∃ ad, B = some ad ∧ w.cell? (ad.add p) = some (.int .i64 (y : Int))) → (¬ p < m → y = 0) → Z) → Z) := fun Z hZ => hZ
        (fun h => by
          obtain ⟨ad, h1, _, h3⟩ := HRA.out.at_ (k := p) (by rw [dV_length, ← HN.out]; exact h)
          have hpa : p < a.length := by rw [← HN.out]; exact h
          rw [dV_at hpa, show a[p] = x by rw [hx, List.getD_eq_getElem?_getD, List.getElem?_eq_getElem hpa]; rfl] at h3
          exact ⟨ad, h1, h3⟩)
        (fun h => by rw [hx, List.getD_eq_getElem?_getD, List.getElem?_eq_none (by rw [← HN.out]; omega)]; rfl)
        (fun h => by
          obtain ⟨ad, h1, _, h3⟩ := HRB.out.at_ (k := p) (by rw [dV_length, ← HM.out]; exact h)
          have hpa : p < b.length := by rw [← HM.out]; exact h
          rw [dV_at hpa, show b[p] = y by rw [hy, List.getD_eq_getElem?_getD, List.getElem?_eq_getElem hpa]; rfl] at h3
          exact ⟨ad, h1, h3⟩)
        (fun h => by rw [hy, List.getD_eq_getElem?_getD, List.getElem?_eq_none (by rw [← HM.out]; omega)]; rfl)
      apply hcase
      intro h1 h2 h3 h4
      clear hcase hx hy hp
      by_cases hpn : p < n <;> by_cases hpm : p < m
      · -- 1 1
        obtain ⟨ad, rfl, hca⟩ := h1 hpn
        have hpn' : (p : Int) < (n : Int) := by omega
        obtain ⟨bd, rfl, hcb⟩ := h3 hpm
        have hpm' : (p : Int) < (m : Int) := by omega
        clear h1 h2 h3 h4
        by_cases hxy : x = y
        · subst hxy
          go_wp2_with fail
          have hq1 : (p : Int) - 1 = (n : Int) + (m : Int) - ((j + 1 : Nat) : Int) := by have := HP.out; omega
          exact ⟨⟨j + 1, by omega, by rw [hq1], less_step HSAME.out HP.out (HX.out.symm.trans HY.out)⟩, by simp [intOf]⟩
        · have hxy' : ¬ (x : Int) = (y : Int) := by omega
          have HXY := Lib.hid hxy
          clear hxy
          go_wp2_with fail
          go_ret
          refine ⟨?_, rfl⟩
          have hl := less_at HA.out HB.out p (fun t ht => HSAME.out t (by have := HP.out; omega)) (by rw [← HX.out, ← HY.out]; exact HXY.out)
          rw [← HX.out, ← HY.out] at hl
          rw [show decide (leV a < leV b) = decide (x < y) from decide_eq_decide.mpr (by rw [hl])]
          exact congrArg (fun b => Ending.returned (.bool b)) (decide_eq_decide.mpr (by omega))
      · -- 1 0
        obtain ⟨ad, rfl, hca⟩ := h1 hpn
        have hpn' : (p : Int) < (n : Int) := by omega
        obtain rfl := h4 hpm
        have hpm' : ¬ (p : Int) < (m : Int) := by omega
        clear h1 h2 h3 h4
        by_cases hxy : x = 0
        · subst hxy
          go_wp2_with fail
          have hq1 : (p : Int) - 1 = (n : Int) + (m : Int) - ((j + 1 : Nat) : Int) := by have := HP.out; omega
          exact ⟨⟨j + 1, by omega, by rw [hq1], less_step HSAME.out HP.out (HX.out.symm.trans HY.out)⟩, by simp [intOf]⟩
        · have hxy' : ¬ (x : Int) = (0 : Int) := by omega
          have HXY := Lib.hid hxy
          clear hxy
          go_wp2_with fail
          go_ret
          refine ⟨?_, rfl⟩
          have hl := less_at HA.out HB.out p (fun t ht => HSAME.out t (by have := HP.out; omega)) (by rw [← HX.out, ← HY.out]; exact HXY.out)
          rw [← HX.out, ← HY.out] at hl
          rw [show decide (leV a < leV b) = decide (x < 0) from decide_eq_decide.mpr (by rw [hl])]
          exact congrArg (fun b => Ending.returned (.bool b)) (decide_eq_decide.mpr (by omega))
      · -- 0 1
        obtain rfl := h2 hpn
        have hpn' : ¬ (p : Int) < (n : Int) := by omega
        obtain ⟨bd, rfl, hcb⟩ := h3 hpm
        have hpm' : (p : Int) < (m : Int) := by omega
        clear h1 h2 h3 h4
        by_cases hxy : 0 = y
        · subst hxy
          go_wp2_with fail
          have hq1 : (p : Int) - 1 = (n : Int) + (m : Int) - ((j + 1 : Nat) : Int) := by have := HP.out; omega
          exact ⟨⟨j + 1, by omega, by rw [hq1], less_step HSAME.out HP.out (HX.out.symm.trans HY.out)⟩, by simp [intOf]⟩
        · have hxy' : ¬ (0 : Int) = (y : Int) := by omega
          have HXY := Lib.hid hxy
          clear hxy
          go_wp2_with fail
          go_ret
          refine ⟨?_, rfl⟩
          have hl := less_at HA.out HB.out p (fun t ht => HSAME.out t (by have := HP.out; omega)) (by rw [← HX.out, ← HY.out]; exact HXY.out)
          rw [← HX.out, ← HY.out] at hl
          rw [show decide (leV a < leV b) = decide (0 < y) from decide_eq_decide.mpr (by rw [hl])]
          exact congrArg (fun b => Ending.returned (.bool b)) (decide_eq_decide.mpr (by omega))
      · -- 0 0
        obtain rfl := h2 hpn
        have hpn' : ¬ (p : Int) < (n : Int) := by omega
        obtain rfl := h4 hpm
        have hpm' : ¬ (p : Int) < (m : Int) := by omega
        clear h1 h2 h3 h4
        go_wp2_with fail
        have hq1 : (p : Int) - 1 = (n : Int) + (m : Int) - ((j + 1 : Nat) : Int) := by have := HP.out; omega
        exact ⟨⟨j + 1, by omega, by rw [hq1], less_step HSAME.out HP.out (HX.out.symm.trans HY.out)⟩, by simp [intOf]⟩
    · obtain rfl : j = n + m + 1 := by omega
      have hno := less_no HA.out HB.out fun t => HSAME.out t (by omega)
      have hm1 : (n : Int) + (m : Int) - ((n + m + 1 : Nat) : Int) = -1 := by omega
      have HNO := Lib.hid hno
      rw [hm1]
      clear hno hm1 hlt
      go_wp2_with fail
      go_ret
      refine ⟨?_, rfl⟩
      rw [HNO.out, decide_eq_false (Nat.lt_irrefl _)]
      rfl
end Go.Proofs.Ytbeokfpbhemcfaa
/-
  Plain: sums, differences and products of digits.
-/
namespace Go.Proofs.Ytbeokfpbhemcfaa
set_option linter.unusedSimpArgs false
set_option linter.unusedVariables false
open Go.RowKit

/-- so many digits of a number -/
def digN (n N : Nat) : List Nat := (List.range n).map fun j => N / 256 ^ j % 256
theorem digN_length (n N : Nat) : (digN n N).length = n := by simp [digN]
theorem digN_dg (n N : Nat) : Dg (digN n N) := fun d h => by
  obtain ⟨j, _, rfl⟩ := List.mem_map.1 h
  exact Nat.mod_lt _ (by decide)
theorem digN_val (n N : Nat) (h : N < 256 ^ n) : leV (digN n N) = N := by rw [digN, leV_mod, Nat.mod_eq_of_lt h]
theorem digN_eq {l : List Nat} {n N : Nat} (h : Dg l) (hl : l.length = n) (hv : leV l = N) : l = digN n N := by
  have hlt := leV_lt l h
  rw [hv, hl] at hlt
  exact leV_ext l _ (by rw [hl, digN_length]) h (digN_dg n N) (by rw [hv, digN_val n N hlt])
theorem byN_dig (N : Nat) : byN N = digN 32 N := rfl
theorem dg_snoc {l : List Nat} {d : Nat} (h : Dg l) (hd : d < 256) : Dg (l ++ [d]) := fun x hx => by
  rcases List.mem_append.1 hx with h1 | h1
  · exact h x h1
  · rw [List.mem_singleton.1 h1]; exact hd
theorem dg_take {l : List Nat} (h : Dg l) (k : Nat) : Dg (l.take k) := fun x hx => h x (List.mem_of_mem_take hx)
theorem dg_drop {l : List Nat} (h : Dg l) (k : Nat) : Dg (l.drop k) := fun x hx => h x (List.mem_of_mem_drop hx)
theorem dg_set {l : List Nat} (h : Dg l) (k d : Nat) (hd : d < 256) : Dg (l.set k d) := fun x hx => by
  rcases List.mem_or_eq_of_mem_set hx with h1 | h1
  · exact h x h1
  · rw [h1]; exact hd
/-- what is laid, and what is not yet -/
def partL (out : List Nat) (n : Nat) : List Nat := out ++ List.replicate (n - out.length) 0
theorem partL_length (out : List Nat) (n : Nat) (h : out.length ≤ n) : (partL out n).length = n := by simp [partL]; omega
theorem partL_nil (n : Nat) : partL [] n = List.replicate n 0 := rfl
theorem partL_full (out : List Nat) (n : Nat) (h : out.length = n) : partL out n = out := by simp [partL, h]
theorem partL_set (out : List Nat) (n k d : Nat) (hk : out.length = k) (h : k < n) : (partL out n).set k d = partL (out ++ [d]) n := by
  subst hk
  obtain ⟨r, hr⟩ : ∃ r, n - out.length = r + 1 := ⟨n - out.length - 1, by omega⟩
  have hr2 : n - (out ++ [d]).length = r := by simp; omega
  rw [partL, partL, hr, hr2, List.set_append_right _ _ (Nat.le_refl _), Nat.sub_self, List.replicate_succ, List.set_cons_zero]
  simp
/-- a number at so many digits -/
theorem leV_take_le (l : List Nat) (k : Nat) : leV (l.take k) ≤ leV l := by
  conv => rhs; rw [← List.take_append_drop k l, leV_append]
  omega
theorem leV_take_all (l : List Nat) (k : Nat) (h : l.length ≤ k) : leV (l.take k) = leV l := by rw [List.take_of_length_le h]
theorem leV_take_of {l : List Nat} {k N : Nat} (h : leV l ≤ N) (hN : N < 256 ^ k) : leV (l.take k) = leV l := by
  by_cases hk : l.length ≤ k
  · exact leV_take_all l k hk
  · have e := leV_append (l.take k) (l.drop k)
    rw [List.take_append_drop, List.length_take, Nat.min_eq_left (by omega)] at e
    have : leV (l.drop k) = 0 := by
      rcases Nat.eq_zero_or_pos (leV (l.drop k)) with h0 | h0
      · exact h0
      · have := Nat.mul_le_mul_left (256 ^ k) h0
        omega
    rw [this, Nat.mul_zero] at e
    omega
theorem plus_step {out a b : List Nat} {k c : Nat} (hl : out.length = k) (h : leV out + 256 ^ k * c = leV (a.take k) + leV (b.take k)) :
    leV (out ++ [(c + a.getD k 0 + b.getD k 0) % 256]) + 256 ^ (k + 1) * ((c + a.getD k 0 + b.getD k 0) / 256) = leV (a.take (k + 1)) + leV (b.take (k + 1)) := by
  obtain ⟨v, hv⟩ : ∃ v, v = c + a.getD k 0 + b.getD k 0 := ⟨_, rfl⟩
  rw [← hv, leV_snoc, hl, leV_take_step, leV_take_step, Nat.pow_succ]
  have e : 256 ^ k * (v % 256) + 256 ^ k * 256 * (v / 256) = 256 ^ k * v := by
    rw [Nat.mul_assoc, ← Nat.mul_add, Nat.mod_add_div]
  have e2 : 256 ^ k * v = 256 ^ k * c + 256 ^ k * a.getD k 0 + 256 ^ k * b.getD k 0 := by rw [hv, Nat.mul_add, Nat.mul_add]
  omega
theorem plus_end {out a b : List Nat} {n c : Nat} (ha : Dg a) (hb : Dg b) (ho : Dg out) (hl : out.length = n + 1) (hna : a.length ≤ n) (hnb : b.length ≤ n) (h : leV out + 256 ^ (n + 1) * c = leV (a.take (n + 1)) + leV (b.take (n + 1))) : out = digN (n + 1) (leV a + leV b) := by
  rw [leV_take_all a _ (by omega), leV_take_all b _ (by omega)] at h
  have h1 := leV_big ha hna
  have h2 := leV_big hb hnb
  have hc : c = 0 := by
    rcases Nat.eq_zero_or_pos c with h0 | h0
    · exact h0
    · have := Nat.mul_le_mul_left (256 ^ (n + 1)) h0
      rw [Nat.pow_succ] at *
      omega
  rw [hc, Nat.mul_zero, Nat.add_zero] at h
  exact digN_eq ho hl h
/-- one digit less: what is laid, and what is borrowed -/
def subD (a b s : Nat) : Nat := if a < s + b then a + 256 - s - b else a - s - b
def subC (a b s : Nat) : Nat := if a < s + b then 1 else 0
theorem minus_step {out a b : List Nat} {k s : Nat} (hb : Dg b) (hs : s ≤ 1) (hl : out.length = k) (h : leV out + leV (b.take k) = leV (a.take k) + 256 ^ k * s) :
    leV (out ++ [subD (a.getD k 0) (b.getD k 0) s]) + leV (b.take (k + 1)) = leV (a.take (k + 1)) + 256 ^ (k + 1) * subC (a.getD k 0) (b.getD k 0) s := by
  obtain ⟨x, hx⟩ : ∃ x, x = a.getD k 0 := ⟨_, rfl⟩
  obtain ⟨y, hy⟩ : ∃ y, y = b.getD k 0 := ⟨_, rfl⟩
  have hyl := dg_getD hb k
  rw [leV_snoc, hl, leV_take_step, leV_take_step, ← hx, ← hy, Nat.pow_succ]
  have e : 256 ^ k * subD x y s + 256 ^ k * s + 256 ^ k * y = 256 ^ k * x + 256 ^ k * 256 * subC x y s := by
    rw [Nat.mul_assoc, ← Nat.mul_add, ← Nat.mul_add, ← Nat.mul_add]
    congr 1
    unfold subD subC
    split <;> omega
  omega
theorem subD_lt {a b s : Nat} (ha : a < 256) (hb : b < 256) (hs : s ≤ 1) : subD a b s < 256 := by unfold subD; split <;> omega
theorem subC_le (a b s : Nat) : subC a b s ≤ 1 := by unfold subC; split <;> omega
theorem minus_end {out a b : List Nat} {n s : Nat} (ha : Dg a) (hb : Dg b) (ho : Dg out) (hl : out.length = n) (hna : a.length = n) (hle : leV b ≤ leV a) (h : leV out + leV (b.take n) = leV (a.take n) + 256 ^ n * s) : out = digN n (leV a - leV b) := by
  have h1 := leV_big ha (Nat.le_of_eq hna)
  have h3 := leV_big ho (Nat.le_of_eq hl)
  rw [leV_take_all a _ (by omega), leV_take_of hle h1] at h
  have hs : s = 0 := by
    rcases Nat.eq_zero_or_pos s with h0 | h0
    · exact h0
    · have := Nat.mul_le_mul_left (256 ^ n) h0
      omega
  rw [hs, Nat.mul_zero, Nat.add_zero] at h
  exact digN_eq ho hl (by omega)
theorem make_ints (n : Nat) (hn : n ≤ 4000000) (u : World) : (Instr.makeSlice 32 (.int .i64 (n : Int)) (.int .i64 (n : Int))).run Try.prog u = .ok (.slice (some ⟨u.heap.size, 0, none⟩) n n) (u.alloc (.cells (dV (partL [] n)).toArray 3)) := by
  have hi : (Try.prog.info? 3).map (fun i => (i.zero, i.size, i.bytes)) = some (some (.int .i64 0), 1, 8) := by kernel_rfl
  obtain ⟨i, h1, hi2⟩ := Option.map_eq_some_iff.1 hi
  have h2 : i.zero = some (.int .i64 0) := congrArg (·.1) hi2
  have h3 : i.size = 1 := congrArg (·.2.1) hi2
  have h4 : i.bytes = 8 := congrArg (·.2.2) hi2
  have h := run_makeSlice (P := Try.prog) u 32 3 i (.int .i64 0) Try.underlying32 h1 h2 .i64 .i64 (n : Int) (n : Int) (by omega) (by omega) (by rw [h3, Int.toNat_natCast]; omega) (by rw [h4]; omega) (by omega)
  rw [Int.toNat_natCast, h3] at h
  have e : madeCells (Value.int .i64 0).cells (n * 1) = (dV (partL [] n)).toArray := by
    apply Array.ext'
    rw [Nat.mul_one, show (Value.int IntKind.i64 0).cells = #[.int .i64 0] from rfl, toList_madeCells_one, partL_nil, dV, List.map_replicate]
    rfl
  rw [h, e]
end Go.Proofs.Ytbeokfpbhemcfaa
/-
  Regions that draw their order, where what holds all along may speak of the values so far.
-/
namespace Go.Proofs.Ytbeokfpbhemcfaa
set_option linter.unusedSimpArgs false
set_option linter.unusedVariables false
open Go.RowKit
section
variable {P : Program} {ops : Array Oper}
/-- The state while a region runs. -/
structure RIV (ops : Array Oper) (a0 : Act) (C : (Nat → Value) → World → Prop) (I0 : Bool → World → Prop) (ik : Bool → Nat → Bool) (F : Nat → (Nat → Value) → World → Prop) (kills : Nat → Nat → Bool) (listed : Array Bool) (a : Act) (w : World) (vals : Nat → Value) : Prop where
  size : listed.size = ops.size
  tsize : a.tmps.size = a0.tmps.size
  defers : a.defers = a0.defers
  done : ∀ j, listed.getD j false = true → ∀ d, dstAt ops j = some d → d < a0.tmps.size → a.tmps[d]? = some (vals j)
  other : ∀ t, (∀ j, listed.getD j false = true → dstAt ops j ≠ some t) → a.tmps[t]? = a0.tmps[t]?
  closed : ∀ j, listed.getD j false = true → ∀ i ∈ waitsOf ops j, listed.getD i false = true
  c : C vals w
  ini : ∀ m, (∀ k, listed.getD k false = true → ik m k = false) → I0 m w
  facts : ∀ j, listed.getD j false = true → (∀ k, listed.getD k false = true → k ≠ j → kills k j = false) → F j vals w

/-- what is asked of one operation -/
def StepAtV (P : Program) (ops : Array Oper) (a0 : Act) (C : (Nat → Value) → World → Prop) (I0 : Bool → World → Prop) (ik : Bool → Nat → Bool) (F : Nat → (Nat → Value) → World → Prop) (St : Nat → World → World → Prop) (kills : Nat → Nat → Bool) (i : Nat) (o : Oper) : Prop :=
  ∀ (w : World) (vals : Nat → Value), C vals w → (∀ m, availIni ops (ik m) i = true → I0 m w) → (∀ j, availAt ops kills j i = true → F j vals w) →
    wpList P ops (fun e a' w' => e = .normal ∧ ∃ v, a' = (putAll ops vals (waitsOf ops i) a0).put o.dst v ∧ F i (upd vals i v) w' ∧ C (upd vals i v) w' ∧ St i w w') [o] (putAll ops vals (waitsOf ops i) a0) w

theorem RIV.step {a0 : Act} {C : (Nat → Value) → World → Prop} {I0 : Bool → World → Prop} {ik : Bool → Nat → Bool} {F : Nat → (Nat → Value) → World → Prop} {St : Nat → World → World → Prop} {kills : Nat → Nat → Bool} {Q : Exit → Act → World → Prop}
    (hok : regionOk ops = true) (hini : ∀ m i, ik m i = false → ∀ w w', St i w w' → I0 m w → I0 m w') (hpres : ∀ i k, i < ops.size → i ≠ k → kills i k = false → (deepWaits ops 5 k).contains i = false → ∀ vals v w w', St i w w' → F k vals w → F k (upd vals i v) w')
    (hstep : ∀ i o, ops[i]? = some o → StepAtV P ops a0 C I0 ik F St kills i o)
    {listed : Array Bool} {a : Act} {w : World} {vals : Nat → Value} (h : RIV ops a0 C I0 ik F kills listed a w vals) {i : Nat} (hi : i ∈ Region.ready .any ops listed) :
    wpOp P ops Q i (fun a' w' => ∃ vals', RIV ops a0 C I0 ik F kills (listed.setIfInBounds i true) a' w' vals') a w := by
  obtain ⟨hun, o, ho, hall⟩ := mem_ready.1 hi
  have hlt : i < ops.size := (Array.getElem?_eq_some_iff.1 ho).1
  have hltl : i < listed.size := by rw [h.size]; exact hlt
  have hunf : listed.getD i false = false := by
    simp [hltl] at hun ⊢; exact hun
  have ok := okAt hok ho
  have hdist : ∀ i j d, i ≠ j → dstAt ops i = some d → dstAt ops j ≠ some d := fun i j d hij hd => by
    have hil := dst_lt hd
    exact (okAt hok (Array.getElem?_eq_getElem hil)).dist j (Ne.symm hij) d hd
  have hw : ∀ j ∈ waitsOf ops i, listed.getD j false = true := fun j hj => by
    obtain ⟨e, he, hb, rfl⟩ := (mem_waits ho).1 hj
    exact hall e he hb
  obtain ⟨p1, p2, p3, p4⟩ := putAll_look hdist vals (waitsOf ops i) a0
  -- what the operation looks at is the same in both frames
  have hlook : ∀ t ∈ o.looksAt ops, a.tmps[t]? = (putAll ops vals (waitsOf ops i) a0).tmps[t]? := by
    intro t ht
    by_cases hex : ∃ j, dstAt ops j = some t
    · obtain ⟨j, hj⟩ := hex
      rcases ok.look t ht j hj with hji | hij
      · by_cases hts : t < a0.tmps.size
        · rw [h.done j (hw j hji) t hj hts, p3 j hji t hj hts]
        · rw [Array.getElem?_eq_none (by rw [h.tsize]; exact Nat.le_of_not_lt hts), Array.getElem?_eq_none (by rw [p1]; exact Nat.le_of_not_lt hts)]
      · have hjl : ¬ listed.getD j false = true := fun hj' => by rw [h.closed j hj' i hij] at hunf; cases hunf
        rw [h.other t (fun k hk e => by
          have : k = j := by
            rcases Nat.decEq k j with hne | he
            · exact absurd e (hdist j k t (Ne.symm hne) hj)
            · exact he
          subst this; exact hjl hk)]
        rw [p4 t (fun k hk e => by
          have : k = j := by
            rcases Nat.decEq k j with hne | he
            · exact absurd e (hdist j k t (Ne.symm hne) hj)
            · exact he
          subst this; exact hjl (hw k hk))]
    · have hno : ∀ j, dstAt ops j ≠ some t := fun j e => hex ⟨j, e⟩
      rw [h.other t (fun j _ => hno j), p4 t (fun j _ => hno j)]
  have heval : ∀ x ∈ o.op.operands, a.eval x = (putAll ops vals (waitsOf ops i) a0).eval x := by
    intro x hx
    cases x with
    | tmp t =>
      have := hlook t (List.mem_append_left _ (List.mem_filterMap.2 ⟨.tmp t, by simpa using hx, rfl⟩))
      simp only [Act.eval, Array.getD_eq_getD_getElem?, this]
    | _ => rfl
  have hexec : execOp a.eval o = execOp (putAll ops vals (waitsOf ops i) a0).eval o := execOp_congr o ok.sel heval
  have hwant : Region.wanted o (yielded ops a.tmps) = Region.wanted o (yielded ops (putAll ops vals (waitsOf ops i) a0).tmps) := by
    unfold Region.wanted
    cases hg : o.guard with
    | none => rfl
    | some gw =>
      obtain ⟨g, want⟩ := gw
      have : yielded ops a.tmps g = yielded ops (putAll ops vals (waitsOf ops i) a0).tmps g := by
        unfold yielded
        cases ht : (ops[g]?).bind (·.dst) with
        | none => rfl
        | some t =>
          have := hlook t (by
            refine List.mem_append_right _ ?_
            simp [hg, ht])
          simp only [Option.bind_some, this]
      simp only [this]
  have havail : ∀ j, availAt ops kills j i = true → F j vals w := by
    intro j hj
    simp only [availAt, Bool.and_eq_true] at hj
    obtain ⟨hj1, hj2⟩ := hj
    have hjl := hw j (by simpa using hj1)
    refine h.facts j hjl fun k hk hkj => ?_
    have hkl : k < ops.size := by
      rcases Nat.lt_or_ge k ops.size with h' | h'
      · exact h'
      · rw [← h.size] at h'; simp [Array.getElem?_eq_none h'] at hk
    have := (List.all_eq_true.1 hj2) k (List.mem_range.2 hkl)
    simp only [Bool.or_eq_true, beq_iff_eq, Bool.not_eq_true'] at this
    rcases this with ((this | this) | this) | this
    · subst this; rw [hunf] at hk; cases hk
    · exact absurd this hkj
    · exact this
    · have := deep_listed (L := fun j => listed.getD j false = true) h.closed 5 k hk i (by simpa using this)
      simp only [hunf] at this; cases this
  have hini0 : ∀ m, availIni ops (ik m) i = true → I0 m w := by
    intro m hj2
    refine h.ini m fun k hk => ?_
    have hkl : k < ops.size := by
      rcases Nat.lt_or_ge k ops.size with h' | h'
      · exact h'
      · rw [← h.size] at h'; simp [Array.getElem?_eq_none h'] at hk
    have := (List.all_eq_true.1 hj2) k (List.mem_range.2 hkl)
    simp only [Bool.or_eq_true, beq_iff_eq, Bool.not_eq_true'] at this
    rcases this with (this | this) | this
    · subst this; rw [hunf] at hk; cases hk
    · exact this
    · have := deep_listed (L := fun j => listed.getD j false = true) h.closed 5 k hk i (by simpa using this)
      simp only [hunf] at this; cases this
  -- the end of the step
  have hend : ∀ (v : Value) (w' : World), (∃ v', (putAll ops vals (waitsOf ops i) a0).put o.dst v = (putAll ops vals (waitsOf ops i) a0).put o.dst v' ∧ F i (upd vals i v') w' ∧ C (upd vals i v') w' ∧ St i w w') →
      ∃ vals', RIV ops a0 C I0 ik F kills (listed.setIfInBounds i true) (a.put o.dst v) w' vals' := by
    rintro v w' ⟨v', hv, hF, hC, hSt⟩
    have hdo : dstAt ops i = o.dst := by simp [dstAt, ho]
    refine ⟨upd vals i v', ⟨by simp [h.size], (put_size _ _ _).trans h.tsize, (put_defers _ _ _).trans h.defers, ?_, ?_, ?_, hC, ?_, ?_⟩⟩
    · intro j hj d hd hlt'
      by_cases hji : j = i
      · subst hji
        rw [hdo] at hd
        simp only [upd, if_true]
        rw [hd] at hv ⊢
        rw [put_at _ _ _ (by rw [h.tsize]; exact hlt')]
        have := congrArg (fun a : Act => a.tmps[d]?) hv
        rw [put_at _ _ _ (by rw [p1]; exact hlt'), put_at _ _ _ (by rw [p1]; exact hlt')] at this
        exact this
      · simp only [upd, hji, if_false]
        rw [getD_set_other _ (Ne.symm hji)] at hj
        rw [put_other _ _ _ _ (fun e => hdist j i d hji hd (hdo.trans e))]
        exact h.done j hj d hd hlt'
    · intro t ht
      rw [put_other _ _ _ _ (fun e => ht i (getD_set_self _ _ hltl) (hdo.trans e))]
      refine h.other t fun j hj => ?_
      by_cases hji : j = i
      · subst hji; rw [hunf] at hj; cases hj
      · exact ht j (by rw [getD_set_other _ (Ne.symm hji)]; exact hj)
    · intro j hj k hk
      by_cases hki : k = i
      · subst hki; exact getD_set_self _ _ hltl
      · rw [getD_set_other _ (Ne.symm hki)]
        by_cases hji : j = i
        · subst hji; exact hw k hk
        · rw [getD_set_other _ (Ne.symm hji)] at hj
          exact h.closed j hj k hk
    · intro m hk
      refine hini m i (hk i (getD_set_self _ _ hltl)) _ _ hSt (h.ini m fun k hk' => hk k ?_)
      by_cases hki : k = i
      · subst hki; exact getD_set_self _ _ hltl
      · rw [getD_set_other _ (Ne.symm hki)]; exact hk'
    · intro j hj hk
      by_cases hji : j = i
      · subst hji; exact hF
      · have hj0 := hj
        rw [getD_set_other _ (Ne.symm hji)] at hj
        refine hpres i j hlt (Ne.symm hji) (hk i (getD_set_self _ _ hltl) (Ne.symm hji)) (by
          by_cases hc : (deepWaits ops 5 j).contains i = true
          · have := deep_listed (L := fun j => listed.getD j false = true) h.closed 5 j hj i (by simpa using hc)
            simp only [hunf] at this; cases this
          · simpa using hc) _ _ _ _ hSt (h.facts j hj fun k hk' hkj => ?_)
        refine hk k ?_ hkj
        by_cases hki : k = i
        · subst hki; exact getD_set_self _ _ hltl
        · rw [getD_set_other _ (Ne.symm hki)]; exact hk'
  have hs := hstep i o ho w vals h.c hini0 havail
  unfold wpOp
  simp only [ho]
  simp only [wpList] at hs
  rw [hwant]
  split
  · rename_i hwt
    rw [if_pos hwt] at hs
    rcases hs with hs | ⟨_, a₀, w₀, hq⟩
    case inr => exact absurd hq.1 (by simp)
    refine .inl ?_
    unfold Oper.wp at *
    rw [hexec]
    generalize (execOp (putAll ops vals (waitsOf ops i) a0).eval o).run P w = r at *
    cases r with
    | ok n w' =>
      cases n <;> simp only [Oper.upon] at hs ⊢
      case value v => exact hend v w' hs.2
      case skip => exact hend _ w' hs.2
      case defer d =>
        obtain ⟨_, v, hv, _⟩ := hs
        have := congrArg Act.defers hv
        rw [put_defers, put_defers] at this
        exact absurd this (by simp)
      case enter f args =>
        refine Calls.mono hs fun e w'' he => ?_
        cases e with
        | returned v => exact hend v w'' he.2
        | panicked c => exact absurd he.1 (by simp)
        | outgrown => obtain ⟨_, _, hq⟩ := he; exact absurd hq.1 (by simp)
      case row row args => exact Rows.mono hs fun v w'' he => hend v w'' he.2
    | halt x w' =>
      cases x <;> simp only [Oper.upon] at hs ⊢
      exact absurd hs.1 (by simp)
  · rename_i hwt
    rw [if_neg hwt] at hs
    exact hend _ _ hs.2

/-- **A REGION THAT DRAWS ITS ORDER, by one step an operation.** -/
theorem wp_region_relV {id : Nat} {a0 : Act} {w0 : World} {Q : Exit → Act → World → Prop} (C : (Nat → Value) → World → Prop) (I0 : Bool → World → Prop) (ik : Bool → Nat → Bool) (F : Nat → (Nat → Value) → World → Prop) (St : Nat → World → World → Prop) (kills : Nat → Nat → Bool)
    (hm : P.follows .mixedOrders = true) (hok : regionOk ops = true) (hC : C (fun _ => undef) w0.drew) (hI : ∀ m, I0 m w0.drew) (hini : ∀ m i, ik m i = false → ∀ w w', St i w w' → I0 m w → I0 m w')
    (hpres : ∀ i k, i < ops.size → i ≠ k → kills i k = false → (deepWaits ops 5 k).contains i = false → ∀ vals v w w', St i w w' → F k vals w → F k (upd vals i v) w')
    (hstep : ∀ i o, ops[i]? = some o → StepAtV P ops a0 C I0 ik F St kills i o)
    (hfin : ∀ w vals, C vals w → (∀ j, j < ops.size → aliveAt ops kills j = true → F j vals w) → Q .normal (putAll ops vals (List.range ops.size) a0) w) :
    (Code.region id ops true).wp P Q a0 w0 := by
  have hdist : ∀ i j d, i ≠ j → dstAt ops i = some d → dstAt ops j ≠ some d := fun i j d hij hd => by
    have hil := dst_lt hd
    exact (okAt hok (Array.getElem?_eq_getElem hil)).dist j (Ne.symm hij) d hd
  have final : ∀ listed a w vals, RIV ops a0 C I0 ik F kills listed a w vals → Region.ready .any ops listed = [] → Q .normal a w := by
    intro listed a w vals h hr
    have hall : ∀ j, j < ops.size → listed.getD j false = true := fun j hj => all_listed hok h.size hr (j + 1) j (by omega) hj
    obtain ⟨p1, p2, p3, p4⟩ := putAll_look hdist vals (List.range ops.size) a0
    have ha : a = putAll ops vals (List.range ops.size) a0 := by
      have ht : a.tmps = (putAll ops vals (List.range ops.size) a0).tmps := by
        apply Array.ext_getElem?
        intro t
        by_cases hex : ∃ j, dstAt ops j = some t
        · obtain ⟨j, hj⟩ := hex
          have hjl := dst_lt hj
          by_cases hts : t < a0.tmps.size
          · rw [h.done j (hall j hjl) t hj hts, p3 j (List.mem_range.2 hjl) t hj hts]
          · rw [Array.getElem?_eq_none (by rw [h.tsize]; exact Nat.le_of_not_lt hts), Array.getElem?_eq_none (by rw [p1]; exact Nat.le_of_not_lt hts)]
        · have hno : ∀ j, dstAt ops j ≠ some t := fun j e => hex ⟨j, e⟩
          rw [h.other t (fun j _ => hno j), p4 t (fun j _ => hno j)]
      have hd : a.defers = (putAll ops vals (List.range ops.size) a0).defers := h.defers.trans p2.symm
      cases a
      simp only at ht hd
      rw [ht, hd]
    rw [ha]
    refine hfin w vals h.c fun j hj hal => h.facts j (hall j hj) fun k hk hkj => ?_
    have hkl : k < ops.size := by
      rcases Nat.lt_or_ge k ops.size with h' | h'
      · exact h'
      · rw [← h.size] at h'; simp [Array.getElem?_eq_none h'] at hk
    have := (List.all_eq_true.1 hal) k (List.mem_range.2 hkl)
    simpa [hkj] using this
  refine wp_region_any hm ?_
  have key : ∀ (fuel : Nat) (listed : Array Bool) (a : Act) (w : World) (vals : Nat → Value), listed.toList.countP (fun b => !b) ≤ fuel → RIV ops a0 C I0 ik F kills listed a w vals → wpAny P .any ops Q fuel listed a w := by
    intro fuel
    induction fuel with
    | zero =>
      intro listed a w vals hc h
      have hr : Region.ready .any ops listed = [] := by
        refine List.eq_nil_iff_forall_not_mem.2 fun i hi => ?_
        obtain ⟨hun, o, ho, _⟩ := mem_ready.1 hi
        have hlt : i < listed.size := by rw [h.size]; exact (Array.getElem?_eq_some_iff.1 ho).1
        have h0 : listed.toList.countP (fun b => !b) = 0 := by omega
        rw [List.countP_eq_zero] at h0
        have := h0 (listed[i]) (by simp)
        simp [hlt] at hun
        simp [hun] at this
      exact ⟨hr, final listed a w vals h hr⟩
    | succ fuel ih =>
      intro listed a w vals hc h
      refine ⟨fun hr => final listed a w vals h hr, fun i hi => ?_⟩
      obtain ⟨hun, o, ho, _⟩ := mem_ready.1 hi
      have hlt : i < listed.size := by rw [h.size]; exact (Array.getElem?_eq_some_iff.1 ho).1
      refine wpOp_mono (fun a' w' ⟨vals', h'⟩ => ih _ _ _ vals' (count_set hlt (by simp [hlt] at hun ⊢; exact hun) hc) h') (h.step (Q := Q) hok hini hpres hstep hi)
  refine key _ _ _ _ (fun _ => undef) ?_ ⟨by simp, rfl, rfl, ?_, ?_, ?_, hC, fun m _ => hI m, ?_⟩
  · have := List.countP_le_length (p := fun b : Bool => !b) (l := (Array.replicate ops.size false).toList)
    simpa using this
  · intro j hj; simp [Array.getElem?_replicate] at hj; split at hj <;> simp at hj
  · intro t _; rfl
  · intro j hj; simp [Array.getElem?_replicate] at hj; split at hj <;> simp at hj
  · intro j hj; simp [Array.getElem?_replicate] at hj; split at hj <;> simp at hj


theorem wp_region_listV {id : Nat} {l : List Oper} {a0 : Act} {w0 : World} {Q : Exit → Act → World → Prop} (C : (Nat → Value) → World → Prop) (I0 : Bool → World → Prop) (ik : Bool → Nat → Bool) (Fs : List ((Nat → Value) → World → Prop)) (Sts : List (World → World → Prop)) (kills : Nat → Nat → Bool) (ps : List (Nat × Option Tmp))
    (hm : P.follows .mixedOrders = true) (hok : regionOk l.toArray = true) (hlen : Sts.length = l.length) (hps : ∀ vals, putAll l.toArray vals (List.range l.toArray.size) a0 = puts vals ps a0) (hC : C (fun _ => undef) w0.drew) (hI : ∀ m, I0 m w0.drew) (hini : ∀ m, IniL (ik m) (I0 m) 0 Sts)
    (hpres : KeepsL kills (fun i k => (deepWaits l.toArray 5 k).contains i) Fs 0 Sts)
    (hstep : StepsL (StepAtV P l.toArray a0 C I0 ik (fct Fs) (stp Sts) kills) 0 l)
    (hfin : ∀ w vals, C vals w → (∀ j, j < l.toArray.size → aliveAt l.toArray kills j = true → fct Fs j vals w) → Q .normal (puts vals ps a0) w) :
    (Code.region id l.toArray true).wp P Q a0 w0 :=
  wp_region_relV C I0 ik (fct Fs) (stp Sts) kills hm hok hC hI (fun m i hi w w' hS h => by
      have := iniL_spec (hini m) i (by simpa using hi) w w' hS
      exact this h)
    (fun i k hil hik hk hs vals v w w' hS hf => by
      have := keepsL_spec hpres i k (by simpa using hik) (by simpa using hk) (by simpa using hs) (by rw [hlen]; simpa using hil) vals v w w' hS
      rw [Nat.zero_add] at this
      exact this hf)
    (fun i o ho => by
      have := stepsL_spec hstep i o (by simpa using ho)
      simpa using this)
    (fun w vals hc hf => by rw [hps]; exact hfin w vals hc hf)

theorem step_plainV {a0 : Act} {C : (Nat → Value) → World → Prop} {I0 : Bool → World → Prop} {ik : Bool → Nat → Bool} {F : Nat → (Nat → Value) → World → Prop} {St : Nat → World → World → Prop} {kills : Nat → Nat → Bool} {i : Nat} {o : Oper} (ps : List (Nat × Option Tmp))
    (hps : ∀ vals, putAll ops vals (waitsOf ops i) a0 = puts vals ps a0) (hg : o.guard = none)
    (h : ∀ w vals, C vals w → (∀ m, availIni ops (ik m) i = true → I0 m w) → (∀ j, availAt ops kills j i = true → F j vals w) →
      ∀ E : Act → World → Prop, (∀ v w', F i (upd vals i v) w' → C (upd vals i v) w' → St i w w' → E ((puts vals ps a0).put o.dst v) w') → wpList P #[] (EndOf E) [o] (puts vals ps a0) w) :
    StepAtV P ops a0 C I0 ik F St kills i o := by
  intro w vals hc h0 hf
  have h1 := h w vals hc h0 hf (fun a' w' => ∃ v, a' = (puts vals ps a0).put o.dst v ∧ F i (upd vals i v) w' ∧ C (upd vals i v) w' ∧ St i w w') fun v w' h1 h2 h3 => ⟨v, rfl, h1, h2, h3⟩
  rw [hps]
  show wpList P ops (EndOf fun a' w' => ∃ v, a' = (puts vals ps a0).put o.dst v ∧ F i (upd vals i v) w' ∧ C (upd vals i v) w' ∧ St i w w') [o] (puts vals ps a0) w
  have hw : ∀ (O : Array Oper) (t : Array Value), Region.wanted o (yielded O t) = true := fun O t => by simp [Region.wanted, hg]
  simp only [wpList, hw, if_true] at h1 ⊢
  exact h1
end
/-! ### Two operations that make memory, in either order -/
def LtV (v : Value) (w : World) : Prop := v = undef ∨ ∃ o, v = .pointer (some ⟨o, 0, none⟩) ∧ o < w.heap.size
structure C2 (ws : World) (i j : Nat) (vals : Nat → Value) (u : World) : Prop where
  bel : Below ws.heap.size ws u
  lti : LtV (vals i) u
  ltj : LtV (vals j) u
  ne : vals i = undef ∨ vals j = undef ∨ vals i ≠ vals j
theorem LtV.mono {v : Value} {u u' : World} (h : LtV v u) (hs : u.heap.size ≤ u'.heap.size) : LtV v u' := by
  rcases h with h | ⟨o, h1, h2⟩
  · exact .inl h
  · exact .inr ⟨o, h1, Nat.lt_of_lt_of_le h2 hs⟩
theorem C2.init {ws u : World} {i j : Nat} (h : Below ws.heap.size ws u) : C2 ws i j (fun _ => undef) u := ⟨h, .inl rfl, .inl rfl, .inl rfl⟩
theorem C2.other {ws u u' : World} {i j k : Nat} {v : Value} {vals : Nat → Value} (h : C2 ws i j vals u) (hi : i ≠ k) (hj : j ≠ k) (hb : Below ws.heap.size ws u') (hs : u.heap.size ≤ u'.heap.size) : C2 ws i j (upd vals k v) u' := by
  have e1 : upd vals k v i = vals i := if_neg hi
  have e2 : upd vals k v j = vals j := if_neg hj
  exact ⟨hb, by rw [e1]; exact h.lti.mono hs, by rw [e2]; exact h.ltj.mono hs, by rw [e1, e2]; exact h.ne⟩
theorem C2.same {ws u : World} {i j k : Nat} {v : Value} {vals : Nat → Value} (h : C2 ws i j vals u) (hi : i ≠ k) (hj : j ≠ k) : C2 ws i j (upd vals k v) u := h.other hi hj h.bel (Nat.le_refl _)
theorem C2.setI {ws u u' : World} {i j : Nat} {vals : Nat → Value} (h : C2 ws i j vals u) (hij : j ≠ i) (hb : Below ws.heap.size ws u') (hs : u.heap.size < u'.heap.size) : C2 ws i j (upd vals i (.pointer (some ⟨u.heap.size, 0, none⟩))) u' := by
  have e1 : upd vals i (.pointer (some ⟨u.heap.size, 0, none⟩)) i = .pointer (some ⟨u.heap.size, 0, none⟩) := if_pos rfl
  have e2 : upd vals i (.pointer (some ⟨u.heap.size, 0, none⟩)) j = vals j := if_neg hij
  refine ⟨hb, by rw [e1]; exact .inr ⟨_, rfl, hs⟩, by rw [e2]; exact h.ltj.mono (Nat.le_of_lt hs), ?_⟩
  rw [e1, e2]
  rcases h.ltj with h1 | ⟨o, h1, h2⟩
  · exact .inr (.inl h1)
  · refine .inr (.inr ?_)
    rw [h1]
    intro e
    injection e with e
    injection e with e
    injection e with e
    omega
theorem C2.setJ {ws u u' : World} {i j : Nat} {vals : Nat → Value} (h : C2 ws i j vals u) (hij : i ≠ j) (hb : Below ws.heap.size ws u') (hs : u.heap.size < u'.heap.size) : C2 ws i j (upd vals j (.pointer (some ⟨u.heap.size, 0, none⟩))) u' := by
  have e1 : upd vals j (.pointer (some ⟨u.heap.size, 0, none⟩)) j = .pointer (some ⟨u.heap.size, 0, none⟩) := if_pos rfl
  have e2 : upd vals j (.pointer (some ⟨u.heap.size, 0, none⟩)) i = vals i := if_neg hij
  refine ⟨hb, by rw [e2]; exact h.lti.mono (Nat.le_of_lt hs), by rw [e1]; exact .inr ⟨_, rfl, hs⟩, ?_⟩
  rw [e1, e2]
  rcases h.lti with h1 | ⟨o, h1, h2⟩
  · exact .inl h1
  · refine .inr (.inr ?_)
    rw [h1]
    intro e
    injection e with e
    injection e with e
    injection e with e
    omega
theorem C2.apart {ws u : World} {i j : Nat} {vals : Nat → Value} (h : C2 ws i j vals u) {o p : Nat} (h1 : vals i = .pointer (some ⟨o, 0, none⟩)) (h2 : vals j = .pointer (some ⟨p, 0, none⟩)) : o ≠ p := by
  rintro rfl
  rcases h.ne with e | e | e
  · rw [h1] at e; cases e
  · rw [h2] at e; cases e
  · exact e (h1.trans h2.symm)
end Go.Proofs.Ytbeokfpbhemcfaa
/-
  What lies in memory, as a list; points of four elements.
-/
namespace Go.Proofs.Ytbeokfpbhemcfaa
set_option linter.unusedSimpArgs false
set_option linter.unusedVariables false
open Go.RowKit

/-- what is known of a place -/
inductive Fc where
  | box (g : Nat) (t : TypeId) (cs : Array Value)
  | rd (A : Option Addr) (xs : List Value)
def Fc.holds : Fc → World → Prop
  | .box g t cs, u => Blk u g t cs
  | .rd A xs, u => Rd u u.heap.size A xs
def St : List Fc → World → Prop
  | [], _ => True
  | f :: r, u => f.holds u ∧ St r u
theorem Fc.next {f : Fc} {u u' : World} (h : f.holds u) (hb : Below u.heap.size u u') : f.holds u' := by
  cases f with
  | box g t cs => exact Blk.below h hb (Blk.lt h)
  | rd A xs => exact (Rd.below h hb).mono hb.size
theorem St.next : ∀ {fs : List Fc} {u u' : World}, St fs u → Below u.heap.size u u' → St fs u'
  | [], _, _, _, _ => trivial
  | f :: _, _, _, h, hb => ⟨Fc.next (f := f) h.1 hb, St.next h.2 hb⟩
/-- a block that was made since -/
def NewBox (B : Nat) (t : TypeId) (cs : Array Value) (v : Value) (u : World) : Prop := ∃ o, v = .pointer (some ⟨o, 0, none⟩) ∧ B ≤ o ∧ Blk u o t cs
theorem NewBox.next {B : Nat} {t : TypeId} {cs : Array Value} {v : Value} {u u' : World} (h : NewBox B t cs v u) (hb : Below u.heap.size u u') : NewBox B t cs v u' := by
  obtain ⟨o, h1, h2, h3⟩ := h
  exact ⟨o, h1, h2, h3.below hb h3.lt⟩
theorem NewBox.wrote {B g : Nat} {t : TypeId} {cs : Array Value} {v : Value} {u u' : World} (h : NewBox B t cs v u) (hw : Wrote g u u') (hne : v ≠ .pointer (some ⟨g, 0, none⟩)) : NewBox B t cs v u' := by
  obtain ⟨o, h1, h2, h3⟩ := h
  exact ⟨o, h1, h2, hw.blk h3 fun e => hne (by rw [h1, e])⟩
theorem NewBox.of {B : Nat} {t : TypeId} {cs : Array Value} {u : World} (hB : B ≤ u.heap.size) : NewBox B t cs (.pointer (some ⟨u.heap.size, 0, none⟩)) (u.alloc (.cells cs t)) :=
  ⟨_, rfl, hB, Blk.new _ _ _⟩
theorem box_low {u u' : World} {o : Obj} (hw : Wrote u.heap.size (u.alloc o) u') : Below u.heap.size u u' :=
  hw.below (below_new _ _) (Nat.le_refl _) (by simp)
/-- four elements -/
structure Pt4 where
  x : E5
  y : E5
  z : E5
  t : E5
structure Pt4.Ok (p : Pt4) : Prop where
  x : p.x.Ok
  y : p.y.Ok
  z : p.z.Ok
  t : p.t.Ok
def ptV (p : Pt4) : Array Value := wV (limbs p.x ++ limbs p.y ++ limbs p.z ++ limbs p.t)
theorem ptV_size (p : Pt4) : (ptV p).size = 20 := rfl
theorem ptV_x (p : Pt4) : (((ptV p).toList.drop 0).take 5).toArray = eV p.x := rfl
theorem ptV_y (p : Pt4) : (((ptV p).toList.drop 5).take 5).toArray = eV p.y := rfl
theorem ptV_z (p : Pt4) : (((ptV p).toList.drop 10).take 5).toArray = eV p.z := rfl
theorem ptV_t (p : Pt4) : (((ptV p).toList.drop 15).take 5).toArray = eV p.t := rfl
theorem point_size : (Try.prog.info? 28).map (·.size) = some 20 := by kernel_rfl
def zP : Pt4 := ⟨zE, zE, zE, zE⟩
def PtPost (p : Pt4) (w : World) (e : Ending) (w' : World) : Prop := e = .returned (.agg (ptV p)) ∧ Below w.heap.size w w'
/-- the sum, by twice the curve's number -/
def sumP (p q : Pt4) (w : E5) : Pt4 :=
  let a := mulE (subE p.y p.x) (subE q.y q.x)
  let b := mulE (addE p.y p.x) (addE q.y q.x)
  let c := mulE (mulE p.t w) q.t
  let z := mulE p.z q.z
  let e := subE b a
  let h := addE b a
  let f := subE (addE z z) c
  let g := addE (addE z z) c
  ⟨mulE e f, mulE g h, mulE f g, mulE e h⟩
theorem sumP_ok {p q : Pt4} {w : E5} (hp : p.Ok) (hq : q.Ok) (hw : w.Ok) : (sumP p q w).Ok := by
  have a := mul_ok (sub_ok hp.y hp.x) (sub_ok hq.y hq.x)
  have b := mul_ok (add_ok hp.y hp.x) (add_ok hq.y hq.x)
  have c := mul_ok (mul_ok hp.t hw) hq.t
  have z := mul_ok hp.z hq.z
  exact ⟨mul_ok (sub_ok b a) (sub_ok (add_ok z z) c), mul_ok (add_ok (add_ok z z) c) (add_ok b a), mul_ok (sub_ok (add_ok z z) c) (add_ok (add_ok z z) c), mul_ok (sub_ok b a) (add_ok b a)⟩
def ofP (x y : E5) : Pt4 := ⟨x, y, intE 1, mulE x y⟩
theorem one_ok : (intE 1).Ok := intE_ok (by decide) (by decide)
theorem ofP_ok {x y : E5} (hx : x.Ok) (hy : y.Ok) : (ofP x y).Ok := ⟨hx, hy, one_ok, mul_ok hx hy⟩
def negP (p : Pt4) : Pt4 := ⟨subE zE p.x, p.y, p.z, subE zE p.t⟩
theorem negP_ok {p : Pt4} (hp : p.Ok) : (negP p).Ok := ⟨sub_ok zE_ok hp.x, hp.y, hp.z, sub_ok zE_ok hp.t⟩
theorem sub_z (x : E5) (hx : x.Ok) (u : World) : Calls Try.prog 48 #[.agg #[.int .u64 0, .int .u64 0, .int .u64 0, .int .u64 0, .int .u64 0], .agg (eV x)] u (ElemPost (subE zE x) u) := sub_c zE x u zE_ok hx
theorem int1_c (u : World) : Calls Try.prog 50 #[.int .i64 1] u (ElemPost (intE 1) u) := int_any 1 (by decide) (by decide) u
theorem int0_c (u : World) : Calls Try.prog 50 #[.int .i64 0] u (ElemPost (intE 0) u) := int_any 0 (by decide) (by decide) u
theorem build_pt (a b c d : E5) (u : World) : (Instr.build 28 #[(0, .agg (eV a)), (1, .agg (eV b)), (2, .agg (eV c)), (3, .agg (eV d))]).run Try.prog u = .ok (.agg (ptV ⟨a, b, c, d⟩)) u := by kernel_rfl
/-- a point of four elements -/
theorem wpList_build_pt {w : World} {ops : Array Oper} {rest : List Oper} {o : Oper} {a : Act} {Q : Exit → Act → World → Prop} {x0 x1 x2 x3 : Operand} (A B C D : E5)
    (hgd : o.guard = none) (ho : o.op = .build 28 #[(0, x0), (1, x1), (2, x2), (3, x3)]) (h0 : a.eval x0 = .agg (eV A)) (h1 : a.eval x1 = .agg (eV B)) (h2 : a.eval x2 = .agg (eV C)) (h3 : a.eval x3 = .agg (eV D))
    (h : wpList Try.prog ops Q rest (a.put o.dst (.agg (ptV ⟨A, B, C, D⟩))) w) : wpList Try.prog ops Q (o :: rest) a w := by
  refine wpList_plain hgd fun K hK => ?_
  unfold Oper.wp execOp
  simp only [ho, List.map_toArray, List.map_cons, List.map_nil, h0, h1, h2, h3, Sem.run_bind, Sem.run_pure, Result.andThen_ok, build_pt]
  exact hK _ _ h
/-- the list holds, and what was before the call is as it was -/
def Cs (fs : List Fc) (w u : World) : Prop := St fs u ∧ Below w.heap.size w u
theorem Cs.next {fs : List Fc} {w u u' : World} (h : Cs fs w u) (hb : Below u.heap.size u u') : Cs fs w u' := ⟨h.1.next hb, h.2.trans (hb.mono h.2.size)⟩
theorem St.drew : ∀ {fs : List Fc} {u : World}, St fs u → St fs u.drew
  | [], _, _ => trivial
  | f :: _, _, h => ⟨(by cases f with
    | box g t cs => exact h.1
    | rd A xs => exact h.1), St.drew h.2⟩
theorem Cs.drew {fs : List Fc} {w u : World} (h : Cs fs w u) : Cs fs w u.drew := ⟨h.1.drew, h.2.drew⟩
set_option maxRecDepth 100000 in
set_option maxHeartbeats 2000000 in
theorem pof_any (x y : E5) (hx : x.Ok) (hy : y.Ok) (w : World) : Calls Try.prog 30 #[.agg (eV x), .agg (eV y)] w (PtPost (ofP x y) w) := by
  have hu := Try.underlying26
  have hp := Try.underlying28
  have KX := Lib.hid hx
  have KY := Lib.hid hy
  obtain ⟨w0, hw0⟩ : ∃ w0, w0 = ((w.alloc (.cells (eV x) 26)).alloc (.cells (eV y) 26)).alloc (.cells (ptV zP) 28) := ⟨_, rfl⟩
  have hst : Cs [.box w.heap.size 26 (eV x), .box (w.heap.size + 1) 26 (eV y), .box (w.heap.size + 1 + 1) 28 (ptV zP)] w w0 := by
    rw [hw0]
    exact ⟨⟨((Blk.new _ _ _).alloc _).alloc _, (Blk.newAt (by simp)).alloc _, Blk.newAt (by simp), trivial⟩, ((below_new _ _).alloc (by simp) _).alloc (by simp; try omega) _⟩
  have HLR := Lib.hid (show w.heap.size ≤ w.heap.size + 1 + 1 by omega)
  clear hx hy
  have HW := Lib.hid hw0
  have HC0' := Lib.hid hst
  clear hw0 hst
  go_enter Try.func30, Try.ntmps30
  go_wp2_with fail
  show Code.wp Try.prog _ _ _ (((w.alloc (.cells (eV x) _)).alloc (.cells (eV y) _)).alloc (.cells (ptV zP) _))
  rw [← HW.out]
  generalize hgr : w.heap.size + 1 + 1 = r at *
  generalize hgh : w.heap.size + 1 = h at *
  generalize hgg : w.heap.size = g at *
  have HG := Lib.hid hgg
  clear hgr hgh hgg
  have HC0 := HC0'.out.drew
  clear HC0' HW
  refine wp_region_det (fun u => Cs [.box g 26 (eV x), .box h 26 (eV y), .box r 28 (ptV zP)] w u) (fun u => Blk u r 28 (ptV (ofP x y)) ∧ Below w.heap.size w u) [(0, some 5), (1, some 6), (2, some 7), (3, some 8), (4, some 9), (5, some 10), (6, some 11), (7, none)] (by kernel_rfl) (by kernel_rfl) (by decide) (by kernel_rfl) (fun _ => rfl) HC0 ?_
  apply DetL.next
  · -- 0: Op.load 26 (Operand.tmp 2)
    apply detStep_plain []
    exact fun _ => rfl
    rfl
    rintro vals - w1 hC1 E hE
    simp only [puts, act_put, act_put_none, List.setIfInBounds_toArray, List.set_cons_zero, List.set_cons_succ] at hE ⊢
    refine wpList_get_box ((hC1.1).1) rfl rfl rfl hu rfl elem_size ?_
    go_wp2_with fail
    exact .mk (hE _ hC1)
  apply DetL.next
  · -- 1: Op.load 26 (Operand.tmp 3)
    apply detStep_plain []
    exact fun _ => rfl
    rfl
    rintro vals ⟨-, -⟩ w1 hC1 E hE
    simp only [puts, act_put, act_put_none, List.setIfInBounds_toArray, List.set_cons_zero, List.set_cons_succ] at hE ⊢
    refine wpList_get_box ((hC1.1).2.1) rfl rfl rfl hu rfl elem_size ?_
    go_wp2_with fail
    exact .mk (hE _ hC1)
  apply DetL.next
  · -- 2: Op.call { callee := Callee.value (Operand.func 50), args := #[Operand.const (Value.int IntKind.i64 1)], argTyp
    apply detStep_plain []
    exact fun _ => rfl
    rfl
    rintro vals ⟨⟨-, -⟩, -⟩ w1 hC1 E hE
    simp only [puts, act_put, act_put_none, List.setIfInBounds_toArray, List.set_cons_zero, List.set_cons_succ] at hE ⊢
    go_wp2_with fail
    refine calls_then (int1_c _) ?_
    rintro e w2 ⟨rfl, hb2⟩
    go_wp2_with fail
    exact .mk (hE _ (hC1.next hb2))
  apply DetL.next
  · -- 3: Op.load 26 (Operand.tmp 2)
    apply detStep_plain []
    exact fun _ => rfl
    rfl
    rintro vals ⟨⟨⟨-, -⟩, -⟩, -⟩ w1 hC1 E hE
    simp only [puts, act_put, act_put_none, List.setIfInBounds_toArray, List.set_cons_zero, List.set_cons_succ] at hE ⊢
    refine wpList_get_box ((hC1.1).1) rfl rfl rfl hu rfl elem_size ?_
    go_wp2_with fail
    exact .mk (hE _ hC1)
  apply DetL.next
  · -- 4: Op.load 26 (Operand.tmp 3)
    apply detStep_plain []
    exact fun _ => rfl
    rfl
    rintro vals ⟨⟨⟨⟨-, -⟩, -⟩, -⟩, -⟩ w1 hC1 E hE
    simp only [puts, act_put, act_put_none, List.setIfInBounds_toArray, List.set_cons_zero, List.set_cons_succ] at hE ⊢
    refine wpList_get_box ((hC1.1).2.1) rfl rfl rfl hu rfl elem_size ?_
    go_wp2_with fail
    exact .mk (hE _ hC1)
  apply DetL.next
  · -- 5: Op.call { callee := Callee.value (Operand.func 38), args := #[Operand.tmp 8, Operand.tmp 9], argTypes := #[26,
    apply detStep_plain [(3, some 8), (4, some 9), (2, some 7)]
    exact fun _ => rfl
    rfl
    rintro vals ⟨⟨⟨⟨⟨-, -⟩, -⟩, f2⟩, f3⟩, f4⟩ w1 hC1 E hE
    simp only [puts, act_put, act_put_none, List.setIfInBounds_toArray, List.set_cons_zero, List.set_cons_succ, f2, f3, f4] at hE ⊢
    clear f2 f3 f4
    go_wp2_with fail
    refine calls_then (mul_c x y _ KX.out KY.out) ?_
    rintro e w2 ⟨rfl, hb2⟩
    go_wp2_with fail
    exact .mk (hE _ (hC1.next hb2))
  apply DetL.next
  · -- 6: Op.build 28 #[(0, Operand.tmp 5), (1, Operand.tmp 6), (2, Operand.tmp 7), (3, Operand.tmp 10)]
    apply detStep_plain [(0, some 5), (1, some 6), (2, some 7), (5, some 10)]
    exact fun _ => rfl
    rfl
    rintro vals ⟨⟨⟨⟨⟨⟨-, f0⟩, f1⟩, f2⟩, -⟩, -⟩, f5⟩ w1 hC1 E hE
    simp only [puts, act_put, act_put_none, List.setIfInBounds_toArray, List.set_cons_zero, List.set_cons_succ, f0, f1, f2, f5] at hE ⊢
    clear f0 f1 f2 f5
    refine wpList_build_pt x y (intE 1) (mulE x y) rfl rfl rfl rfl rfl rfl ?_
    go_wp2_with fail
    exact .mk (hE _ hC1)
  apply DetL.last (v := undef)
  · -- 7: Op.store 28 (Operand.tmp 4) (Operand.tmp 11)
    apply detStep_plain [(6, some 11), (5, some 10), (0, some 5), (1, some 6), (2, some 7), (3, some 8), (4, some 9), (5, some 10), (6, some 11)]
    exact fun _ => rfl
    rfl
    rintro vals ⟨⟨⟨⟨⟨⟨⟨-, f0⟩, f1⟩, f2⟩, f3⟩, f4⟩, f5⟩, f6⟩ w1 hC1 E hE
    have hlr := HLR.out
    simp only [puts, act_put, act_put_none, List.setIfInBounds_toArray, List.set_cons_zero, List.set_cons_succ, f0, f1, f2, f3, f4, f5, f6] at hE ⊢
    clear f0 f1 f2 f3 f4 f5 f6
    refine wpList_put_box (cells := ptV (ofP x y)) hC1.1.2.2.1 rfl rfl rfl rfl point_size rfl (by simp [eV, ptV, wV, limbs, Value.oneCell']) ?_
    intro w6 hb6 hw6
    go_wp2_with fail
    exact .mk (hE _ ⟨hb6, hw6.below hC1.2 (by rw [HG.out]; exact hlr) hC1.2.size⟩)
  rintro vals ⟨⟨⟨⟨⟨⟨⟨⟨-, f0⟩, f1⟩, f2⟩, f3⟩, f4⟩, f5⟩, f6⟩, f7⟩ w1 hC1
  simp only [puts, act_put, act_put_none, List.setIfInBounds_toArray, List.set_cons_zero, List.set_cons_succ, f0, f1, f2, f3, f4, f5, f6, f7]
  clear f0 f1 f2 f3 f4 f5 f6 f7
  go_wp2_with fail
  refine bodyPost_ret (results_box (P := Try.prog) rfl rfl hC1.1 hp rfl point_size) rfl ⟨rfl, hC1.2⟩
end Go.Proofs.Ytbeokfpbhemcfaa
