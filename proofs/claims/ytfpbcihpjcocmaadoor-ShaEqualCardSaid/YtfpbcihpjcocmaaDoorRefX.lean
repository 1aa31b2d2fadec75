/-
  Walk: the reference's mixed.
-/
import Derived.Test.YtfpbcihpjcocmaaDoorRefT
import Derived.Test.YtfpbcihpjcocmaaDoorPart
namespace Go.Proofs.YtfpbcihpjcocmaaDoor
set_option linter.unusedSimpArgs false
set_option linter.unusedVariables false
open Go.RowKit

theorem h_size : (Tryd.prog.info? 38).map (·.size) = some 8 := by kernel_rfl
theorem Rd.val {w : World} {B : Nat} {ad : Addr} {xs : List Value} (h : Rd w B (some ad) xs) {k : Nat} {v : Value} (hv : xs[k]? = some v) : w.cell? (ad.add k) = some v := by
  obtain ⟨ad', e, _, hc⟩ := h k v hv
  injection e with e
  subst e
  exact hc
theorem Rd.val0 {w : World} {B : Nat} {ad : Addr} {xs : List Value} (h : Rd w B (some ad) xs) {v : Value} (hv : xs[0]? = some v) : w.cell? ad = some v := by
  have := h.val hv
  rwa [show ad.add 0 = ad by unfold Addr.add; simp] at this
theorem Rd.lit {w : World} {B : Nat} {ad : Addr} {xs : List Value} (h : Rd w B (some ad) xs) {k : Nat} {v : Value} (hv : xs[k]? = some v) (hk : k ≠ 0) : w.cell? ⟨ad.block, ad.off + k, none⟩ = some v := by
  have := h.val hv
  rwa [show ad.add k = ⟨ad.block, ad.off + k, none⟩ by unfold Addr.add; simp [hk]] at this
def triV (p q c : Nat) : List Value := [.int .i64 p, .int .i64 q, .int .i64 c]
/-- H in its box, and a slice of three numbers -/
structure MxSt (w0 : World) (g : Nat) (cs : Array Value) (A : Option Addr) (xs : List Value) (u : World) : Prop where
  bel : Below g w0 u
  h : Blk u g 38 cs
  rd : Rd u g A xs
theorem MxSt.next {w0 u u' : World} {g : Nat} {cs : Array Value} {A : Option Addr} {xs : List Value} (h : MxSt w0 g cs A xs u) (hb : Below u.heap.size u u') : MxSt w0 g cs A xs u' :=
  ⟨h.bel.trans (hb.mono (by have := h.h.lt; omega)), h.h.below hb h.h.lt, h.rd.below (hb.mono (by have := h.h.lt; omega))⟩
theorem MxSt.drew {w0 u : World} {g : Nat} {cs : Array Value} {A : Option Addr} {xs : List Value} (h : MxSt w0 g cs A xs u) : MxSt w0 g cs A xs u.drew :=
  ⟨h.bel.drew, h.h, h.rd.below (Below.refl _ _).drew⟩
def halves (x : Nat) : Nat → Nat
  | 0 => x
  | n + 1 => halves x n / 2
theorem halves_eq (x : Nat) : ∀ n, halves x n = x / 2 ^ n
  | 0 => by simp [halves]
  | n + 1 => by rw [halves, halves_eq x n, Nat.div_div_eq_div_mul, Nat.pow_succ]
theorem halves_le (x : Nat) (n : Nat) : halves x n ≤ x := by rw [halves_eq]; exact Nat.div_le_self _ _
set_option maxRecDepth 100000 in
set_option maxHeartbeats 2000000 in
theorem mixed_any (bits steps : Nat) (a b c d k f : Value) (w : World) (hb : bits = 32 ∨ bits = 64) (x p q r : Nat) (shift : Bool) (hx : x < 2 ^ bits) (hp : p ≤ bits) (hq : q ≤ bits) (hr : r ≤ bits)
    (A : Option Addr) (cp B : Nat) (hrd : Rd w B A (triV p q r)) (hB : B ≤ w.heap.size) (hcp : 3 ≤ cp) :
    Calls Tryd.prog 34 #[.agg (hC bits steps a b c d k f), .int .u64 x, .slice A 3 cp, .bool shift] w fun e w' => e = .returned (.int .u64 (allN bits x p q r shift : Nat)) ∧ Below w.heap.size w w' := by
  obtain ⟨ad, rfl, _, _⟩ := hrd.at_ (k := 0) (by simp [triV])
  obtain ⟨W0, hW0⟩ : ∃ W0, W0 = w.alloc (.cells (hC bits steps a b c d k f) 38) := ⟨_, rfl⟩
  obtain ⟨cs, hcs⟩ : ∃ cs, cs = hC bits steps a b c d k f := ⟨_, rfl⟩
  have hst : MxSt w w.heap.size cs (some ad) (triV p q r) W0 := by
    rw [hW0, hcs]; exact ⟨below_new _ _, Blk.new _ _ _, (hrd.mono hB).below (below_new _ _)⟩
  have hb64 : bits ≤ 64 := by omega
  have hx64 : x < 2 ^ 64 := Nat.lt_of_lt_of_le hx (Nat.pow_le_pow_right (by omega) hb64)
  have hst0 := hst
  rw [hW0, ← hcs] at hst0
  have hr64 : r ≤ 64 := by omega
  have HST := Lib.hid hst0
  have HX := Lib.hid hx
  have HXL := Lib.hid hx64
  have HB := Lib.hid hb
  have HP := Lib.hid hp
  have HQ := Lib.hid hq
  have HR := Lib.hid hr
  have HCS := Lib.hid hcs
  have hu := Tryd.underlying38
  have hcs8 : cs.size = 8 := by rw [hcs]; rfl
  have HCS8 := Lib.hid hcs8
  rw [← hcs]
  have hx1 : (x : Int) < 18446744073709551616 := by omega
  have hAN : allN bits x p q r shift = (turnedN bits x p ^^^ turnedN bits x q) ^^^ lastN bits x r shift := rfl
  have HAN := Lib.hid hAN
  obtain ⟨tp, htp⟩ : ∃ z, z = turnedN bits x p := ⟨_, rfl⟩
  obtain ⟨tq, htq⟩ : ∃ z, z = turnedN bits x q := ⟨_, rfl⟩
  obtain ⟨tr, htr⟩ : ∃ z, z = turnedN bits x r := ⟨_, rfl⟩
  obtain ⟨la, hla⟩ : ∃ z, z = lastN bits x r shift := ⟨_, rfl⟩
  obtain ⟨pq, hpq⟩ : ∃ z, z = tp ^^^ tq := ⟨_, rfl⟩
  obtain ⟨re, hre⟩ : ∃ z, z = pq ^^^ la := ⟨_, rfl⟩
  have HTP := Lib.hid htp
  have HTQ := Lib.hid htq
  have HTR := Lib.hid htr
  have HLA := Lib.hid hla
  have HPQ := Lib.hid hpq
  have HRE := Lib.hid hre
  have LTP : Hid (tp < 2 ^ 64) := Lib.hid (by rw [htp]; exact turnedN_lt hx64)
  have LTQ : Hid (tq < 2 ^ 64) := Lib.hid (by rw [htq]; exact turnedN_lt hx64)
  have LLA : Hid (la < 2 ^ 64) := Lib.hid (by rw [hla]; exact lastN_lt hx64)
  have LPQ : Hid (pq < 2 ^ 64) := Lib.hid (by rw [hpq]; exact Nat.xor_lt_two_pow LTP.out LTQ.out)
  clear hrd hst hx hx64 hb hp hq hr hcs hcs8 hW0 hst0 hAN htp htq htr hla hpq hre W0
  cases shift
  all_goals
    go_enter Tryd.func34, Tryd.ntmps34
    go_wp2_with fail
    have HC0 := HST.out.drew
    refine wp_region_det (fun u => MxSt w w.heap.size cs (some ad) (triV p q r) u) (fun u => MxSt w w.heap.size cs (some ad) (triV p q r) u) [(0, some 11), (1, some 12), (2, some 13), (3, some 14), (4, some 15), (5, some 16), (6, some 9)] (by kernel_rfl) (by kernel_rfl) (by decide) (by kernel_rfl) (fun _ => rfl) HC0 ?_
    apply DetL.next
    · -- 0: Op.load 38 (Operand.tmp 4)
      apply detStep_plain []
      exact fun _ => rfl
      rfl
      rintro vals - w1 hC1 E hE
      simp only [puts, act_put, act_put_none, List.setIfInBounds_toArray, List.set_cons_zero, List.set_cons_succ] at hE ⊢
      refine wpList_get_box hC1.h rfl rfl rfl hu rfl (by rw [HCS8.out]; exact h_size) ?_
      go_wp2_with fail
      exact .mk (hE _ hC1)
    apply DetL.next
    · -- 1: Op.move (Operand.tmp 1)
      apply detStep_plain []
      exact fun _ => rfl
      rfl
      rintro vals ⟨-, -⟩ w1 hC1 E hE
      simp only [puts, act_put, act_put_none, List.setIfInBounds_toArray, List.set_cons_zero, List.set_cons_succ] at hE ⊢
      go_wp2
      exact .mk (hE _ hC1)
    apply DetL.next
    · -- 2: Op.move (Operand.tmp 2)
      apply detStep_plain []
      exact fun _ => rfl
      rfl
      rintro vals ⟨⟨-, -⟩, -⟩ w1 hC1 E hE
      simp only [puts, act_put, act_put_none, List.setIfInBounds_toArray, List.set_cons_zero, List.set_cons_succ] at hE ⊢
      go_wp2
      exact .mk (hE _ hC1)
    apply DetL.next
    · -- 3: Op.indexAddr 35 (Operand.tmp 13) (Operand.const (Value.int IntKind.i64 2))
      apply detStep_plain [(2, some 13)]
      exact fun _ => rfl
      rfl
      rintro vals ⟨⟨⟨-, -⟩, -⟩, f2⟩ w1 hC1 E hE
      simp only [puts, act_put, act_put_none, List.setIfInBounds_toArray, List.set_cons_zero, List.set_cons_succ, f2] at hE ⊢
      clear f2
      go_wp2
      exact .mk (hE _ hC1)
    apply DetL.next
    · -- 4: Op.load 3 (Operand.tmp 14)
      apply detStep_plain [(3, some 14)]
      exact fun _ => rfl
      rfl
      rintro vals ⟨⟨⟨⟨-, -⟩, -⟩, -⟩, f3⟩ w1 hC1 E hE
      have d0 := hC1.rd.lit (k := 2) rfl (by decide)
      simp only [puts, act_put, act_put_none, List.setIfInBounds_toArray, List.set_cons_zero, List.set_cons_succ, f3] at hE ⊢
      clear f3
      go_wp2
      exact .mk (hE _ hC1)
    apply DetL.next
    · -- 5: Op.call { callee := Callee.value (Operand.func 38), args := #[Operand.tmp 11, Operand.tmp 12, Operand.tmp 15],
      apply detStep_plain [(0, some 11), (1, some 12), (4, some 15)]
      exact fun _ => rfl
      rfl
      rintro vals ⟨⟨⟨⟨⟨-, f0⟩, f1⟩, -⟩, -⟩, f4⟩ w1 hC1 E hE
      simp only [puts, act_put, act_put_none, List.setIfInBounds_toArray, List.set_cons_zero, List.set_cons_succ, f0, f1, f4] at hE ⊢
      clear f0 f1 f4
      go_wp2_with fail
      have hct := turn_any bits steps a b c d k f w1 HB.out x r HX.out HR.out
      rw [← HCS.out] at hct
      refine calls_then hct ?_
      rintro e w2 ⟨rfl, hb2⟩
      rw [← HTR.out]
      go_wp2_with fail
      exact .mk (hE _ (hC1.next hb2))
    apply DetL.last
    · -- 6: Op.assign (Operand.tmp 16)
      apply detStep_plain [(5, some 16), (5, some 16), (0, some 11), (1, some 12), (2, some 13), (3, some 14), (4, some 15), (5, some 16)]
      exact fun _ => rfl
      rfl
      rintro vals ⟨⟨⟨⟨⟨⟨-, f0⟩, f1⟩, f2⟩, f3⟩, f4⟩, f5⟩ w1 hC1 E hE
      simp only [puts, act_put, act_put_none, List.setIfInBounds_toArray, List.set_cons_zero, List.set_cons_succ, f0, f1, f2, f3, f4, f5] at hE ⊢
      clear f0 f1 f2 f3 f4 f5
      go_wp2
      exact .mk (hE _ hC1)
    rintro vals ⟨⟨⟨⟨⟨⟨⟨-, f0⟩, f1⟩, f2⟩, f3⟩, f4⟩, f5⟩, f6⟩ w1 hC1
    simp only [puts, act_put, act_put_none, List.setIfInBounds_toArray, List.set_cons_zero, List.set_cons_succ, f0, f1, f2, f3, f4, f5, f6]
    clear f0 f1 f2 f3 f4 f5 f6
    clear HC0
    have HC1 := Lib.hid hC1
    have d2 := hC1.rd.lit (k := 2) rfl (by decide)
    clear hC1
    go_wp2_with fail
  · obtain rfl : tr = la := by rw [HLA.out, HTR.out]; rfl
    have HC0 := HC1.out.drew
    refine wp_region_det (fun u => MxSt w w.heap.size cs (some ad) (triV p q r) u) (fun u => MxSt w w.heap.size cs (some ad) (triV p q r) u) [(0, some 28), (1, some 29), (2, some 30), (3, some 31), (4, some 32), (5, some 33), (6, some 34), (7, some 35), (8, some 36), (9, some 37), (10, some 38), (11, some 39), (12, some 40), (13, some 41), (14, some 42), (15, some 8)] (by kernel_rfl) (by kernel_rfl) (by decide) (by kernel_rfl) (fun _ => rfl) HC0 ?_
    apply DetL.next
    · -- 0: Op.load 38 (Operand.tmp 4)
      apply detStep_plain []
      exact fun _ => rfl
      rfl
      rintro vals - w1 hC1 E hE
      simp only [puts, act_put, act_put_none, List.setIfInBounds_toArray, List.set_cons_zero, List.set_cons_succ] at hE ⊢
      refine wpList_get_box hC1.h rfl rfl rfl hu rfl (by rw [HCS8.out]; exact h_size) ?_
      go_wp2_with fail
      exact .mk (hE _ hC1)
    apply DetL.next
    · -- 1: Op.move (Operand.tmp 1)
      apply detStep_plain []
      exact fun _ => rfl
      rfl
      rintro vals ⟨-, -⟩ w1 hC1 E hE
      simp only [puts, act_put, act_put_none, List.setIfInBounds_toArray, List.set_cons_zero, List.set_cons_succ] at hE ⊢
      go_wp2
      exact .mk (hE _ hC1)
    apply DetL.next
    · -- 2: Op.move (Operand.tmp 2)
      apply detStep_plain []
      exact fun _ => rfl
      rfl
      rintro vals ⟨⟨-, -⟩, -⟩ w1 hC1 E hE
      simp only [puts, act_put, act_put_none, List.setIfInBounds_toArray, List.set_cons_zero, List.set_cons_succ] at hE ⊢
      go_wp2
      exact .mk (hE _ hC1)
    apply DetL.next
    · -- 3: Op.indexAddr 35 (Operand.tmp 30) (Operand.const (Value.int IntKind.i64 0))
      apply detStep_plain [(2, some 30)]
      exact fun _ => rfl
      rfl
      rintro vals ⟨⟨⟨-, -⟩, -⟩, f2⟩ w1 hC1 E hE
      simp only [puts, act_put, act_put_none, List.setIfInBounds_toArray, List.set_cons_zero, List.set_cons_succ, f2] at hE ⊢
      clear f2
      go_wp2
      exact .mk (hE _ hC1)
    apply DetL.next
    · -- 4: Op.load 3 (Operand.tmp 31)
      apply detStep_plain [(3, some 31)]
      exact fun _ => rfl
      rfl
      rintro vals ⟨⟨⟨⟨-, -⟩, -⟩, -⟩, f3⟩ w1 hC1 E hE
      have d0 := hC1.rd.val0 rfl
      simp only [puts, act_put, act_put_none, List.setIfInBounds_toArray, List.set_cons_zero, List.set_cons_succ, f3] at hE ⊢
      clear f3
      go_wp2
      exact .mk (hE _ hC1)
    apply DetL.next
    · -- 5: Op.call { callee := Callee.value (Operand.func 38), args := #[Operand.tmp 28, Operand.tmp 29, Operand.tmp 32],
      apply detStep_plain [(0, some 28), (1, some 29), (4, some 32)]
      exact fun _ => rfl
      rfl
      rintro vals ⟨⟨⟨⟨⟨-, f0⟩, f1⟩, -⟩, -⟩, f4⟩ w1 hC1 E hE
      simp only [puts, act_put, act_put_none, List.setIfInBounds_toArray, List.set_cons_zero, List.set_cons_succ, f0, f1, f4] at hE ⊢
      clear f0 f1 f4
      go_wp2_with fail
      have hct := turn_any bits steps a b c d k f w1 HB.out x p HX.out HP.out
      rw [← HCS.out] at hct
      refine calls_then hct ?_
      rintro e w2 ⟨rfl, hb2⟩
      rw [← HTP.out]
      go_wp2_with fail
      exact .mk (hE _ (hC1.next hb2))
    apply DetL.next
    · -- 6: Op.load 38 (Operand.tmp 4)
      apply detStep_plain []
      exact fun _ => rfl
      rfl
      rintro vals ⟨⟨⟨⟨⟨⟨-, -⟩, -⟩, -⟩, -⟩, -⟩, -⟩ w1 hC1 E hE
      simp only [puts, act_put, act_put_none, List.setIfInBounds_toArray, List.set_cons_zero, List.set_cons_succ] at hE ⊢
      refine wpList_get_box hC1.h rfl rfl rfl hu rfl (by rw [HCS8.out]; exact h_size) ?_
      go_wp2_with fail
      exact .mk (hE _ hC1)
    apply DetL.next
    · -- 7: Op.move (Operand.tmp 1)
      apply detStep_plain []
      exact fun _ => rfl
      rfl
      rintro vals ⟨⟨⟨⟨⟨⟨⟨-, -⟩, -⟩, -⟩, -⟩, -⟩, -⟩, -⟩ w1 hC1 E hE
      simp only [puts, act_put, act_put_none, List.setIfInBounds_toArray, List.set_cons_zero, List.set_cons_succ] at hE ⊢
      go_wp2
      exact .mk (hE _ hC1)
    apply DetL.next
    · -- 8: Op.move (Operand.tmp 2)
      apply detStep_plain []
      exact fun _ => rfl
      rfl
      rintro vals ⟨⟨⟨⟨⟨⟨⟨⟨-, -⟩, -⟩, -⟩, -⟩, -⟩, -⟩, -⟩, -⟩ w1 hC1 E hE
      simp only [puts, act_put, act_put_none, List.setIfInBounds_toArray, List.set_cons_zero, List.set_cons_succ] at hE ⊢
      go_wp2
      exact .mk (hE _ hC1)
    apply DetL.next
    · -- 9: Op.indexAddr 35 (Operand.tmp 36) (Operand.const (Value.int IntKind.i64 1))
      apply detStep_plain [(8, some 36)]
      exact fun _ => rfl
      rfl
      rintro vals ⟨⟨⟨⟨⟨⟨⟨⟨⟨-, -⟩, -⟩, -⟩, -⟩, -⟩, -⟩, -⟩, -⟩, f8⟩ w1 hC1 E hE
      simp only [puts, act_put, act_put_none, List.setIfInBounds_toArray, List.set_cons_zero, List.set_cons_succ, f8] at hE ⊢
      clear f8
      go_wp2
      exact .mk (hE _ hC1)
    apply DetL.next
    · -- 10: Op.load 3 (Operand.tmp 37)
      apply detStep_plain [(9, some 37)]
      exact fun _ => rfl
      rfl
      rintro vals ⟨⟨⟨⟨⟨⟨⟨⟨⟨⟨-, -⟩, -⟩, -⟩, -⟩, -⟩, -⟩, -⟩, -⟩, -⟩, f9⟩ w1 hC1 E hE
      have d0 := hC1.rd.lit (k := 1) rfl (by decide)
      simp only [puts, act_put, act_put_none, List.setIfInBounds_toArray, List.set_cons_zero, List.set_cons_succ, f9] at hE ⊢
      clear f9
      go_wp2
      exact .mk (hE _ hC1)
    apply DetL.next
    · -- 11: Op.call { callee := Callee.value (Operand.func 38), args := #[Operand.tmp 34, Operand.tmp 35, Operand.tmp 38],
      apply detStep_plain [(6, some 34), (7, some 35), (10, some 38), (5, some 33)]
      exact fun _ => rfl
      rfl
      rintro vals ⟨⟨⟨⟨⟨⟨⟨⟨⟨⟨⟨-, -⟩, -⟩, -⟩, -⟩, -⟩, f5⟩, f6⟩, f7⟩, -⟩, -⟩, f10⟩ w1 hC1 E hE
      simp only [puts, act_put, act_put_none, List.setIfInBounds_toArray, List.set_cons_zero, List.set_cons_succ, f5, f6, f7, f10] at hE ⊢
      clear f5 f6 f7 f10
      go_wp2_with fail
      have hct := turn_any bits steps a b c d k f w1 HB.out x q HX.out HQ.out
      rw [← HCS.out] at hct
      refine calls_then hct ?_
      rintro e w2 ⟨rfl, hb2⟩
      rw [← HTQ.out]
      go_wp2_with fail
      exact .mk (hE _ (hC1.next hb2))
    apply DetL.next
    · -- 12: Op.binOp BinOp.xor 40 (Operand.tmp 33) (Operand.tmp 39) 40
      apply detStep_plain [(5, some 33), (11, some 39)]
      exact fun _ => rfl
      rfl
      rintro vals ⟨⟨⟨⟨⟨⟨⟨⟨⟨⟨⟨⟨-, -⟩, -⟩, -⟩, -⟩, -⟩, f5⟩, -⟩, -⟩, -⟩, -⟩, -⟩, f11⟩ w1 hC1 E hE
      simp only [puts, act_put, act_put_none, List.setIfInBounds_toArray, List.set_cons_zero, List.set_cons_succ, f5, f11] at hE ⊢
      clear f5 f11
      go_wp2
      rw [xor64 tp tq LTP.out LTQ.out, ← HPQ.out]
      exact .mk (hE _ hC1)
    apply DetL.next
    · -- 13: Op.move (Operand.tmp 9)
      apply detStep_plain []
      exact fun _ => rfl
      rfl
      rintro vals ⟨⟨⟨⟨⟨⟨⟨⟨⟨⟨⟨⟨⟨-, -⟩, -⟩, -⟩, -⟩, -⟩, -⟩, -⟩, -⟩, -⟩, -⟩, -⟩, -⟩, -⟩ w1 hC1 E hE
      simp only [puts, act_put, act_put_none, List.setIfInBounds_toArray, List.set_cons_zero, List.set_cons_succ] at hE ⊢
      go_wp2
      exact .mk (hE _ hC1)
    apply DetL.next
    · -- 14: Op.binOp BinOp.xor 40 (Operand.tmp 40) (Operand.tmp 41) 40
      apply detStep_plain [(12, some 40), (13, some 41)]
      exact fun _ => rfl
      rfl
      rintro vals ⟨⟨⟨⟨⟨⟨⟨⟨⟨⟨⟨⟨⟨⟨-, -⟩, -⟩, -⟩, -⟩, -⟩, -⟩, -⟩, -⟩, -⟩, -⟩, -⟩, -⟩, f12⟩, f13⟩ w1 hC1 E hE
      simp only [puts, act_put, act_put_none, List.setIfInBounds_toArray, List.set_cons_zero, List.set_cons_succ, f12, f13] at hE ⊢
      clear f12 f13
      go_wp2
      rw [xor64 pq tr LPQ.out LLA.out, ← HRE.out]
      exact .mk (hE _ hC1)
    apply DetL.last
    · -- 15: Op.assign (Operand.tmp 42)
      apply detStep_plain [(14, some 42), (11, some 39), (0, some 28), (1, some 29), (2, some 30), (3, some 31), (4, some 32), (5, some 33), (6, some 34), (7, some 35), (8, some 36), (9, some 37), (10, some 38), (11, some 39), (12, some 40), (13, some 41), (14, some 42)]
      exact fun _ => rfl
      rfl
      rintro vals ⟨⟨⟨⟨⟨⟨⟨⟨⟨⟨⟨⟨⟨⟨⟨-, f0⟩, f1⟩, f2⟩, f3⟩, f4⟩, f5⟩, f6⟩, f7⟩, f8⟩, f9⟩, f10⟩, f11⟩, f12⟩, f13⟩, f14⟩ w1 hC1 E hE
      simp only [puts, act_put, act_put_none, List.setIfInBounds_toArray, List.set_cons_zero, List.set_cons_succ, f0, f1, f2, f3, f4, f5, f6, f7, f8, f9, f10, f11, f12, f13, f14] at hE ⊢
      clear f0 f1 f2 f3 f4 f5 f6 f7 f8 f9 f10 f11 f12 f13 f14
      go_wp2
      exact .mk (hE _ hC1)
    rintro vals ⟨⟨⟨⟨⟨⟨⟨⟨⟨⟨⟨⟨⟨⟨⟨⟨-, f0⟩, f1⟩, f2⟩, f3⟩, f4⟩, f5⟩, f6⟩, f7⟩, f8⟩, f9⟩, f10⟩, f11⟩, f12⟩, f13⟩, f14⟩, f15⟩ w1 hC1
    simp only [puts, act_put, act_put_none, List.setIfInBounds_toArray, List.set_cons_zero, List.set_cons_succ, f0, f1, f2, f3, f4, f5, f6, f7, f8, f9, f10, f11, f12, f13, f14, f15]
    clear f0 f1 f2 f3 f4 f5 f6 f7 f8 f9 f10 f11 f12 f13 f14 f15
    clear HC0
    go_wp2_with fail
    go_ret
    exact ⟨ret_int' (by rw [HAN.out, HRE.out, HPQ.out, HTP.out, HTQ.out, HLA.out]), hC1.bel⟩
  · go_loop [9, 10] (fun v i => ∃ j : Nat, j ≤ r ∧ i = .int .i64 j ∧ v = .int .u64 (halves x j)) (fun _ i => r - (intOf i).toNat)
    case atStart => exact ⟨0, by omega, rfl, rfl⟩
    case round =>
      obtain ⟨j, hj, rfl, rfl⟩ := hrel
      have hh := halves_le x j
      have hhs : halves x (j + 1) = halves x j / 2 := rfl
      obtain ⟨y, hy⟩ : ∃ y, y = halves x j := ⟨_, rfl⟩
      rw [← hy] at hh hhs ⊢
      have HY := Lib.hid hy
      have HHS := Lib.hid hhs
      have hy1 : (y : Int) < 18446744073709551616 := by omega
      clear hy hhs
      by_cases hlt : j < r
      · have hlt' : (j : Int) < (r : Int) := by omega
        go_wp2
        exact ⟨⟨j + 1, by omega, by go_num, by rw [HHS.out]; go_num⟩, by simp [intOf]; omega⟩
      · obtain rfl : j = r := by omega
        obtain rfl : y = la := by rw [HLA.out, HY.out, halves_eq]; rfl
        go_wp2_with fail
        have HC0 := HC1.out.drew
        refine wp_region_det (fun u => MxSt w w.heap.size cs (some ad) (triV p q j) u) (fun u => MxSt w w.heap.size cs (some ad) (triV p q j) u) [(0, some 28), (1, some 29), (2, some 30), (3, some 31), (4, some 32), (5, some 33), (6, some 34), (7, some 35), (8, some 36), (9, some 37), (10, some 38), (11, some 39), (12, some 40), (13, some 41), (14, some 42), (15, some 8)] (by kernel_rfl) (by kernel_rfl) (by decide) (by kernel_rfl) (fun _ => rfl) HC0 ?_
        apply DetL.next
        · -- 0: Op.load 38 (Operand.tmp 4)
          apply detStep_plain []
          exact fun _ => rfl
          rfl
          rintro vals - w1 hC1 E hE
          simp only [puts, act_put, act_put_none, List.setIfInBounds_toArray, List.set_cons_zero, List.set_cons_succ] at hE ⊢
          refine wpList_get_box hC1.h rfl rfl rfl hu rfl (by rw [HCS8.out]; exact h_size) ?_
          go_wp2_with fail
          exact .mk (hE _ hC1)
        apply DetL.next
        · -- 1: Op.move (Operand.tmp 1)
          apply detStep_plain []
          exact fun _ => rfl
          rfl
          rintro vals ⟨-, -⟩ w1 hC1 E hE
          simp only [puts, act_put, act_put_none, List.setIfInBounds_toArray, List.set_cons_zero, List.set_cons_succ] at hE ⊢
          go_wp2
          exact .mk (hE _ hC1)
        apply DetL.next
        · -- 2: Op.move (Operand.tmp 2)
          apply detStep_plain []
          exact fun _ => rfl
          rfl
          rintro vals ⟨⟨-, -⟩, -⟩ w1 hC1 E hE
          simp only [puts, act_put, act_put_none, List.setIfInBounds_toArray, List.set_cons_zero, List.set_cons_succ] at hE ⊢
          go_wp2
          exact .mk (hE _ hC1)
        apply DetL.next
        · -- 3: Op.indexAddr 35 (Operand.tmp 30) (Operand.const (Value.int IntKind.i64 0))
          apply detStep_plain [(2, some 30)]
          exact fun _ => rfl
          rfl
          rintro vals ⟨⟨⟨-, -⟩, -⟩, f2⟩ w1 hC1 E hE
          simp only [puts, act_put, act_put_none, List.setIfInBounds_toArray, List.set_cons_zero, List.set_cons_succ, f2] at hE ⊢
          clear f2
          go_wp2
          exact .mk (hE _ hC1)
        apply DetL.next
        · -- 4: Op.load 3 (Operand.tmp 31)
          apply detStep_plain [(3, some 31)]
          exact fun _ => rfl
          rfl
          rintro vals ⟨⟨⟨⟨-, -⟩, -⟩, -⟩, f3⟩ w1 hC1 E hE
          have d0 := hC1.rd.val0 rfl
          simp only [puts, act_put, act_put_none, List.setIfInBounds_toArray, List.set_cons_zero, List.set_cons_succ, f3] at hE ⊢
          clear f3
          go_wp2
          exact .mk (hE _ hC1)
        apply DetL.next
        · -- 5: Op.call { callee := Callee.value (Operand.func 38), args := #[Operand.tmp 28, Operand.tmp 29, Operand.tmp 32],
          apply detStep_plain [(0, some 28), (1, some 29), (4, some 32)]
          exact fun _ => rfl
          rfl
          rintro vals ⟨⟨⟨⟨⟨-, f0⟩, f1⟩, -⟩, -⟩, f4⟩ w1 hC1 E hE
          simp only [puts, act_put, act_put_none, List.setIfInBounds_toArray, List.set_cons_zero, List.set_cons_succ, f0, f1, f4] at hE ⊢
          clear f0 f1 f4
          go_wp2_with fail
          have hct := turn_any bits steps a b c d k f w1 HB.out x p HX.out HP.out
          rw [← HCS.out] at hct
          refine calls_then hct ?_
          rintro e w2 ⟨rfl, hb2⟩
          rw [← HTP.out]
          go_wp2_with fail
          exact .mk (hE _ (hC1.next hb2))
        apply DetL.next
        · -- 6: Op.load 38 (Operand.tmp 4)
          apply detStep_plain []
          exact fun _ => rfl
          rfl
          rintro vals ⟨⟨⟨⟨⟨⟨-, -⟩, -⟩, -⟩, -⟩, -⟩, -⟩ w1 hC1 E hE
          simp only [puts, act_put, act_put_none, List.setIfInBounds_toArray, List.set_cons_zero, List.set_cons_succ] at hE ⊢
          refine wpList_get_box hC1.h rfl rfl rfl hu rfl (by rw [HCS8.out]; exact h_size) ?_
          go_wp2_with fail
          exact .mk (hE _ hC1)
        apply DetL.next
        · -- 7: Op.move (Operand.tmp 1)
          apply detStep_plain []
          exact fun _ => rfl
          rfl
          rintro vals ⟨⟨⟨⟨⟨⟨⟨-, -⟩, -⟩, -⟩, -⟩, -⟩, -⟩, -⟩ w1 hC1 E hE
          simp only [puts, act_put, act_put_none, List.setIfInBounds_toArray, List.set_cons_zero, List.set_cons_succ] at hE ⊢
          go_wp2
          exact .mk (hE _ hC1)
        apply DetL.next
        · -- 8: Op.move (Operand.tmp 2)
          apply detStep_plain []
          exact fun _ => rfl
          rfl
          rintro vals ⟨⟨⟨⟨⟨⟨⟨⟨-, -⟩, -⟩, -⟩, -⟩, -⟩, -⟩, -⟩, -⟩ w1 hC1 E hE
          simp only [puts, act_put, act_put_none, List.setIfInBounds_toArray, List.set_cons_zero, List.set_cons_succ] at hE ⊢
          go_wp2
          exact .mk (hE _ hC1)
        apply DetL.next
        · -- 9: Op.indexAddr 35 (Operand.tmp 36) (Operand.const (Value.int IntKind.i64 1))
          apply detStep_plain [(8, some 36)]
          exact fun _ => rfl
          rfl
          rintro vals ⟨⟨⟨⟨⟨⟨⟨⟨⟨-, -⟩, -⟩, -⟩, -⟩, -⟩, -⟩, -⟩, -⟩, f8⟩ w1 hC1 E hE
          simp only [puts, act_put, act_put_none, List.setIfInBounds_toArray, List.set_cons_zero, List.set_cons_succ, f8] at hE ⊢
          clear f8
          go_wp2
          exact .mk (hE _ hC1)
        apply DetL.next
        · -- 10: Op.load 3 (Operand.tmp 37)
          apply detStep_plain [(9, some 37)]
          exact fun _ => rfl
          rfl
          rintro vals ⟨⟨⟨⟨⟨⟨⟨⟨⟨⟨-, -⟩, -⟩, -⟩, -⟩, -⟩, -⟩, -⟩, -⟩, -⟩, f9⟩ w1 hC1 E hE
          have d0 := hC1.rd.lit (k := 1) rfl (by decide)
          simp only [puts, act_put, act_put_none, List.setIfInBounds_toArray, List.set_cons_zero, List.set_cons_succ, f9] at hE ⊢
          clear f9
          go_wp2
          exact .mk (hE _ hC1)
        apply DetL.next
        · -- 11: Op.call { callee := Callee.value (Operand.func 38), args := #[Operand.tmp 34, Operand.tmp 35, Operand.tmp 38],
          apply detStep_plain [(6, some 34), (7, some 35), (10, some 38), (5, some 33)]
          exact fun _ => rfl
          rfl
          rintro vals ⟨⟨⟨⟨⟨⟨⟨⟨⟨⟨⟨-, -⟩, -⟩, -⟩, -⟩, -⟩, f5⟩, f6⟩, f7⟩, -⟩, -⟩, f10⟩ w1 hC1 E hE
          simp only [puts, act_put, act_put_none, List.setIfInBounds_toArray, List.set_cons_zero, List.set_cons_succ, f5, f6, f7, f10] at hE ⊢
          clear f5 f6 f7 f10
          go_wp2_with fail
          have hct := turn_any bits steps a b c d k f w1 HB.out x q HX.out HQ.out
          rw [← HCS.out] at hct
          refine calls_then hct ?_
          rintro e w2 ⟨rfl, hb2⟩
          rw [← HTQ.out]
          go_wp2_with fail
          exact .mk (hE _ (hC1.next hb2))
        apply DetL.next
        · -- 12: Op.binOp BinOp.xor 40 (Operand.tmp 33) (Operand.tmp 39) 40
          apply detStep_plain [(5, some 33), (11, some 39)]
          exact fun _ => rfl
          rfl
          rintro vals ⟨⟨⟨⟨⟨⟨⟨⟨⟨⟨⟨⟨-, -⟩, -⟩, -⟩, -⟩, -⟩, f5⟩, -⟩, -⟩, -⟩, -⟩, -⟩, f11⟩ w1 hC1 E hE
          simp only [puts, act_put, act_put_none, List.setIfInBounds_toArray, List.set_cons_zero, List.set_cons_succ, f5, f11] at hE ⊢
          clear f5 f11
          go_wp2
          rw [xor64 tp tq LTP.out LTQ.out, ← HPQ.out]
          exact .mk (hE _ hC1)
        apply DetL.next
        · -- 13: Op.move (Operand.tmp 9)
          apply detStep_plain []
          exact fun _ => rfl
          rfl
          rintro vals ⟨⟨⟨⟨⟨⟨⟨⟨⟨⟨⟨⟨⟨-, -⟩, -⟩, -⟩, -⟩, -⟩, -⟩, -⟩, -⟩, -⟩, -⟩, -⟩, -⟩, -⟩ w1 hC1 E hE
          simp only [puts, act_put, act_put_none, List.setIfInBounds_toArray, List.set_cons_zero, List.set_cons_succ] at hE ⊢
          go_wp2
          exact .mk (hE _ hC1)
        apply DetL.next
        · -- 14: Op.binOp BinOp.xor 40 (Operand.tmp 40) (Operand.tmp 41) 40
          apply detStep_plain [(12, some 40), (13, some 41)]
          exact fun _ => rfl
          rfl
          rintro vals ⟨⟨⟨⟨⟨⟨⟨⟨⟨⟨⟨⟨⟨⟨-, -⟩, -⟩, -⟩, -⟩, -⟩, -⟩, -⟩, -⟩, -⟩, -⟩, -⟩, -⟩, f12⟩, f13⟩ w1 hC1 E hE
          simp only [puts, act_put, act_put_none, List.setIfInBounds_toArray, List.set_cons_zero, List.set_cons_succ, f12, f13] at hE ⊢
          clear f12 f13
          go_wp2
          rw [xor64 pq y LPQ.out LLA.out, ← HRE.out]
          exact .mk (hE _ hC1)
        apply DetL.last
        · -- 15: Op.assign (Operand.tmp 42)
          apply detStep_plain [(14, some 42), (11, some 39), (0, some 28), (1, some 29), (2, some 30), (3, some 31), (4, some 32), (5, some 33), (6, some 34), (7, some 35), (8, some 36), (9, some 37), (10, some 38), (11, some 39), (12, some 40), (13, some 41), (14, some 42)]
          exact fun _ => rfl
          rfl
          rintro vals ⟨⟨⟨⟨⟨⟨⟨⟨⟨⟨⟨⟨⟨⟨⟨-, f0⟩, f1⟩, f2⟩, f3⟩, f4⟩, f5⟩, f6⟩, f7⟩, f8⟩, f9⟩, f10⟩, f11⟩, f12⟩, f13⟩, f14⟩ w1 hC1 E hE
          simp only [puts, act_put, act_put_none, List.setIfInBounds_toArray, List.set_cons_zero, List.set_cons_succ, f0, f1, f2, f3, f4, f5, f6, f7, f8, f9, f10, f11, f12, f13, f14] at hE ⊢
          clear f0 f1 f2 f3 f4 f5 f6 f7 f8 f9 f10 f11 f12 f13 f14
          go_wp2
          exact .mk (hE _ hC1)
        rintro vals ⟨⟨⟨⟨⟨⟨⟨⟨⟨⟨⟨⟨⟨⟨⟨⟨-, f0⟩, f1⟩, f2⟩, f3⟩, f4⟩, f5⟩, f6⟩, f7⟩, f8⟩, f9⟩, f10⟩, f11⟩, f12⟩, f13⟩, f14⟩, f15⟩ w1 hC1
        simp only [puts, act_put, act_put_none, List.setIfInBounds_toArray, List.set_cons_zero, List.set_cons_succ, f0, f1, f2, f3, f4, f5, f6, f7, f8, f9, f10, f11, f12, f13, f14, f15]
        clear f0 f1 f2 f3 f4 f5 f6 f7 f8 f9 f10 f11 f12 f13 f14 f15
        clear HC0
        go_wp2_with fail
        go_ret
        exact ⟨ret_int' (by rw [HAN.out, HRE.out, HPQ.out, HTP.out, HTQ.out, HLA.out]), hC1.bel⟩
end Go.Proofs.YtfpbcihpjcocmaaDoor
