/-
  Walks: sha's Equal; the law ShaEqual.
-/
import Derived.Test.YtfpbcihpjcocmaaDoorShaL
namespace Go.Proofs.YtfpbcihpjcocmaaDoor
set_option linter.unusedSimpArgs false
set_option linter.unusedVariables false
open Go.RowKit

structure EqSt (w0 : World) (A1 A2 : Option Addr) (l1 l2 : List UInt8) (u : World) : Prop where
  bel : Below w0.heap.size w0 u
  r1 : Rd u w0.heap.size A1 (bytesV l1)
  r2 : Rd u w0.heap.size A2 (bytesV l2)
theorem EqSt.drew {w0 u : World} {A1 A2 : Option Addr} {l1 l2 : List UInt8} (h : EqSt w0 A1 A2 l1 l2 u) : EqSt w0 A1 A2 l1 l2 u.drew :=
  ⟨h.bel.drew, h.r1.below (Below.refl _ _).drew, h.r2.below (Below.refl _ _).drew⟩
theorem take_eq_iff {l1 l2 : List UInt8} {k : Nat} (h1 : k < l1.length) (h2 : k < l2.length) : l1.take (k + 1) = l2.take (k + 1) ↔ l1.take k = l2.take k ∧ l1[k] = l2[k] := by
  rw [List.take_succ_eq_append_getElem h1, List.take_succ_eq_append_getElem h2]
  constructor
  · intro h
    have := List.append_inj h (by rw [List.length_take, List.length_take]; omega)
    exact ⟨this.1, by simpa using this.2⟩
  · rintro ⟨e1, e2⟩
    rw [e1, e2]
theorem xor_zero (p q : Nat) : p ^^^ q = 0 ↔ p = q := by
  constructor
  · intro h
    apply Nat.eq_of_testBit_eq
    intro i
    have := congrArg (·.testBit i) h
    simpa [Nat.testBit_xor] using this
  · rintro rfl
    exact Nat.xor_self _
theorem step_zero (x p q : Nat) : (x ||| (p ^^^ q)) = 0 ↔ x = 0 ∧ p = q := by
  rw [Nat.or_eq_zero_iff, xor_zero]
set_option maxRecDepth 100000 in
set_option maxHeartbeats 1000000 in
theorem equal_any (l1 l2 : List UInt8) (A1 A2 : Option Addr) (c1 c2 : Nat) (w : World) (h1 : Rd w w.heap.size A1 (bytesV l1)) (h2 : Rd w w.heap.size A2 (bytesV l2)) (hc1 : l1.length ≤ c1) (hc2 : l2.length ≤ c2) (hl1 : l1.length ≤ 1000) :
    Calls Tryd.prog 15 #[.slice A1 l1.length c1, .slice A2 l2.length c2] w fun e w' => e = .returned (.bool (decide (l1 = l2))) ∧ Below w.heap.size w w' := by
  by_cases hlen : l1.length = l2.length
  · have hst0 : EqSt w A1 A2 l1 l2 w := ⟨Below.refl _ _, h1, h2⟩
    obtain ⟨n, hn⟩ : ∃ n, n = l1.length := ⟨_, rfl⟩
    rw [← hlen, ← hn]
    have hn2 : l2.length = n := by omega
    have hn1 : n ≤ 1000 := by omega
    have HST0 := Lib.hid hst0
    have HN := Lib.hid hn
    have HN2 := Lib.hid hn2
    rw [← hn] at hc1
    rw [hn2] at hc2
    clear h1 h2 hlen hst0 hn hn2 hl1
    go_enter Tryd.func15, Tryd.ntmps15
    go_wp2_with fail
    go_loopw [5, 14] (fun v i wr => ∃ k x : Nat, k ≤ n ∧ i = .int .i64 k ∧ v = .int .u8 x ∧ x < 256 ∧ (x = 0 ↔ l1.take k = l2.take k) ∧ EqSt w A1 A2 l1 l2 wr) (fun _ i _ => n - (intOf i).toNat)
    case atStart => exact ⟨0, 0, Nat.zero_le _, rfl, rfl, by decide, by simp, HST0.out⟩
    case round =>
      clear HST0
      obtain ⟨k, x, hk, rfl, rfl, hx, hiff, hst⟩ := hrel
      by_cases hlt : k < n
      · have hlt' : (k : Int) < (n : Int) := by omega
        have hk1 : k < l1.length := by rw [← HN.out]; exact hlt
        have hk2 : k < l2.length := by rw [HN2.out]; exact hlt
        obtain ⟨ad1, rfl, hz1, hz2⟩ := hst.r1.at_ (k := k) (by rw [bytesV_length]; exact hk1)
        obtain ⟨ad2, rfl, hz3, hz4⟩ := hst.r2.at_ (k := k) (by rw [bytesV_length]; exact hk2)
        obtain ⟨p, hp⟩ : ∃ p, p = (l1[k]).toNat := ⟨_, rfl⟩
        obtain ⟨q, hq⟩ : ∃ q, q = (l2[k]).toNat := ⟨_, rfl⟩
        have hpl : p < 256 := by rw [hp]; exact (l1[k]).toNat_lt
        have hql : q < 256 := by rw [hq]; exact (l2[k]).toNat_lt
        have e1 : (bytesV l1)[k]? = some (.int .u8 (p : Int)) := by rw [bytesV, List.getElem?_map, List.getElem?_eq_getElem hk1, hp]; rfl
        have e2 : (bytesV l2)[k]? = some (.int .u8 (q : Int)) := by rw [bytesV, List.getElem?_map, List.getElem?_eq_getElem hk2, hq]; rfl
        obtain ⟨pq, hpq⟩ : ∃ z, z = p ^^^ q := ⟨_, rfl⟩
        obtain ⟨xn, hxn⟩ : ∃ z, z = x ||| pq := ⟨_, rfl⟩
        have hpql : pq < 256 := by rw [hpq]; exact Nat.xor_lt_two_pow (n := 8) hpl hql
        have hxnl : xn < 256 := by rw [hxn]; exact Nat.or_lt_two_pow (n := 8) hx hpql
        have hin : xn = 0 ↔ l1.take (k + 1) = l2.take (k + 1) := by
          rw [hxn, hpq, step_zero, take_eq_iff hk1 hk2, hiff, hp, hq]
          exact and_congr_right fun _ => UInt8.toNat_inj
        have E1 := Lib.hid e1
        have E2 := Lib.hid e2
        have HPL := Lib.hid hpl
        have HQL := Lib.hid hql
        have HX := Lib.hid hx
        have HPQL := Lib.hid hpql
        have HPQ := Lib.hid hpq
        have HXN := Lib.hid hxn
        have HXNL := Lib.hid hxnl
        have HIN := Lib.hid hin
        have HC0 := hst.drew
        clear hz1 hz2 hz3 hz4 hp hq hpl hql e1 e2 hpq hxn hpql hxnl hin hx hiff hst hk1 hk2
        go_wp2_with fail
        refine wp_region_det (fun u => EqSt w (some ad1) (some ad2) l1 l2 u) (fun u => EqSt w (some ad1) (some ad2) l1 l2 u) [(0, some 17), (1, some 18), (2, some 19), (3, some 20), (4, some 21), (5, some 22), (6, some 23), (7, some 24), (8, some 25), (9, some 26), (10, some 27), (11, some 5)] (by kernel_rfl) (by kernel_rfl) (by decide) (by kernel_rfl) (fun _ => rfl) HC0 ?_
        apply DetL.next
        · -- 0: Op.move (Operand.tmp 5)
          apply detStep_plain []
          exact fun _ => rfl
          rfl
          rintro vals - w1 hC1 E hE
          simp only [puts, act_put, act_put_none, List.setIfInBounds_toArray, List.set_cons_zero, List.set_cons_succ] at hE ⊢
          go_wp2
          exact .mk (hE _ hC1)
        apply DetL.next
        · -- 1: Op.move (Operand.tmp 0)
          apply detStep_plain []
          exact fun _ => rfl
          rfl
          rintro vals ⟨-, -⟩ w1 hC1 E hE
          simp only [puts, act_put, act_put_none, List.setIfInBounds_toArray, List.set_cons_zero, List.set_cons_succ] at hE ⊢
          go_wp2
          exact .mk (hE _ hC1)
        apply DetL.next
        · -- 2: Op.move (Operand.tmp 6)
          apply detStep_plain []
          exact fun _ => rfl
          rfl
          rintro vals ⟨⟨-, -⟩, -⟩ w1 hC1 E hE
          simp only [puts, act_put, act_put_none, List.setIfInBounds_toArray, List.set_cons_zero, List.set_cons_succ] at hE ⊢
          go_wp2
          exact .mk (hE _ hC1)
        apply DetL.next
        · -- 3: Op.indexAddr 22 (Operand.tmp 18) (Operand.tmp 19)
          apply detStep_plain [(1, some 18), (2, some 19)]
          exact fun _ => rfl
          rfl
          rintro vals ⟨⟨⟨-, -⟩, f1⟩, f2⟩ w1 hC1 E hE
          simp only [puts, act_put, act_put_none, List.setIfInBounds_toArray, List.set_cons_zero, List.set_cons_succ, f1, f2] at hE ⊢
          clear f1 f2
          go_wp2
          exact .mk (hE _ hC1)
        apply DetL.next
        · -- 4: Op.load 5 (Operand.tmp 20)
          apply detStep_plain [(3, some 20)]
          exact fun _ => rfl
          rfl
          rintro vals ⟨⟨⟨⟨-, -⟩, -⟩, -⟩, f3⟩ w1 hC1 E hE
          have d0 := hC1.r1.val E1.out
          simp only [puts, act_put, act_put_none, List.setIfInBounds_toArray, List.set_cons_zero, List.set_cons_succ, f3] at hE ⊢
          clear f3
          go_wp2
          exact .mk (hE _ hC1)
        apply DetL.next
        · -- 5: Op.move (Operand.tmp 1)
          apply detStep_plain []
          exact fun _ => rfl
          rfl
          rintro vals ⟨⟨⟨⟨⟨-, -⟩, -⟩, -⟩, -⟩, -⟩ w1 hC1 E hE
          simp only [puts, act_put, act_put_none, List.setIfInBounds_toArray, List.set_cons_zero, List.set_cons_succ] at hE ⊢
          go_wp2
          exact .mk (hE _ hC1)
        apply DetL.next
        · -- 6: Op.move (Operand.tmp 6)
          apply detStep_plain []
          exact fun _ => rfl
          rfl
          rintro vals ⟨⟨⟨⟨⟨⟨-, -⟩, -⟩, -⟩, -⟩, -⟩, -⟩ w1 hC1 E hE
          simp only [puts, act_put, act_put_none, List.setIfInBounds_toArray, List.set_cons_zero, List.set_cons_succ] at hE ⊢
          go_wp2
          exact .mk (hE _ hC1)
        apply DetL.next
        · -- 7: Op.indexAddr 22 (Operand.tmp 22) (Operand.tmp 23)
          apply detStep_plain [(5, some 22), (6, some 23)]
          exact fun _ => rfl
          rfl
          rintro vals ⟨⟨⟨⟨⟨⟨⟨-, -⟩, -⟩, -⟩, -⟩, -⟩, f5⟩, f6⟩ w1 hC1 E hE
          simp only [puts, act_put, act_put_none, List.setIfInBounds_toArray, List.set_cons_zero, List.set_cons_succ, f5, f6] at hE ⊢
          clear f5 f6
          go_wp2
          exact .mk (hE _ hC1)
        apply DetL.next
        · -- 8: Op.load 5 (Operand.tmp 24)
          apply detStep_plain [(7, some 24)]
          exact fun _ => rfl
          rfl
          rintro vals ⟨⟨⟨⟨⟨⟨⟨⟨-, -⟩, -⟩, -⟩, -⟩, -⟩, -⟩, -⟩, f7⟩ w1 hC1 E hE
          have d0 := hC1.r2.val E2.out
          simp only [puts, act_put, act_put_none, List.setIfInBounds_toArray, List.set_cons_zero, List.set_cons_succ, f7] at hE ⊢
          clear f7
          go_wp2
          exact .mk (hE _ hC1)
        apply DetL.next
        · -- 9: Op.binOp BinOp.xor 5 (Operand.tmp 21) (Operand.tmp 25) 5
          apply detStep_plain [(4, some 21), (8, some 25)]
          exact fun _ => rfl
          rfl
          rintro vals ⟨⟨⟨⟨⟨⟨⟨⟨⟨-, -⟩, -⟩, -⟩, -⟩, f4⟩, -⟩, -⟩, -⟩, f8⟩ w1 hC1 E hE
          simp only [puts, act_put, act_put_none, List.setIfInBounds_toArray, List.set_cons_zero, List.set_cons_succ, f4, f8] at hE ⊢
          clear f4 f8
          go_wp2
          rw [xor8 p q HPL.out HQL.out, ← HPQ.out]
          exact .mk (hE _ hC1)
        apply DetL.next
        · -- 10: Op.binOp BinOp.or 5 (Operand.tmp 17) (Operand.tmp 26) 5
          apply detStep_plain [(0, some 17), (9, some 26)]
          exact fun _ => rfl
          rfl
          rintro vals ⟨⟨⟨⟨⟨⟨⟨⟨⟨⟨-, f0⟩, -⟩, -⟩, -⟩, -⟩, -⟩, -⟩, -⟩, -⟩, f9⟩ w1 hC1 E hE
          simp only [puts, act_put, act_put_none, List.setIfInBounds_toArray, List.set_cons_zero, List.set_cons_succ, f0, f9] at hE ⊢
          clear f0 f9
          go_wp2
          rw [or8 x pq HX.out HPQL.out, ← HXN.out]
          exact .mk (hE _ hC1)
        apply DetL.last
        · -- 11: Op.assign (Operand.tmp 27)
          apply detStep_plain [(10, some 27), (0, some 17), (1, some 18), (2, some 19), (3, some 20), (4, some 21), (5, some 22), (6, some 23), (7, some 24), (8, some 25), (9, some 26), (10, some 27)]
          exact fun _ => rfl
          rfl
          rintro vals ⟨⟨⟨⟨⟨⟨⟨⟨⟨⟨⟨-, f0⟩, f1⟩, f2⟩, f3⟩, f4⟩, f5⟩, f6⟩, f7⟩, f8⟩, f9⟩, f10⟩ w1 hC1 E hE
          simp only [puts, act_put, act_put_none, List.setIfInBounds_toArray, List.set_cons_zero, List.set_cons_succ, f0, f1, f2, f3, f4, f5, f6, f7, f8, f9, f10] at hE ⊢
          clear f0 f1 f2 f3 f4 f5 f6 f7 f8 f9 f10
          go_wp2
          exact .mk (hE _ hC1)
        rintro vals ⟨⟨⟨⟨⟨⟨⟨⟨⟨⟨⟨⟨-, f0⟩, f1⟩, f2⟩, f3⟩, f4⟩, f5⟩, f6⟩, f7⟩, f8⟩, f9⟩, f10⟩, f11⟩ w1 hC1
        simp only [puts, act_put, act_put_none, List.setIfInBounds_toArray, List.set_cons_zero, List.set_cons_succ, f0, f1, f2, f3, f4, f5, f6, f7, f8, f9, f10, f11]
        clear f0 f1 f2 f3 f4 f5 f6 f7 f8 f9 f10 f11
        clear HC0
        have HC1 := Lib.hid hC1
        clear hC1
        go_wp2_with fail
        exact ⟨⟨k + 1, xn, by omega, by go_num, rfl, HXNL.out, HIN.out, HC1.out⟩, by simp [intOf]; omega⟩
      · obtain rfl : k = n := by omega
        rw [List.take_of_length_le (by rw [HN.out]; exact Nat.le_refl _), List.take_of_length_le (by rw [HN2.out]; exact Nat.le_refl _)] at hiff
        have HIFF := Lib.hid hiff
        have HST := Lib.hid hst
        clear hiff hst
        go_wp2_with fail
        go_ret
        refine ⟨ret_bool ?_, HST.out.bel⟩
        rw [Bool.eq_iff_iff]
        have := HIFF.out
        simp
        exact this
  · have hne : ((l1.length : Int) != (l2.length : Int)) = true := by rw [bne_iff_ne]; omega
    have hd : decide (l1 = l2) = false := decide_eq_false (fun e => hlen (by rw [e]))
    rw [hd]
    have hne2 : ¬ l1.length = l2.length := hlen
    clear h1 h2 hlen hd
    go_enter Tryd.func15, Tryd.ntmps15
    go_wp2
    go_ret
    exact ⟨rfl, Below.refl _ _⟩
set_option maxRecDepth 100000 in
set_option maxHeartbeats 1000000 in
theorem shaEqual_any (l1 l2 : List UInt8) (A1 A2 : Option Addr) (c1 c2 : Nat) (w : World) (h1 : Rd w w.heap.size A1 (bytesV l1)) (h2 : Rd w w.heap.size A2 (bytesV l2)) (hc1 : l1.length ≤ c1) (hc2 : l2.length ≤ c2) (hm1 : c1 ≤ 9223372036854775807) (hm2 : c2 ≤ 9223372036854775807) (hG : TabG w) :
    Calls Tryd.prog 7 #[.slice A1 l1.length c1, .slice A2 l2.length c2] w fun e w' => e = .returned (.bool true) ∧ Below w.heap.size w w' := by
  obtain ⟨a, ha⟩ : ∃ x, x = l1.take 400 := ⟨_, rfl⟩
  obtain ⟨b, hb⟩ : ∃ x, x = l2.take 400 := ⟨_, rfl⟩
  have ra : Rd w w.heap.size A1 (bytesV a) := by rw [ha, bytesV, List.map_take]; exact rd_take h1 400
  have rb : Rd w w.heap.size A2 (bytesV b) := by rw [hb, bytesV, List.map_take]; exact rd_take h2 400
  have la : a.length ≤ 1000 ∧ a.length ≤ c1 := by rw [ha, List.length_take]; omega
  have lb : b.length ≤ 1000 ∧ b.length ≤ c2 := by rw [hb, List.length_take]; omega
  have f1 := few_any l1 A1 c1 _ w h1 hc1 hm1
  have f2 := few_any l2 A2 c2 _ w h2 hc2 hm2
  rw [← ha] at f1
  rw [← hb] at f2
  obtain ⟨bb, hbb⟩ : ∃ x, x = decide (a = b) := ⟨_, rfl⟩
  have RA := Lib.hid ra
  have RB := Lib.hid rb
  have LA := Lib.hid la
  have LB := Lib.hid lb
  have HG := Lib.hid hG
  have HBB := Lib.hid hbb
  clear ha hb ra rb la lb hG h1 h2 hc1 hc2 hm1 hm2 hbb
  go_enter Tryd.func7, Tryd.ntmps7
  go_wp2_with fail
  refine calls_then f1 ?_
  rintro e w0 ⟨rfl, rfl⟩
  clear f1
  go_wp2_with fail
  refine calls_then f2 ?_
  rintro e w0 ⟨rfl, rfl⟩
  clear f2
  go_wp2_with fail
  refine calls_then (equal_any a b A1 A2 c1 c2 w RA.out RB.out LA.out.2 LB.out.2 LA.out.1) ?_
  rintro e w1 ⟨rfl, hb1⟩
  rw [← HBB.out]
  have HB1 := Lib.hid hb1
  clear hb1
  go_wp2_with fail
  refine calls_then (same_any a b A1 A2 c1 c2 _ _ w1 (RA.out.below HB1.out) (RB.out.below HB1.out)) ?_
  rintro e w2 ⟨rfl, rfl⟩
  rw [← HBB.out]
  go_wp2_with fail
  refine calls_then (equal_any a a A1 A1 c1 c1 w1 ((RA.out.below HB1.out).mono HB1.out.size) ((RA.out.below HB1.out).mono HB1.out.size) LA.out.2 LA.out.2 LA.out.1) ?_
  rintro e w3 ⟨rfl, hb3⟩
  rw [decide_eq_true rfl]
  have HB3 : Hid (Below w.heap.size w w3) := Lib.hid (HB1.out.trans (hb3.mono HB1.out.size))
  clear hb3
  go_wp2_with fail
  refine calls_then (lives_any w3 (HG.out.below HB3.out HG.out.size)) ?_
  rintro e w4 ⟨rfl, hb4⟩
  have HB4 := Lib.hid (HB3.out.trans (hb4.mono HB3.out.size))
  clear hb4
  go_wp2_with fail
  go_ret
  exact ⟨rfl, HB4.out⟩
end Go.Proofs.YtfpbcihpjcocmaaDoor
