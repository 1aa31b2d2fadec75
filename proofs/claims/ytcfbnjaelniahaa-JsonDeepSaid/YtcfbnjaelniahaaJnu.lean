/-
  Walk: json's writer: a number.
-/
import Derived.Test.YtcfbnjaelniahaaJtx
namespace Go.Proofs.Ytcfbnjaelniahaa.Js
set_option linter.unusedSimpArgs false
set_option linter.unusedVariables false
open Go.RowKit

theorem isB_kept {w w' : World} {B g p : Nat} {T : TypeId} {l : Bs} (h : IsB w B T p l) (hg : w.grownBy w' (some g)) (hlt : w.heap.size ≤ g) : IsB w' B T p l := by
  obtain ⟨h1, self, A, c, h2, h3, h4⟩ := h
  exact ⟨h1, self, A, c, h2, h3.grown hg (by intro e; injection e with e; have := h3.lt; omega), h4.kept hg (.inr (fun e => by have := (h4.lt g e).2; omega))⟩
/-- the digits that are written -/
structure DigS (N j m : Nat) (suf : Bs) : Prop where
  eq : digB 16 N = digB (16 - j) m ++ suf
  len : suf.length = j
  lt : m < 10 ^ (16 - j)
  j16 : j < 16
theorem DigS.start {N : Nat} (h : N < 10 ^ 16) : DigS N 0 N [] := ⟨by simp, rfl, h, by decide⟩
theorem DigS.last {N j m : Nat} {suf : Bs} (h : DigS N j m suf) (hm : m < 10) : digB 16 N = dg m :: suf := by
  obtain ⟨k, hk⟩ : ∃ k, 16 - j = k + 1 := ⟨15 - j, by have := h.j16; omega⟩
  have e0 : digB (k + 1) m = [dg m] := by rw [digB, if_pos hm]
  rw [h.eq, hk, e0]
  rfl
theorem DigS.next {N j m : Nat} {suf : Bs} (h : DigS N j m suf) (hm : ¬ m < 10) : DigS N (j + 1) (m / 10) (dg (m % 10) :: suf) := by
  obtain ⟨k, hk⟩ : ∃ k, 16 - j = k + 1 := ⟨15 - j, by have := h.j16; omega⟩
  have h1 := h.eq
  have h2 := h.lt
  rw [hk] at h1 h2
  rw [show digB (k + 1) m = digB k (m / 10) ++ [dg (m % 10)] by rw [digB, if_neg hm]] at h1
  rw [Nat.pow_succ] at h2
  have e : 16 - (j + 1) = k := by omega
  have h3 : m / 10 < 10 ^ k := Nat.div_lt_of_lt_mul (by omega)
  refine ⟨by rw [e, h1]; simp, by simp [h.len], by rw [e]; exact h3, ?_⟩
  rcases Nat.eq_zero_or_pos k with rfl | h4
  · simp at h3; omega
  · omega
theorem rd_tail {w : World} {g a : Nat} {t : TypeId} {cs : List Value} {l : Bs} (h : Blk w g t cs.toArray) (hd : cs.drop a = bytesV l) : Rd w (g + 1) (some ⟨g, a, none⟩) (bytesV l) := fun i u hu => by
  refine ⟨_, rfl, Nat.lt_succ_self g, ?_⟩
  rw [← hd, List.getElem?_drop] at hu
  have e : (⟨g, a, none⟩ : Addr).add i = ⟨g, a + i, none⟩ := by
    unfold Addr.add
    by_cases h2 : i = 0 <;> simp [h2]
  rw [e, h.cell]
  simpa using hu
theorem slice16 (g a : Nat) (h : a < 16) (w : World) : (Instr.sliceAt 80 (.pointer (some ⟨g, 0, none⟩)) (some (.int .i64 a)) none none).run Try.prog w = .ok (.slice (some ((⟨g, 0, none⟩ : Addr).add a)) (16 - a) (16 - a)) w := by
  have e1 : Try.prog.arrayLen 80 = 16 := by kernel_rfl
  have e2 : Try.prog.elem 80 = 5 := by kernel_rfl
  have hs : (Try.prog.info? 5).map (·.size) = some 1 := by kernel_rfl
  rw [run_sliceAt_array_l w 80 ⟨g, 0, none⟩ (by rw [e1, e2]; exact Try.underlying80) .i64 a (by omega) (by rw [e1]; omega), e1, e2]
  cases hq : Try.prog.info? 5 with
  | none => simp [hq] at hs
  | some j =>
    have hj : j.size = 1 := by simpa [hq] using hs
    have : ¬ 16 = a := by omega
    simp [sizeOf, typeInfo, hq, hj, slicedAt, this, Result.andThen]
set_option maxRecDepth 100000 in
set_option maxHeartbeats 4000000 in
theorem wnum_any (n : Int) (hn1 : -1000000000000000 ≤ n) (hn2 : n ≤ 1000000000000000) (B p : Nat) (c : Bs) (w0 w : World) (hb : WB w0 B p c w) (hl : c.length + (intB n).length ≤ 1099511627776) :
    Calls Try.prog 32 #[.pointer (some ⟨p, 0, none⟩), .int .i64 n] w fun e w' => e = .returned (.tuple #[]) ∧ WB w0 B p (c ++ intB n) w' := by
  obtain ⟨N, hN⟩ : ∃ N, N = n.natAbs := ⟨_, rfl⟩
  obtain ⟨c1, hc1⟩ : ∃ c1, c1 = c ++ (if n < 0 then [45] else []) := ⟨_, rfl⟩
  have hall : c ++ intB n = c1 ++ digB 16 N := by
    rw [hc1, hN, intB]
    split <;> simp
  have hdl : (digB 16 N).length ≤ 16 := (digB_ok 16 N (by omega)).2.2.1
  have hcl : c1.length + 16 ≤ 140737488355328 := by
    have : (c ++ intB n).length ≤ 1099511627776 := by simpa using hl
    rw [hc1]
    simp at this ⊢
    split <;> simp <;> omega
  rw [hall]
  have CB := Lib.hid (fun (c : Bs) (x : UInt8) (u : World) (h : IsB u B 46 p c) (h2 : c.length + 1 ≤ 140737488355328) => bld_byte jwT B p c x u h h2)
  have HB := Lib.hid hb
  have HN := Lib.hid hN
  have HCL := Lib.hid hcl
  have HDL := Lib.hid hdl
  have HC1 := Lib.hid hc1
  have HNB := Lib.hid (show N < 10 ^ 16 by omega)
  have HCC := Lib.hid (show c.length + 1 ≤ 140737488355328 by omega)
  have HR1 := Lib.hid hn1
  have HR2 := Lib.hid hn2
  unfold byteV at CB
  clear hb hN hc1 hall hdl hcl hl hn1 hn2
  go_enter Try.func32, Try.ntmps32
  go_upto_if 7 with (fail)
  go_cut [1] (fun x wr => x = .int .i64 (N : Int) ∧ WB w0 B p c1 wr)
  case first =>
    by_cases h0 : n < 0
    · have d0 : decide (n < 0) = true := by simpa using h0
      go_wp2_with fail
      refine calls_then (CB.out c 45 _ HB.out.1 HCC.out) ?_
      rintro e w1 ⟨rfl, hb1, hw1⟩
      have HB1 := Lib.hid (HB.out.next hb1 hw1)
      clear hb1 hw1
      have hr : -n < 9223372036854775808 := by have := HR1.out; omega
      go_wp2_with fail
      go_meet
      exact ⟨by rw [HN.out]; congr 1; omega, by rw [HC1.out, if_pos h0]; exact HB1.out⟩
    · have d0 : decide (n < 0) = false := by simpa using h0
      go_wp2_with fail
      go_meet
      exact ⟨by rw [HN.out]; congr 1; omega, by rw [HC1.out, if_neg (by omega), List.append_nil]; exact HB.out⟩
  case rest =>
  obtain ⟨rfl, hwx⟩ := hcut
  have HWC := Lib.hid hwx
  clear hwx
  go_wp2_with fail
  go_loopw [1, 5] (fun x a wr => ∃ (j m : Nat) (suf : Bs) (cs : List Value), DigS N j m suf ∧ x = .int .i64 (m : Int) ∧ a = .int .i64 ((16 - j : Nat) : Int) ∧ Blk wr wc.heap.size 80 cs.toArray ∧ cs.length = 16 ∧ cs.drop (16 - j) = bytesV suf ∧ wc.grownBy wr (some wc.heap.size)) (fun _ a _ => (intOf a).toNat)
  case atStart => exact ⟨0, N, [], List.replicate 16 (.int .u8 0), DigS.start HNB.out, rfl, rfl, Blk.new _ _ _, rfl, rfl, grown_alloc (World.grownBy.refl _ _) _⟩
  case round =>
    obtain ⟨j, m, suf, cs, hd, rfl, rfl, hk, hcs, hsuf, hgr⟩ := hrel
    have hj := hd.j16
    obtain ⟨a, ha⟩ : ∃ a, a = 15 - j := ⟨_, rfl⟩
    have e1 : (16 - j : Nat) = a + 1 := by omega
    rw [e1]
    have ha' : (a : Int) < 16 := by omega
    have hm0 : (0 : Int) ≤ (m : Int) := by omega
    have hr0 : (0 : Int) ≤ (m : Int) % 10 := by omega
    have hr1 : (m : Int) % 10 < 10 := by omega
    have HK := Lib.hid hk
    have HD := Lib.hid hd
    have HCS := Lib.hid hcs
    have HSUF := Lib.hid hsuf
    have HGR := Lib.hid hgr
    have HA := Lib.hid ha
    obtain ⟨q, hq⟩ : ∃ q, q = m / 10 := ⟨_, rfl⟩
    have hwq : wrap64 ((m : Int) / 10) = (q : Int) := by
      have h1 := hd.lt
      have h2 : 10 ^ (16 - j) ≤ 10 ^ 16 := Nat.pow_le_pow_right (by decide) (by omega)
      rw [show wrap64 ((m : Int) / 10) = (m : Int) / 10 by unfold wrap64; omega, hq]
      omega
    have HQ := Lib.hid hq
    obtain ⟨y, hy⟩ : ∃ y, y = dg (m % 10) := ⟨_, rfl⟩
    have HY := Lib.hid hy
    have HYV := Lib.hid (show Value.int IntKind.u8 (48 + (m : Int) % 10) = byteV y by
      have h1 : m % 10 < 10 := by omega
      have h2 := (dig_of h1).2
      have h3 : (dg (m % 10)).toNat = 48 + m % 10 := by
        unfold dg
        rw [UInt8.toNat_ofNat']
        omega
      unfold byteV
      rw [hy, h3]
      congr 1)
    have HCU := Lib.hid (show ∀ v, (cs.set a v).drop a = v :: cs.drop (a + 1) from fun v => by
      rw [List.set_eq_take_append_cons_drop, if_pos (by omega), List.drop_left' (by rw [List.length_take]; omega)])
    clear hk hd hcs hsuf hgr ha e1 hq hy
    by_cases hz : q = 0
    · have hz' : ((q : Int) == 0) = true := by simp [hz]
      have HZ := Lib.hid hz
      clear hz
      go_wp2_with (refine wpList_put_cell (x := .tmp 21) (i := a) HK.out rfl rfl rfl rfl (by kernel_rfl) (by rw [List.size_toArray, HCS.out]; omega) rfl ?_; intro w5 hb5 hw5)
      have hg5 := HGR.out.trans hw5.grown
      have hwb := HWC.out
      have HW5 := Lib.hid (show WB w0 B p c1 w5 from ⟨isB_kept hwb.1 hg5 (Nat.le_refl _), hwb.2.trans (.fresh hg5 (Nat.le_refl _) (by have := hwb.1.lt; omega))⟩)
      have HB5 := Lib.hid (show Blk w5 wc.heap.size 80 (cs.set a (byteV y)).toArray by rw [← HYV.out, ← List.setIfInBounds_toArray]; exact hb5)
      have HDR := Lib.hid (show (cs.set a (byteV y)).drop a = bytesV (y :: suf) by
        have h1 := HA.out
        have h2 := HD.out.j16
        rw [HCU.out, show a + 1 = 16 - j by omega, HSUF.out]
        rfl)
      have HEND := Lib.hid (show digB 16 N = y :: suf by
        have h1 := HQ.out
        have h2 := HZ.out
        have h3 : m < 10 := by omega
        rw [HD.out.last h3, HY.out, Nat.mod_eq_of_lt h3])
      have HLN := Lib.hid (show (y :: suf).length = 16 - a by
        have h1 := HA.out
        have h2 := HD.out.j16
        have h3 := HD.out.len
        simp
        omega)
      have HGP := Lib.hid (show wc.heap.size ≠ p by have := hwb.1.lt; omega)
      have HAL := Lib.hid (show a < 16 by omega)
      clear hb5 hw5 hg5 hwb
      have HC0 : WB w0 B p c1 w5.drew ∧ Blk w5.drew wc.heap.size 80 (cs.set a (byteV y)).toArray := ⟨HW5.out.drew, HB5.out⟩
      clear hwq hz'
      refine wp_region_det (fun u => WB w0 B p c1 u ∧ Blk u wc.heap.size 80 (cs.set a (byteV y)).toArray) (fun u => WB w0 B p (c1 ++ (y :: suf)) u) [(0, some 26), (1, some 27), (2, some 28), (3, some 29), (4, some 30), (5, some 31)] (by kernel_rfl) (by kernel_rfl) (by decide) (by kernel_rfl) (fun _ => rfl) HC0 ?_
      apply DetL.next
      · -- 0: Op.move (Operand.tmp 0)
        apply detStep_plain []
        exact fun _ => rfl
        rfl
        rintro vals - w1 hC1 E hE
        simp only [puts, act_put, act_put_none, List.setIfInBounds_toArray, List.set_cons_zero, List.set_cons_succ] at hE ⊢
        go_wp2
        exact .mk (hE _ hC1)
      apply DetL.next
      · -- 1: Op.nilCheck (Operand.tmp 26)
        apply detStep_plain [(0, some 26)]
        exact fun _ => rfl
        rfl
        rintro vals ⟨-, f0⟩ w1 hC1 E hE
        simp only [puts, act_put, act_put_none, List.setIfInBounds_toArray, List.set_cons_zero, List.set_cons_succ, f0] at hE ⊢
        clear f0
        go_wp2
        exact .mk (hE _ hC1)
      apply DetL.next
      · -- 2: Op.fieldAddr 46 (Operand.tmp 27) 0
        apply detStep_plain [(1, some 27)]
        exact fun _ => rfl
        rfl
        rintro vals ⟨⟨-, -⟩, f1⟩ w1 hC1 E hE
        simp only [puts, act_put, act_put_none, List.setIfInBounds_toArray, List.set_cons_zero, List.set_cons_succ, f1] at hE ⊢
        clear f1
        go_wp2
        exact .mk (hE _ hC1)
      apply DetL.next
      · -- 3: Op.move (Operand.tmp 5)
        apply detStep_plain []
        exact fun _ => rfl
        rfl
        rintro vals ⟨⟨⟨-, -⟩, -⟩, -⟩ w1 hC1 E hE
        simp only [puts, act_put, act_put_none, List.setIfInBounds_toArray, List.set_cons_zero, List.set_cons_succ] at hE ⊢
        go_wp2
        exact .mk (hE _ hC1)
      apply DetL.next
      · -- 4: Op.slice 80 (Operand.tmp 4) (some (Operand.tmp 29)) none none
        apply detStep_plain [(3, some 29)]
        exact fun _ => rfl
        rfl
        rintro vals ⟨⟨⟨⟨-, -⟩, -⟩, -⟩, f3⟩ w1 hC1 E hE
        simp only [puts, act_put, act_put_none, List.setIfInBounds_toArray, List.set_cons_zero, List.set_cons_succ, f3] at hE ⊢
        clear f3
        have hsl := slice16 wc.heap.size a HAL.out w1
        go_wp2
        exact .mk (hE _ hC1)
      apply DetL.last
      · -- 5: Op.call { callee := Callee.value (Operand.func 45), args := #[Operand.tmp 28, Operand.tmp 30], argTypes := #[4
        apply detStep_plain [(2, some 28), (4, some 30)]
        exact fun _ => rfl
        rfl
        rintro vals ⟨⟨⟨⟨⟨-, -⟩, -⟩, f2⟩, -⟩, f4⟩ w1 hC1 E hE
        simp only [puts, act_put, act_put_none, List.setIfInBounds_toArray, List.set_cons_zero, List.set_cons_succ, f2, f4] at hE ⊢
        clear f2 f4
        go_wp2_with fail
        refine calls_then (bld_write jwT B p (wc.heap.size + 1) (16 - a) (16 - a) _ c1 (y :: suf) _ hC1.1.1 (rd_tail hC1.2 HDR.out) (fun ad h => by injection h with h; rw [← h]; exact HGP.out) HLN.out (by have := HCL.out; omega)) ?_
        rintro e w2 ⟨rfl, hb2, hw2⟩
        go_wp2_with fail
        exact .mk (hE _ (hC1.1.next hb2 hw2))
      rintro vals ⟨⟨⟨⟨⟨⟨-, f0⟩, f1⟩, f2⟩, f3⟩, f4⟩, f5⟩ w1 hC1
      simp only [puts, act_put, act_put_none, List.setIfInBounds_toArray, List.set_cons_zero, List.set_cons_succ, f0, f1, f2, f3, f4, f5]
      clear f0 f1 f2 f3 f4 f5
      have HR := Lib.hid hC1
      clear hC1 HC0
      go_wp2_with fail
      go_end0
      exact ⟨rfl, by rw [HEND.out]; exact HR.out⟩
    · have hz' : ((q : Int) == 0) = false := by simpa using hz
      have HZ := Lib.hid hz
      clear hz
      go_wp2_with (refine wpList_put_cell (x := .tmp 21) (i := a) HK.out rfl rfl rfl rfl (by kernel_rfl) (by rw [List.size_toArray, HCS.out]; omega) rfl ?_; intro w5 hb5 hw5)
      refine ⟨⟨j + 1, q, y :: suf, cs.set a (byteV y), ?_, by rw [hwq], ?_, ?_, by rw [List.length_set]; exact HCS.out, ?_, HGR.out.trans hw5.grown⟩, by simp [intOf]⟩
      · have h1 := HQ.out
        have h2 := HZ.out
        rw [HQ.out, HY.out]
        exact HD.out.next (by omega)
      · have h1 := HA.out
        congr 2
        omega
      · rw [← HYV.out, ← List.setIfInBounds_toArray]
        exact hb5
      · have h1 := HA.out
        have h2 := HD.out.j16
        rw [show 16 - (j + 1) = a by omega, HCU.out, show a + 1 = 16 - j by omega, HSUF.out]
        rfl
end Go.Proofs.Ytcfbnjaelniahaa.Js
