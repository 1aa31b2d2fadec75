/-
  Walk: the reference's Times.
-/
import Derived.Test.YtngecbnbddoldaaTml
namespace Go.Proofs.Ytngecbnbddoldaa
set_option linter.unusedSimpArgs false
set_option linter.unusedVariables false
open Go.RowKit

set_option maxRecDepth 100000 in
set_option maxHeartbeats 4000000 in
theorem times_any (a b : List Nat) (ha : Dg a) (hb : Dg b) (A B : Option Addr) (c d : Nat) (w : World) (hra : Rd w w.heap.size A (dV a)) (hrb : Rd w w.heap.size B (dV b)) (hla : a.length ≤ 1000000) (hlb : b.length ≤ 1000000) :
    Calls Try.prog 40 #[.slice A a.length c, .slice B b.length d] w (DigPost (digN (a.length + b.length + 1) (leV a * leV b)) w) := by
  obtain ⟨n, hn⟩ : ∃ n, n = a.length := ⟨_, rfl⟩
  obtain ⟨m, hm⟩ : ∃ m, m = b.length := ⟨_, rfl⟩
  rw [← hn, ← hm]
  have hn63 : (n : Int) ≤ 1000000 := by omega
  have hm63 : (m : Int) ≤ 1000000 := by omega
  obtain ⟨T, hT⟩ : ∃ T, T = n + m + 1 := ⟨_, rfl⟩
  have hTi : (n : Int) + (m : Int) + 1 = (T : Int) := by omega
  have hmk := make_ints T (by omega)
  have hst0 : D1 w w.heap.size (partL [] T) _ := d1_new (partL [] T) (Below.refl w.heap.size w)
  have hz : leV (partL [] T) = 0 := by rw [partL_nil, leV_replicate]
  have hzd : Dg (partL [] T) := fun d h => by rw [List.eq_of_mem_replicate h]; decide
  have HRA := Lib.hid hra
  have HRB := Lib.hid hrb
  have HA := Lib.hid ha
  have HB := Lib.hid hb
  have HN := Lib.hid hn
  have HM := Lib.hid hm
  have HT := Lib.hid hT
  have HST0 := Lib.hid hst0
  have HZ := Lib.hid hz
  have HZD := Lib.hid hzd
  have HZL := Lib.hid (partL_length [] T (Nat.zero_le _))
  clear hra hrb ha hb hn hm hla hlb hst0 hT hz hzd
  go_enter Try.func40, Try.ntmps40
  go_wp2_with fail
  generalize hg : w.heap.size = g at HST0 HRA HRB ⊢
  have HG := Lib.hid hg
  clear hg hmk
  go_loopw [6] (fun i wr => ∃ (k : Nat) (out : List Nat), k ≤ n ∧ i = .int .i64 k ∧ out.length = T ∧ Dg out ∧ leV out = leV (a.take k) * leV b ∧ D1 w g out wr) (fun i _ => n - (intOf i).toNat)
  case atStart => exact ⟨0, partL [] T, by omega, rfl, HZL.out, HZD.out, by rw [HZ.out]; simp [leV], HST0.out⟩
  case round =>
    clear HST0 HZ HZD HZL
    obtain ⟨i, out, hi, rfl, hol, hod, heq, hst⟩ := hrel
    by_cases hlt : i < n
    · have hlt' : (i : Int) < (n : Int) := by omega
      obtain ⟨x, hx⟩ : ∃ x, x = a.getD i 0 := ⟨_, rfl⟩
      have hxl : x < 256 := by rw [hx]; exact dg_getD HA.out i
      obtain ⟨S, hS⟩ : ∃ S, S = leV (a.take i) * leV b := ⟨_, rfl⟩
      have hxl' : (x : Int) < 256 := by omega
      have HX := Lib.hid hx
      have HXL := Lib.hid hxl
      have HS := Lib.hid hS
      have hin : leV out + 256 ^ (i + 0) * 0 = S + 256 ^ i * (x * leV (b.take 0)) := by rw [heq, hS]; simp [leV]
      have HIN := Lib.hid hin
      have HOL := Lib.hid hol
      have HOD := Lib.hid hod
      have HST := Lib.hid hst
      clear hx hxl hS hin hol hod hst heq
      go_wp2_with fail
      obtain ⟨wo, rfl⟩ : ∃ x, x = wr := ⟨_, rfl⟩
      go_loopw [7, 8] (fun c i8 wr => ∃ (j cy : Nat) (out : List Nat), j ≤ m ∧ i8 = .int .i64 j ∧ c = .int .i64 cy ∧ cy ≤ 255 ∧ out.length = T ∧ Dg out ∧ leV out + 256 ^ (i + j) * cy = S + 256 ^ i * (x * leV (b.take j)) ∧ D1 w g out wr) (fun _ i8 _ => m - (intOf i8).toNat)
      case atStart => exact ⟨0, 0, out, by omega, rfl, rfl, by omega, HOL.out, HOD.out, HIN.out, HST.out⟩
      case round =>
        clear HOL HOD HIN HST
        obtain ⟨j, cy, out, hj, rfl, rfl, hcy, hol, hod, heq, hst⟩ := hrel
        by_cases hltj : j < m
        · have hltj' : (j : Int) < (m : Int) := by omega
          obtain ⟨p, hp⟩ : ∃ p, p = i + j := ⟨_, rfl⟩
          have hpi : (i : Int) + (j : Int) = (p : Int) := by omega
          have hpT : p < T := by have := HT.out; omega
          have hpT' : (p : Int) < (T : Int) := by omega
          obtain ⟨y, hy⟩ : ∃ y, y = b.getD j 0 := ⟨_, rfl⟩
          have hyl : y < 256 := by rw [hy]; exact dg_getD HB.out j
          obtain ⟨od, hodd⟩ : ∃ od, od = out.getD p 0 := ⟨_, rfl⟩
          have hodl : od < 256 := by rw [hodd]; exact dg_getD hod p
          obtain ⟨z, hz⟩ : ∃ z, z = x * y := ⟨_, rfl⟩
          have hzi : (x : Int) * (y : Int) = (z : Int) := by rw [hz]; simp
          have hzl : z ≤ 255 * 255 := by rw [hz]; exact Nat.mul_le_mul (by have := HXL.out; omega) (by omega)
          obtain ⟨v, hv⟩ : ∃ v, v = od + z + cy := ⟨_, rfl⟩
          have hvi : (od : Int) + (z : Int) + (cy : Int) = (v : Int) := by omega
          rw [← hp] at heq
          have hstep := times_step (v := v) (by rw [hol]; exact hpT) (by rw [hv, hodd]) heq
          rw [hz, hy, hp, times_row, ← hp, show p + 1 = i + (j + 1) by omega] at hstep
          obtain ⟨dd, hdd⟩ : ∃ dd, v % 256 = dd := ⟨_, rfl⟩
          obtain ⟨cc, hcc⟩ : ∃ cc, v / 256 = cc := ⟨_, rfl⟩
          have hddi : (v : Int) % 256 = (dd : Int) := by omega
          have hcci : (v : Int) / 256 = (cc : Int) := by omega
          rw [hdd, hcc] at hstep
          have hod2 := dg_set hod p dd (by omega)
          have hol2 : (out.set p dd).length = T := by rw [List.length_set]; exact hol
          have hca : ∀ u, D1 w g out u → ∃ ad, A = some ad ∧ u.cell? (ad.add i) = some (.int .i64 (x : Int)) := fun u hu => by
            have hel : Below g w u := by have h := hu.bel; rw [HG.out] at h; exact h
            have h := dig_cell ((HRA.out.below hel).mono (by rw [← HG.out]; exact hu.bel.size)) (k := i) (by rw [← HN.out]; exact hlt)
            rw [← HX.out] at h; exact h
          have hcb : ∀ u, D1 w g out u → ∃ ad, B = some ad ∧ u.cell? (ad.add j) = some (.int .i64 (y : Int)) := fun u hu => by
            have hel : Below g w u := by have h := hu.bel; rw [HG.out] at h; exact h
            have h := dig_cell ((HRB.out.below hel).mono (by rw [← HG.out]; exact hu.bel.size)) (k := j) (by rw [← HM.out]; exact hltj)
            rw [← hy] at h; exact h
          obtain ⟨ad, rfl, _⟩ := hca wr hst
          obtain ⟨bd, rfl, _⟩ := hcb wr hst
          have hca2 : ∀ u, D1 w g out u → u.cell? (ad.add i) = some (.int .i64 (x : Int)) := fun u hu => by
            obtain ⟨ad2, h1, h2⟩ := hca u hu
            injection h1 with h1
            rw [h1]; exact h2
          have hcb2 : ∀ u, D1 w g out u → u.cell? (bd.add j) = some (.int .i64 (y : Int)) := fun u hu => by
            obtain ⟨ad2, h1, h2⟩ := hcb u hu
            injection h1 with h1
            rw [h1]; exact h2
          have hco : ∀ u, D1 w g out u → u.cell? ⟨g, p, none⟩ = some (.int .i64 (od : Int)) := fun u hu => by
            have d0 := hu.out.cell p
            rw [dV_cell (by rw [hol]; exact hpT), ← hodd] at d0
            exact d0
          have HCA := Lib.hid hca2
          have HCB := Lib.hid hcb2
          have HCO := Lib.hid hco
          have HSTEP := Lib.hid hstep
          have HOD := Lib.hid hod2
          have HOL := Lib.hid hol2
          have HOLD := Lib.hid hol
          have HXL2 := Lib.hid hxl'
          have hyl' : (y : Int) < 256 := by omega
          have hzl' : (z : Int) ≤ 65025 := by omega
          have hodl' : (od : Int) < 256 := by omega
          have hcyl' : (cy : Int) ≤ 255 := by omega
          have hvl' : (v : Int) < 65536 := by omega
          have hccl : cc ≤ 255 := by omega
          have HCC := Lib.hid hccl
          have HHJ := Lib.hid hltj
          have HPT := Lib.hid hpT
          have HC0 := hst.drew
          clear hca hcb hca2 hcb2 hco hstep hod2 hol2 hol hod hst heq hodd hz hy hv hdd hcc hzl hyl hodl hcy hccl hj hltj hp hpT
          go_wp2_with fail
          refine wp_region_det (fun u => D1 w g out u) (fun u => D1 w g out u) [(0, some 31), (1, some 32), (2, some 33), (3, some 34), (4, some 35), (5, some 36), (6, some 37), (7, some 38), (8, some 39), (9, some 40), (10, some 41), (11, some 42), (12, some 43), (13, some 44), (14, some 45), (15, some 46), (16, some 47), (17, some 48), (18, some 9)] (by kernel_rfl) (by kernel_rfl) (by decide) (by kernel_rfl) (fun _ => rfl) HC0 ?_
          apply DetL.next
          · -- 0: Op.move (Operand.tmp 5)
            apply detStep_plain []
            exact fun _ => rfl
            rfl
            rintro vals - w1 hC1 E hE
            simp only [puts, act_put, act_put_none, List.setIfInBounds_toArray, List.set_cons_zero, List.set_cons_succ] at hE ⊢
            go_wp2
            exact .mk (hE _ hC1)
          apply DetL.next
          · -- 1: Op.move (Operand.tmp 6)
            apply detStep_plain []
            exact fun _ => rfl
            rfl
            rintro vals ⟨-, -⟩ w1 hC1 E hE
            simp only [puts, act_put, act_put_none, List.setIfInBounds_toArray, List.set_cons_zero, List.set_cons_succ] at hE ⊢
            go_wp2
            exact .mk (hE _ hC1)
          apply DetL.next
          · -- 2: Op.move (Operand.tmp 8)
            apply detStep_plain []
            exact fun _ => rfl
            rfl
            rintro vals ⟨⟨-, -⟩, -⟩ w1 hC1 E hE
            simp only [puts, act_put, act_put_none, List.setIfInBounds_toArray, List.set_cons_zero, List.set_cons_succ] at hE ⊢
            go_wp2
            exact .mk (hE _ hC1)
          apply DetL.next
          · -- 3: Op.binOp BinOp.add 3 (Operand.tmp 32) (Operand.tmp 33) 3
            apply detStep_plain [(1, some 32), (2, some 33)]
            exact fun _ => rfl
            rfl
            rintro vals ⟨⟨⟨-, -⟩, f1⟩, f2⟩ w1 hC1 E hE
            simp only [puts, act_put, act_put_none, List.setIfInBounds_toArray, List.set_cons_zero, List.set_cons_succ, f1, f2] at hE ⊢
            clear f1 f2
            go_wp2
            exact .mk (hE _ hC1)
          apply DetL.next
          · -- 4: Op.indexAddr 28 (Operand.tmp 31) (Operand.tmp 34)
            apply detStep_plain [(0, some 31), (3, some 34)]
            exact fun _ => rfl
            rfl
            rintro vals ⟨⟨⟨⟨-, f0⟩, -⟩, -⟩, f3⟩ w1 hC1 E hE
            simp only [puts, act_put, act_put_none, List.setIfInBounds_toArray, List.set_cons_zero, List.set_cons_succ, f0, f3] at hE ⊢
            clear f0 f3
            go_wp2
            exact .mk (hE _ hC1)
          apply DetL.next
          · -- 5: Op.load 3 (Operand.tmp 35)
            apply detStep_plain [(4, some 35)]
            exact fun _ => rfl
            rfl
            rintro vals ⟨⟨⟨⟨⟨-, -⟩, -⟩, -⟩, -⟩, f4⟩ w1 hC1 E hE
            have d0 := HCO.out _ hC1
            simp only [puts, act_put, act_put_none, List.setIfInBounds_toArray, List.set_cons_zero, List.set_cons_succ, f4] at hE ⊢
            clear f4
            go_wp2
            exact .mk (hE _ hC1)
          apply DetL.next
          · -- 6: Op.move (Operand.tmp 0)
            apply detStep_plain []
            exact fun _ => rfl
            rfl
            rintro vals ⟨⟨⟨⟨⟨⟨-, -⟩, -⟩, -⟩, -⟩, -⟩, -⟩ w1 hC1 E hE
            simp only [puts, act_put, act_put_none, List.setIfInBounds_toArray, List.set_cons_zero, List.set_cons_succ] at hE ⊢
            go_wp2
            exact .mk (hE _ hC1)
          apply DetL.next
          · -- 7: Op.move (Operand.tmp 6)
            apply detStep_plain []
            exact fun _ => rfl
            rfl
            rintro vals ⟨⟨⟨⟨⟨⟨⟨-, -⟩, -⟩, -⟩, -⟩, -⟩, -⟩, -⟩ w1 hC1 E hE
            simp only [puts, act_put, act_put_none, List.setIfInBounds_toArray, List.set_cons_zero, List.set_cons_succ] at hE ⊢
            go_wp2
            exact .mk (hE _ hC1)
          apply DetL.next
          · -- 8: Op.indexAddr 28 (Operand.tmp 37) (Operand.tmp 38)
            apply detStep_plain [(6, some 37), (7, some 38)]
            exact fun _ => rfl
            rfl
            rintro vals ⟨⟨⟨⟨⟨⟨⟨⟨-, -⟩, -⟩, -⟩, -⟩, -⟩, -⟩, f6⟩, f7⟩ w1 hC1 E hE
            simp only [puts, act_put, act_put_none, List.setIfInBounds_toArray, List.set_cons_zero, List.set_cons_succ, f6, f7] at hE ⊢
            clear f6 f7
            go_wp2
            exact .mk (hE _ hC1)
          apply DetL.next
          · -- 9: Op.load 3 (Operand.tmp 39)
            apply detStep_plain [(8, some 39)]
            exact fun _ => rfl
            rfl
            rintro vals ⟨⟨⟨⟨⟨⟨⟨⟨⟨-, -⟩, -⟩, -⟩, -⟩, -⟩, -⟩, -⟩, -⟩, f8⟩ w1 hC1 E hE
            have d0 := HCA.out _ hC1
            simp only [puts, act_put, act_put_none, List.setIfInBounds_toArray, List.set_cons_zero, List.set_cons_succ, f8] at hE ⊢
            clear f8
            go_wp2
            exact .mk (hE _ hC1)
          apply DetL.next
          · -- 10: Op.move (Operand.tmp 1)
            apply detStep_plain []
            exact fun _ => rfl
            rfl
            rintro vals ⟨⟨⟨⟨⟨⟨⟨⟨⟨⟨-, -⟩, -⟩, -⟩, -⟩, -⟩, -⟩, -⟩, -⟩, -⟩, -⟩ w1 hC1 E hE
            simp only [puts, act_put, act_put_none, List.setIfInBounds_toArray, List.set_cons_zero, List.set_cons_succ] at hE ⊢
            go_wp2
            exact .mk (hE _ hC1)
          apply DetL.next
          · -- 11: Op.move (Operand.tmp 8)
            apply detStep_plain []
            exact fun _ => rfl
            rfl
            rintro vals ⟨⟨⟨⟨⟨⟨⟨⟨⟨⟨⟨-, -⟩, -⟩, -⟩, -⟩, -⟩, -⟩, -⟩, -⟩, -⟩, -⟩, -⟩ w1 hC1 E hE
            simp only [puts, act_put, act_put_none, List.setIfInBounds_toArray, List.set_cons_zero, List.set_cons_succ] at hE ⊢
            go_wp2
            exact .mk (hE _ hC1)
          apply DetL.next
          · -- 12: Op.indexAddr 28 (Operand.tmp 41) (Operand.tmp 42)
            apply detStep_plain [(10, some 41), (11, some 42)]
            exact fun _ => rfl
            rfl
            rintro vals ⟨⟨⟨⟨⟨⟨⟨⟨⟨⟨⟨⟨-, -⟩, -⟩, -⟩, -⟩, -⟩, -⟩, -⟩, -⟩, -⟩, -⟩, f10⟩, f11⟩ w1 hC1 E hE
            simp only [puts, act_put, act_put_none, List.setIfInBounds_toArray, List.set_cons_zero, List.set_cons_succ, f10, f11] at hE ⊢
            clear f10 f11
            go_wp2
            exact .mk (hE _ hC1)
          apply DetL.next
          · -- 13: Op.load 3 (Operand.tmp 43)
            apply detStep_plain [(12, some 43)]
            exact fun _ => rfl
            rfl
            rintro vals ⟨⟨⟨⟨⟨⟨⟨⟨⟨⟨⟨⟨⟨-, -⟩, -⟩, -⟩, -⟩, -⟩, -⟩, -⟩, -⟩, -⟩, -⟩, -⟩, -⟩, f12⟩ w1 hC1 E hE
            have d0 := HCB.out _ hC1
            simp only [puts, act_put, act_put_none, List.setIfInBounds_toArray, List.set_cons_zero, List.set_cons_succ, f12] at hE ⊢
            clear f12
            go_wp2
            exact .mk (hE _ hC1)
          apply DetL.next
          · -- 14: Op.binOp BinOp.mul 3 (Operand.tmp 40) (Operand.tmp 44) 3
            apply detStep_plain [(9, some 40), (13, some 44)]
            exact fun _ => rfl
            rfl
            rintro vals ⟨⟨⟨⟨⟨⟨⟨⟨⟨⟨⟨⟨⟨⟨-, -⟩, -⟩, -⟩, -⟩, -⟩, -⟩, -⟩, -⟩, -⟩, f9⟩, -⟩, -⟩, -⟩, f13⟩ w1 hC1 E hE
            simp only [puts, act_put, act_put_none, List.setIfInBounds_toArray, List.set_cons_zero, List.set_cons_succ, f9, f13] at hE ⊢
            clear f9 f13
            go_wp2
            exact .mk (hE _ hC1)
          apply DetL.next
          · -- 15: Op.binOp BinOp.add 3 (Operand.tmp 36) (Operand.tmp 45) 3
            apply detStep_plain [(5, some 36), (14, some 45)]
            exact fun _ => rfl
            rfl
            rintro vals ⟨⟨⟨⟨⟨⟨⟨⟨⟨⟨⟨⟨⟨⟨⟨-, -⟩, -⟩, -⟩, -⟩, -⟩, f5⟩, -⟩, -⟩, -⟩, -⟩, -⟩, -⟩, -⟩, -⟩, f14⟩ w1 hC1 E hE
            simp only [puts, act_put, act_put_none, List.setIfInBounds_toArray, List.set_cons_zero, List.set_cons_succ, f5, f14] at hE ⊢
            clear f5 f14
            go_wp2
            exact .mk (hE _ hC1)
          apply DetL.next
          · -- 16: Op.move (Operand.tmp 7)
            apply detStep_plain []
            exact fun _ => rfl
            rfl
            rintro vals ⟨⟨⟨⟨⟨⟨⟨⟨⟨⟨⟨⟨⟨⟨⟨⟨-, -⟩, -⟩, -⟩, -⟩, -⟩, -⟩, -⟩, -⟩, -⟩, -⟩, -⟩, -⟩, -⟩, -⟩, -⟩, -⟩ w1 hC1 E hE
            simp only [puts, act_put, act_put_none, List.setIfInBounds_toArray, List.set_cons_zero, List.set_cons_succ] at hE ⊢
            go_wp2
            exact .mk (hE _ hC1)
          apply DetL.next
          · -- 17: Op.binOp BinOp.add 3 (Operand.tmp 46) (Operand.tmp 47) 3
            apply detStep_plain [(15, some 46), (16, some 47)]
            exact fun _ => rfl
            rfl
            rintro vals ⟨⟨⟨⟨⟨⟨⟨⟨⟨⟨⟨⟨⟨⟨⟨⟨⟨-, -⟩, -⟩, -⟩, -⟩, -⟩, -⟩, -⟩, -⟩, -⟩, -⟩, -⟩, -⟩, -⟩, -⟩, -⟩, f15⟩, f16⟩ w1 hC1 E hE
            simp only [puts, act_put, act_put_none, List.setIfInBounds_toArray, List.set_cons_zero, List.set_cons_succ, f15, f16] at hE ⊢
            clear f15 f16
            go_wp2
            exact .mk (hE _ hC1)
          apply DetL.last
          · -- 18: Op.assign (Operand.tmp 48)
            apply detStep_plain [(17, some 48), (0, some 31), (1, some 32), (2, some 33), (3, some 34), (4, some 35), (5, some 36), (6, some 37), (7, some 38), (8, some 39), (9, some 40), (10, some 41), (11, some 42), (12, some 43), (13, some 44), (14, some 45), (15, some 46), (16, some 47), (17, some 48)]
            exact fun _ => rfl
            rfl
            rintro vals ⟨⟨⟨⟨⟨⟨⟨⟨⟨⟨⟨⟨⟨⟨⟨⟨⟨⟨-, f0⟩, f1⟩, f2⟩, f3⟩, f4⟩, f5⟩, f6⟩, f7⟩, f8⟩, f9⟩, f10⟩, f11⟩, f12⟩, f13⟩, f14⟩, f15⟩, f16⟩, f17⟩ w1 hC1 E hE
            simp only [puts, act_put, act_put_none, List.setIfInBounds_toArray, List.set_cons_zero, List.set_cons_succ, f0, f1, f2, f3, f4, f5, f6, f7, f8, f9, f10, f11, f12, f13, f14, f15, f16, f17] at hE ⊢
            clear f0 f1 f2 f3 f4 f5 f6 f7 f8 f9 f10 f11 f12 f13 f14 f15 f16 f17
            go_wp2
            exact .mk (hE _ hC1)
          rintro vals ⟨⟨⟨⟨⟨⟨⟨⟨⟨⟨⟨⟨⟨⟨⟨⟨⟨⟨⟨-, f0⟩, f1⟩, f2⟩, f3⟩, f4⟩, f5⟩, f6⟩, f7⟩, f8⟩, f9⟩, f10⟩, f11⟩, f12⟩, f13⟩, f14⟩, f15⟩, f16⟩, f17⟩, f18⟩ w1 hC1
          simp only [puts, act_put, act_put_none, List.setIfInBounds_toArray, List.set_cons_zero, List.set_cons_succ, f0, f1, f2, f3, f4, f5, f6, f7, f8, f9, f10, f11, f12, f13, f14, f15, f16, f17, f18]
          clear f0 f1 f2 f3 f4 f5 f6 f7 f8 f9 f10 f11 f12 f13 f14 f15 f16 f17 f18
          have d0 := HCO.out _ hC1
          have q0 := hC1.out.free p
          have HST := Lib.hid hC1
          clear hC1 HC0
          go_wp2_with fail
          exact ⟨⟨j + 1, cc, out.set p dd, HHJ.out, by go_num, rfl, HCC.out, HOL.out, HOD.out, HSTEP.out, HST.out.put (wrote_setCell_at _ _ _ _) (by have h := blk_setCell_at (i := p) HST.out.out (.int .i64 (dd : Int)); rw [dV_set] at h; exact h)⟩, by have := HHJ.out; simp [intOf]; omega⟩
        · obtain rfl : j = m := by omega
          obtain ⟨p, hp⟩ : ∃ p, p = i + j := ⟨_, rfl⟩
          have hpi : (i : Int) + (j : Int) = (p : Int) := by omega
          have hpT : p ≤ T := by have := HT.out; omega
          obtain ⟨S2, hS2⟩ : ∃ S2, S2 = leV (a.take (i + 1)) * leV b := ⟨_, rfl⟩
          have hbig : S2 < 256 ^ T := by
            have h := times_big (i := i + 1) HA.out HB.out
            rw [hS2, HT.out, HN.out, HM.out]; exact h
          have htot : leV out + 256 ^ p * cy = S2 := by
            rw [hp, heq, hS2, ← times_next, HS.out, HX.out, List.take_of_length_le (Nat.le_of_eq HM.out.symm)]
          have HTOT := Lib.hid htot
          have HBIG := Lib.hid hbig
          have HS2 := Lib.hid hS2
          have HOL := Lib.hid hol
          have HOD := Lib.hid hod
          have HST := Lib.hid hst
          have HCY := Lib.hid hcy
          have HPT := Lib.hid hpT
          clear htot hbig hS2 hol hod hst heq hp hcy hpT
          go_wp2_with fail
          obtain ⟨wi, rfl⟩ : ∃ x, x = wr := ⟨_, rfl⟩
          go_loopw [7, 10] (fun c k10 wr => ∃ (k cy : Nat) (out : List Nat), k ≤ T ∧ k10 = .int .i64 k ∧ c = .int .i64 cy ∧ cy ≤ 255 ∧ out.length = T ∧ Dg out ∧ leV out + 256 ^ k * cy = S2 ∧ D1 w g out wr) (fun _ k10 _ => T + 1 - (intOf k10).toNat)
          case atStart => exact ⟨p, cy, out, HPT.out, rfl, rfl, HCY.out, HOL.out, HOD.out, HTOT.out, HST.out⟩
          case round =>
            clear HOL HOD HTOT HST HCY HPT hpi
            obtain ⟨k, cy, out, hk, rfl, rfl, hcy, hol, hod, heq, hst⟩ := hrel
            by_cases hc0 : 0 < cy
            · have hc0' : (cy : Int) > 0 := by omega
              have hkT := times_room heq HBIG.out hc0
              have hkT' : (k : Int) < (T : Int) := by omega
              obtain ⟨od, hodd⟩ : ∃ od, od = out.getD k 0 := ⟨_, rfl⟩
              have hodl : od < 256 := by rw [hodd]; exact dg_getD hod k
              obtain ⟨v, hv⟩ : ∃ v, v = od + 0 + cy := ⟨_, rfl⟩
              have hvi : (od : Int) + (cy : Int) = (v : Int) := by omega
              have hstep := times_step (v := v) (by rw [hol]; exact hkT) (by rw [hv, hodd]) heq
              rw [Nat.mul_zero, Nat.add_zero] at hstep
              obtain ⟨dd, hdd⟩ : ∃ dd, v % 256 = dd := ⟨_, rfl⟩
              obtain ⟨cc, hcc⟩ : ∃ cc, v / 256 = cc := ⟨_, rfl⟩
              have hddi : (v : Int) % 256 = (dd : Int) := by omega
              have hcci : (v : Int) / 256 = (cc : Int) := by omega
              rw [hdd, hcc] at hstep
              have hod2 := dg_set hod k dd (by omega)
              have hol2 : (out.set k dd).length = T := by rw [List.length_set]; exact hol
              have d0 := hst.out.cell k
              rw [dV_cell (by rw [hol]; exact hkT), ← hodd] at d0
              have q0 := hst.out.free k
              have HSTEP := Lib.hid hstep
              have HOD := Lib.hid hod2
              have HOL := Lib.hid hol2
              have HST := Lib.hid hst
              have hodl' : (od : Int) < 256 := by omega
              have hcyl' : (cy : Int) ≤ 255 := by omega
              have hvl' : (v : Int) < 65536 := by omega
              have HCC := Lib.hid (show cc ≤ 255 by omega)
              have HKT := Lib.hid hkT
              clear hstep hod2 hol2 hol hod hst heq hodd hv hdd hcc hodl hcy hk hkT hc0
              clear hvl'
              go_wp2_with fail
              exact ⟨⟨k + 1, cc, out.set k dd, HKT.out, by go_num, rfl, HCC.out, HOL.out, HOD.out, HSTEP.out, HST.out.put (wrote_setCell_at _ _ _ _) (by have h := blk_setCell_at (i := k) HST.out.out (.int .i64 (dd : Int)); rw [dV_set] at h; exact h)⟩, by have := HKT.out; simp [intOf]; omega⟩
            · obtain rfl : cy = 0 := by omega
              have hout : leV out = leV (a.take (i + 1)) * leV b := by rw [← HS2.out, ← heq]; simp
              have HOUT := Lib.hid hout
              have HOL := Lib.hid hol
              have HOD := Lib.hid hod
              have HST := Lib.hid hst
              clear hout hol hod hst heq hc0 hcy
              go_wp2_with fail
              exact ⟨⟨i + 1, out, hlt, by go_num, HOL.out, HOD.out, HOUT.out, HST.out⟩, by simp [intOf]; omega⟩
    · obtain rfl : i = n := by omega
      have hfin := times_end (a := a) (b := b) hod (by rw [hol, HT.out, HN.out, HM.out]) (by rw [← HN.out]; exact heq)
      rw [← HN.out, ← HM.out] at hfin
      have HST := Lib.hid hst
      have HFIN := Lib.hid hfin
      have HOL := Lib.hid hol
      clear hst hfin hol hod heq hi hlt
      go_wp2_with fail
      go_ret
      rw [← HFIN.out]
      exact HST.out.post HOL.out.symm (Nat.le_refl _)
end Go.Proofs.Ytngecbnbddoldaa
