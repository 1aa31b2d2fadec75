/-
  Walk: the reference's Of, of 64 bits.
-/
import Derived.Test.YtfpbcihpjcocmaaDoorOf32
namespace Go.Proofs.YtfpbcihpjcocmaaDoor
set_option linter.unusedSimpArgs false
set_option linter.unusedVariables false
open Go.RowKit


set_option maxRecDepth 100000 in
set_option maxHeartbeats 4000000 in
theorem of64_any (w : World) : Calls Tryd.prog 17 #[.int .i64 64] w (OfPost F64 w) := by
  have hu := Tryd.underlying38
  obtain ⟨g0, hg0⟩ : ∃ x, x = w.heap.size := ⟨_, rfl⟩
  go_enter Tryd.func17, Tryd.ntmps17
  go_wp2_with fail
  obtain ⟨gh, hgh⟩ : ∃ x, x = w.heap.size + 1 + 1 + 1 + 1 + 1 := ⟨_, rfl⟩
  obtain ⟨ga, hga⟩ : ∃ x, x = w.heap.size + 1 := ⟨_, rfl⟩
  obtain ⟨gb, hgb⟩ : ∃ x, x = w.heap.size + 1 + 1 := ⟨_, rfl⟩
  obtain ⟨gc, hgc⟩ : ∃ x, x = w.heap.size + 1 + 1 + 1 := ⟨_, rfl⟩
  obtain ⟨gd, hgd⟩ : ∃ x, x = w.heap.size + 1 + 1 + 1 + 1 := ⟨_, rfl⟩
  have hd : ga ≠ gh ∧ gb ≠ gh ∧ gc ≠ gh ∧ gd ≠ gh := by omega
  have hlt : g0 < gh ∧ g0 < ga ∧ g0 < gb ∧ g0 < gc ∧ g0 < gd := by omega
  refine calls_then (primes_any _) ?_
  rintro e wp ⟨P, pc, rfl, hown, hbel⟩
  have B0 := (((((((Blk.newAt (n := w.heap.size) (t := 38) (cs := zH) (by simp)).alloc _).alloc _).alloc _).alloc _).alloc _)).below hbel (by simp <;> omega)
  have Bh := ((Blk.newAt (n := w.heap.size + 1 + 1 + 1 + 1 + 1) (t := 38) (cs := #[.int .i64 64, .int .i64 80, .slice (some ⟨w.heap.size + 1, 0, none⟩) 3 3, .slice (some ⟨w.heap.size + 1 + 1, 0, none⟩) 3 3, .slice (some ⟨w.heap.size + 1 + 1 + 1, 0, none⟩) 3 3, .slice (some ⟨w.heap.size + 1 + 1 + 1 + 1, 0, none⟩) 3 3, .slice none 0 0, .slice none 0 0]) (by simp))).below hbel (by simp <;> omega)
  have Ba := ((((((Blk.newAt (n := w.heap.size + 1) (t := 3) (cs := (tri F64.s0).toArray) (by simp)).alloc _).alloc _).alloc _).alloc _)).below hbel (by simp <;> omega)
  have Bb := (((((Blk.newAt (n := w.heap.size + 1 + 1) (t := 3) (cs := (tri F64.s1).toArray) (by simp)).alloc _).alloc _).alloc _)).below hbel (by simp <;> omega)
  have Bc := ((((Blk.newAt (n := w.heap.size + 1 + 1 + 1) (t := 3) (cs := (tri F64.t0).toArray) (by simp)).alloc _).alloc _)).below hbel (by simp <;> omega)
  have Bd := (((Blk.newAt (n := w.heap.size + 1 + 1 + 1 + 1) (t := 3) (cs := (tri F64.t1).toArray) (by simp)).alloc _)).below hbel (by simp <;> omega)
  have hbl := (((((((below_new w _).alloc (by simp; try omega) _).alloc (by simp; try omega) _).alloc (by simp; try omega) _).alloc (by simp; try omega) _).alloc (by simp; try omega) _) : Below w.heap.size w _).trans (hbel.mono (by simp <;> omega))
  have hown' := hown.mono (show w.heap.size ≤ _ by simp <;> omega)
  rw [← hgh, ← hgd, ← hgc, ← hgb, ← hga] at Bh ⊢
  rw [← hg0] at B0 hbl hown' ⊢
  rw [← hga] at Ba
  rw [← hgb] at Bb
  rw [← hgc] at Bc
  rw [← hgd] at Bd
  obtain ⟨gp, rfl, hgp1, hgp2⟩ := hown'.ptr (by decide)
  have hpc := hown'.le_cap
  have hst0 : OfSt w ⟨g0, gh, ga, gb, gc, gd⟩ F64 zH (.slice (some ⟨gp, 0, none⟩) 80 pc) (csV 64 80 ga gb gc gd (.slice none 0 0) (.slice none 0 0)) (.slice none 0 0) ((kL F64).take 0) (.slice none 0 0) [] wp :=
    ⟨hbl, B0, Bh, Ba, Bb, Bc, Bd, hown', OwnX.nil _ _ _ _, OwnX.nil _ _ _ _, .inl rfl, hlt.1⟩
  have HD := Lib.hid hd
  have HLT := Lib.hid hlt
  have HG0 := Lib.hid hg0
  have HST0 := Lib.hid hst0
  clear B0 Bh Ba Bb Bc Bd hbl hown' hown hbel hd hlt hgp1 hgp2 hgh hga hgb hgc hgd hg0 hst0
  go_wp2_with fail
  go_loopw [5] (fun i wr => ∃ (n : Nat) (A : Option Addr) (c : Nat), n ≤ 80 ∧ i = .int .i64 n ∧ OfSt w ⟨g0, gh, ga, gb, gc, gd⟩ F64 zH (.slice (some ⟨gp, 0, none⟩) 80 pc) (csV 64 80 ga gb gc gd (.slice A n c) (.slice none 0 0)) (.slice A n c) ((kL F64).take n) (.slice none 0 0) [] wr) (fun i _ => 80 - (intOf i).toNat)
  case atStart => exact ⟨0, none, 0, by omega, rfl, HST0.out⟩
  case round =>
    clear HST0
    obtain ⟨n, A, c, hn, rfl, hst⟩ := hrel
    have d1 := hst.h.cell 1
    simp [csV, hC] at d1
    by_cases hnl : n < 80
    · have hnl' : (n : Int) < 80 := by omega
      obtain ⟨L, hL⟩ : ∃ L, L = (kL F64).take n := ⟨_, rfl⟩
      have hLl : L.length = n := by rw [hL, List.length_take, kL_length, show F64.many = 80 from rfl]; omega
      obtain ⟨pn, hpn⟩ : ∃ x, x = primes80.getD n 0 := ⟨_, rfl⟩
      have hpl : pn < 65536 := by rw [hpn]; exact prime_lt n (by omega)
      have hrt : rootN pn 3 = stepsN.getD n 0 := by rw [hpn]; exact rootN3 n (by omega)
      obtain ⟨rt, hrt2⟩ : ∃ x, x = rootN pn 3 := ⟨_, rfl⟩
      have hrl : rt < 18446744073709551616 := by rw [hrt2, rootN]; exact Nat.mod_lt _ (by decide)
      obtain ⟨kn, hkn⟩ : ∃ x, x = rt / 2 ^ (64 - 64) % 2 ^ 64 := ⟨_, rfl⟩
      have hnx : (kL F64).take (n + 1) = L ++ [kn] := by
        rw [hkn, hrt2, hrt, hL]
        exact kL_take F64 n hnl
      have ep : (wordsV .i64 primes80)[n]? = some (.int .i64 (pn : Int)) := by rw [hpn]; exact wordsV_at (show n < 80 by omega)
      rw [← hL] at hst
      have HL := Lib.hid hLl
      have HPL := Lib.hid hpl
      have HRT := Lib.hid hrt2
      have HRL := Lib.hid hrl
      have HKN := Lib.hid hkn
      have HNX := Lib.hid hnx
      have EP := Lib.hid ep
      have hn80 : n < 80 := by omega
      have HC0 := hst.drew
      have HST1 := Lib.hid hst
      clear hL hLl hpn hpl hrt hrt2 hrl hkn hnx ep hst
      go_wp2_with fail
      clear HST1 d1
      refine wp_region_tail2 (fun u => OfSt w ⟨g0, gh, ga, gb, gc, gd⟩ F64 zH (.slice (some ⟨gp, 0, none⟩) 80 pc) (csV 64 80 ga gb gc gd (.slice A n c) (.slice none 0 0)) (.slice A n c) L (.slice none 0 0) [] u) (fun i => i == 0 || i == 1) 9 10 [(0, some 26), (1, some 27), (2, some 28), (3, some 29), (4, some 30), (5, some 31), (6, some 32), (7, some 33), (8, some 34), (9, some 35), (10, some 36), (11, some 37), (12, none)] (by kernel_rfl) (by kernel_rfl) (by decide) (by kernel_rfl) (fun _ => rfl) HC0 (fun _ _ hb h => h.next hb) (by decide) ?_
      apply DetR.next
      · -- 0: Op.fieldAddr 38 (Operand.tmp 3) 6
        apply detStepR_pure []
        exact fun _ => rfl
        rfl
        rintro vals - w1 hC1 E hE
        simp only [puts, act_put, act_put_none, List.setIfInBounds_toArray, List.set_cons_zero, List.set_cons_succ] at hE ⊢
        go_wp2
        exact .mk hE
      apply DetR.next
      · -- 1: Op.load 36 (Operand.tmp 26)
        apply detStepR_pure [(0, some 26)]
        exact fun _ => rfl
        rfl
        rintro vals ⟨-, f0⟩ w1 hC1 E hE
        have d0 := hC1.h.cell 6
        simp [csV, hC] at d0
        simp only [puts, act_put, act_put_none, List.setIfInBounds_toArray, List.set_cons_zero, List.set_cons_succ, f0] at hE ⊢
        clear f0
        go_wp2
        exact .mk hE
      apply DetR.next
      · -- 2: Op.load 38 (Operand.tmp 3)
        apply detStepR_of
        apply detStep_plain []
        exact fun _ => rfl
        rfl
        rintro vals ⟨⟨-, -⟩, -⟩ w1 hC1 E hE
        simp only [puts, act_put, act_put_none, List.setIfInBounds_toArray, List.set_cons_zero, List.set_cons_succ] at hE ⊢
        refine wpList_get_box hC1.h rfl rfl rfl hu rfl h_size ?_
        go_wp2_with fail
        exact .mk (hE _ hC1)
      apply DetR.next
      · -- 3: Op.move (Operand.tmp 4)
        apply detStepR_of
        apply detStep_plain []
        exact fun _ => rfl
        rfl
        rintro vals ⟨⟨⟨-, -⟩, -⟩, -⟩ w1 hC1 E hE
        simp only [puts, act_put, act_put_none, List.setIfInBounds_toArray, List.set_cons_zero, List.set_cons_succ] at hE ⊢
        go_wp2
        exact .mk (hE _ hC1)
      apply DetR.next
      · -- 4: Op.move (Operand.tmp 5)
        apply detStepR_of
        apply detStep_plain []
        exact fun _ => rfl
        rfl
        rintro vals ⟨⟨⟨⟨-, -⟩, -⟩, -⟩, -⟩ w1 hC1 E hE
        simp only [puts, act_put, act_put_none, List.setIfInBounds_toArray, List.set_cons_zero, List.set_cons_succ] at hE ⊢
        go_wp2
        exact .mk (hE _ hC1)
      apply DetR.next
      · -- 5: Op.indexAddr 35 (Operand.tmp 29) (Operand.tmp 30)
        apply detStepR_of
        apply detStep_plain [(3, some 29), (4, some 30)]
        exact fun _ => rfl
        rfl
        rintro vals ⟨⟨⟨⟨⟨-, -⟩, -⟩, -⟩, f3⟩, f4⟩ w1 hC1 E hE
        simp only [puts, act_put, act_put_none, List.setIfInBounds_toArray, List.set_cons_zero, List.set_cons_succ, f3, f4] at hE ⊢
        clear f3 f4
        go_wp2
        exact .mk (hE _ hC1)
      apply DetR.next
      · -- 6: Op.load 3 (Operand.tmp 31)
        apply detStepR_of
        apply detStep_plain [(5, some 31)]
        exact fun _ => rfl
        rfl
        rintro vals ⟨⟨⟨⟨⟨⟨-, -⟩, -⟩, -⟩, -⟩, -⟩, f5⟩ w1 hC1 E hE
        have d0 := hC1.p.atN EP.out
        simp only [puts, act_put, act_put_none, List.setIfInBounds_toArray, List.set_cons_zero, List.set_cons_succ, f5] at hE ⊢
        clear f5
        go_wp2
        exact .mk (hE _ hC1)
      apply DetR.next
      · -- 7: Op.call { callee := Callee.value (Operand.func 25), args := #[Operand.tmp 32, Operand.const (Value.int IntKind
        apply detStepR_of
        apply detStep_plain [(6, some 32)]
        exact fun _ => rfl
        rfl
        rintro vals ⟨⟨⟨⟨⟨⟨⟨-, -⟩, -⟩, -⟩, -⟩, -⟩, -⟩, f6⟩ w1 hC1 E hE
        simp only [puts, act_put, act_put_none, List.setIfInBounds_toArray, List.set_cons_zero, List.set_cons_succ, f6] at hE ⊢
        clear f6
        go_wp2_with fail
        refine calls_then (root3_any pn _ HPL.out) ?_
        rintro e w2 ⟨rfl, hb2⟩
        rw [← HRT.out]
        go_wp2_with fail
        exact .mk (hE _ (hC1.next hb2))
      apply DetR.next
      · -- 8: Op.call { callee := Callee.value (Operand.func 24), args := #[Operand.tmp 28, Operand.tmp 33], argTypes := #[3
        apply detStepR_of
        apply detStep_plain [(2, some 28), (7, some 33), (7, some 33)]
        exact fun _ => rfl
        rfl
        rintro vals ⟨⟨⟨⟨⟨⟨⟨⟨-, -⟩, -⟩, f2⟩, -⟩, -⟩, -⟩, -⟩, f7⟩ w1 hC1 E hE
        simp only [puts, act_put, act_put_none, List.setIfInBounds_toArray, List.set_cons_zero, List.set_cons_succ, f2, f7] at hE ⊢
        clear f2 f7
        go_wp2_with fail
        refine calls_then (top_any 64 80 _ _ _ _ _ _ _ (.inr rfl) rt HRL.out) ?_
        rintro e w2 ⟨rfl, hb2⟩
        rw [← HKN.out]
        go_wp2_with fail
        exact .mk (hE _ (hC1.next hb2))
      apply DetR.done
      rintro vals ⟨⟨⟨⟨⟨⟨⟨⟨⟨-, f0⟩, f1⟩, f2⟩, f3⟩, f4⟩, f5⟩, f6⟩, f7⟩, f8⟩ w1 hC1
      -- 9: Op.buildSlice 36 1 #[(0, Operand.tmp 34)]
      refine tail_step2 [(8, some 34)] (fun _ => rfl) rfl ?_
      intro E hE
      simp only [puts, act_put, act_put_none, List.setIfInBounds_toArray, List.set_cons_zero, List.set_cons_succ, f8] at hE ⊢
      go_wp2
      refine .mk (hE _ _ (fun _ => below_new _ _) ?_)
      clear hE E
      generalize hval : upd _ 9 _ = vals9
      replace f0 := (congrFun hval 0).symm.trans ((upd_ne (by decide)).trans f0)
      replace f1 := (congrFun hval 1).symm.trans ((upd_ne (by decide)).trans f1)
      replace f2 := (congrFun hval 2).symm.trans ((upd_ne (by decide)).trans f2)
      replace f3 := (congrFun hval 3).symm.trans ((upd_ne (by decide)).trans f3)
      replace f4 := (congrFun hval 4).symm.trans ((upd_ne (by decide)).trans f4)
      replace f5 := (congrFun hval 5).symm.trans ((upd_ne (by decide)).trans f5)
      replace f6 := (congrFun hval 6).symm.trans ((upd_ne (by decide)).trans f6)
      replace f7 := (congrFun hval 7).symm.trans ((upd_ne (by decide)).trans f7)
      replace f8 := (congrFun hval 8).symm.trans ((upd_ne (by decide)).trans f8)
      have f9 := (congrFun hval 9).symm.trans (upd_self _ _ _)
      clear hval
      -- 10: Op.call { callee := Callee.builtin Builtin.append, args := #[Operand.tmp 27, Operand.tmp 35], argTypes := #[36
      refine tail_step2 [(1, some 27), (9, some 35), (8, some 34)] (fun _ => rfl) rfl ?_
      intro E hE
      simp only [puts, act_put, act_put_none, List.setIfInBounds_toArray, List.set_cons_zero, List.set_cons_succ, f1, f8, f9] at hE ⊢
      refine wpList_append_one sl_u64 rfl rfl (show OwnX w1 g0 40 1 (.slice A n c) n (wordsV .u64 L) by have := hC1.k; rwa [HL.out] at this) rfl rfl rfl rfl (by unfold maxLen; omega) (by omega) (by have := hC1.res.lt; dsimp only at this; omega) ?_
      intro A6 c6 w6 hown6 hg6 hn6
      have hap := hC1.appK (v' := .slice A6 (n + 1) c6) (x := kn) (by rw [HL.out]; exact hown6) hg6 (rfl)
      have HAP := Lib.hid hap
      clear hap hown6 hg6 hn6
      go_wp2_with fail
      refine .mk (hE _ _ (fun h => absurd h (by decide)) ?_)
      clear hE E
      generalize hval : upd _ 10 _ = vals10
      replace f0 := (congrFun hval 0).symm.trans ((upd_ne (by decide)).trans f0)
      replace f1 := (congrFun hval 1).symm.trans ((upd_ne (by decide)).trans f1)
      replace f2 := (congrFun hval 2).symm.trans ((upd_ne (by decide)).trans f2)
      replace f3 := (congrFun hval 3).symm.trans ((upd_ne (by decide)).trans f3)
      replace f4 := (congrFun hval 4).symm.trans ((upd_ne (by decide)).trans f4)
      replace f5 := (congrFun hval 5).symm.trans ((upd_ne (by decide)).trans f5)
      replace f6 := (congrFun hval 6).symm.trans ((upd_ne (by decide)).trans f6)
      replace f7 := (congrFun hval 7).symm.trans ((upd_ne (by decide)).trans f7)
      replace f8 := (congrFun hval 8).symm.trans ((upd_ne (by decide)).trans f8)
      replace f9 := (congrFun hval 9).symm.trans ((upd_ne (by decide)).trans f9)
      have f10 := (congrFun hval 10).symm.trans (upd_self _ _ _)
      clear hval
      -- 11: Op.fieldAddr 38 (Operand.tmp 3) 6
      refine tail_step2 [(0, some 26), (1, some 27), (2, some 28), (3, some 29), (4, some 30), (5, some 31), (6, some 32), (7, some 33), (8, some 34), (9, some 35), (10, some 36)] (fun _ => rfl) rfl ?_
      intro E hE
      simp only [puts, act_put, act_put_none, List.setIfInBounds_toArray, List.set_cons_zero, List.set_cons_succ, f0, f1, f2, f3, f4, f5, f6, f7, f8, f9, f10] at hE ⊢
      go_wp2
      refine .mk (hE _ _ (fun h => absurd h (by decide)) ?_)
      clear hE E
      generalize hval : upd _ 11 _ = vals11
      replace f0 := (congrFun hval 0).symm.trans ((upd_ne (by decide)).trans f0)
      replace f1 := (congrFun hval 1).symm.trans ((upd_ne (by decide)).trans f1)
      replace f2 := (congrFun hval 2).symm.trans ((upd_ne (by decide)).trans f2)
      replace f3 := (congrFun hval 3).symm.trans ((upd_ne (by decide)).trans f3)
      replace f4 := (congrFun hval 4).symm.trans ((upd_ne (by decide)).trans f4)
      replace f5 := (congrFun hval 5).symm.trans ((upd_ne (by decide)).trans f5)
      replace f6 := (congrFun hval 6).symm.trans ((upd_ne (by decide)).trans f6)
      replace f7 := (congrFun hval 7).symm.trans ((upd_ne (by decide)).trans f7)
      replace f8 := (congrFun hval 8).symm.trans ((upd_ne (by decide)).trans f8)
      replace f9 := (congrFun hval 9).symm.trans ((upd_ne (by decide)).trans f9)
      replace f10 := (congrFun hval 10).symm.trans ((upd_ne (by decide)).trans f10)
      have f11 := (congrFun hval 11).symm.trans (upd_self _ _ _)
      clear hval
      -- 12: Op.store 36 (Operand.tmp 37) (Operand.tmp 36)
      refine tail_step2 [(11, some 37), (10, some 36), (10, some 36), (0, some 26), (1, some 27), (2, some 28), (3, some 29), (4, some 30), (5, some 31), (6, some 32), (7, some 33), (8, some 34), (9, some 35), (10, some 36)] (fun _ => rfl) rfl ?_
      intro E hE
      simp only [puts, act_put, act_put_none, List.setIfInBounds_toArray, List.set_cons_zero, List.set_cons_succ, f0, f1, f2, f3, f4, f5, f6, f7, f8, f9, f10, f11] at hE ⊢
      refine wpList_put_cell (i := 6) (v := .slice A6 (n + 1) c6) HAP.out.h rfl rfl rfl rfl slu_size (show 6 < 8 by decide) rfl ?_
      intro w7 hb7 hw7
      have HFIN := Lib.hid (HAP.out.put hw7 hb7 HD.out)
      clear hb7 hw7
      go_wp2_with fail
      refine .mk (hE undef _ (fun h => absurd h (by decide)) ?_)
      clear hE E
      generalize hval : upd _ 12 _ = vals12
      replace f0 := (congrFun hval 0).symm.trans ((upd_ne (by decide)).trans f0)
      replace f1 := (congrFun hval 1).symm.trans ((upd_ne (by decide)).trans f1)
      replace f2 := (congrFun hval 2).symm.trans ((upd_ne (by decide)).trans f2)
      replace f3 := (congrFun hval 3).symm.trans ((upd_ne (by decide)).trans f3)
      replace f4 := (congrFun hval 4).symm.trans ((upd_ne (by decide)).trans f4)
      replace f5 := (congrFun hval 5).symm.trans ((upd_ne (by decide)).trans f5)
      replace f6 := (congrFun hval 6).symm.trans ((upd_ne (by decide)).trans f6)
      replace f7 := (congrFun hval 7).symm.trans ((upd_ne (by decide)).trans f7)
      replace f8 := (congrFun hval 8).symm.trans ((upd_ne (by decide)).trans f8)
      replace f9 := (congrFun hval 9).symm.trans ((upd_ne (by decide)).trans f9)
      replace f10 := (congrFun hval 10).symm.trans ((upd_ne (by decide)).trans f10)
      replace f11 := (congrFun hval 11).symm.trans ((upd_ne (by decide)).trans f11)
      have f12 := (congrFun hval 12).symm.trans (upd_self _ _ _)
      clear hval
      refine tail_end2 ?_
      simp only [puts, act_put, act_put_none, List.setIfInBounds_toArray, List.set_cons_zero, List.set_cons_succ, f0, f1, f2, f3, f4, f5, f6, f7, f8, f9, f10, f11, f12]
      clear f0 f1 f2 f3 f4 f5 f6 f7 f8 f9 f10 f11 f12
      clear HC0 HAP hC1
      go_wp2_with fail
      refine ⟨⟨n + 1, A6, c6, by omega, by go_num, ?_⟩, by simp [intOf]; omega⟩
      rw [HNX.out]
      exact HFIN.out
    · obtain rfl : n = 80 := by omega
      rw [List.take_of_length_le (by rw [kL_length]; exact Nat.le_refl _)] at hst
      obtain ⟨gk, rfl, hk1, hk2⟩ := (show OwnX wr g0 40 1 (.slice A 80 c) 80 (wordsV .u64 (kL F64)) by have := hst.k; rwa [kL_length] at this).ptr (by decide)
      have hck : 80 ≤ c := by
        have ho : OwnX wr g0 40 1 (.slice (some ⟨gk, 0, none⟩) 80 c) 80 (wordsV .u64 (kL F64)) := by have := hst.k; rwa [kL_length] at this
        exact ho.le_cap
      have hst1 : OfSt w ⟨g0, gh, ga, gb, gc, gd⟩ F64 zH (.slice (some ⟨gp, 0, none⟩) 80 pc) (csV 64 80 ga gb gc gd (.slice (some ⟨gk, 0, none⟩) 80 c) (.slice none 0 0)) (.slice (some ⟨gk, 0, none⟩) 80 c) (kL F64) (.slice none 0 0) ((s8L (startS F64)).take 0) wr := hst
      have HST0 := Lib.hid hst1
      have HK1 := Lib.hid hk1
      clear hst hst1 hk1 hk2
      obtain ⟨ck, rfl⟩ : ∃ ck, ck = c := ⟨_, rfl⟩
      go_wp2_with fail
      clear d1
      obtain ⟨wo, rfl⟩ : ∃ wo : World, wo = wr := ⟨_, rfl⟩
      go_loopw [6] (fun i wr => ∃ (n : Nat) (A : Option Addr) (c : Nat), n ≤ 8 ∧ i = .int .i64 n ∧ OfSt w ⟨g0, gh, ga, gb, gc, gd⟩ F64 zH (.slice (some ⟨gp, 0, none⟩) 80 pc) (csV 64 80 ga gb gc gd (.slice (some ⟨gk, 0, none⟩) 80 ck) (.slice A n c)) (.slice (some ⟨gk, 0, none⟩) 80 ck) (kL F64) (.slice A n c) ((s8L (startS F64)).take n) wr) (fun i _ => 8 - (intOf i).toNat)
      case atStart => exact ⟨0, none, 0, by omega, rfl, HST0.out⟩
      case round =>
        clear HST0
        obtain ⟨n, A, c, hn, rfl, hst⟩ := hrel
        by_cases hnl : n < 8
        · have hnl' : (n : Int) < 8 := by omega
          obtain ⟨L, hL⟩ : ∃ L, L = (s8L (startS F64)).take n := ⟨_, rfl⟩
          have hLl : L.length = n := by rw [hL, List.length_take, show (s8L (startS F64)).length = 8 from rfl]; omega
          obtain ⟨pn, hpn⟩ : ∃ x, x = primes80.getD n 0 := ⟨_, rfl⟩
          have hpl : pn < 65536 := by rw [hpn]; exact prime_lt n (by omega)
          have hrt : rootN pn 2 = firstN.getD n 0 := by rw [hpn]; exact rootN2 n hnl
          obtain ⟨rt, hrt2⟩ : ∃ x, x = rootN pn 2 := ⟨_, rfl⟩
          have hrl : rt < 18446744073709551616 := by rw [hrt2, rootN]; exact Nat.mod_lt _ (by decide)
          obtain ⟨kn, hkn⟩ : ∃ x, x = rt / 2 ^ (64 - 64) % 2 ^ 64 := ⟨_, rfl⟩
          have hnx : (s8L (startS F64)).take (n + 1) = L ++ [kn] := by
            rw [hkn, hrt2, hrt, hL]
            exact start_take F64 n hnl
          have ep : (wordsV .i64 primes80)[n]? = some (.int .i64 (pn : Int)) := by rw [hpn]; exact wordsV_at (show n < 80 by omega)
          rw [← hL] at hst
          have HL := Lib.hid hLl
          have HPL := Lib.hid hpl
          have HRT := Lib.hid hrt2
          have HRL := Lib.hid hrl
          have HKN := Lib.hid hkn
          have HNX := Lib.hid hnx
          have EP := Lib.hid ep
          have hn80 : n < 80 := by omega
          have HC0 := hst.drew
          have HST1 := Lib.hid hst
          clear hL hLl hpn hpl hrt hrt2 hrl hkn hnx ep hst
          go_wp2_with fail
          clear HST1
          refine wp_region_tail2 (fun u => OfSt w ⟨g0, gh, ga, gb, gc, gd⟩ F64 zH (.slice (some ⟨gp, 0, none⟩) 80 pc) (csV 64 80 ga gb gc gd (.slice (some ⟨gk, 0, none⟩) 80 ck) (.slice A n c)) (.slice (some ⟨gk, 0, none⟩) 80 ck) (kL F64) (.slice A n c) L u) (fun i => i == 0 || i == 1) 9 10 [(0, some 42), (1, some 43), (2, some 44), (3, some 45), (4, some 46), (5, some 47), (6, some 48), (7, some 49), (8, some 50), (9, some 51), (10, some 52), (11, some 53), (12, none)] (by kernel_rfl) (by kernel_rfl) (by decide) (by kernel_rfl) (fun _ => rfl) HC0 (fun _ _ hb h => h.next hb) (by decide) ?_
          apply DetR.next
          · -- 0: Op.fieldAddr 38 (Operand.tmp 3) 7
            apply detStepR_pure []
            exact fun _ => rfl
            rfl
            rintro vals - w1 hC1 E hE
            simp only [puts, act_put, act_put_none, List.setIfInBounds_toArray, List.set_cons_zero, List.set_cons_succ] at hE ⊢
            go_wp2
            exact .mk hE
          apply DetR.next
          · -- 1: Op.load 36 (Operand.tmp 42)
            apply detStepR_pure [(0, some 42)]
            exact fun _ => rfl
            rfl
            rintro vals ⟨-, f0⟩ w1 hC1 E hE
            have d0 := hC1.h.cell 7
            simp [csV, hC] at d0
            simp only [puts, act_put, act_put_none, List.setIfInBounds_toArray, List.set_cons_zero, List.set_cons_succ, f0] at hE ⊢
            clear f0
            go_wp2
            exact .mk hE
          apply DetR.next
          · -- 2: Op.load 38 (Operand.tmp 3)
            apply detStepR_of
            apply detStep_plain []
            exact fun _ => rfl
            rfl
            rintro vals ⟨⟨-, -⟩, -⟩ w1 hC1 E hE
            simp only [puts, act_put, act_put_none, List.setIfInBounds_toArray, List.set_cons_zero, List.set_cons_succ] at hE ⊢
            refine wpList_get_box hC1.h rfl rfl rfl hu rfl h_size ?_
            go_wp2_with fail
            exact .mk (hE _ hC1)
          apply DetR.next
          · -- 3: Op.move (Operand.tmp 4)
            apply detStepR_of
            apply detStep_plain []
            exact fun _ => rfl
            rfl
            rintro vals ⟨⟨⟨-, -⟩, -⟩, -⟩ w1 hC1 E hE
            simp only [puts, act_put, act_put_none, List.setIfInBounds_toArray, List.set_cons_zero, List.set_cons_succ] at hE ⊢
            go_wp2
            exact .mk (hE _ hC1)
          apply DetR.next
          · -- 4: Op.move (Operand.tmp 6)
            apply detStepR_of
            apply detStep_plain []
            exact fun _ => rfl
            rfl
            rintro vals ⟨⟨⟨⟨-, -⟩, -⟩, -⟩, -⟩ w1 hC1 E hE
            simp only [puts, act_put, act_put_none, List.setIfInBounds_toArray, List.set_cons_zero, List.set_cons_succ] at hE ⊢
            go_wp2
            exact .mk (hE _ hC1)
          apply DetR.next
          · -- 5: Op.indexAddr 35 (Operand.tmp 45) (Operand.tmp 46)
            apply detStepR_of
            apply detStep_plain [(3, some 45), (4, some 46)]
            exact fun _ => rfl
            rfl
            rintro vals ⟨⟨⟨⟨⟨-, -⟩, -⟩, -⟩, f3⟩, f4⟩ w1 hC1 E hE
            simp only [puts, act_put, act_put_none, List.setIfInBounds_toArray, List.set_cons_zero, List.set_cons_succ, f3, f4] at hE ⊢
            clear f3 f4
            go_wp2
            exact .mk (hE _ hC1)
          apply DetR.next
          · -- 6: Op.load 3 (Operand.tmp 47)
            apply detStepR_of
            apply detStep_plain [(5, some 47)]
            exact fun _ => rfl
            rfl
            rintro vals ⟨⟨⟨⟨⟨⟨-, -⟩, -⟩, -⟩, -⟩, -⟩, f5⟩ w1 hC1 E hE
            have d0 := hC1.p.atN EP.out
            simp only [puts, act_put, act_put_none, List.setIfInBounds_toArray, List.set_cons_zero, List.set_cons_succ, f5] at hE ⊢
            clear f5
            go_wp2
            exact .mk (hE _ hC1)
          apply DetR.next
          · -- 7: Op.call { callee := Callee.value (Operand.func 25), args := #[Operand.tmp 48, Operand.const (Value.int IntKind
            apply detStepR_of
            apply detStep_plain [(6, some 48)]
            exact fun _ => rfl
            rfl
            rintro vals ⟨⟨⟨⟨⟨⟨⟨-, -⟩, -⟩, -⟩, -⟩, -⟩, -⟩, f6⟩ w1 hC1 E hE
            simp only [puts, act_put, act_put_none, List.setIfInBounds_toArray, List.set_cons_zero, List.set_cons_succ, f6] at hE ⊢
            clear f6
            go_wp2_with fail
            refine calls_then (root2_any pn _ HPL.out) ?_
            rintro e w2 ⟨rfl, hb2⟩
            rw [← HRT.out]
            go_wp2_with fail
            exact .mk (hE _ (hC1.next hb2))
          apply DetR.next
          · -- 8: Op.call { callee := Callee.value (Operand.func 24), args := #[Operand.tmp 44, Operand.tmp 49], argTypes := #[3
            apply detStepR_of
            apply detStep_plain [(2, some 44), (7, some 49), (7, some 49)]
            exact fun _ => rfl
            rfl
            rintro vals ⟨⟨⟨⟨⟨⟨⟨⟨-, -⟩, -⟩, f2⟩, -⟩, -⟩, -⟩, -⟩, f7⟩ w1 hC1 E hE
            simp only [puts, act_put, act_put_none, List.setIfInBounds_toArray, List.set_cons_zero, List.set_cons_succ, f2, f7] at hE ⊢
            clear f2 f7
            go_wp2_with fail
            refine calls_then (top_any 64 80 _ _ _ _ _ _ _ (.inr rfl) rt HRL.out) ?_
            rintro e w2 ⟨rfl, hb2⟩
            rw [← HKN.out]
            go_wp2_with fail
            exact .mk (hE _ (hC1.next hb2))
          apply DetR.done
          rintro vals ⟨⟨⟨⟨⟨⟨⟨⟨⟨-, f0⟩, f1⟩, f2⟩, f3⟩, f4⟩, f5⟩, f6⟩, f7⟩, f8⟩ w1 hC1
          -- 9: Op.buildSlice 36 1 #[(0, Operand.tmp 50)]
          refine tail_step2 [(8, some 50)] (fun _ => rfl) rfl ?_
          intro E hE
          simp only [puts, act_put, act_put_none, List.setIfInBounds_toArray, List.set_cons_zero, List.set_cons_succ, f8] at hE ⊢
          go_wp2
          refine .mk (hE _ _ (fun _ => below_new _ _) ?_)
          clear hE E
          generalize hval : upd _ 9 _ = vals9
          replace f0 := (congrFun hval 0).symm.trans ((upd_ne (by decide)).trans f0)
          replace f1 := (congrFun hval 1).symm.trans ((upd_ne (by decide)).trans f1)
          replace f2 := (congrFun hval 2).symm.trans ((upd_ne (by decide)).trans f2)
          replace f3 := (congrFun hval 3).symm.trans ((upd_ne (by decide)).trans f3)
          replace f4 := (congrFun hval 4).symm.trans ((upd_ne (by decide)).trans f4)
          replace f5 := (congrFun hval 5).symm.trans ((upd_ne (by decide)).trans f5)
          replace f6 := (congrFun hval 6).symm.trans ((upd_ne (by decide)).trans f6)
          replace f7 := (congrFun hval 7).symm.trans ((upd_ne (by decide)).trans f7)
          replace f8 := (congrFun hval 8).symm.trans ((upd_ne (by decide)).trans f8)
          have f9 := (congrFun hval 9).symm.trans (upd_self _ _ _)
          clear hval
          -- 10: Op.call { callee := Callee.builtin Builtin.append, args := #[Operand.tmp 43, Operand.tmp 51], argTypes := #[36
          refine tail_step2 [(1, some 43), (9, some 51), (8, some 50)] (fun _ => rfl) rfl ?_
          intro E hE
          simp only [puts, act_put, act_put_none, List.setIfInBounds_toArray, List.set_cons_zero, List.set_cons_succ, f1, f8, f9] at hE ⊢
          refine wpList_append_one sl_u64 rfl rfl (show OwnX w1 g0 40 1 (.slice A n c) n (wordsV .u64 L) by have := hC1.f; rwa [HL.out] at this) rfl rfl rfl rfl (by unfold maxLen; omega) (by omega) (by have := hC1.res.lt; dsimp only at this; omega) ?_
          intro A6 c6 w6 hown6 hg6 hn6
          have hap := hC1.appF (v' := .slice A6 (n + 1) c6) (x := kn) (by rw [HL.out]; exact hown6) hg6 (hn6)
          have HAP := Lib.hid hap
          clear hap hown6 hg6 hn6
          go_wp2_with fail
          refine .mk (hE _ _ (fun h => absurd h (by decide)) ?_)
          clear hE E
          generalize hval : upd _ 10 _ = vals10
          replace f0 := (congrFun hval 0).symm.trans ((upd_ne (by decide)).trans f0)
          replace f1 := (congrFun hval 1).symm.trans ((upd_ne (by decide)).trans f1)
          replace f2 := (congrFun hval 2).symm.trans ((upd_ne (by decide)).trans f2)
          replace f3 := (congrFun hval 3).symm.trans ((upd_ne (by decide)).trans f3)
          replace f4 := (congrFun hval 4).symm.trans ((upd_ne (by decide)).trans f4)
          replace f5 := (congrFun hval 5).symm.trans ((upd_ne (by decide)).trans f5)
          replace f6 := (congrFun hval 6).symm.trans ((upd_ne (by decide)).trans f6)
          replace f7 := (congrFun hval 7).symm.trans ((upd_ne (by decide)).trans f7)
          replace f8 := (congrFun hval 8).symm.trans ((upd_ne (by decide)).trans f8)
          replace f9 := (congrFun hval 9).symm.trans ((upd_ne (by decide)).trans f9)
          have f10 := (congrFun hval 10).symm.trans (upd_self _ _ _)
          clear hval
          -- 11: Op.fieldAddr 38 (Operand.tmp 3) 7
          refine tail_step2 [(0, some 42), (1, some 43), (2, some 44), (3, some 45), (4, some 46), (5, some 47), (6, some 48), (7, some 49), (8, some 50), (9, some 51), (10, some 52)] (fun _ => rfl) rfl ?_
          intro E hE
          simp only [puts, act_put, act_put_none, List.setIfInBounds_toArray, List.set_cons_zero, List.set_cons_succ, f0, f1, f2, f3, f4, f5, f6, f7, f8, f9, f10] at hE ⊢
          go_wp2
          refine .mk (hE _ _ (fun h => absurd h (by decide)) ?_)
          clear hE E
          generalize hval : upd _ 11 _ = vals11
          replace f0 := (congrFun hval 0).symm.trans ((upd_ne (by decide)).trans f0)
          replace f1 := (congrFun hval 1).symm.trans ((upd_ne (by decide)).trans f1)
          replace f2 := (congrFun hval 2).symm.trans ((upd_ne (by decide)).trans f2)
          replace f3 := (congrFun hval 3).symm.trans ((upd_ne (by decide)).trans f3)
          replace f4 := (congrFun hval 4).symm.trans ((upd_ne (by decide)).trans f4)
          replace f5 := (congrFun hval 5).symm.trans ((upd_ne (by decide)).trans f5)
          replace f6 := (congrFun hval 6).symm.trans ((upd_ne (by decide)).trans f6)
          replace f7 := (congrFun hval 7).symm.trans ((upd_ne (by decide)).trans f7)
          replace f8 := (congrFun hval 8).symm.trans ((upd_ne (by decide)).trans f8)
          replace f9 := (congrFun hval 9).symm.trans ((upd_ne (by decide)).trans f9)
          replace f10 := (congrFun hval 10).symm.trans ((upd_ne (by decide)).trans f10)
          have f11 := (congrFun hval 11).symm.trans (upd_self _ _ _)
          clear hval
          -- 12: Op.store 36 (Operand.tmp 53) (Operand.tmp 52)
          refine tail_step2 [(11, some 53), (10, some 52), (10, some 52), (0, some 42), (1, some 43), (2, some 44), (3, some 45), (4, some 46), (5, some 47), (6, some 48), (7, some 49), (8, some 50), (9, some 51), (10, some 52)] (fun _ => rfl) rfl ?_
          intro E hE
          simp only [puts, act_put, act_put_none, List.setIfInBounds_toArray, List.set_cons_zero, List.set_cons_succ, f0, f1, f2, f3, f4, f5, f6, f7, f8, f9, f10, f11] at hE ⊢
          refine wpList_put_cell (i := 7) (v := .slice A6 (n + 1) c6) HAP.out.h rfl rfl rfl rfl slu_size (show 7 < 8 by decide) rfl ?_
          intro w7 hb7 hw7
          have HFIN := Lib.hid (HAP.out.put hw7 hb7 HD.out)
          clear hb7 hw7
          go_wp2_with fail
          refine .mk (hE undef _ (fun h => absurd h (by decide)) ?_)
          clear hE E
          generalize hval : upd _ 12 _ = vals12
          replace f0 := (congrFun hval 0).symm.trans ((upd_ne (by decide)).trans f0)
          replace f1 := (congrFun hval 1).symm.trans ((upd_ne (by decide)).trans f1)
          replace f2 := (congrFun hval 2).symm.trans ((upd_ne (by decide)).trans f2)
          replace f3 := (congrFun hval 3).symm.trans ((upd_ne (by decide)).trans f3)
          replace f4 := (congrFun hval 4).symm.trans ((upd_ne (by decide)).trans f4)
          replace f5 := (congrFun hval 5).symm.trans ((upd_ne (by decide)).trans f5)
          replace f6 := (congrFun hval 6).symm.trans ((upd_ne (by decide)).trans f6)
          replace f7 := (congrFun hval 7).symm.trans ((upd_ne (by decide)).trans f7)
          replace f8 := (congrFun hval 8).symm.trans ((upd_ne (by decide)).trans f8)
          replace f9 := (congrFun hval 9).symm.trans ((upd_ne (by decide)).trans f9)
          replace f10 := (congrFun hval 10).symm.trans ((upd_ne (by decide)).trans f10)
          replace f11 := (congrFun hval 11).symm.trans ((upd_ne (by decide)).trans f11)
          have f12 := (congrFun hval 12).symm.trans (upd_self _ _ _)
          clear hval
          refine tail_end2 ?_
          simp only [puts, act_put, act_put_none, List.setIfInBounds_toArray, List.set_cons_zero, List.set_cons_succ, f0, f1, f2, f3, f4, f5, f6, f7, f8, f9, f10, f11, f12]
          clear f0 f1 f2 f3 f4 f5 f6 f7 f8 f9 f10 f11 f12
          clear HC0 HAP hC1
          go_wp2_with fail
          refine ⟨⟨n + 1, A6, c6, by omega, by go_num, ?_⟩, by simp [intOf]; omega⟩
          rw [HNX.out]
          exact HFIN.out
        · obtain rfl : n = 8 := by omega
          rw [show (s8L (startS F64)).take 8 = s8L (startS F64) from rfl] at hst
          obtain ⟨gz, rfl, hz1, hz2⟩ := (show OwnX wr g0 40 1 (.slice A 8 c) 8 (wordsV .u64 (s8L (startS F64))) from hst.f).ptr (by decide)
          have hcz : 8 ≤ c := (show OwnX wr g0 40 1 (.slice (some ⟨gz, 0, none⟩) 8 c) 8 (wordsV .u64 (s8L (startS F64))) from hst.f).le_cap
          have HST2 := Lib.hid hst
          clear hz1 hz2 hst
          go_wp2_with (first
            | (refine wpList_get_box (x := .tmp 3) HST2.out.h rfl rfl rfl hu rfl h_size ?_)
            | (refine wpList_put_box (x := .tmp 2) (cells := csV 64 80 ga gb gc gd (.slice (some ⟨gk, 0, none⟩) 80 ck) (.slice (some ⟨gz, 0, none⟩) 8 c)) HST2.out.res rfl rfl rfl rfl h_size rfl (by simp [csV, hC, Value.oneCell']) ?_; intro w5 hb5 hw5))
          refine bodyPost_ret (results_box (P := Tryd.prog) rfl rfl hb5 hu rfl h_size) rfl ?_
          have h2 := HST2.out
          have hdl := HLT.out
          refine ⟨⟨⟨ga, 0, none⟩, ⟨gb, 0, none⟩, ⟨gc, 0, none⟩, ⟨gd, 0, none⟩, ⟨gk, 0, none⟩, ⟨gz, 0, none⟩, 3, 3, 3, 3, ck, c⟩, rfl, ?_, ?_⟩
          · have k1 := hw5.blk h2.a (by dsimp only; omega)
            have k2 := hw5.blk h2.b (by dsimp only; omega)
            have k3 := hw5.blk h2.c (by dsimp only; omega)
            have k4 := hw5.blk h2.d (by dsimp only; omega)
            have k5 := hw5.own h2.k (own_ne_blk h2.k h2.res (by decide))
            have k6 := hw5.own h2.f (own_ne_blk h2.f h2.res (by decide))
            exact ⟨Rd.of_blk k1 k1.lt, Rd.of_blk k2 k2.lt, Rd.of_blk k3 k3.lt, Rd.of_blk k4 k4.lt, Rd.of_own (n := 80) (by rw [kL_length] at k5; exact k5) (Nat.le_refl _), Rd.of_own (n := 8) k6 (Nat.le_refl _), Nat.le_refl _, Nat.le_refl _, Nat.le_refl _, Nat.le_refl _, hck, hcz⟩
          · rw [← HG0.out]
            exact hw5.below h2.bel (Nat.le_refl _) (by have := h2.res.lt; dsimp only at this; omega)
end Go.Proofs.YtfpbcihpjcocmaaDoor
