/-
  Walk: the field's Mul.
-/
import Derived.Test.YtbeokfpbhemcfaaMw
namespace Go.Proofs.Ytbeokfpbhemcfaa
set_option linter.unusedSimpArgs false
set_option linter.unusedVariables false
open Go.RowKit

theorem wides_size : (Try.prog.info? 80).map (·.size) = some 10 := by kernel_rfl
/-- no sums yet -/
def zerosV : Array Value := #[.int .u64 0, .int .u64 0, .int .u64 0, .int .u64 0, .int .u64 0, .int .u64 0, .int .u64 0, .int .u64 0, .int .u64 0, .int .u64 0]
theorem mul_w64' (a b : Nat) (h : a * b < 18446744073709551616) : IntKind.u64.wrap ((a : Int) * (b : Int)) = ((a * b : Nat) : Int) := by
  rw [show (a : Int) * (b : Int) = ((a * b : Nat) : Int) by simp, IntKind.wrap_u64]; omega
/-- two elements that came in, the result's place, the sums -/
structure M4 (w0 : World) (g h r s : Nat) (x y z m : Array Value) (u : World) : Prop where
  bel : Below w0.heap.size w0 u
  x : Blk u g 26 x
  y : Blk u h 26 y
  z : Blk u r 26 z
  m : Blk u s 80 m
  lg : w0.heap.size ≤ g
  lh : w0.heap.size ≤ h
  lr : w0.heap.size ≤ r
  ls : w0.heap.size ≤ s
  gs : g ≠ s
  hs : h ≠ s
  rs : r ≠ s
theorem M4.putM {w0 u u' : World} {g h r s : Nat} {x y z m m' : Array Value} (k : M4 w0 g h r s x y z m u) (hw : Wrote s u u') (hb : Blk u' s 80 m') : M4 w0 g h r s x y z m' u' :=
  ⟨hw.below k.bel k.ls k.bel.size, hw.blk k.x k.gs, hw.blk k.y k.hs, hw.blk k.z k.rs, hb, k.lg, k.lh, k.lr, k.ls, k.gs, k.hs, k.rs⟩
theorem M4.next {w0 u u' : World} {g h r s : Nat} {x y z m : Array Value} (k : M4 w0 g h r s x y z m u) (hb : Below u.heap.size u u') : M4 w0 g h r s x y z m u' :=
  ⟨k.bel.trans (hb.mono k.bel.size), k.x.below hb k.x.lt, k.y.below hb k.y.lt, k.z.below hb k.z.lt, k.m.below hb k.m.lt, k.lg, k.lh, k.lr, k.ls, k.gs, k.hs, k.rs⟩
theorem M4.cast {w0 u : World} {g h r s : Nat} {x y z m m' : Array Value} (k : M4 w0 g h r s x y z m u) (e : m = m') : M4 w0 g h r s x y z m' u := e ▸ k
/-- the result's place, the sums, the sums' carries -/
structure O3 (w0 : World) (r s q : Nat) (z m v : Array Value) (u : World) : Prop where
  bel : Below w0.heap.size w0 u
  z : Blk u r 26 z
  m : Blk u s 80 m
  o : Blk u q 26 v
  lr : w0.heap.size ≤ r
  lo : w0.heap.size ≤ q
  ro : r ≠ q
  so : s ≠ q
theorem O3.put {w0 u u' : World} {r s o : Nat} {z m v v' : Array Value} (k : O3 w0 r s o z m v u) (hw : Wrote o u u') (hb : Blk u' o 26 v') : O3 w0 r s o z m v' u' :=
  ⟨hw.below k.bel k.lo k.bel.size, hw.blk k.z k.ro, hw.blk k.m k.so, hb, k.lr, k.lo, k.ro, k.so⟩
theorem O3.next {w0 u u' : World} {r s o : Nat} {z m v : Array Value} (k : O3 w0 r s o z m v u) (hb : Below u.heap.size u u') : O3 w0 r s o z m v u' :=
  ⟨k.bel.trans (hb.mono k.bel.size), k.z.below hb k.z.lt, k.m.below hb k.m.lt, k.o.below hb k.o.lt, k.lr, k.lo, k.ro, k.so⟩
theorem M4.out {w0 u : World} {g h r s : Nat} {x y z m : Array Value} (k : M4 w0 g h r s x y z m u) (v : Array Value) : O3 w0 r s u.heap.size z m v (u.alloc (.cells v 26)) :=
  ⟨k.bel.alloc k.bel.size _, k.z.alloc _, k.m.alloc _, Blk.new _ _ _, k.lr, k.bel.size, Nat.ne_of_lt k.z.lt, Nat.ne_of_lt k.m.lt⟩
set_option maxRecDepth 100000 in
theorem m4_new (w : World) (x y z m : Array Value) : M4 w w.heap.size (w.heap.size + 1) (w.heap.size + 1 + 1) (w.heap.size + 1 + 1 + 1) x y z m ((((w.alloc (.cells x 26)).alloc (.cells y 26)).alloc (.cells z 26)).alloc (.cells m 80)) :=
  ⟨(((below_new _ _).alloc (by simp) _).alloc (by simp; try omega) _).alloc (by simp; try omega) _, (((Blk.new _ _ _).alloc _).alloc _).alloc _, ((Blk.newAt (by simp)).alloc _).alloc _, (Blk.newAt (by simp)).alloc _, Blk.newAt (by simp), Nat.le_refl _, by omega, by omega, by omega, by omega, by omega, by omega⟩
set_option maxRecDepth 100000 in
set_option maxHeartbeats 4000000 in
theorem mul_any (x y : E5) (w : World) (hx : x.Ok) (hy : y.Ok) : Calls Try.prog 38 #[.agg (eV x), .agg (eV y)] w (ElemPost (mulE x y) w) := by
  have hu := Try.underlying26
  have hu5 := Try.underlying24
  have huw := Try.underlying79
  have hst0 : M4 w w.heap.size (w.heap.size + 1) (w.heap.size + 1 + 1) (w.heap.size + 1 + 1 + 1) (eV x) (eV y) (eV zE) zerosV _ := m4_new w (eV x) (eV y) (eV zE) zerosV
  have hz0 : zerosV = rV (accN x y 0) := by simp [zerosV, rV, wdV, accN]
  have HZ0 := Lib.hid hz0
  clear hz0
  have HX := Lib.hid hx
  have HY := Lib.hid hy
  have HST0 := Lib.hid hst0
  clear hx hy hst0
  go_enter Try.func38, Try.ntmps38
  go_wp2_with (refine wpList_get_part (x := .tmp 14) (n := 5) (r := eV x) HST0.out.x (by rw [eV_size]; decide) rfl rfl rfl rfl hu5 rfl five_size ?_)
  generalize hs : w.heap.size + 1 + 1 + 1 = s at *
  generalize hr : w.heap.size + 1 + 1 = r at *
  generalize hh : w.heap.size + 1 = h at *
  generalize hg : w.heap.size = g at *
  have HS := Lib.hid hs
  have HR := Lib.hid hr
  have HH := Lib.hid hh
  have HG := Lib.hid hg
  clear hr hh hg hs
  go_loopw [16] (fun i wr => ∃ k : Nat, k ≤ 5 ∧ i = .int .i64 k ∧ M4 w g h r s (eV x) (eV y) (eV zE) (rV (accN x y k)) wr) (fun i _ => 5 - (intOf i).toNat)
  case atStart => exact ⟨0, by omega, rfl, HST0.out.cast HZ0.out⟩
  case round =>
    clear HST0
    obtain ⟨i, hi, rfl, hst⟩ := hrel
    by_cases hlt : i < 5
    · have hlt' : (i : Int) < 5 := by omega
      obtain ⟨xi, hxi⟩ : ∃ l, l = (limbs x).getD i 0 := ⟨_, rfl⟩
      have hxl : xi < 4503599627370496 := by rw [hxi]; exact limb_lt HX.out (by decide) i
      have hix : ∀ u : World, (Instr.index 24 (.agg (eV x)) (.int .i64 (i : Int))).run Try.prog u = .ok (.int .u64 (xi : Int)) u := fun u =>
        run_index_array (n := 5) (e := 23) hu5 hlt (by rw [hxi]; exact eV_at x i hlt) (by kernel_rfl) (by kernel_rfl) ⟨_, Try.underlying23⟩
      have HST := Lib.hid hst
      have HXI := Lib.hid hxi
      have HXL := Lib.hid hxl
      clear hst hxi hxl
      go_wp2_with (refine wpList_get_part (x := .tmp 20) (n := 5) (r := eV y) HST.out.y (by rw [eV_size]; decide) rfl rfl rfl rfl hu5 rfl five_size ?_)
      obtain ⟨wo, rfl⟩ : ∃ x, x = wr := ⟨_, rfl⟩
      go_loopw [22] (fun c wr => ∃ k : Nat, k ≤ 5 ∧ c = .int .i64 k ∧ M4 w g h r s (eV x) (eV y) (eV zE) (rV (rowN x y i (accN x y i) k)) wr) (fun c _ => 5 - (intOf c).toNat)
      case atStart => exact ⟨0, by omega, rfl, HST.out⟩
      case round =>
        clear HST hix
        obtain ⟨k, hk, rfl, hst⟩ := hrel
        by_cases hltk : k < 5
        · have hltk' : (k : Int) < 5 := by omega
          obtain ⟨yk, hyk⟩ : ∃ l, l = (limbs y).getD k 0 := ⟨_, rfl⟩
          have hyl : yk < 4503599627370496 := by rw [hyk]; exact limb_lt HY.out (by decide) k
          have hiy : ∀ u : World, (Instr.index 24 (.agg (eV y)) (.int .i64 (k : Int))).run Try.prog u = .ok (.int .u64 (yk : Int)) u := fun u =>
            run_index_array (n := 5) (e := 23) hu5 hltk (by rw [hyk]; exact eV_at y k hltk) (by kernel_rfl) (by kernel_rfl) ⟨_, Try.underlying23⟩
          obtain ⟨F, hF⟩ : ∃ F, F = rowN x y i (accN x y i) k := ⟨_, rfl⟩
          have hFl : ∀ p, F p < 100000000000000000000000000000000000 := fun p => by
            have h1 := row_le HX.out HY.out i (acc_le HX.out HY.out i) k p
            rw [hF]; omega
          by_cases hge : 5 ≤ i + k
          · obtain ⟨p, hp⟩ : ∃ p, i + k = p + 5 := ⟨i + k - 5, by omega⟩
            have hp5 : p < 5 := by omega
            have hpi : (i : Int) + (k : Int) - 5 = (p : Int) := by omega
            have hgei : (5 : Int) ≤ (i : Int) + (k : Int) := by omega
            have hrow : rowN x y i (accN x y i) (k + 1) = updN F p (F p + xi * 19 * yk) := by
              have e1 : posN i k = p := by unfold posN; rw [if_pos hge]; omega
              have e2 : termN x y i k = xi * 19 * yk := by unfold termN; rw [if_pos hge, ← HXI.out, ← hyk]
              simp only [rowN, e1, e2, ← hF]
            rw [← hF] at hst
            have hplus := plus_any (F p) (xi * 19) yk (by have := HXL.out; omega) (by omega) (by
              have h1 := hFl p
              have h2 := mul_lt' (a := xi * 19) (b := yk) (m := 85568392920039406) (n := 4503599627370496) (by have := HXL.out; omega) hyl
              have h3 : (85568392920039406 - 1) * (4503599627370496 - 1) = 385365782469381566918211934355475 := by decide
              rw [h3] at h2; omega)
            have hx19 := mul_w64' xi 19 (by have := HXL.out; omega)
            rw [show ((19 : Nat) : Int) = 19 from rfl] at hx19
            obtain ⟨x19, hx19e⟩ : ∃ z, z = xi * 19 := ⟨_, rfl⟩
            rw [← hx19e] at hx19 hplus hrow
            have hpart := rV_part F p hp5
            have hput := rV_put F p (F p + x19 * yk) hp5
            rw [← hrow] at hput
            have HPL := Lib.hid hplus
            have HPART := Lib.hid hpart
            have HPUT := Lib.hid hput
            have HST := Lib.hid hst
            have HP5 := Lib.hid hp5
            clear hplus hpart hput hst hx19e hrow hFl hF hyk hyl hp
            go_wp2_with (refine wpList_get_part (x := .tmp 40) (k := p * 2) (n := 2) (r := wdV (F p)) HST.out.m (by rw [rV_size]; have := HP5.out; omega) HPART.out rfl rfl rfl huw rfl wide_size ?_)
            refine calls_then (HPL.out _) ?_
            rintro e w2 ⟨rfl, hb2⟩
            have hs2 := HST.out.next hb2
            have HS2 := Lib.hid hs2
            clear HST hs2 hb2
            go_wp2_with (refine wpList_put_part (x := .tmp 45) (k := p * 2) (n := 2) (r := wdV (F p + x19 * yk)) HS2.out.m (by rw [rV_size]; have := HP5.out; omega) HPUT.out rfl (by simp [wdV, Value.oneCell']) rfl rfl rfl rfl wide_size ?_; intro w5 hb5 hw5)
            exact ⟨⟨k + 1, by omega, by go_num, HS2.out.putM hw5 hb5⟩, by simp [intOf]; omega⟩
          · obtain ⟨p, hp⟩ : ∃ p, p = i + k := ⟨_, rfl⟩
            have hp5 : p < 5 := by omega
            have hpi : (i : Int) + (k : Int) = (p : Int) := by omega
            have hgei : ¬ (5 : Int) ≤ (p : Int) := by omega
            have hrow : rowN x y i (accN x y i) (k + 1) = updN F p (F p + xi * yk) := by
              have e1 : posN i k = p := by unfold posN; rw [if_neg hge]; exact hp.symm
              have e2 : termN x y i k = xi * yk := by unfold termN; rw [if_neg hge, ← HXI.out, ← hyk]
              simp only [rowN, e1, e2, ← hF]
            rw [← hF] at hst
            have hplus := plus_any (F p) xi yk (by have := HXL.out; omega) (by omega) (by
              have h1 := hFl p
              have h2 := mul_lt' (a := xi) (b := yk) (m := 85568392920039406) (n := 4503599627370496) (by have := HXL.out; omega) hyl
              have h3 : (85568392920039406 - 1) * (4503599627370496 - 1) = 385365782469381566918211934355475 := by decide
              rw [h3] at h2; omega)
            have hpart := rV_part F p hp5
            have hput := rV_put F p (F p + xi * yk) hp5
            rw [← hrow] at hput
            have HPL := Lib.hid hplus
            have HPART := Lib.hid hpart
            have HPUT := Lib.hid hput
            have HST := Lib.hid hst
            have HP5 := Lib.hid hp5
            clear hplus hpart hput hst hrow hFl hF hyk hyl hp hge
            go_wp2_with (refine wpList_get_part (x := .tmp 52) (k := p * 2) (n := 2) (r := wdV (F p)) HST.out.m (by rw [rV_size]; have := HP5.out; omega) HPART.out rfl rfl rfl huw rfl wide_size ?_)
            refine calls_then (HPL.out _) ?_
            rintro e w2 ⟨rfl, hb2⟩
            have hs2 := HST.out.next hb2
            have HS2 := Lib.hid hs2
            clear HST hs2 hb2
            go_wp2_with (refine wpList_put_part (x := .tmp 57) (k := p * 2) (n := 2) (r := wdV (F p + xi * yk)) HS2.out.m (by rw [rV_size]; have := HP5.out; omega) HPUT.out rfl (by simp [wdV, Value.oneCell']) rfl rfl rfl rfl wide_size ?_; intro w5 hb5 hw5)
            exact ⟨⟨k + 1, by omega, by go_num, HS2.out.putM hw5 hb5⟩, by simp [intOf]; omega⟩
        · obtain rfl : k = 5 := by omega
          have hs6 : M4 w g h r s (eV x) (eV y) (eV zE) (rV (accN x y (i + 1))) wr := hst
          have HS6 := Lib.hid hs6
          clear hst hs6
          go_wp2_with fail
          exact ⟨⟨i + 1, by omega, by go_num, HS6.out⟩, by simp [intOf]; omega⟩
    · obtain rfl : i = 5 := by omega
      obtain ⟨R, hR⟩ : ∃ R, R = mulR x y := ⟨_, rfl⟩
      have hRl : ∀ j, (limbs R).getD j 0 < 2596148429267413814265248164610048 := fun j => by rw [hR]; exact limb_lt (mulR_lt HX.out HY.out).1 (by decide) j
      have hRe : (limbs R).getD 4 0 < 162259276829213363391578010288128 := by rw [hR]; exact (mulR_lt HX.out HY.out).2
      have hacc : ∀ j, j < 5 → accN x y 5 j = (limbs R).getD j 0 := fun j hj => by rw [hR]; exact acc_end x y j hj
      have hbig : (carryE R).Lt 18446744073709551616 := by rw [hR]; exact mul_big HX.out HY.out
      have hmul : mulE x y = carryE (carryE R) := by rw [hR]; rfl
      have ho := hst.out (eV zE)
      obtain ⟨A, hA⟩ : ∃ A, A = rV (accN x y 5) := ⟨_, rfl⟩
      have hpart : ∀ j, j < 5 → ((A.toList.drop (j * 2)).take 2).toArray = wdV ((limbs R).getD j 0) := fun j hj => by rw [hA, rV_part _ _ hj, hacc j hj]
      have hlo : ∀ j, j < 5 → A[j * 2 + 1]? = some (.int .u64 (((limbs R).getD j 0 % 18446744073709551616 : Nat) : Int)) := fun j hj => by rw [hA, rV_lo _ _ hj, hacc j hj]
      have hAs : A.size = 10 := by rw [hA, rV_size]
      rw [← hA] at ho
      have HO := Lib.hid ho
      have HRL := Lib.hid hRl
      have HRE := Lib.hid hRe
      have HBIG := Lib.hid hbig
      have HMUL := Lib.hid hmul
      have HPART := Lib.hid hpart
      have HLO := Lib.hid hlo
      have HAS := Lib.hid hAs
      clear ho hRl hRe hbig hmul hpart hlo hAs hst hacc hR hA
      go_wp2_with fail
      obtain ⟨wo, hwo⟩ : ∃ u, u = wr.alloc (.cells #[.int .u64 0, .int .u64 0, .int .u64 0, .int .u64 0, .int .u64 0] 26) := ⟨_, rfl⟩
      obtain ⟨o, hoo⟩ : ∃ o, o = wr.heap.size := ⟨_, rfl⟩
      rw [← hwo, ← hoo]
      have ho : O3 w r s o (eV zE) A (mixV (carryE R) zE 0) wo := by rw [hwo, hoo]; exact HO.out
      have HOO := Lib.hid ho
      clear ho hwo hoo HO
      go_loopw [60] (fun i wr => ∃ k : Nat, k ≤ 5 ∧ i = .int .i64 k ∧ O3 w r s o (eV zE) A (mixV (carryE R) zE k) wr) (fun i _ => 5 - (intOf i).toNat)
      case atStart => exact ⟨0, by omega, rfl, HOO.out⟩
      case round =>
        clear HOO
        obtain ⟨k, hk, rfl, hst⟩ := hrel
        by_cases hlt2 : k < 5
        · have hlt3 : (k : Int) < 5 := by omega
          obtain ⟨j, hj⟩ : ∃ j, j = if k = 0 then 4 else k - 1 := ⟨_, rfl⟩
          have hj5 : j < 5 := by rw [hj]; split <;> omega
          have hjk : ((k : Int) + 5 - 1) % 5 = (j : Int) := by rw [hj]; split <;> omega
          have hjk2 : ((k : Int) + 4) % 5 = (j : Int) := by rw [hj]; split <;> omega
          obtain ⟨m, hm⟩ : ∃ m, m = (limbs R).getD j 0 := ⟨_, rfl⟩
          obtain ⟨l, hl⟩ : ∃ l, l = (limbs R).getD k 0 := ⟨_, rfl⟩
          have hml : m < 2596148429267413814265248164610048 := by rw [hm]; exact HRL.out j
          have hm4 : k = 0 → m < 162259276829213363391578010288128 := fun h0 => by
            rw [hm, hj, if_pos h0]; exact HRE.out
          have hset := mixV_set (carryE R) zE k hlt2
          have hval : (limbs (carryE R)).getD k 0 = l % 2251799813685248 + (if k = 0 then m / 2251799813685248 * 19 else m / 2251799813685248) := by
            rw [carryE_at _ _ hlt2, ← hl, hm, hj]
            by_cases h0 : k = 0
            · simp only [h0, if_pos]; rw [highE_at _ _ (by decide)]
            · simp only [h0, if_false]; rw [highE_at _ _ (by omega)]
          rw [hval] at hset
          have hpj := HPART.out j hj5
          rw [← hm] at hpj
          have hlk := HLO.out k hlt2
          rw [← hl] at hlk
          obtain ⟨lo, hlo⟩ : ∃ x, x = l % 18446744073709551616 := ⟨_, rfl⟩
          rw [← hlo] at hlk
          have hlol : lo < 18446744073709551616 := by rw [hlo]; exact Nat.mod_lt _ (by decide)
          have hlm : lo % 2251799813685248 = l % 2251799813685248 := by rw [hlo]; omega
          rw [← hlm] at hset
          have hov := over_any m (by omega)
          obtain ⟨v, hv⟩ : ∃ v, v = m / 2251799813685248 := ⟨_, rfl⟩
          have hvl : v < 1152921504606846976 := by rw [hv]; omega
          have hv0 : k = 0 → v < 72057594037927936 := fun h0 => by have := hm4 h0; rw [hv]; omega
          rw [← hv] at hov hset
          have d0 := hst.m.cell (k * 2 + 1)
          rw [hlk] at d0
          have q0 := hst.o.free k
          have q1 := hst.o.cell k
          have HSET := Lib.hid hset
          have HST := Lib.hid hst
          have HJ := Lib.hid hj
          have HPJ := Lib.hid hpj
          have HOV := Lib.hid hov
          have HJ5 := Lib.hid hj5
          have HV0 := Lib.hid hv0
          have HVL := Lib.hid hvl
          have HLK := Lib.hid hlk
          clear hset hst hl hm hval hj hpj hlk hlo hlm hov hv hv0 hml hm4 hvl
          by_cases h0 : k = 0
          · subst h0
            obtain rfl : j = 4 := by have := HJ.out; simpa using this
            have hv1 : v < 72057594037927936 := HV0.out rfl
            have hw19 : IntKind.u64.wrap ((v : Int) * 19) = (v : Int) * 19 := by rw [IntKind.wrap_u64]; omega
            have hset1 := HSET.out
            rw [if_pos rfl] at hset1
            have HSET1 := Lib.hid hset1
            clear hset1 HSET
            have HV1 := Lib.hid hv1
            have HW19 := Lib.hid hw19
            rw [show ((0 : Nat) : Int) = 0 from rfl]
            clear hjk hjk2 hlt3 HV0 hv1 hw19
            go_wp2_with (refine wpList_get_part (x := .tmp 67) (k := 4 * 2) (n := 2) (r := wdV m) HST.out.m (by rw [HAS.out]; decide) HPJ.out rfl rfl rfl huw rfl wide_size ?_)
            refine calls_then (HOV.out _) ?_
            rintro e w2 ⟨rfl, hb2⟩
            have hs2 := HST.out.next hb2
            have d0 := hs2.m.cell (0 * 2 + 1)
            rw [HLK.out] at d0
            have q0 := hs2.o.free 0
            have q1 := hs2.o.cell 0
            rw [mixV_at _ _ _ hlt2] at q1
            have HS2 := Lib.hid hs2
            clear HST hs2 hb2
            go_wp2_with fail
            refine ⟨?_, by simp [intOf]⟩
            repeat (apply Exists.intro)
            refine ⟨?_, rfl⟩
            refine ⟨1, by omega, rfl, HS2.out.put (wrote_setCell_at _ _ _ _) ?_⟩
            rw [HW19.out, mask_sum19 lo v hlol (by have := HV1.out; omega)]
            have h := blk_setCell_at (i := 0) HS2.out.o (.int .u64 ((lo % 2251799813685248 + v * 19 : Nat) : Int))
            rw [HSET1.out] at h
            exact h
          · have hb : ((k : Int) == 0) = false := by rw [beq_eq_false_iff_ne]; omega
            go_wp2_with (refine wpList_get_part (x := .tmp 67) (k := j * 2) (n := 2) (r := wdV m) HST.out.m (by rw [HAS.out]; have := HJ5.out; omega) HPJ.out rfl rfl rfl huw rfl wide_size ?_)
            refine calls_then (HOV.out _) ?_
            rintro e w2 ⟨rfl, hb2⟩
            have hs2 := HST.out.next hb2
            have d0 := hs2.m.cell (k * 2 + 1)
            rw [HLK.out] at d0
            have q0 := hs2.o.free k
            have q1 := hs2.o.cell k
            rw [mixV_at _ _ _ hlt2] at q1
            have HS2 := Lib.hid hs2
            clear HST hs2 hb2
            go_wp2_with fail
            refine ⟨?_, by simp [intOf]; omega⟩
            repeat (apply Exists.intro)
            refine ⟨?_, rfl⟩
            refine ⟨k + 1, by omega, by go_num, HS2.out.put (wrote_setCell_at _ _ _ _) ?_⟩
            rw [mask_sum lo v hlol (by have := HVL.out; omega)]
            have h := blk_setCell_at (i := k) HS2.out.o (.int .u64 ((lo % 2251799813685248 + v : Nat) : Int))
            have h2 := HSET.out
            rw [if_neg h0] at h2
            rw [h2] at h
            exact h
        · obtain rfl : k = 5 := by omega
          rw [mixV_end] at hst
          have HST := Lib.hid hst
          clear hst
          go_wp2_with (refine wpList_get_box (x := .tmp 11) HST.out.o rfl rfl rfl hu rfl elem_size ?_)
          refine calls_then (carried_any (carryE R) _ HBIG.out) ?_
          rintro e w2 ⟨rfl, hb2⟩
          have hs2 := HST.out.next hb2
          have HS2 := Lib.hid hs2
          clear HST hs2 hb2
          rw [← HMUL.out]
          go_wp2_with (refine wpList_put_box (x := .tmp 4) (cells := eV (mulE x y)) HS2.out.z rfl rfl rfl rfl elem_size rfl (by simp [eV, wV, limbs, Value.oneCell']) ?_; intro w5 hb5 hw5)
          refine bodyPost_ret (results_box (P := Try.prog) rfl rfl hb5 hu rfl elem_size) rfl ⟨rfl, ?_⟩
          exact hw5.below HS2.out.bel HS2.out.lr HS2.out.bel.size
end Go.Proofs.Ytbeokfpbhemcfaa
