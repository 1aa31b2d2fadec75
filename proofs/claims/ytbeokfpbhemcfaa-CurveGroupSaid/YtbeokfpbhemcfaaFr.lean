/-
  Walk: the field's Read.
-/
import Derived.Test.YtbeokfpbhemcfaaRdp
import Derived.Test.YtbeokfpbhemcfaaConv
namespace Go.Proofs.Ytbeokfpbhemcfaa
set_option linter.unusedSimpArgs false
set_option linter.unusedVariables false
open Go.RowKit

def ReadPost (l : List UInt8) (w : World) (e : Ending) (w' : World) : Prop := e = .returned (.tuple #[.agg (eV (readE l)), .int .i64 (readF l)]) ∧ Below w.heap.size w w'
set_option maxRecDepth 100000 in
set_option maxHeartbeats 2000000 in
theorem read_any (l : List UInt8) (A : Option Addr) (c : Nat) (w : World) (hr : Rd w w.heap.size A (bytesV l)) (hc : l.length ≤ c) (hl : l.length ≤ 1000000) :
    Calls Try.prog 52 #[.slice A l.length c] w (ReadPost l w) := by
  have hu := Try.underlying26
  by_cases h32 : l.length = 32
  · obtain ⟨N, hN⟩ : ∃ N, N = leV (digs l) := ⟨_, rfl⟩
    have hNl : N < 256 ^ 32 := by
      have h := leV_lt (digs l) (digs_lt l)
      rw [show (digs l).length = 32 by rw [digs, List.length_map, h32]] at h
      rw [hN]; exact h
    have hst0 : G2 w (w.heap.size + 1) w.heap.size (mixV (ofN N) zE 0) (eV zE) ((w.alloc (.cells (eV zE) 26)).alloc (.cells (eV zE) 26)) :=
      ⟨(below_new _ _).alloc (by simp) _, Blk.newAt (by simp), (Blk.new _ _ _).alloc _, by omega, Nat.le_refl _, by omega⟩
    rw [h32]
    have HST0 := Lib.hid hst0
    have HR := Lib.hid hr
    have HL := Lib.hid h32
    have HN := Lib.hid hN
    have HNL := Lib.hid hNl
    clear hst0 hr hc hl h32 hN hNl
    go_enter Try.func52, Try.ntmps52
    go_wp2_with fail
    generalize ho : w.heap.size + 1 = o at *
    generalize hg : w.heap.size = g at *
    have HHO := Lib.hid ho
    have HHG := Lib.hid hg
    clear ho hg
    go_loopw [13] (fun i wr => ∃ k : Nat, k ≤ 5 ∧ i = .int .i64 k ∧ G2 w o g (mixV (ofN N) zE k) (eV zE) wr) (fun i _ => 5 - (intOf i).toNat)
    case atStart => exact ⟨0, by omega, rfl, HST0.out⟩
    case round =>
      clear HST0
      obtain ⟨i, hi, rfl, hst⟩ := hrel
      by_cases hlt : i < 5
      · have hlt' : (i : Int) < 5 := by omega
        obtain ⟨n, hn⟩ : ∃ n, n = i * 51 := ⟨_, rfl⟩
        have hni : (i : Int) * 51 = (n : Int) := by omega
        obtain ⟨q, hq⟩ : ∃ q, q = n / 8 := ⟨_, rfl⟩
        have hqi : (n : Int) / 8 = (q : Int) := by omega
        have hq25 : q ≤ 25 := by omega
        have HST := Lib.hid hst
        have HNN := Lib.hid hn
        have HQ := Lib.hid hq
        clear hst hn hq
        go_wp2_with fail
        obtain ⟨wo, rfl⟩ : ∃ x, x = wr := ⟨_, rfl⟩
        go_loopw [7, 18] (fun v c wr => ∃ k : Nat, k ≤ 8 ∧ c = .int .i64 k ∧ v = .int .u64 (winN N q k : Nat) ∧ G2 w o g (mixV (ofN N) zE i) (eV zE) wr) (fun _ c _ => 8 - (intOf c).toNat)
        case atStart => exact ⟨0, by omega, rfl, by rw [win_zero]; rfl, HST.out⟩
        case round =>
          clear HST
          obtain ⟨k, hk, rfl, rfl, hst⟩ := hrel
          by_cases hltk : k < 8
          · have hltk' : (k : Int) < 8 := by omega
            obtain ⟨p, hp⟩ : ∃ p, p = q + k := ⟨_, rfl⟩
            have hpi : (q : Int) + (k : Int) = (p : Int) := by omega
            by_cases hp32 : p < 32
            · have hp32' : (p : Int) < 32 := by omega
              obtain ⟨b, hb⟩ : ∃ b, b = N / 256 ^ p % 256 := ⟨_, rfl⟩
              have hbl : b < 256 := by rw [hb]; exact Nat.mod_lt _ (by decide)
              have hbl' : (b : Int) < 256 := by omega
              have hpl : p < l.length := by rw [HL.out]; exact hp32
              have hbv : (bytesV l)[p]'(by rw [bytesV_length]; exact hpl) = .int .u8 (b : Int) := by
                have e1 : b = l[p].toNat := by
                  rw [hb, HN.out, leV_at _ (digs_lt l), digs, List.getD_eq_getElem?_getD, List.getElem?_map, List.getElem?_eq_getElem hpl]
                  rfl
                rw [e1]
                simp [bytesV, byteV]
              have hbel := hst.bel
              rw [HHG.out] at hbel
              have hrd := HR.out.below hbel
              obtain ⟨ad, rfl, hadl, hcell⟩ := hrd.at_ (k := p) (by rw [bytesV_length]; exact hpl)
              rw [hbv] at hcell
              obtain ⟨e, he⟩ : ∃ e, e = 8 * k := ⟨_, rfl⟩
              have hei : (8 : Int) * (k : Int) = (e : Int) := by omega
              have he64 : (e : Int) < 64 := by omega
              have hstep := win_step N q k
              rw [← hp, ← hb, ← he] at hstep
              have hyl := win_lt N q k (by omega)
              obtain ⟨y, hy⟩ : ∃ y, y = winN N q k := ⟨_, rfl⟩
              rw [← hy] at hstep hyl
              rw [← hy]
              obtain ⟨s, hs⟩ : ∃ s, s = b * 2 ^ e := ⟨_, rfl⟩
              rw [← hs] at hstep
              have hsl : s < 18446744073709551616 := by
                have e1 : 2 ^ e ≤ 2 ^ 56 := Nat.pow_le_pow_right (by decide) (by omega)
                have e2 : b * 2 ^ e ≤ 255 * 2 ^ 56 := Nat.mul_le_mul (by omega) e1
                rw [hs]; exact Nat.lt_of_le_of_lt e2 (by decide)
              have hsi : (b : Int) * 2 ^ e % 18446744073709551616 = (s : Int) := by rw [shl_int, ← hs]; omega
              have hor := or64 y s hyl hsl
              rw [hstep] at hor
              have HST := Lib.hid hst
              have HSI := Lib.hid hsi
              have HOR := Lib.hid hor
              clear hst hp hy hs hsl hyl hstep hb hbl hbv hbel hrd he hpl hsi hor
              go_wp2_with fail
              have hw1 : IntKind.u64.wrap ((b : Int) * 2 ^ e) = (s : Int) := by rw [IntKind.wrap_u64]; exact HSI.out
              rw [hw1, HOR.out]
              exact ⟨⟨k + 1, by omega, by go_num, rfl, HST.out⟩, by simp [intOf]; omega⟩
            · have hp32' : ¬ (p : Int) < 32 := by omega
              have hw := win_over N q k HNL.out (by omega)
              rw [← hw]
              have HST := Lib.hid hst
              clear hst hw hp
              go_wp2_with fail
              exact ⟨⟨k + 1, by omega, by go_num, rfl, HST.out⟩, by simp [intOf]; omega⟩
          · obtain rfl : k = 8 := by omega
            obtain ⟨r, hr⟩ : ∃ r, r = n % 8 := ⟨_, rfl⟩
            have hri : (n : Int) % 8 = (r : Int) := by omega
            have hr8 : (r : Int) < 8 := by omega
            have hlimb := win_limb N n
            rw [← HQ.out, ← hr] at hlimb
            have hat := ofN_at N i hlt
            rw [Nat.mul_comm 51, ← HNN.out, ← hlimb] at hat
            have hvl := win_lt N q 8 (by omega)
            obtain ⟨v, hv⟩ : ∃ v, v = winN N q 8 / 2 ^ r := ⟨_, rfl⟩
            have hvi : ((winN N q 8 : Nat) : Int) / 2 ^ r = (v : Int) := by rw [shr_int, hv]
            rw [← hv] at hat
            have hvl2 : v < 18446744073709551616 := by rw [hv]; exact Nat.lt_of_le_of_lt (Nat.div_le_self _ _) hvl
            have hmk := mask51 v hvl2
            have hset := mixV_set (ofN N) zE i hlt
            rw [hat, ← hmk] at hset
            have HSET := Lib.hid hset
            have HVI := Lib.hid hvi
            have d0 := hst.x.cell i
            rw [mixV_at _ _ _ hlt] at d0
            have f0 := hst.x.free i
            have HST := Lib.hid hst
            clear hset hst hmk hvl2 hvl hv hat hlimb hr hvi
            go_wp2_with fail
            refine ⟨⟨i + 1, by omega, by go_num, HST.out.putX (wrote_setCell_at _ _ _ _) ?_⟩, by simp [intOf]; omega⟩
            rw [HVI.out]
            have h := blk_setCell_at (i := i) HST.out.x (.int .u64 (bits .and .u64 (v : Int) 2251799813685247))
            rw [HSET.out] at h
            exact h
      · obtain rfl : i = 5 := by omega
        rw [mixV_end] at hst
        have HST := Lib.hid hst
        clear hst
        go_wp2_with fail
        obtain ⟨X, hX⟩ : ∃ X, X = ofN N := ⟨_, rfl⟩
        have hXl : X.Lt 18446744073709551616 := by rw [hX]; exact (ofN_lt N).mono (by decide)
        obtain ⟨M, hM⟩ : ∃ M, M = (leastE X).val := ⟨_, rfl⟩
        have hsame : (byB M = l) = (N < PN) := by rw [hM, hX, HN.out]; exact read_same l HL.out
        have hmay : mayR l = decide (byB M = l) := by
          rw [mayR, Bool.eq_iff_iff, decide_eq_true_iff, decide_eq_true_iff, hsame, ← HN.out]
          exact ⟨fun h => h.2, fun h => ⟨HL.out, h⟩⟩
        rw [← hX] at HST
        have HXL := Lib.hid hXl
        have HM := Lib.hid hM
        have HC0 := HST.out.drew
        have HX := Lib.hid hX
        have HMAY := Lib.hid hmay
        clear hX hXl hM hmay hsame HST
        by_cases heq : byB M = l
        · have HEQ := Lib.hid heq
          clear heq
          refine wp_region_list (fun u => G2 w o g (eV X) (eV zE) u) (fun | false => (fun _ => True) | true => (fun _ => True)) (fun | false, _ => false | true, _ => false)
            [fun z _ => z 0 = .agg (eV X),
             fun z u => ∃ o2, z 1 = .slice (some ⟨o2, 0, none⟩) 32 32 ∧ Blk u o2 5 (bnV (byN M)).toArray,
             fun z _ => z 2 = .string ⟨l.toArray⟩,
             fun z _ => z 3 = .slice A 32 c,
             fun z _ => z 4 = .string ⟨l.toArray⟩,
             fun z _ => z 5 = .bool false]
            [Eq, fun u u' => Below u.heap.size u u', Eq, Eq, Eq, Eq]
            (fun _ _ => false) [(0, some 49), (1, some 50), (2, some 51), (3, some 52), (4, some 53), (5, some 54)] (by kernel_rfl) (by kernel_rfl) rfl (fun _ => rfl) ?_ ?_ ?_ ?_ ?_ ?_
          · exact HC0
          · intro m; cases m; exact trivial; exact trivial
          · intro m; cases m
            · exact ⟨.inr (fun _ _ h h0 => h ▸ h0), .inr (fun _ _ _ h => h), .inr (fun _ _ h h0 => h ▸ h0), .inr (fun _ _ h h0 => h ▸ h0), .inr (fun _ _ h h0 => h ▸ h0), .inr (fun _ _ h h0 => h ▸ h0), trivial⟩
            · exact ⟨.inr (fun _ _ h h0 => h ▸ h0), .inr (fun _ _ _ h => h), .inr (fun _ _ h h0 => h ▸ h0), .inr (fun _ _ h h0 => h ▸ h0), .inr (fun _ _ h h0 => h ▸ h0), .inr (fun _ _ h h0 => h ▸ h0), trivial⟩
          · exact ⟨⟨.inl rfl, .inr (.inr (.inl rfl)), .inr (.inr (.inl rfl)), .inr (.inr (.inr (fun _ _ _ _ _ h => h))), .inr (.inr (.inr (fun _ _ _ _ _ h => h))), .inr (.inr (.inl rfl)), trivial⟩,
              ⟨.inr (.inr (.inr (fun _ _ _ _ _ h => h))), .inl rfl, .inr (.inr (.inl rfl)), .inr (.inr (.inr (fun _ _ _ _ _ h => h))), .inr (.inr (.inr (fun _ _ _ _ _ h => h))), .inr (.inr (.inl rfl)), trivial⟩,
              ⟨.inr (.inr (.inr (fun _ _ _ _ _ h => h))), .inr (.inr (.inr (fun _ _ _ _ h h0 => by cases h; exact h0))), .inl rfl, .inr (.inr (.inr (fun _ _ _ _ _ h => h))), .inr (.inr (.inr (fun _ _ _ _ _ h => h))), .inr (.inr (.inl rfl)), trivial⟩,
              ⟨.inr (.inr (.inr (fun _ _ _ _ _ h => h))), .inr (.inr (.inr (fun _ _ _ _ h h0 => by cases h; exact h0))), .inr (.inr (.inr (fun _ _ _ _ _ h => h))), .inl rfl, .inr (.inr (.inl rfl)), .inr (.inr (.inl rfl)), trivial⟩,
              ⟨.inr (.inr (.inr (fun _ _ _ _ _ h => h))), .inr (.inr (.inr (fun _ _ _ _ h h0 => by cases h; exact h0))), .inr (.inr (.inr (fun _ _ _ _ _ h => h))), .inr (.inr (.inr (fun _ _ _ _ _ h => h))), .inl rfl, .inr (.inr (.inl rfl)), trivial⟩,
              ⟨.inr (.inr (.inr (fun _ _ _ _ _ h => h))), .inr (.inr (.inr (fun _ _ _ _ h h0 => by cases h; exact h0))), .inr (.inr (.inr (fun _ _ _ _ _ h => h))), .inr (.inr (.inr (fun _ _ _ _ _ h => h))), .inr (.inr (.inr (fun _ _ _ _ _ h => h))), .inl rfl, trivial⟩, trivial⟩
          · refine ⟨?_, ?_, ?_, ?_, ?_, ?_, trivial⟩
            · -- 0: Op.load 26 (Operand.tmp 4)
              refine step_plain [] (fun _ => rfl) rfl ?_
              intro w1 vals hC1 hi0 hf E hE
              clear hi0
              clear hf
              simp only [puts, act_put, act_put_none, List.setIfInBounds_toArray, List.set_cons_zero, List.set_cons_succ] at hE ⊢
              refine wpList_get_box hC1.x rfl rfl rfl hu rfl elem_size ?_
              go_wp2_with fail
              exact .mk (hE _ _ rfl hC1 rfl)
            · -- 1: Op.call { callee := Callee.value (Operand.func 39), args := #[Operand.tmp 49], argTypes := #[26] }
              refine step_plain [(0, some 49)] (fun _ => rfl) rfl ?_
              intro w1 vals hC1 hi0 hf E hE
              clear hi0
              have f0 : vals 0 = .agg (eV X) := hf 0 rfl
              try dsimp only at f0
              clear hf
              simp only [puts, act_put, act_put_none, List.setIfInBounds_toArray, List.set_cons_zero, List.set_cons_succ, f0] at hE ⊢
              clear f0
              go_wp2_with fail
              refine calls_then (bytes_any X _ HXL.out) ?_
              rintro e w2 ⟨o2, rfl, hlo, hblk, hb2⟩
              rw [← HM.out] at hblk
              go_wp2_with fail
              exact .mk (hE _ _ ⟨o2, rfl, hblk⟩ (hC1.next hb2) hb2)
            · -- 2: Op.convert 22 9 (Operand.tmp 50)
              refine step_plain [(1, some 50)] (fun _ => rfl) rfl ?_
              intro w1 vals hC1 hi0 hf E hE
              clear hi0
              have f1 : (fun z u => ∃ o2, z 1 = .slice (some ⟨o2, 0, none⟩) 32 32 ∧ Blk u o2 5 (bnV (byN M)).toArray) vals w1 := hf 1 rfl
              try dsimp only at f1
              clear hf
              obtain ⟨o2, hx, hblk⟩ := f1
              simp only [puts, act_put, act_put_none, List.setIfInBounds_toArray, List.set_cons_zero, List.set_cons_succ, hx] at hE ⊢
              clear hx
              rw [bnV_byB] at hblk
              refine wpList_str_of (l := byB M) (Rd.of_blk hblk hblk.lt) Try.underlying22 Try.underlying5 Try.underlying9 rfl rfl (by rw [byB_length]; rfl) ?_
              rw [HEQ.out]
              go_wp2_with fail
              exact .mk (hE _ _ rfl hC1 rfl)
            · -- 3: Op.move (Operand.tmp 0)
              refine step_plain [] (fun _ => rfl) rfl ?_
              intro w1 vals hC1 hi0 hf E hE
              clear hi0
              clear hf
              simp only [puts, act_put, act_put_none, List.setIfInBounds_toArray, List.set_cons_zero, List.set_cons_succ] at hE ⊢
              go_wp2
              exact .mk (hE _ _ rfl hC1 rfl)
            · -- 4: Op.convert 22 9 (Operand.tmp 52)
              refine step_plain [(3, some 52)] (fun _ => rfl) rfl ?_
              intro w1 vals hC1 hi0 hf E hE
              clear hi0
              have f3 : vals 3 = .slice A 32 c := hf 3 rfl
              try dsimp only at f3
              clear hf
              have hbel := hC1.bel
              rw [HHG.out] at hbel
              simp only [puts, act_put, act_put_none, List.setIfInBounds_toArray, List.set_cons_zero, List.set_cons_succ, f3] at hE ⊢
              clear f3
              refine wpList_str_of (l := l) (HR.out.below hbel) Try.underlying22 Try.underlying5 Try.underlying9 rfl rfl (by rw [HL.out]; rfl) ?_
              go_wp2_with fail
              exact .mk (hE _ _ rfl hC1 rfl)
            · -- 5: Op.binOp BinOp.neq 9 (Operand.tmp 51) (Operand.tmp 53) 9
              refine step_plain [(2, some 51), (4, some 53)] (fun _ => rfl) rfl ?_
              intro w1 vals hC1 hi0 hf E hE
              clear hi0
              have f2 : vals 2 = .string ⟨l.toArray⟩ := hf 2 rfl
              have f4 : vals 4 = .string ⟨l.toArray⟩ := hf 4 rfl
              try dsimp only at f2 f4
              clear hf
              simp only [puts, act_put, act_put_none, List.setIfInBounds_toArray, List.set_cons_zero, List.set_cons_succ, f2, f4] at hE ⊢
              clear f2 f4
              go_wp2
              exact .mk (hE _ _ rfl hC1 rfl)
          intro w1 vals hC1 hf
          have f0 : vals 0 = .agg (eV X) := hf 0 (by decide) rfl
          have f1 : (fun z u => ∃ o2, z 1 = .slice (some ⟨o2, 0, none⟩) 32 32 ∧ Blk u o2 5 (bnV (byN M)).toArray) vals w1 := hf 1 (by decide) rfl
          have f2 : vals 2 = .string ⟨l.toArray⟩ := hf 2 (by decide) rfl
          have f3 : vals 3 = .slice A 32 c := hf 3 (by decide) rfl
          have f4 : vals 4 = .string ⟨l.toArray⟩ := hf 4 (by decide) rfl
          have f5 : vals 5 = .bool false := hf 5 (by decide) rfl
          try dsimp only at f0 f1 f2 f3 f4 f5
          clear hf
          simp only [puts, act_put, act_put_none, List.setIfInBounds_toArray, List.set_cons_zero, List.set_cons_succ, f0, f2, f3, f4, f5]
          clear f0 f2 f3 f4 f5
          generalize vals 1 = x1 at *
          clear HC0 f1
          have HC1 := Lib.hid hC1
          clear hC1
          have hok : mayR l = true := by rw [HMAY.out]; exact decide_eq_true HEQ.out
          have hE1 : readE l = X := by rw [readE, if_pos hok, HX.out, HN.out]
          have hF1 : readF l = 0 := by rw [readF, if_pos hok]
          have HE1 := Lib.hid hE1
          have HF1 := Lib.hid hF1
          clear hok hE1 hF1
          go_wp2_with (first
            | (refine wpList_get_box (x := .tmp 4) HC1.out.x rfl rfl rfl hu rfl elem_size ?_)
            | (refine wpList_put_box (x := .tmp 2) (cells := eV X) HC1.out.z rfl rfl rfl rfl elem_size rfl (by simp [eV, wV, limbs, Value.oneCell']) ?_; intro w5 hb5 hw5; have HB5 := Lib.hid hb5; have HW5 := Lib.hid hw5; clear hb5 hw5))
          refine bodyPost_ret (results_box_tmp (P := Try.prog) rfl rfl HB5.out hu rfl elem_size) rfl ⟨by rw [HE1.out, HF1.out]; rfl, ?_⟩
          exact HW5.out.below HC1.out.bel HC1.out.lr HC1.out.bel.size
        · have HEQ := Lib.hid heq
          clear heq
          refine wp_region_list (fun u => G2 w o g (eV X) (eV zE) u) (fun | false => (fun _ => True) | true => (fun _ => True)) (fun | false, _ => false | true, _ => false)
            [fun z _ => z 0 = .agg (eV X),
             fun z u => ∃ o2, z 1 = .slice (some ⟨o2, 0, none⟩) 32 32 ∧ Blk u o2 5 (bnV (byN M)).toArray,
             fun z _ => z 2 = .string ⟨(byB M).toArray⟩,
             fun z _ => z 3 = .slice A 32 c,
             fun z _ => z 4 = .string ⟨l.toArray⟩,
             fun z _ => z 5 = .bool true]
            [Eq, fun u u' => Below u.heap.size u u', Eq, Eq, Eq, Eq]
            (fun _ _ => false) [(0, some 49), (1, some 50), (2, some 51), (3, some 52), (4, some 53), (5, some 54)] (by kernel_rfl) (by kernel_rfl) rfl (fun _ => rfl) ?_ ?_ ?_ ?_ ?_ ?_
          · exact HC0
          · intro m; cases m; exact trivial; exact trivial
          · intro m; cases m
            · exact ⟨.inr (fun _ _ h h0 => h ▸ h0), .inr (fun _ _ _ h => h), .inr (fun _ _ h h0 => h ▸ h0), .inr (fun _ _ h h0 => h ▸ h0), .inr (fun _ _ h h0 => h ▸ h0), .inr (fun _ _ h h0 => h ▸ h0), trivial⟩
            · exact ⟨.inr (fun _ _ h h0 => h ▸ h0), .inr (fun _ _ _ h => h), .inr (fun _ _ h h0 => h ▸ h0), .inr (fun _ _ h h0 => h ▸ h0), .inr (fun _ _ h h0 => h ▸ h0), .inr (fun _ _ h h0 => h ▸ h0), trivial⟩
          · exact ⟨⟨.inl rfl, .inr (.inr (.inl rfl)), .inr (.inr (.inl rfl)), .inr (.inr (.inr (fun _ _ _ _ _ h => h))), .inr (.inr (.inr (fun _ _ _ _ _ h => h))), .inr (.inr (.inl rfl)), trivial⟩,
              ⟨.inr (.inr (.inr (fun _ _ _ _ _ h => h))), .inl rfl, .inr (.inr (.inl rfl)), .inr (.inr (.inr (fun _ _ _ _ _ h => h))), .inr (.inr (.inr (fun _ _ _ _ _ h => h))), .inr (.inr (.inl rfl)), trivial⟩,
              ⟨.inr (.inr (.inr (fun _ _ _ _ _ h => h))), .inr (.inr (.inr (fun _ _ _ _ h h0 => by cases h; exact h0))), .inl rfl, .inr (.inr (.inr (fun _ _ _ _ _ h => h))), .inr (.inr (.inr (fun _ _ _ _ _ h => h))), .inr (.inr (.inl rfl)), trivial⟩,
              ⟨.inr (.inr (.inr (fun _ _ _ _ _ h => h))), .inr (.inr (.inr (fun _ _ _ _ h h0 => by cases h; exact h0))), .inr (.inr (.inr (fun _ _ _ _ _ h => h))), .inl rfl, .inr (.inr (.inl rfl)), .inr (.inr (.inl rfl)), trivial⟩,
              ⟨.inr (.inr (.inr (fun _ _ _ _ _ h => h))), .inr (.inr (.inr (fun _ _ _ _ h h0 => by cases h; exact h0))), .inr (.inr (.inr (fun _ _ _ _ _ h => h))), .inr (.inr (.inr (fun _ _ _ _ _ h => h))), .inl rfl, .inr (.inr (.inl rfl)), trivial⟩,
              ⟨.inr (.inr (.inr (fun _ _ _ _ _ h => h))), .inr (.inr (.inr (fun _ _ _ _ h h0 => by cases h; exact h0))), .inr (.inr (.inr (fun _ _ _ _ _ h => h))), .inr (.inr (.inr (fun _ _ _ _ _ h => h))), .inr (.inr (.inr (fun _ _ _ _ _ h => h))), .inl rfl, trivial⟩, trivial⟩
          · refine ⟨?_, ?_, ?_, ?_, ?_, ?_, trivial⟩
            · -- 0: Op.load 26 (Operand.tmp 4)
              refine step_plain [] (fun _ => rfl) rfl ?_
              intro w1 vals hC1 hi0 hf E hE
              clear hi0
              clear hf
              simp only [puts, act_put, act_put_none, List.setIfInBounds_toArray, List.set_cons_zero, List.set_cons_succ] at hE ⊢
              refine wpList_get_box hC1.x rfl rfl rfl hu rfl elem_size ?_
              go_wp2_with fail
              exact .mk (hE _ _ rfl hC1 rfl)
            · -- 1: Op.call { callee := Callee.value (Operand.func 39), args := #[Operand.tmp 49], argTypes := #[26] }
              refine step_plain [(0, some 49)] (fun _ => rfl) rfl ?_
              intro w1 vals hC1 hi0 hf E hE
              clear hi0
              have f0 : vals 0 = .agg (eV X) := hf 0 rfl
              try dsimp only at f0
              clear hf
              simp only [puts, act_put, act_put_none, List.setIfInBounds_toArray, List.set_cons_zero, List.set_cons_succ, f0] at hE ⊢
              clear f0
              go_wp2_with fail
              refine calls_then (bytes_any X _ HXL.out) ?_
              rintro e w2 ⟨o2, rfl, hlo, hblk, hb2⟩
              rw [← HM.out] at hblk
              go_wp2_with fail
              exact .mk (hE _ _ ⟨o2, rfl, hblk⟩ (hC1.next hb2) hb2)
            · -- 2: Op.convert 22 9 (Operand.tmp 50)
              refine step_plain [(1, some 50)] (fun _ => rfl) rfl ?_
              intro w1 vals hC1 hi0 hf E hE
              clear hi0
              have f1 : (fun z u => ∃ o2, z 1 = .slice (some ⟨o2, 0, none⟩) 32 32 ∧ Blk u o2 5 (bnV (byN M)).toArray) vals w1 := hf 1 rfl
              try dsimp only at f1
              clear hf
              obtain ⟨o2, hx, hblk⟩ := f1
              simp only [puts, act_put, act_put_none, List.setIfInBounds_toArray, List.set_cons_zero, List.set_cons_succ, hx] at hE ⊢
              clear hx
              rw [bnV_byB] at hblk
              refine wpList_str_of (l := byB M) (Rd.of_blk hblk hblk.lt) Try.underlying22 Try.underlying5 Try.underlying9 rfl rfl (by rw [byB_length]; rfl) ?_
              go_wp2_with fail
              exact .mk (hE _ _ rfl hC1 rfl)
            · -- 3: Op.move (Operand.tmp 0)
              refine step_plain [] (fun _ => rfl) rfl ?_
              intro w1 vals hC1 hi0 hf E hE
              clear hi0
              clear hf
              simp only [puts, act_put, act_put_none, List.setIfInBounds_toArray, List.set_cons_zero, List.set_cons_succ] at hE ⊢
              go_wp2
              exact .mk (hE _ _ rfl hC1 rfl)
            · -- 4: Op.convert 22 9 (Operand.tmp 52)
              refine step_plain [(3, some 52)] (fun _ => rfl) rfl ?_
              intro w1 vals hC1 hi0 hf E hE
              clear hi0
              have f3 : vals 3 = .slice A 32 c := hf 3 rfl
              try dsimp only at f3
              clear hf
              have hbel := hC1.bel
              rw [HHG.out] at hbel
              simp only [puts, act_put, act_put_none, List.setIfInBounds_toArray, List.set_cons_zero, List.set_cons_succ, f3] at hE ⊢
              clear f3
              refine wpList_str_of (l := l) (HR.out.below hbel) Try.underlying22 Try.underlying5 Try.underlying9 rfl rfl (by rw [HL.out]; rfl) ?_
              go_wp2_with fail
              exact .mk (hE _ _ rfl hC1 rfl)
            · -- 5: Op.binOp BinOp.neq 9 (Operand.tmp 51) (Operand.tmp 53) 9
              refine step_plain [(2, some 51), (4, some 53)] (fun _ => rfl) rfl ?_
              intro w1 vals hC1 hi0 hf E hE
              clear hi0
              have f2 : vals 2 = .string ⟨(byB M).toArray⟩ := hf 2 rfl
              have f4 : vals 4 = .string ⟨l.toArray⟩ := hf 4 rfl
              try dsimp only at f2 f4
              clear hf
              simp only [puts, act_put, act_put_none, List.setIfInBounds_toArray, List.set_cons_zero, List.set_cons_succ, f2, f4] at hE ⊢
              clear f2 f4
              go_wp2
              refine .mk (hE _ _ ?_ hC1 rfl)
              have h1 : (byB M == l) = false := beq_false_of_ne HEQ.out
              show Value.bool (!byB M == l) = .bool true
              rw [h1]
              rfl
          intro w1 vals hC1 hf
          have f0 : vals 0 = .agg (eV X) := hf 0 (by decide) rfl
          have f1 : (fun z u => ∃ o2, z 1 = .slice (some ⟨o2, 0, none⟩) 32 32 ∧ Blk u o2 5 (bnV (byN M)).toArray) vals w1 := hf 1 (by decide) rfl
          have f2 : vals 2 = .string ⟨(byB M).toArray⟩ := hf 2 (by decide) rfl
          have f3 : vals 3 = .slice A 32 c := hf 3 (by decide) rfl
          have f4 : vals 4 = .string ⟨l.toArray⟩ := hf 4 (by decide) rfl
          have f5 : vals 5 = .bool true := hf 5 (by decide) rfl
          try dsimp only at f0 f1 f2 f3 f4 f5
          clear hf
          simp only [puts, act_put, act_put_none, List.setIfInBounds_toArray, List.set_cons_zero, List.set_cons_succ, f0, f2, f3, f4, f5]
          clear f0 f2 f3 f4 f5
          generalize vals 1 = x1 at *
          clear HC0 f1
          have HC1 := Lib.hid hC1
          clear hC1
          have hok : mayR l = false := by rw [HMAY.out]; exact decide_eq_false HEQ.out
          have hE1 : readE l = zE := by rw [readE, hok]; rfl
          have hF1 : readF l = 2 := by rw [readF, hok]; rfl
          have HE1 := Lib.hid hE1
          have HF1 := Lib.hid hF1
          clear hok hE1 hF1
          go_wp2_with (first
            | (refine wpList_put_box (x := .tmp 2) (cells := eV zE) HC1.out.z rfl rfl rfl rfl elem_size rfl (by simp [eV, wV, limbs, Value.oneCell']) ?_; intro w5 hb5 hw5; have HB5 := Lib.hid hb5; have HW5 := Lib.hid hw5; clear hb5 hw5))
          refine bodyPost_ret (results_box_tmp (P := Try.prog) rfl rfl HB5.out hu rfl elem_size) rfl ⟨by rw [HE1.out, HF1.out]; rfl, ?_⟩
          exact HW5.out.below HC1.out.bel HC1.out.lr HC1.out.bel.size
  · have hno : mayR l = false := by simp [mayR, h32]
    have hE : readE l = zE := by rw [readE, hno]; rfl
    have hF : readF l = 2 := by rw [readF, hno]; rfl
    unfold ReadPost
    rw [hE, hF]
    obtain ⟨n, hn⟩ : ∃ n, n = l.length := ⟨_, rfl⟩
    rw [← hn]
    have hn32 : ¬ (n : Int) = 32 := by omega
    have hb0 := Blk.new w 26 (eV zE)
    have HB0 := Lib.hid hb0
    clear hr hc hl h32 hno hE hF hn hb0
    go_enter Try.func52, Try.ntmps52
    go_wp2_with (refine wpList_put_box (x := .tmp 2) (cells := eV zE) HB0.out rfl rfl rfl rfl elem_size rfl (by simp [eV, wV, limbs, Value.oneCell']) ?_; intro w5 hb5 hw5; have HB5 := Lib.hid hb5; have HW5 := Lib.hid hw5; clear hb5 hw5)
    refine bodyPost_ret (results_box_tmp (P := Try.prog) rfl rfl HB5.out hu rfl elem_size) rfl ⟨rfl, ?_⟩
    exact HW5.out.below (below_new _ _) (Nat.le_refl _) (by simp)
end Go.Proofs.Ytbeokfpbhemcfaa
