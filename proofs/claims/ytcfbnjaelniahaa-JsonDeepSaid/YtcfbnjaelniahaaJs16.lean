/-
  Walk: json.Read.
-/
import Derived.Test.YtcfbnjaelniahaaJs15
namespace Go.Proofs.Ytcfbnjaelniahaa.Js
set_option linter.unusedSimpArgs false
set_option linter.unusedVariables false
open Go.RowKit

theorem readP_long {s : Bs} (h : 2000 < s.length) : readP s = .error 4 := by rw [readP, if_pos h]
/-- what Read tells of a value's end -/
def endP : Except Int (JT × Bs) → Except Int JT
  | .error e => .error e
  | .ok (v, []) => .ok v
  | .ok (_, _ :: _) => .error 13
theorem readP_end {s : Bs} (h : ¬ 2000 < s.length) : readP s = endP (valueP 6 s) := by
  rw [readP, if_neg h]
  cases valueP 6 s with
  | error e => rfl
  | ok p =>
    obtain ⟨v, r⟩ := p
    cases r <;> rfl
set_option maxRecDepth 100000 in
set_option maxHeartbeats 4000000 in
theorem jread_any (s : ByteArray) (w : World) :
    Calls Try.prog 12 #[.string s] w fun x w' => ∃ v : JV, x = .returned (.tuple #[.agg (jvCells v), .int .i64 (errE (readP s.data.toList))]) ∧ Below w.heap.size w w' ∧
      (∀ j, readP s.data.toList = .ok j → JRep w' (fun b => w.heap.size ≤ b) j v) ∧ (∀ e, readP s.data.toList = .error e → v = zJV) := by
  have hu := Try.underlying25
  obtain ⟨W0, hW0⟩ : ∃ W0, W0 = w.alloc (.cells (jvCells zJV) 25) := ⟨_, rfl⟩
  have hb0 : Below w.heap.size w W0 := by rw [hW0]; exact (Below.refl _ w).alloc (Nat.le_refl _) _
  obtain ⟨G, hG⟩ : ∃ G, G = w.heap.size := ⟨_, rfl⟩
  have HKZ := Lib.hid (show Blk W0 G 25 (jvCells zJV) by rw [hW0, hG]; exact Blk.new _ _ _)
  have HB0 := Lib.hid hb0
  have HW0 := Lib.hid hW0
  have h5 : s.data.toList.length = s.size := rfl
  by_cases hlong : 2000 < s.size
  · have hl : (2000 : Int) < (s.size : Int) := by omega
    have HE := Lib.hid (readP_long (s := s.data.toList) (by omega))
    clear hW0 hb0 hlong h5
    rw [hG] at *
    clear hG
    go_enter Try.func12, Try.ntmps12
    go_upto_region 1 with (fail)
    rw [show (w.alloc (.cells #[.int .i64 0, .int .i64 0, .string ⟨#[]⟩, .slice none 0 0, .slice none 0 0] 25)) = W0 from HW0.out.symm]
    clear HW0
    go_wp2_with (refine wpList_put_box (x := .tmp 2) (cells := jvCells zJV) HKZ.out rfl rfl rfl rfl jT_size3 rfl (jvCells_one _) ?_; intro w9 hb9 hw9)
    have HB9 := Lib.hid hb9
    refine bodyPost_ret (results_box_tmp (P := Try.prog) rfl rfl HB9.out hu rfl jT_size3) rfl ?_
    exact ⟨zJV, by rw [HE.out]; rfl, HB0.out.trans ((hw9.below (Below.refl _ _) (Nat.le_refl _) (Nat.le_of_lt HKZ.out.lt))), fun j h => by (rw [HE.out] at h; cases h), fun e h => rfl⟩
  · have hl : ¬ (2000 : Int) < (s.size : Int) := by omega
    have HE := Lib.hid (readP_end (s := s.data.toList) (by omega))
    have HL := Lib.hid (show s.size ≤ 2000 by omega)
    have HC := Lib.hid (fun (r : Nat) (u : World) (h : RD u r s 0 0 0) => value_any 6 s (by omega) r 0 0 (by omega) (by omega) u h (Nat.zero_le _))
    clear hW0 hb0 hlong h5
    rw [hG] at *
    clear hG
    go_enter Try.func12, Try.ntmps12
    go_upto_region 1 with (fail)
    rw [show (w.alloc (.cells #[.int .i64 0, .int .i64 0, .string ⟨#[]⟩, .slice none 0 0, .slice none 0 0] 25)) = W0 from HW0.out.symm]
    clear HW0
    go_upto_region 4 with (fail)
    obtain ⟨R, hR⟩ : ∃ R, R = W0.heap.size := ⟨_, rfl⟩
    obtain ⟨W1, hW1⟩ : ∃ W1, W1 = W0.alloc (.cells #[.string s, .int .i64 0, .int .i64 0, .int .i64 0] 55) := ⟨_, rfl⟩
    rw [← hW1, ← hR]
    have hb1 : Below W0.heap.size W0 W1 := by rw [hW1]; exact (Below.refl _ W0).alloc (Nat.le_refl _) _
    have HRD1 := Lib.hid (show RD W1 R s 0 0 0 by rw [hW1, hR]; exact Blk.new _ _ _)
    have HZ1 := Lib.hid (HKZ.out.below hb1 HKZ.out.lt)
    have HRL := Lib.hid (show w.heap.size < R by rw [hR]; exact HKZ.out.lt)
    have HF1 := Lib.hid (show Below w.heap.size w W1 from HB0.out.trans (hb1.mono HB0.out.size))
    have CV := Lib.hid (HC.out R W1 HRD1.out)
    rw [show s.data.toList.drop 0 = s.data.toList from rfl] at CV
    obtain ⟨E, hE⟩ : ∃ E, E = valueP 6 s.data.toList := ⟨_, rfl⟩
    rw [← hE] at CV HE
    have HEE := Lib.hid hE.symm
    clear hR hW1 hb1 hE
    go_wp2_with fail
    refine calls_then CV.out ?_
    rintro y w2 ⟨v, rfl, a, ha, hrd, hrg, hok⟩
    have HRD2 := Lib.hid hrd
    have HG2 := Lib.hid hrg
    have HZ2 := Lib.hid (show Blk w2 w.heap.size 25 (jvCells zJV) from HZ1.out.grown hrg (by have := HRL.out; intro h; injection h with h; omega))
    have HF2 := Lib.hid (show Below w.heap.size w w2 from HF1.out.grown hrg HF1.out.size (by intro k hk; injection hk with hk; have := HRL.out; omega))
    have HOK := Lib.hid hok
    have HA := Lib.hid ha
    have HSZ := Lib.hid (show R < w2.heap.size from Blk.lt HRD2.out)
    have HS1 := Lib.hid (show R < W1.heap.size from Blk.lt HRD1.out)
    have HB5 := Lib.hid (show Blk (w2.alloc (.cells #[.int .i64 0, .int .i64 0, .string ⟨#[]⟩, .slice none 0 0, .slice none 0 0] 25)) w2.heap.size 25 (jvCells zJV) from Blk.new _ _ _)
    clear hrd hrg hok ha CV HC
    go_upto_region 5 with (refine wpList_put_box (x := .tmp 5) (cells := jvCells v) HB5.out rfl rfl rfl rfl jT_size3 rfl (jvCells_one _) ?_; intro w6 hb6 hw6)
    have hb5 := (Below.refl w2.heap.size w2).alloc (Nat.le_refl _) (.cells #[.int .i64 0, .int .i64 0, .string ⟨#[]⟩, .slice none 0 0, .slice none 0 0] 25)
    have hbl : Below w2.heap.size w2 w6 := hw6.below hb5 (Nat.le_refl _) (by simp)
    have HRD6 := Lib.hid (HRD2.out.grow hbl)
    have HZ6 := Lib.hid (HZ2.out.below hbl HZ2.out.lt)
    have HB6 := Lib.hid hb6
    have HBL := Lib.hid hbl
    have HF6 := Lib.hid (HF2.out.trans (hbl.mono HF2.out.size))
    obtain ⟨-, c1, -, -⟩ := HRD6.out.cells
    clear hb5 hbl hb6 hw6 HB5
    go_upto_if 21 with (fail)
    go_cut [] (fun wx => RD wx R s a 0 (errE (endP E)) ∧ RG R w6 wx)
    case first =>
      cases hq : E with
      | error e =>
        have HN := Lib.hid (show e ≠ 0 from valueP_err 6 (HEE.out.trans hq))
        have HR7 := Lib.hid (show RD w6 R s a 0 e by have := HRD6.out; rw [hq] at this; exact this)
        have HQ := Lib.hid hq
        clear hq
        by_cases hlt : a < s.size
        · have hlt' : (a : Int) < (s.size : Int) := by omega
          clear hlt
          go_wp2_with fail
          refine calls_then (fail_any 13 s R a 0 e w6 HR7.out) ?_
          rintro y w7 ⟨rfl, hrd, hrg⟩
          rw [if_neg HN.out] at hrd
          have HR8 := Lib.hid hrd
          have HG8 := Lib.hid hrg
          clear hrd hrg
          go_wp2_with fail
          go_meet
          exact ⟨by rw [HQ.out]; exact HR8.out, HG8.out⟩
        · have hlt' : ¬ (a : Int) < (s.size : Int) := by omega
          clear hlt
          go_wp2_with fail
          go_meet
          exact ⟨by rw [HQ.out]; exact HR7.out, RG.refl _ _⟩
      | ok p =>
        obtain ⟨j, rest⟩ := p
        have HAT := Lib.hid (HOK.out j rest hq).1
        have HR7 := Lib.hid (show RD w6 R s a 0 0 by have := HRD6.out; rw [hq] at this; exact this)
        have HQ := Lib.hid hq
        clear hq
        have h5 : s.data.toList.length = s.size := rfl
        cases rest with
        | nil =>
          have hlt' : ¬ (a : Int) < (s.size : Int) := by
            have := congrArg List.length HAT.out.rest
            rw [List.length_drop] at this
            simp only [List.length_nil] at this
            omega
          clear h5
          go_wp2_with fail
          go_meet
          exact ⟨by rw [HQ.out]; exact HR7.out, RG.refl _ _⟩
        | cons x l =>
          have hlt' : (a : Int) < (s.size : Int) := by
            have := congrArg List.length HAT.out.rest
            rw [List.length_drop] at this
            simp only [List.length_cons] at this
            omega
          clear h5
          go_wp2_with fail
          refine calls_then (fail_any 13 s R a 0 0 w6 HR7.out) ?_
          rintro y w7 ⟨rfl, hrd, hrg⟩
          have HR8 := Lib.hid (show RD w7 R s a 0 13 from hrd)
          have HG8 := Lib.hid hrg
          clear hrd hrg
          go_wp2_with fail
          go_meet
          exact ⟨by rw [HQ.out]; exact HR8.out, HG8.out⟩
    case rest =>
    obtain ⟨hrd, hrg⟩ := hcut
    have HRD7 := Lib.hid hrd
    have HG7 := Lib.hid hrg
    have HZ7 := Lib.hid (HZ6.out.grown hrg (by have := HRL.out; intro h; injection h with h; omega))
    have HB7 := Lib.hid (HB6.out.grown hrg (by have := HSZ.out; intro h; injection h with h; omega))
    have HF7 := Lib.hid (show Below w.heap.size w wc from HF6.out.grown hrg HF6.out.size (by intro k hk; injection hk with hk; have := HRL.out; omega))
    clear hrd hrg c1
    cases hq : endP E with
    | error e =>
      have HQ := Lib.hid hq
      have HN := Lib.hid (show e ≠ 0 by
        unfold endP at hq
        split at hq
        · rename_i hv
          injection hq with hq
          subst hq
          exact valueP_err 6 HEE.out
        · cases hq
        · injection hq with hq
          omega)
      have HR8 := Lib.hid (show RD wc R s a 0 e by have := HRD7.out; rw [hq] at this; exact this)
      obtain ⟨-, -, -, c3⟩ := HR8.out.cells
      have hne : (e != 0) = true := by simpa using HN.out
      clear hq
      go_wp2_with fail
      have HC0 : RD wc.drew R s a 0 e ∧ Blk wc.drew w.heap.size 25 (jvCells zJV) ∧ Below w.heap.size w wc.drew := ⟨HR8.out, HZ7.out, HF7.out.drew⟩
      clear c3
      refine wp_region_det (fun u => RD u R s a 0 e ∧ Blk u w.heap.size 25 (jvCells zJV) ∧ Below w.heap.size w u) (fun u => RD u R s a 0 e ∧ Blk u w.heap.size 25 (jvCells zJV) ∧ Below w.heap.size w u) [(0, some 29), (1, some 30), (2, some 31), (3, some 32), (4, some 33), (5, none), (6, some 3)] (by kernel_rfl) (by kernel_rfl) (by decide) (by kernel_rfl) (fun _ => rfl) HC0 ?_
      apply DetL.next
      · -- 0: Op.build 25 #[]
        apply detStep_plain []
        exact fun _ => rfl
        rfl
        rintro vals - w1 hC1 E hE
        simp only [puts, act_put, act_put_none, List.setIfInBounds_toArray, List.set_cons_zero, List.set_cons_succ] at hE ⊢
        go_wp2
        exact .mk (hE _ hC1)
      apply DetL.next
      · -- 1: Op.move (Operand.tmp 4)
        apply detStep_plain []
        exact fun _ => rfl
        rfl
        rintro vals ⟨-, -⟩ w1 hC1 E hE
        simp only [puts, act_put, act_put_none, List.setIfInBounds_toArray, List.set_cons_zero, List.set_cons_succ] at hE ⊢
        go_wp2
        exact .mk (hE _ hC1)
      apply DetL.next
      · -- 2: Op.nilCheck (Operand.tmp 30)
        apply detStep_plain [(1, some 30)]
        exact fun _ => rfl
        rfl
        rintro vals ⟨⟨-, -⟩, f1⟩ w1 hC1 E hE
        simp only [puts, act_put, act_put_none, List.setIfInBounds_toArray, List.set_cons_zero, List.set_cons_succ, f1] at hE ⊢
        clear f1
        go_wp2
        exact .mk (hE _ hC1)
      apply DetL.next
      · -- 3: Op.fieldAddr 55 (Operand.tmp 31) 3
        apply detStep_plain [(2, some 31)]
        exact fun _ => rfl
        rfl
        rintro vals ⟨⟨⟨-, -⟩, -⟩, f2⟩ w1 hC1 E hE
        simp only [puts, act_put, act_put_none, List.setIfInBounds_toArray, List.set_cons_zero, List.set_cons_succ, f2] at hE ⊢
        clear f2
        go_wp2
        exact .mk (hE _ hC1)
      apply DetL.next
      · -- 4: Op.load 27 (Operand.tmp 32)
        apply detStep_plain [(3, some 32)]
        exact fun _ => rfl
        rfl
        rintro vals ⟨⟨⟨⟨-, -⟩, -⟩, -⟩, f3⟩ w1 hC1 E hE
        have d3 := hC1.1.cells.2.2.2
        simp only [puts, act_put, act_put_none, List.setIfInBounds_toArray, List.set_cons_zero, List.set_cons_succ, f3] at hE ⊢
        clear f3
        go_wp2
        exact .mk (hE _ hC1)
      apply DetL.next (v := undef)
      · -- 5: Op.store 25 (Operand.tmp 2) (Operand.tmp 29)
        apply detStep_plain [(0, some 29), (0, some 29)]
        exact fun _ => rfl
        rfl
        rintro vals ⟨⟨⟨⟨⟨-, f0⟩, -⟩, -⟩, -⟩, -⟩ w1 hC1 E hE
        have HC1 := Lib.hid hC1
        simp only [puts, act_put, act_put_none, List.setIfInBounds_toArray, List.set_cons_zero, List.set_cons_succ, f0] at hE ⊢
        clear f0
        go_wp2_with (refine wpList_put_box (x := .tmp 2) (cells := jvCells zJV) HC1.out.2.1 rfl rfl rfl rfl jT_size3 rfl (jvCells_one _) ?_; intro w9 hb9 hw9)
        exact .mk (hE _ ⟨hw9.blk HC1.out.1 (by have := HRL.out; omega), hb9, hw9.below HC1.out.2.2 (Nat.le_refl _) HC1.out.2.2.size⟩)
      apply DetL.last
      · -- 6: Op.assign (Operand.tmp 33)
        apply detStep_plain [(4, some 33), (5, none), (0, some 29), (1, some 30), (2, some 31), (3, some 32), (4, some 33), (5, none)]
        exact fun _ => rfl
        rfl
        rintro vals ⟨⟨⟨⟨⟨⟨-, f0⟩, f1⟩, f2⟩, f3⟩, f4⟩, f5⟩ w1 hC1 E hE
        simp only [puts, act_put, act_put_none, List.setIfInBounds_toArray, List.set_cons_zero, List.set_cons_succ, f0, f1, f2, f3, f4, f5] at hE ⊢
        clear f0 f1 f2 f3 f4 f5
        go_wp2
        exact .mk (hE _ hC1)
      rintro vals ⟨⟨⟨⟨⟨⟨⟨-, f0⟩, f1⟩, f2⟩, f3⟩, f4⟩, f5⟩, f6⟩ w1 hC1
      simp only [puts, act_put, act_put_none, List.setIfInBounds_toArray, List.set_cons_zero, List.set_cons_succ, f0, f1, f2, f3, f4, f5, f6]
      clear f0 f1 f2 f3 f4 f5 f6
      obtain ⟨h1, h2, h3⟩ := hC1
      have HB9 := Lib.hid h2
      have HF9 := Lib.hid h3
      clear h1 h2 h3 HC0
      go_wp2_with fail
      refine bodyPost_ret (results_box_tmp (P := Try.prog) rfl rfl HB9.out hu rfl jT_size3) rfl ?_
      exact ⟨zJV, by rw [HE.out, HQ.out]; rfl, HF9.out, fun j h => by (rw [HE.out, HQ.out] at h; cases h), fun e h => rfl⟩
    | ok j =>
      have HQ := Lib.hid hq
      have HR8 := Lib.hid (show RD wc R s a 0 0 by have := HRD7.out; rw [hq] at this; exact this)
      have HJ := Lib.hid (show E = .ok (j, []) by
        cases hE : E with
        | error e => rw [hE] at hq; cases hq
        | ok p =>
          obtain ⟨j1, r1⟩ := p
          rw [hE] at hq
          cases r1 with
          | nil => injection hq with hq; subst hq; rfl
          | cons x l => cases hq)
      obtain ⟨-, -, -, c3⟩ := HR8.out.cells
      clear hq
      go_wp2_with (first
        | refine wpList_get_box (x := .tmp 5) HB7.out rfl rfl rfl hu rfl jT_size3 ?_
        | (refine wpList_put_box (x := .tmp 2) (cells := jvCells v) HZ7.out rfl rfl rfl rfl jT_size3 rfl (jvCells_one _) ?_; intro w9 hb9 hw9))
      have HB9 := Lib.hid hb9
      refine bodyPost_ret (results_box_tmp (P := Try.prog) rfl rfl HB9.out hu rfl jT_size3) rfl ?_
      refine ⟨v, by rw [HE.out, HQ.out]; rfl, hw9.below HF7.out (Nat.le_refl _) HF7.out.size, fun j' hj' => ?_, fun e he => by (rw [HE.out, HQ.out] at he; cases he)⟩
      rw [HE.out, HQ.out] at hj'
      injection hj' with hj'
      subst hj'
      have hj := (HOK.out j [] HJ.out).2
      have h0 := HS1.out
      have h1 := HRL.out
      exact ((((hj.heap fun b hb _ => HBL.out.block b hb).heap fun b hb hs => HG7.out.block b hb (by intro h; injection h with h; omega)).heap fun b hb hs => hw9.grown.block b hb (by intro h; injection h with h; omega))).imp fun b _ hb => by omega
end Go.Proofs.Ytcfbnjaelniahaa.Js
