/-
  Walk: sha's row, words of 64 bits.
-/
import Derived.Test.YtfpbcihpjcocmaaDoorTurned
import Derived.Test.YtfpbcihpjcocmaaDoorShaM
import Derived.Test.YtfpbcihpjcocmaaDoorPart
namespace Go.Proofs.YtfpbcihpjcocmaaDoor
set_option linter.unusedSimpArgs false
set_option linter.unusedVariables false
open Go.RowKit

theorem elem64 : (Tryd.prog.info? 40).map (fun i => (i.zero, i.size, i.bytes)) = some (some (.int .u64 0), 1, 8) := by kernel_rfl
theorem one64 : (Tryd.prog.info? 40).map (·.size) = some 1 := by kernel_rfl
theorem tri64_size : (Tryd.prog.info? 30).map (·.size) = some 3 := by kernel_rfl
def RowPost64 (blk : List UInt8) (w : World) (e : Ending) (w' : World) : Prop :=
  ∃ g, e = .returned (.slice (some ⟨g, 0, none⟩) 80 80) ∧ w.heap.size ≤ g ∧ Blk w' g 40 (rowC .u64 (rowW F64 blk 80) 0) ∧ Below w.heap.size w w'

/-- the state of the making of a row -/
structure RowSt64 (w : World) (gf gw : Nat) (cs : Array Value) (u : World) : Prop where
  below : Below gf w u
  form : Blk u gf 34 f64C
  row : Blk u gw 40 cs
  lw : gf < gw
theorem RowSt64.put {w u u' : World} {gf gw : Nat} {cs cs' : Array Value} (h : RowSt64 w gf gw cs u) (hw : Wrote gw u u') (hb : Blk u' gw 40 cs') : RowSt64 w gf gw cs' u' :=
  ⟨hw.below h.below (by have := h.lw; omega) (by have := h.form.lt; omega), hw.blk h.form (by have := h.lw; omega), hb, h.lw⟩
theorem RowSt64.next {w u u' : World} {gf gw : Nat} {cs : Array Value} (h : RowSt64 w gf gw cs u) (hb : Below u.heap.size u u') : RowSt64 w gf gw cs u' :=
  ⟨h.below.trans (hb.mono (by have := h.form.lt; omega)), h.form.below hb h.form.lt, h.row.below hb h.row.lt, h.lw⟩
theorem RowSt64.drew {w u : World} {gf gw : Nat} {cs : Array Value} (h : RowSt64 w gf gw cs u) : RowSt64 w gf gw cs u.drew := ⟨h.below.drew, h.form, h.row, h.lw⟩
theorem rowSt64_start (w : World) (cs : Array Value) : RowSt64 w w.heap.size (w.heap.size + 1) cs ((w.alloc (.cells f64C 34)).alloc (.cells cs 40)) :=
  ⟨(below_new _ _).alloc (by simp) _, (Blk.new _ _ _).alloc _, by have := Blk.new (w.alloc (.cells f64C 34)) 40 cs; simpa using this, by omega⟩
set_option maxRecDepth 100000 in
set_option maxHeartbeats 4000000 in
theorem row64_any (blk : List UInt8) (A : Option Addr) (c B : Nat) (w : World) (hr : Rd w B A (bytesV blk)) (hB : B ≤ w.heap.size) (hl : blk.length = 128) (hc : blk.length ≤ c) (hcm : c ≤ 9223372036854775807) :
    Calls Tryd.prog 36 #[.agg f64C, .slice A blk.length c] w (RowPost64 blk w) := by
  obtain ⟨W0, hW0⟩ : ∃ W0, W0 = w.alloc (.cells f64C 34) := ⟨_, rfl⟩
  have hb0 : Below w.heap.size w W0 := by rw [hW0]; exact below_new _ _
  have hbf : Blk W0 w.heap.size 34 f64C := by rw [hW0]; exact Blk.new _ _ _
  have hs0 : W0.heap.size = w.heap.size + 1 := by rw [hW0]; simp
  have c0 := hbf.cell 0
  have c1 := hbf.cell 1
  simp only [f64C, List.getElem?_toArray, List.getElem?_cons_zero, List.getElem?_cons_succ] at c0 c1
  rw [hW0, f64C] at c0 c1
  have HB := Lib.hid hb0
  have HF := Lib.hid hbf
  have HS := Lib.hid hs0
  have HR := Lib.hid (hr.mono hB)
  have HL := Lib.hid hl
  have HW := Lib.hid hW0
  obtain ⟨ie, hie, hez, hes, heb⟩ := info_parts elem64
  have hc2 : 128 ≤ c := by omega
  clear hb0 hbf hs0 hr hW0 HB HF HS hl hc
  rw [HL.out]
  rw [f64C]
  have hmk : ∀ u : World, (Instr.makeSlice 36 (.int .i64 80) (.int .i64 80)).run Tryd.prog u = .ok (.slice (some ⟨u.heap.size, 0, none⟩) 80 80) (u.alloc (.cells (rowC .u64 [] 80) 40)) := fun _ => by kernel_rfl
  go_enter Tryd.func36, Tryd.ntmps36
  go_wp2_with fail
  have hst0 := rowSt64_start w (rowC .u64 (rowW F64 blk 0) (80 - 0))
  generalize hgw : w.heap.size + 1 = gw at *
  generalize hgf : w.heap.size = gf at *
  have HGF := Lib.hid hgf
  clear hgf hgw c0 c1 hmk
  go_loopw [20] (fun i wr => ∃ t : Nat, t ≤ 80 ∧ i = .int .i64 t ∧ RowSt64 w gf gw (rowC .u64 (rowW F64 blk t) (80 - t)) wr) (fun i _ => 80 - (intOf i).toNat)
  case atStart => exact ⟨0, by omega, rfl, hst0⟩
  case round =>
    obtain ⟨t, ht, rfl, hst⟩ := hrel
    clear hst0
    have hlen := rowW_length F64 blk t
    by_cases hlt : t < 80
    · have hlt' : (t : Int) < 80 := by omega
      by_cases h16 : t < 16
      · have h16' : (t : Int) < 16 := by omega
        rw [show 80 - t = (80 - t - 1) + 1 by omega, rowC_start] at hst
        obtain ⟨l, hl'⟩ : ∃ l, l = rowW F64 blk t := ⟨_, rfl⟩
        obtain ⟨m, hm⟩ : ∃ m, m = 80 - t - 1 := ⟨_, rfl⟩
        rw [← hl'] at hst hlen
        rw [← hm] at hst
        have HL' := Lib.hid hl'
        have HM := Lib.hid hm
        have HLEN := Lib.hid hlen
        have HST := Lib.hid hst
        clear hl' hm hlen hst
        obtain ⟨ad, rfl, hadB, _⟩ := (HR.out.below HST.out.below).at_ (k := t * 8) (by rw [bytesV_length, HL.out]; omega)
        go_wp2_with fail
        rw [show (t + 1) * 8 - t * 8 = 8 by omega]
        obtain ⟨pc, hpc⟩ : ∃ x, x = (blk.drop (t * 8)).take 8 := ⟨_, rfl⟩
        have hpl : pc.length = 8 := by rw [hpc]; simp; rw [HL.out]; omega
        have hrp : Rd w gf (some (ad.add (t * 8))) (bytesV pc) := by rw [hpc, bytesV, List.map_take, List.map_drop]; exact rd_take (rd_drop HR.out (t * 8)) 8
        have HPC := Lib.hid hpc
        have HRP := Lib.hid hrp
        have HPL := Lib.hid hpl
        clear hpc hrp hpl
        obtain ⟨wo, rfl⟩ : ∃ wo : World, wo = wr := ⟨_, rfl⟩
        go_loopw [35] (fun i wi => ∃ j : Nat, j ≤ 8 ∧ i = .int .i64 j ∧ RowSt64 w gf gw (rowP .u64 l (beN (pc.take j)) m) wi) (fun i _ => 8 - (intOf i).toNat)
        case atStart => exact ⟨0, by omega, rfl, by simpa [beN] using HST.out⟩
        case round =>
          obtain ⟨j, hj, rfl, hsi⟩ := hrel
          by_cases hjl : j < 8
          · have hjl' : (j : Int) < 8 := by omega
            have hpj : j < pc.length := by rw [HPL.out]; exact hjl
            obtain ⟨ad', hae, _, hcell⟩ := (HRP.out.below hsi.below).at_ (k := j) (by rw [bytesV_length]; exact hpj)
            injection hae with hae
            subst hae
            obtain ⟨z, hz⟩ : ∃ z, z = pc[j] := ⟨_, rfl⟩
            have hcl : wr.cell? ((ad.add (t * 8)).add j) = some (.int .u8 (z.toNat : Int)) := by rw [hcell, hz]; simp [bytesV, byteV]
            have hzl := z.toNat_lt
            have hzl2 : (z.toNat : Int) < 256 := by omega
            obtain ⟨x, hx⟩ : ∃ x, x = beN (pc.take j) := ⟨_, rfl⟩
            have hxl : x < 256 ^ j := by
              rw [hx]
              have h1 := beN_lt (pc.take j)
              have h2 : (pc.take j).length ≤ j := List.length_take_le _ _
              exact Nat.lt_of_lt_of_le h1 (Nat.pow_le_pow_right (by omega) h2)
            have hst : beN (pc.take (j + 1)) = x * 256 + z.toNat := by
              rw [List.take_succ_eq_append_getElem hpj, beN_snoc, hx, hz]
            rw [← hx] at hsi
            have crow := hsi.row.cell t
            rw [show (rowP .u64 l x m)[t]? = some (.int .u64 (x : Int)) by have := rowP_at .u64 l x m; rwa [HLEN.out] at this] at crow
            have frow := hsi.row.free t
            have HSI := Lib.hid hsi
            have HST2 := Lib.hid hst
            have HXL := Lib.hid hxl
            clear hcell hz hx hst hsi hpj hxl
            go_wp2_with fail
            refine ⟨⟨j + 1, hjl, by go_num, ?_⟩, by simp [intOf]; omega⟩
            have hx8 : x < 256 ^ (8 - 1) := Nat.lt_of_lt_of_le HXL.out (Nat.pow_le_pow_right (by omega) (by omega))
            rw [or_byte64 x z.toNat hx8 hzl, HST2.out]
            refine HSI.out.put (wrote_setCell_at _ _ _ _) ?_
            have := blk_setCell_at (i := t) HSI.out.row (.int .u64 ((x * 256 + z.toNat : Nat) : Int))
            have h9 := rowP_set .u64 l x (x * 256 + z.toNat) m
            rw [HLEN.out] at h9
            rwa [h9] at this
          · have hjl' : ¬ (j : Int) < 8 := by omega
            have hfin : RowSt64 w gf gw (rowC .u64 (rowW F64 blk (t + 1)) (80 - (t + 1))) wr := by
              obtain rfl : j = 8 := by omega
              rw [rowP_end, List.take_of_length_le (by rw [HPL.out]; omega)] at hsi
              rw [rowW, if_pos h16, ← HL'.out, show 80 - (t + 1) = m by rw [HM.out]; omega]
              rw [show pieceN (F64.bits / 8) blk t = beN pc by rw [HPC.out]; rfl]
              exact hsi
            have HFIN := Lib.hid hfin
            clear hfin hsi
            go_wp2_with fail
            exact ⟨⟨t + 1, hlt, by go_num, HFIN.out⟩, by simp [intOf]; omega⟩
      · have h16' : ¬ (t : Int) < 16 := by omega
        rw [show 80 - t = (80 - t - 1) + 1 by omega, rowC_start] at hst
        obtain ⟨l, hl'⟩ : ∃ l, l = rowW F64 blk t := ⟨_, rfl⟩
        obtain ⟨m, hm⟩ : ∃ m, m = 80 - t - 1 := ⟨_, rfl⟩
        have hlw : ∀ i, l.getD i 0 < 2 ^ 64 := by rw [hl']; exact getD_lt (rowW_lt F64 (by decide) blk t) (by decide)
        rw [← hl'] at hst hlen
        rw [← hm] at hst
        have HL' := Lib.hid hl'
        have HM := Lib.hid hm
        have HLEN := Lib.hid hlen
        have HLW := Lib.hid hlw
        obtain ⟨a15, h15⟩ : ∃ x, x = l.getD (t - 15) 0 := ⟨_, rfl⟩
        obtain ⟨a2, h2⟩ : ∃ x, x = l.getD (t - 2) 0 := ⟨_, rfl⟩
        obtain ⟨a16, h16e⟩ : ∃ x, x = l.getD (t - 16) 0 := ⟨_, rfl⟩
        obtain ⟨a7, h7⟩ : ∃ x, x = l.getD (t - 7) 0 := ⟨_, rfl⟩
        have w15 : a15 < 2 ^ 64 := by rw [h15]; exact hlw _
        have w2 : a2 < 2 ^ 64 := by rw [h2]; exact hlw _
        have w16 : a16 < 2 ^ 64 := by rw [h16e]; exact hlw _
        have w7 : a7 < 2 ^ 64 := by rw [h7]; exact hlw _
        have e15 : (rowP .u64 l 0 m)[t - 15]? = some (.int .u64 (a15 : Int)) := by rw [rowP_get _ _ _ _ _ (by omega), h15]
        have e2 : (rowP .u64 l 0 m)[t - 2]? = some (.int .u64 (a2 : Int)) := by rw [rowP_get _ _ _ _ _ (by omega), h2]
        have e16 : (rowP .u64 l 0 m)[t - 16]? = some (.int .u64 (a16 : Int)) := by rw [rowP_get _ _ _ _ _ (by omega), h16e]
        have e7 : (rowP .u64 l 0 m)[t - 7]? = some (.int .u64 (a7 : Int)) := by rw [rowP_get _ _ _ _ _ (by omega), h7]
        have E15 := Lib.hid e15
        have E2 := Lib.hid e2
        have E16 := Lib.hid e16
        have E7 := Lib.hid e7
        have W15 := Lib.hid (show a15 < 18446744073709551616 by omega)
        have W2 := Lib.hid (show a2 < 18446744073709551616 by omega)
        have W16 := Lib.hid w16
        have W7 := Lib.hid w7
        have H15 := Lib.hid h15
        have H2 := Lib.hid h2
        have H16 := Lib.hid h16e
        have H7 := Lib.hid h7
        have i15 : (a15 : Int) < 18446744073709551616 := by omega
        have i2 : (a2 : Int) < 18446744073709551616 := by omega
        clear hl' hm hlen hlw h15 h2 h16e h7 w15 w2 w16 w7 e15 e2 e16 e7
        have hu := Tryd.underlying34
        have hu3 := Tryd.underlying30
        have HC0 := hst.drew
        clear hst
        go_wp2_with fail
        refine wp_region_det (fun u => RowSt64 w gf gw (rowP .u64 l 0 m) u) (fun u => RowSt64 w gf gw (rowP .u64 l 0 m) u) [(0, some 51), (1, some 52), (2, some 53), (3, some 54), (4, some 55), (5, some 56), (6, some 57), (7, some 58), (8, some 59), (9, some 60), (10, some 61), (11, some 62), (12, some 63), (13, some 64), (14, some 65), (15, some 66), (16, some 67), (17, some 68), (18, some 69), (19, some 70), (20, some 10), (21, some 11)] (by kernel_rfl) (by kernel_rfl) (by decide) (by kernel_rfl) (fun _ => rfl) HC0 ?_
        apply DetL.next
        · -- 0: Op.load 34 (Operand.tmp 2)
          apply detStep_plain []
          exact fun _ => rfl
          rfl
          rintro vals - w1 hC1 E hE
          simp only [puts, act_put, act_put_none, List.setIfInBounds_toArray, List.set_cons_zero, List.set_cons_succ] at hE ⊢
          refine wpList_get_box hC1.form rfl rfl rfl hu rfl form_size ?_
          go_wp2_with fail
          exact .mk (hE _ hC1)
        apply DetL.next
        · -- 1: Op.move (Operand.tmp 5)
          apply detStep_plain []
          exact fun _ => rfl
          rfl
          rintro vals ⟨-, -⟩ w1 hC1 E hE
          simp only [puts, act_put, act_put_none, List.setIfInBounds_toArray, List.set_cons_zero, List.set_cons_succ] at hE ⊢
          go_wp2
          exact .mk (hE _ hC1)
        apply DetL.next
        · -- 2: Op.move (Operand.tmp 7)
          apply detStep_plain []
          exact fun _ => rfl
          rfl
          rintro vals ⟨⟨-, -⟩, -⟩ w1 hC1 E hE
          simp only [puts, act_put, act_put_none, List.setIfInBounds_toArray, List.set_cons_zero, List.set_cons_succ] at hE ⊢
          go_wp2
          exact .mk (hE _ hC1)
        apply DetL.next
        · -- 3: Op.binOp BinOp.sub 3 (Operand.tmp 53) (Operand.const (Value.int IntKind.i64 15)) 3
          apply detStep_plain [(2, some 53)]
          exact fun _ => rfl
          rfl
          rintro vals ⟨⟨⟨-, -⟩, -⟩, f2⟩ w1 hC1 E hE
          simp only [puts, act_put, act_put_none, List.setIfInBounds_toArray, List.set_cons_zero, List.set_cons_succ, f2] at hE ⊢
          clear f2
          go_wp2
          exact .mk (hE _ hC1)
        apply DetL.next
        · -- 4: Op.indexAddr 36 (Operand.tmp 52) (Operand.tmp 54)
          apply detStep_plain [(1, some 52), (3, some 54)]
          exact fun _ => rfl
          rfl
          rintro vals ⟨⟨⟨⟨-, -⟩, f1⟩, -⟩, f3⟩ w1 hC1 E hE
          simp only [puts, act_put, act_put_none, List.setIfInBounds_toArray, List.set_cons_zero, List.set_cons_succ, f1, f3] at hE ⊢
          clear f1 f3
          go_wp2
          exact .mk (hE _ hC1)
        apply DetL.next
        · -- 5: Op.load 40 (Operand.tmp 55)
          apply detStep_plain [(4, some 55)]
          exact fun _ => rfl
          rfl
          rintro vals ⟨⟨⟨⟨⟨-, -⟩, -⟩, -⟩, -⟩, f4⟩ w1 hC1 E hE
          have d0 := hC1.row.cell (t - 15)
          rw [E15.out] at d0
          simp only [puts, act_put, act_put_none, List.setIfInBounds_toArray, List.set_cons_zero, List.set_cons_succ, f4] at hE ⊢
          clear f4
          go_wp2
          exact .mk (hE _ hC1)
        apply DetL.next
        · -- 6: Op.fieldAddr 34 (Operand.tmp 2) 2
          apply detStep_plain []
          exact fun _ => rfl
          rfl
          rintro vals ⟨⟨⟨⟨⟨⟨-, -⟩, -⟩, -⟩, -⟩, -⟩, -⟩ w1 hC1 E hE
          simp only [puts, act_put, act_put_none, List.setIfInBounds_toArray, List.set_cons_zero, List.set_cons_succ] at hE ⊢
          go_wp2
          exact .mk (hE _ hC1)
        apply DetL.next
        · -- 7: Op.fieldAddr 32 (Operand.tmp 57) 2
          apply detStep_plain [(6, some 57)]
          exact fun _ => rfl
          rfl
          rintro vals ⟨⟨⟨⟨⟨⟨⟨-, -⟩, -⟩, -⟩, -⟩, -⟩, -⟩, f6⟩ w1 hC1 E hE
          simp only [puts, act_put, act_put_none, List.setIfInBounds_toArray, List.set_cons_zero, List.set_cons_succ, f6] at hE ⊢
          clear f6
          go_wp2
          exact .mk (hE _ hC1)
        apply DetL.next
        · -- 8: Op.load 30 (Operand.tmp 58)
          apply detStep_plain [(7, some 58)]
          exact fun _ => rfl
          rfl
          rintro vals ⟨⟨⟨⟨⟨⟨⟨⟨-, -⟩, -⟩, -⟩, -⟩, -⟩, -⟩, -⟩, f7⟩ w1 hC1 E hE
          simp only [puts, act_put, act_put_none, List.setIfInBounds_toArray, List.set_cons_zero, List.set_cons_succ, f7] at hE ⊢
          clear f7
          refine wpList_get_part (n := 3) (r := #[.int .i64 1, .int .i64 8, .int .i64 7]) hC1.form (by decide) rfl rfl rfl rfl hu3 rfl tri64_size ?_
          go_wp2_with fail
          exact .mk (hE _ hC1)
        apply DetL.next
        · -- 9: Op.call { callee := Callee.value (Operand.func 31), args := #[Operand.tmp 51, Operand.tmp 56, Operand.tmp 59, 
          apply detStep_plain [(0, some 51), (5, some 56), (8, some 59)]
          exact fun _ => rfl
          rfl
          rintro vals ⟨⟨⟨⟨⟨⟨⟨⟨⟨-, f0⟩, -⟩, -⟩, -⟩, -⟩, f5⟩, -⟩, -⟩, f8⟩ w1 hC1 E hE
          simp only [puts, act_put, act_put_none, List.setIfInBounds_toArray, List.set_cons_zero, List.set_cons_succ, f0, f5, f8] at hE ⊢
          clear f0 f5 f8
          go_wp2_with fail
          refine calls_then (all64_any a15 1 8 7 true _ W15.out (by decide) (by decide) (by decide)) ?_
          rintro e w2 ⟨rfl, hb2⟩
          go_wp2_with fail
          exact .mk (hE _ (hC1.next hb2))
        apply DetL.next
        · -- 10: Op.load 34 (Operand.tmp 2)
          apply detStep_plain []
          exact fun _ => rfl
          rfl
          rintro vals ⟨⟨⟨⟨⟨⟨⟨⟨⟨⟨-, -⟩, -⟩, -⟩, -⟩, -⟩, -⟩, -⟩, -⟩, -⟩, -⟩ w1 hC1 E hE
          simp only [puts, act_put, act_put_none, List.setIfInBounds_toArray, List.set_cons_zero, List.set_cons_succ] at hE ⊢
          refine wpList_get_box hC1.form rfl rfl rfl hu rfl form_size ?_
          go_wp2_with fail
          exact .mk (hE _ hC1)
        apply DetL.next
        · -- 11: Op.move (Operand.tmp 5)
          apply detStep_plain []
          exact fun _ => rfl
          rfl
          rintro vals ⟨⟨⟨⟨⟨⟨⟨⟨⟨⟨⟨-, -⟩, -⟩, -⟩, -⟩, -⟩, -⟩, -⟩, -⟩, -⟩, -⟩, -⟩ w1 hC1 E hE
          simp only [puts, act_put, act_put_none, List.setIfInBounds_toArray, List.set_cons_zero, List.set_cons_succ] at hE ⊢
          go_wp2
          exact .mk (hE _ hC1)
        apply DetL.next
        · -- 12: Op.move (Operand.tmp 7)
          apply detStep_plain []
          exact fun _ => rfl
          rfl
          rintro vals ⟨⟨⟨⟨⟨⟨⟨⟨⟨⟨⟨⟨-, -⟩, -⟩, -⟩, -⟩, -⟩, -⟩, -⟩, -⟩, -⟩, -⟩, -⟩, -⟩ w1 hC1 E hE
          simp only [puts, act_put, act_put_none, List.setIfInBounds_toArray, List.set_cons_zero, List.set_cons_succ] at hE ⊢
          go_wp2
          exact .mk (hE _ hC1)
        apply DetL.next
        · -- 13: Op.binOp BinOp.sub 3 (Operand.tmp 63) (Operand.const (Value.int IntKind.i64 2)) 3
          apply detStep_plain [(12, some 63)]
          exact fun _ => rfl
          rfl
          rintro vals ⟨⟨⟨⟨⟨⟨⟨⟨⟨⟨⟨⟨⟨-, -⟩, -⟩, -⟩, -⟩, -⟩, -⟩, -⟩, -⟩, -⟩, -⟩, -⟩, -⟩, f12⟩ w1 hC1 E hE
          simp only [puts, act_put, act_put_none, List.setIfInBounds_toArray, List.set_cons_zero, List.set_cons_succ, f12] at hE ⊢
          clear f12
          go_wp2
          exact .mk (hE _ hC1)
        apply DetL.next
        · -- 14: Op.indexAddr 36 (Operand.tmp 62) (Operand.tmp 64)
          apply detStep_plain [(11, some 62), (13, some 64)]
          exact fun _ => rfl
          rfl
          rintro vals ⟨⟨⟨⟨⟨⟨⟨⟨⟨⟨⟨⟨⟨⟨-, -⟩, -⟩, -⟩, -⟩, -⟩, -⟩, -⟩, -⟩, -⟩, -⟩, -⟩, f11⟩, -⟩, f13⟩ w1 hC1 E hE
          simp only [puts, act_put, act_put_none, List.setIfInBounds_toArray, List.set_cons_zero, List.set_cons_succ, f11, f13] at hE ⊢
          clear f11 f13
          go_wp2
          exact .mk (hE _ hC1)
        apply DetL.next
        · -- 15: Op.load 40 (Operand.tmp 65)
          apply detStep_plain [(14, some 65)]
          exact fun _ => rfl
          rfl
          rintro vals ⟨⟨⟨⟨⟨⟨⟨⟨⟨⟨⟨⟨⟨⟨⟨-, -⟩, -⟩, -⟩, -⟩, -⟩, -⟩, -⟩, -⟩, -⟩, -⟩, -⟩, -⟩, -⟩, -⟩, f14⟩ w1 hC1 E hE
          have d0 := hC1.row.cell (t - 2)
          rw [E2.out] at d0
          simp only [puts, act_put, act_put_none, List.setIfInBounds_toArray, List.set_cons_zero, List.set_cons_succ, f14] at hE ⊢
          clear f14
          go_wp2
          exact .mk (hE _ hC1)
        apply DetL.next
        · -- 16: Op.fieldAddr 34 (Operand.tmp 2) 2
          apply detStep_plain []
          exact fun _ => rfl
          rfl
          rintro vals ⟨⟨⟨⟨⟨⟨⟨⟨⟨⟨⟨⟨⟨⟨⟨⟨-, -⟩, -⟩, -⟩, -⟩, -⟩, -⟩, -⟩, -⟩, -⟩, -⟩, -⟩, -⟩, -⟩, -⟩, -⟩, -⟩ w1 hC1 E hE
          simp only [puts, act_put, act_put_none, List.setIfInBounds_toArray, List.set_cons_zero, List.set_cons_succ] at hE ⊢
          go_wp2
          exact .mk (hE _ hC1)
        apply DetL.next
        · -- 17: Op.fieldAddr 32 (Operand.tmp 67) 3
          apply detStep_plain [(16, some 67)]
          exact fun _ => rfl
          rfl
          rintro vals ⟨⟨⟨⟨⟨⟨⟨⟨⟨⟨⟨⟨⟨⟨⟨⟨⟨-, -⟩, -⟩, -⟩, -⟩, -⟩, -⟩, -⟩, -⟩, -⟩, -⟩, -⟩, -⟩, -⟩, -⟩, -⟩, -⟩, f16⟩ w1 hC1 E hE
          simp only [puts, act_put, act_put_none, List.setIfInBounds_toArray, List.set_cons_zero, List.set_cons_succ, f16] at hE ⊢
          clear f16
          go_wp2
          exact .mk (hE _ hC1)
        apply DetL.next
        · -- 18: Op.load 30 (Operand.tmp 68)
          apply detStep_plain [(17, some 68)]
          exact fun _ => rfl
          rfl
          rintro vals ⟨⟨⟨⟨⟨⟨⟨⟨⟨⟨⟨⟨⟨⟨⟨⟨⟨⟨-, -⟩, -⟩, -⟩, -⟩, -⟩, -⟩, -⟩, -⟩, -⟩, -⟩, -⟩, -⟩, -⟩, -⟩, -⟩, -⟩, -⟩, f17⟩ w1 hC1 E hE
          simp only [puts, act_put, act_put_none, List.setIfInBounds_toArray, List.set_cons_zero, List.set_cons_succ, f17] at hE ⊢
          clear f17
          refine wpList_get_part (n := 3) (r := #[.int .i64 19, .int .i64 61, .int .i64 6]) hC1.form (by decide) rfl rfl rfl rfl hu3 rfl tri64_size ?_
          go_wp2_with fail
          exact .mk (hE _ hC1)
        apply DetL.next
        · -- 19: Op.call { callee := Callee.value (Operand.func 31), args := #[Operand.tmp 61, Operand.tmp 66, Operand.tmp 69, 
          apply detStep_plain [(10, some 61), (15, some 66), (18, some 69), (9, some 60)]
          exact fun _ => rfl
          rfl
          rintro vals ⟨⟨⟨⟨⟨⟨⟨⟨⟨⟨⟨⟨⟨⟨⟨⟨⟨⟨⟨-, -⟩, -⟩, -⟩, -⟩, -⟩, -⟩, -⟩, -⟩, -⟩, f9⟩, f10⟩, -⟩, -⟩, -⟩, -⟩, f15⟩, -⟩, -⟩, f18⟩ w1 hC1 E hE
          simp only [puts, act_put, act_put_none, List.setIfInBounds_toArray, List.set_cons_zero, List.set_cons_succ, f9, f10, f15, f18] at hE ⊢
          clear f9 f10 f15 f18
          go_wp2_with fail
          refine calls_then (all64_any a2 19 61 6 true _ W2.out (by decide) (by decide) (by decide)) ?_
          rintro e w2 ⟨rfl, hb2⟩
          go_wp2_with fail
          exact .mk (hE _ (hC1.next hb2))
        apply DetL.next
        · -- 20: Op.assign (Operand.tmp 60)
          apply detStep_plain [(9, some 60), (19, some 70), (0, some 51), (1, some 52), (2, some 53), (3, some 54), (4, some 55), (5, some 56), (6, some 57), (7, some 58), (8, some 59), (9, some 60)]
          exact fun _ => rfl
          rfl
          rintro vals ⟨⟨⟨⟨⟨⟨⟨⟨⟨⟨⟨⟨⟨⟨⟨⟨⟨⟨⟨⟨-, f0⟩, f1⟩, f2⟩, f3⟩, f4⟩, f5⟩, f6⟩, f7⟩, f8⟩, f9⟩, -⟩, -⟩, -⟩, -⟩, -⟩, -⟩, -⟩, -⟩, -⟩, f19⟩ w1 hC1 E hE
          simp only [puts, act_put, act_put_none, List.setIfInBounds_toArray, List.set_cons_zero, List.set_cons_succ, f0, f1, f2, f3, f4, f5, f6, f7, f8, f9, f19] at hE ⊢
          clear f0 f1 f2 f3 f4 f5 f6 f7 f8 f9 f19
          go_wp2
          exact .mk (hE _ hC1)
        apply DetL.last
        · -- 21: Op.assign (Operand.tmp 70)
          apply detStep_plain [(19, some 70), (20, some 10), (0, some 51), (1, some 52), (2, some 53), (3, some 54), (4, some 55), (5, some 56), (6, some 57), (7, some 58), (8, some 59), (9, some 60), (10, some 61), (11, some 62), (12, some 63), (13, some 64), (14, some 65), (15, some 66), (16, some 67), (17, some 68), (18, some 69), (19, some 70), (20, some 10)]
          exact fun _ => rfl
          rfl
          rintro vals ⟨⟨⟨⟨⟨⟨⟨⟨⟨⟨⟨⟨⟨⟨⟨⟨⟨⟨⟨⟨⟨-, f0⟩, f1⟩, f2⟩, f3⟩, f4⟩, f5⟩, f6⟩, f7⟩, f8⟩, f9⟩, f10⟩, f11⟩, f12⟩, f13⟩, f14⟩, f15⟩, f16⟩, f17⟩, f18⟩, f19⟩, f20⟩ w1 hC1 E hE
          simp only [puts, act_put, act_put_none, List.setIfInBounds_toArray, List.set_cons_zero, List.set_cons_succ, f0, f1, f2, f3, f4, f5, f6, f7, f8, f9, f10, f11, f12, f13, f14, f15, f16, f17, f18, f19, f20] at hE ⊢
          clear f0 f1 f2 f3 f4 f5 f6 f7 f8 f9 f10 f11 f12 f13 f14 f15 f16 f17 f18 f19 f20
          go_wp2
          exact .mk (hE _ hC1)
        rintro vals ⟨⟨⟨⟨⟨⟨⟨⟨⟨⟨⟨⟨⟨⟨⟨⟨⟨⟨⟨⟨⟨⟨-, f0⟩, f1⟩, f2⟩, f3⟩, f4⟩, f5⟩, f6⟩, f7⟩, f8⟩, f9⟩, f10⟩, f11⟩, f12⟩, f13⟩, f14⟩, f15⟩, f16⟩, f17⟩, f18⟩, f19⟩, f20⟩, f21⟩ w1 hC1
        simp only [puts, act_put, act_put_none, List.setIfInBounds_toArray, List.set_cons_zero, List.set_cons_succ, f0, f1, f2, f3, f4, f5, f6, f7, f8, f9, f10, f11, f12, f13, f14, f15, f16, f17, f18, f19, f20, f21]
        clear f0 f1 f2 f3 f4 f5 f6 f7 f8 f9 f10 f11 f12 f13 f14 f15 f16 f17 f18 f19 f20 f21
        obtain ⟨X, hX⟩ : ∃ X : Nat, X = allN 64 a15 1 8 7 true := ⟨_, rfl⟩
        obtain ⟨Y, hY⟩ : ∃ X : Nat, X = allN 64 a2 19 61 6 true := ⟨_, rfl⟩
        rw [← hX, ← hY]
        obtain ⟨NV, hNV⟩ : ∃ v : Nat, v = (a16 + a7 + (X + Y)) % 2 ^ 64 := ⟨_, rfl⟩
        have HX := Lib.hid hX
        have HY := Lib.hid hY
        have HNV := Lib.hid hNV
        have lX : (X : Int) < 18446744073709551616 := by have := allN_lt (b := 64) (p := 1) (q := 8) (c := 7) (shift := true) W15.out; rw [← HX.out] at this; omega
        have lY : (Y : Int) < 18446744073709551616 := by have := allN_lt (b := 64) (p := 19) (q := 61) (c := 6) (shift := true) W2.out; rw [← HY.out] at this; omega
        have l16 : (a16 : Int) < 18446744073709551616 := by have := W16.out; omega
        have l7 : (a7 : Int) < 18446744073709551616 := by have := W7.out; omega
        clear HC0 hX hY hNV
        go_wp2_with fail
        have HC0 := hC1.drew
        refine wp_region_det (fun u => RowSt64 w gf gw (rowP .u64 l 0 m) u) (fun u => RowSt64 w gf gw (rowP .u64 l NV m) u) [(0, some 71), (1, some 72), (2, some 73), (3, some 74), (4, some 75), (5, some 76), (6, some 77), (7, some 78), (8, some 79), (9, some 80), (10, some 81), (11, some 82), (12, some 83), (13, some 84), (14, some 85), (15, some 86), (16, some 87), (17, some 88), (18, some 89), (19, none)] (by kernel_rfl) (by kernel_rfl) (by decide) (by kernel_rfl) (fun _ => rfl) HC0 ?_
        apply DetL.next
        · -- 0: Op.move (Operand.tmp 5)
          apply detStep_plain []
          exact fun _ => rfl
          rfl
          rintro vals - w1 hC1 E hE
          simp only [puts, act_put, act_put_none, List.setIfInBounds_toArray, List.set_cons_zero, List.set_cons_succ] at hE ⊢
          go_wp2
          exact .mk (hE _ hC1)
        apply DetL.next
        · -- 1: Op.move (Operand.tmp 7)
          apply detStep_plain []
          exact fun _ => rfl
          rfl
          rintro vals ⟨-, -⟩ w1 hC1 E hE
          simp only [puts, act_put, act_put_none, List.setIfInBounds_toArray, List.set_cons_zero, List.set_cons_succ] at hE ⊢
          go_wp2
          exact .mk (hE _ hC1)
        apply DetL.next
        · -- 2: Op.move (Operand.tmp 5)
          apply detStep_plain []
          exact fun _ => rfl
          rfl
          rintro vals ⟨⟨-, -⟩, -⟩ w1 hC1 E hE
          simp only [puts, act_put, act_put_none, List.setIfInBounds_toArray, List.set_cons_zero, List.set_cons_succ] at hE ⊢
          go_wp2
          exact .mk (hE _ hC1)
        apply DetL.next
        · -- 3: Op.move (Operand.tmp 7)
          apply detStep_plain []
          exact fun _ => rfl
          rfl
          rintro vals ⟨⟨⟨-, -⟩, -⟩, -⟩ w1 hC1 E hE
          simp only [puts, act_put, act_put_none, List.setIfInBounds_toArray, List.set_cons_zero, List.set_cons_succ] at hE ⊢
          go_wp2
          exact .mk (hE _ hC1)
        apply DetL.next
        · -- 4: Op.binOp BinOp.sub 3 (Operand.tmp 74) (Operand.const (Value.int IntKind.i64 16)) 3
          apply detStep_plain [(3, some 74)]
          exact fun _ => rfl
          rfl
          rintro vals ⟨⟨⟨⟨-, -⟩, -⟩, -⟩, f3⟩ w1 hC1 E hE
          simp only [puts, act_put, act_put_none, List.setIfInBounds_toArray, List.set_cons_zero, List.set_cons_succ, f3] at hE ⊢
          clear f3
          go_wp2
          exact .mk (hE _ hC1)
        apply DetL.next
        · -- 5: Op.indexAddr 36 (Operand.tmp 73) (Operand.tmp 75)
          apply detStep_plain [(2, some 73), (4, some 75)]
          exact fun _ => rfl
          rfl
          rintro vals ⟨⟨⟨⟨⟨-, -⟩, -⟩, f2⟩, -⟩, f4⟩ w1 hC1 E hE
          simp only [puts, act_put, act_put_none, List.setIfInBounds_toArray, List.set_cons_zero, List.set_cons_succ, f2, f4] at hE ⊢
          clear f2 f4
          go_wp2
          exact .mk (hE _ hC1)
        apply DetL.next
        · -- 6: Op.load 40 (Operand.tmp 76)
          apply detStep_plain [(5, some 76)]
          exact fun _ => rfl
          rfl
          rintro vals ⟨⟨⟨⟨⟨⟨-, -⟩, -⟩, -⟩, -⟩, -⟩, f5⟩ w1 hC1 E hE
          have d0 := hC1.row.cell (t - 16)
          rw [E16.out] at d0
          simp only [puts, act_put, act_put_none, List.setIfInBounds_toArray, List.set_cons_zero, List.set_cons_succ, f5] at hE ⊢
          clear f5
          go_wp2
          exact .mk (hE _ hC1)
        apply DetL.next
        · -- 7: Op.move (Operand.tmp 5)
          apply detStep_plain []
          exact fun _ => rfl
          rfl
          rintro vals ⟨⟨⟨⟨⟨⟨⟨-, -⟩, -⟩, -⟩, -⟩, -⟩, -⟩, -⟩ w1 hC1 E hE
          simp only [puts, act_put, act_put_none, List.setIfInBounds_toArray, List.set_cons_zero, List.set_cons_succ] at hE ⊢
          go_wp2
          exact .mk (hE _ hC1)
        apply DetL.next
        · -- 8: Op.move (Operand.tmp 7)
          apply detStep_plain []
          exact fun _ => rfl
          rfl
          rintro vals ⟨⟨⟨⟨⟨⟨⟨⟨-, -⟩, -⟩, -⟩, -⟩, -⟩, -⟩, -⟩, -⟩ w1 hC1 E hE
          simp only [puts, act_put, act_put_none, List.setIfInBounds_toArray, List.set_cons_zero, List.set_cons_succ] at hE ⊢
          go_wp2
          exact .mk (hE _ hC1)
        apply DetL.next
        · -- 9: Op.binOp BinOp.sub 3 (Operand.tmp 79) (Operand.const (Value.int IntKind.i64 7)) 3
          apply detStep_plain [(8, some 79)]
          exact fun _ => rfl
          rfl
          rintro vals ⟨⟨⟨⟨⟨⟨⟨⟨⟨-, -⟩, -⟩, -⟩, -⟩, -⟩, -⟩, -⟩, -⟩, f8⟩ w1 hC1 E hE
          simp only [puts, act_put, act_put_none, List.setIfInBounds_toArray, List.set_cons_zero, List.set_cons_succ, f8] at hE ⊢
          clear f8
          go_wp2
          exact .mk (hE _ hC1)
        apply DetL.next
        · -- 10: Op.indexAddr 36 (Operand.tmp 78) (Operand.tmp 80)
          apply detStep_plain [(7, some 78), (9, some 80)]
          exact fun _ => rfl
          rfl
          rintro vals ⟨⟨⟨⟨⟨⟨⟨⟨⟨⟨-, -⟩, -⟩, -⟩, -⟩, -⟩, -⟩, -⟩, f7⟩, -⟩, f9⟩ w1 hC1 E hE
          simp only [puts, act_put, act_put_none, List.setIfInBounds_toArray, List.set_cons_zero, List.set_cons_succ, f7, f9] at hE ⊢
          clear f7 f9
          go_wp2
          exact .mk (hE _ hC1)
        apply DetL.next
        · -- 11: Op.load 40 (Operand.tmp 81)
          apply detStep_plain [(10, some 81)]
          exact fun _ => rfl
          rfl
          rintro vals ⟨⟨⟨⟨⟨⟨⟨⟨⟨⟨⟨-, -⟩, -⟩, -⟩, -⟩, -⟩, -⟩, -⟩, -⟩, -⟩, -⟩, f10⟩ w1 hC1 E hE
          have d0 := hC1.row.cell (t - 7)
          rw [E7.out] at d0
          simp only [puts, act_put, act_put_none, List.setIfInBounds_toArray, List.set_cons_zero, List.set_cons_succ, f10] at hE ⊢
          clear f10
          go_wp2
          exact .mk (hE _ hC1)
        apply DetL.next
        · -- 12: Op.binOp BinOp.add 40 (Operand.tmp 77) (Operand.tmp 82) 40
          apply detStep_plain [(6, some 77), (11, some 82)]
          exact fun _ => rfl
          rfl
          rintro vals ⟨⟨⟨⟨⟨⟨⟨⟨⟨⟨⟨⟨-, -⟩, -⟩, -⟩, -⟩, -⟩, -⟩, f6⟩, -⟩, -⟩, -⟩, -⟩, f11⟩ w1 hC1 E hE
          simp only [puts, act_put, act_put_none, List.setIfInBounds_toArray, List.set_cons_zero, List.set_cons_succ, f6, f11] at hE ⊢
          clear f6 f11
          go_wp2
          exact .mk (hE _ hC1)
        apply DetL.next
        · -- 13: Op.move (Operand.tmp 10)
          apply detStep_plain []
          exact fun _ => rfl
          rfl
          rintro vals ⟨⟨⟨⟨⟨⟨⟨⟨⟨⟨⟨⟨⟨-, -⟩, -⟩, -⟩, -⟩, -⟩, -⟩, -⟩, -⟩, -⟩, -⟩, -⟩, -⟩, -⟩ w1 hC1 E hE
          simp only [puts, act_put, act_put_none, List.setIfInBounds_toArray, List.set_cons_zero, List.set_cons_succ] at hE ⊢
          go_wp2
          exact .mk (hE _ hC1)
        apply DetL.next
        · -- 14: Op.move (Operand.tmp 11)
          apply detStep_plain []
          exact fun _ => rfl
          rfl
          rintro vals ⟨⟨⟨⟨⟨⟨⟨⟨⟨⟨⟨⟨⟨⟨-, -⟩, -⟩, -⟩, -⟩, -⟩, -⟩, -⟩, -⟩, -⟩, -⟩, -⟩, -⟩, -⟩, -⟩ w1 hC1 E hE
          simp only [puts, act_put, act_put_none, List.setIfInBounds_toArray, List.set_cons_zero, List.set_cons_succ] at hE ⊢
          go_wp2
          exact .mk (hE _ hC1)
        apply DetL.next
        · -- 15: Op.binOp BinOp.add 40 (Operand.tmp 84) (Operand.tmp 85) 40
          apply detStep_plain [(13, some 84), (14, some 85)]
          exact fun _ => rfl
          rfl
          rintro vals ⟨⟨⟨⟨⟨⟨⟨⟨⟨⟨⟨⟨⟨⟨⟨-, -⟩, -⟩, -⟩, -⟩, -⟩, -⟩, -⟩, -⟩, -⟩, -⟩, -⟩, -⟩, -⟩, f13⟩, f14⟩ w1 hC1 E hE
          simp only [puts, act_put, act_put_none, List.setIfInBounds_toArray, List.set_cons_zero, List.set_cons_succ, f13, f14] at hE ⊢
          clear f13 f14
          go_wp2
          exact .mk (hE _ hC1)
        apply DetL.next
        · -- 16: Op.call { callee := Callee.value (Operand.func 28), args := #[Operand.tmp 86], argTypes := #[40] }
          apply detStep_plain [(15, some 86)]
          exact fun _ => rfl
          rfl
          rintro vals ⟨⟨⟨⟨⟨⟨⟨⟨⟨⟨⟨⟨⟨⟨⟨⟨-, -⟩, -⟩, -⟩, -⟩, -⟩, -⟩, -⟩, -⟩, -⟩, -⟩, -⟩, -⟩, -⟩, -⟩, -⟩, f15⟩ w1 hC1 E hE
          simp only [puts, act_put, act_put_none, List.setIfInBounds_toArray, List.set_cons_zero, List.set_cons_succ, f15] at hE ⊢
          clear f15
          go_wp2_with fail
          rw [sum64w X Y]
          refine calls_then (cut64_any _ _ (Nat.mod_lt _ (by decide))) ?_
          rintro e w2 ⟨rfl, rfl⟩
          go_wp2_with fail
          exact .mk (hE _ hC1)
        apply DetL.next
        · -- 17: Op.binOp BinOp.add 40 (Operand.tmp 83) (Operand.tmp 87) 40
          apply detStep_plain [(12, some 83), (16, some 87)]
          exact fun _ => rfl
          rfl
          rintro vals ⟨⟨⟨⟨⟨⟨⟨⟨⟨⟨⟨⟨⟨⟨⟨⟨⟨-, -⟩, -⟩, -⟩, -⟩, -⟩, -⟩, -⟩, -⟩, -⟩, -⟩, -⟩, -⟩, f12⟩, -⟩, -⟩, -⟩, f16⟩ w1 hC1 E hE
          simp only [puts, act_put, act_put_none, List.setIfInBounds_toArray, List.set_cons_zero, List.set_cons_succ, f12, f16] at hE ⊢
          clear f12 f16
          go_wp2
          rw [sum64f a16 a7 X Y, ← HNV.out]
          exact .mk (hE _ hC1)
        apply DetL.next
        · -- 18: Op.indexAddr 36 (Operand.tmp 71) (Operand.tmp 72)
          apply detStep_plain [(0, some 71), (1, some 72), (0, some 71), (1, some 72), (2, some 73), (3, some 74), (4, some 75), (5, some 76), (6, some 77), (7, some 78), (8, some 79), (9, some 80), (10, some 81), (11, some 82), (12, some 83), (13, some 84), (14, some 85), (15, some 86), (16, some 87), (17, some 88)]
          exact fun _ => rfl
          rfl
          rintro vals ⟨⟨⟨⟨⟨⟨⟨⟨⟨⟨⟨⟨⟨⟨⟨⟨⟨⟨-, f0⟩, f1⟩, f2⟩, f3⟩, f4⟩, f5⟩, f6⟩, f7⟩, f8⟩, f9⟩, f10⟩, f11⟩, f12⟩, f13⟩, f14⟩, f15⟩, f16⟩, f17⟩ w1 hC1 E hE
          simp only [puts, act_put, act_put_none, List.setIfInBounds_toArray, List.set_cons_zero, List.set_cons_succ, f0, f1, f2, f3, f4, f5, f6, f7, f8, f9, f10, f11, f12, f13, f14, f15, f16, f17] at hE ⊢
          clear f0 f1 f2 f3 f4 f5 f6 f7 f8 f9 f10 f11 f12 f13 f14 f15 f16 f17
          go_wp2
          exact .mk (hE _ hC1)
        apply DetL.last (v := undef)
        · -- 19: Op.store 40 (Operand.tmp 89) (Operand.tmp 88)
          apply detStep_plain [(18, some 89), (17, some 88), (16, some 87), (0, some 71), (1, some 72), (2, some 73), (3, some 74), (4, some 75), (5, some 76), (6, some 77), (7, some 78), (8, some 79), (9, some 80), (10, some 81), (11, some 82), (12, some 83), (13, some 84), (14, some 85), (15, some 86), (16, some 87), (17, some 88)]
          exact fun _ => rfl
          rfl
          rintro vals ⟨⟨⟨⟨⟨⟨⟨⟨⟨⟨⟨⟨⟨⟨⟨⟨⟨⟨⟨-, f0⟩, f1⟩, f2⟩, f3⟩, f4⟩, f5⟩, f6⟩, f7⟩, f8⟩, f9⟩, f10⟩, f11⟩, f12⟩, f13⟩, f14⟩, f15⟩, f16⟩, f17⟩, f18⟩ w1 hC1 E hE
          simp only [puts, act_put, act_put_none, List.setIfInBounds_toArray, List.set_cons_zero, List.set_cons_succ, f0, f1, f2, f3, f4, f5, f6, f7, f8, f9, f10, f11, f12, f13, f14, f15, f16, f17, f18] at hE ⊢
          clear f0 f1 f2 f3 f4 f5 f6 f7 f8 f9 f10 f11 f12 f13 f14 f15 f16 f17 f18
          refine wpList_put_cell (i := t) (v := .int .u64 (NV : Int)) hC1.row rfl rfl rfl rfl one64 (by rw [rowP_size, HLEN.out]; omega) rfl ?_
          intro w2 hb2 hw2
          go_wp2_with fail
          exact .mk (hE _ (hC1.put hw2 (by have h9 := rowP_set .u64 l 0 NV m; rw [HLEN.out] at h9; rw [h9] at hb2; exact hb2)))
        rintro vals ⟨⟨⟨⟨⟨⟨⟨⟨⟨⟨⟨⟨⟨⟨⟨⟨⟨⟨⟨⟨-, f0⟩, f1⟩, f2⟩, f3⟩, f4⟩, f5⟩, f6⟩, f7⟩, f8⟩, f9⟩, f10⟩, f11⟩, f12⟩, f13⟩, f14⟩, f15⟩, f16⟩, f17⟩, f18⟩, f19⟩ w1 hC1
        simp only [puts, act_put, act_put_none, List.setIfInBounds_toArray, List.set_cons_zero, List.set_cons_succ, f0, f1, f2, f3, f4, f5, f6, f7, f8, f9, f10, f11, f12, f13, f14, f15, f16, f17, f18, f19]
        clear f0 f1 f2 f3 f4 f5 f6 f7 f8 f9 f10 f11 f12 f13 f14 f15 f16 f17 f18 f19
        have hfin : RowSt64 w gf gw (rowC .u64 (rowW F64 blk (t + 1)) (80 - (t + 1))) w1 := by
          rw [rowP_end] at hC1
          rw [rowW, if_neg h16, ← HL'.out, show 80 - (t + 1) = m by rw [HM.out]; omega]
          have : nextW F64 l t = NV := by
            rw [HNV.out, nextW, ← H16.out, ← H7.out, ← H15.out, ← H2.out, HX.out, HY.out]; rfl
          rw [this]
          exact hC1
        have HFIN := Lib.hid hfin
        clear hfin hC1 HC0
        go_wp2_with fail
        exact ⟨⟨t + 1, hlt, by go_num, HFIN.out⟩, by simp [intOf]; omega⟩
    · have hge : ¬ (t : Int) < 80 := by omega
      go_wp2_with fail
      go_ret
      obtain rfl : t = 80 := by omega
      exact ⟨gw, rfl, by rw [HGF.out]; have := hst.lw; omega, hst.row, by rw [HGF.out]; exact hst.below⟩
end Go.Proofs.YtfpbcihpjcocmaaDoor
