/-
  Joined texts: Row32 Mix32 ShaS SumC Sum32 Top2 Fld Fw Fa Fl Ml Fq Byt Fb Fv Rdp Rb Rl Nam TurnR RefT Rdx RefX ShaH RefB8 Dgs.
-/
import Derived.Deep.DeepCutAuto
import Derived.Test.YtoihgnkhalhocaaGreatDoorProg
import Derived.BigQuiet
import Derived.Deep.QuietTactic
import Derived.IntWalk
import Derived.Shelf.Bits.Mul64
import Derived.Shelf.Spec.BitsCarry
import Derived.Stop.BytesEq
import Derived.Laws.MakeOwn
import Derived.Laws.OwnMore
import Derived.Test.YtoihgnkhalhocaaGreatDoorH2
import Derived.Test.YtoihgnkhalhocaaGreatDoorH1
/-
  Walk: sha's row, words of 32 bits.
-/
namespace Go.Proofs.YtoihgnkhalhocaaGreatDoor.Sh
set_option linter.unusedSimpArgs false
set_option linter.unusedVariables false
open Go.RowKit
theorem elem32 : (Tryz.prog.info? 136).map (fun i => (i.zero, i.size, i.bytes)) = some (some (.int .u32 0), 1, 4) := by kernel_rfl
theorem one32 : (Tryz.prog.info? 136).map (·.size) = some 1 := by kernel_rfl
theorem tri32_size : (Tryz.prog.info? 137).map (·.size) = some 3 := by kernel_rfl
def RowPost32 (blk : List UInt8) (w : World) (e : Ending) (w' : World) : Prop :=
  ∃ g, e = .returned (.slice (some ⟨g, 0, none⟩) 64 64) ∧ w.heap.size ≤ g ∧ Blk w' g 136 (rowC .u32 (rowW F32 blk 64) 0) ∧ Below w.heap.size w w'
structure RowSt32 (w : World) (gf gw : Nat) (cs : Array Value) (u : World) : Prop where
  below : Below gf w u
  form : Blk u gf 141 f32C
  row : Blk u gw 136 cs
  lw : gf < gw
theorem RowSt32.put {w u u' : World} {gf gw : Nat} {cs cs' : Array Value} (h : RowSt32 w gf gw cs u) (hw : Wrote gw u u') (hb : Blk u' gw 136 cs') : RowSt32 w gf gw cs' u' :=
  ⟨hw.below h.below (by have := h.lw; omega) (by have := h.form.lt; omega), hw.blk h.form (by have := h.lw; omega), hb, h.lw⟩
theorem RowSt32.next {w u u' : World} {gf gw : Nat} {cs : Array Value} (h : RowSt32 w gf gw cs u) (hb : Below u.heap.size u u') : RowSt32 w gf gw cs u' :=
  ⟨h.below.trans (hb.mono (by have := h.form.lt; omega)), h.form.below hb h.form.lt, h.row.below hb h.row.lt, h.lw⟩
theorem RowSt32.drew {w u : World} {gf gw : Nat} {cs : Array Value} (h : RowSt32 w gf gw cs u) : RowSt32 w gf gw cs u.drew := ⟨h.below.drew, h.form, h.row, h.lw⟩
theorem rowSt32_start (w : World) (cs : Array Value) : RowSt32 w w.heap.size (w.heap.size + 1) cs ((w.alloc (.cells f32C 141)).alloc (.cells cs 136)) :=
  ⟨(below_new _ _).alloc (by simp) _, (Blk.new _ _ _).alloc _, by have := Blk.new (w.alloc (.cells f32C 141)) 136 cs; simpa using this, by omega⟩
set_option maxRecDepth 100000 in
set_option maxHeartbeats 4000000 in
theorem row32_any (blk : List UInt8) (A : Option Addr) (c B : Nat) (w : World) (hr : Rd w B A (bytesV blk)) (hB : B ≤ w.heap.size) (hl : blk.length = 64) (hc : blk.length ≤ c) (hcm : c ≤ 9223372036854775807) :
    Calls Tryz.prog 146 #[.agg f32C, .slice A blk.length c] w (RowPost32 blk w) := by
  obtain ⟨W0, hW0⟩ : ∃ W0, W0 = w.alloc (.cells f32C 141) := ⟨_, rfl⟩
  have hb0 : Below w.heap.size w W0 := by rw [hW0]; exact below_new _ _
  have hbf : Blk W0 w.heap.size 141 f32C := by rw [hW0]; exact Blk.new _ _ _
  have hs0 : W0.heap.size = w.heap.size + 1 := by rw [hW0]; simp
  have c0 := hbf.cell 0
  have c1 := hbf.cell 1
  simp only [f32C, List.getElem?_toArray, List.getElem?_cons_zero, List.getElem?_cons_succ] at c0 c1
  rw [hW0, f32C] at c0 c1
  have HB := Lib.hid hb0
  have HF := Lib.hid hbf
  have HS := Lib.hid hs0
  have HR := Lib.hid (hr.mono hB)
  have HL := Lib.hid hl
  have HW := Lib.hid hW0
  obtain ⟨ie, hie, hez, hes, heb⟩ := info_parts elem32
  have hc2 : 64 ≤ c := by omega
  clear hb0 hbf hs0 hr hW0 HB HF HS hl hc
  rw [HL.out]
  rw [f32C]
  have hmk : ∀ u : World, (Instr.makeSlice 189 (.int .i64 64) (.int .i64 64)).run Tryz.prog u = .ok (.slice (some ⟨u.heap.size, 0, none⟩) 64 64) (u.alloc (.cells (rowC .u32 [] 64) 136)) := fun _ => by kernel_rfl
  go_enter Tryz.func146, Tryz.ntmps146
  go_wp2_with fail
  have hst0 := rowSt32_start w (rowC .u32 (rowW F32 blk 0) (64 - 0))
  generalize hgw : w.heap.size + 1 = gw at *
  generalize hgf : w.heap.size = gf at *
  have HGF := Lib.hid hgf
  clear hgf hgw c0 c1 hmk
  go_loopw [20] (fun i wr => ∃ t : Nat, t ≤ 64 ∧ i = .int .i64 t ∧ RowSt32 w gf gw (rowC .u32 (rowW F32 blk t) (64 - t)) wr) (fun i _ => 64 - (intOf i).toNat)
  case atStart => exact ⟨0, by omega, rfl, hst0⟩
  case round =>
    obtain ⟨t, ht, rfl, hst⟩ := hrel
    clear hst0
    have hlen := rowW_length F32 blk t
    by_cases hlt : t < 64
    · have hlt' : (t : Int) < 64 := by omega
      by_cases h16 : t < 16
      · have h16' : (t : Int) < 16 := by omega
        rw [show 64 - t = (64 - t - 1) + 1 by omega, rowC_start] at hst
        obtain ⟨l, hl'⟩ : ∃ l, l = rowW F32 blk t := ⟨_, rfl⟩
        obtain ⟨m, hm⟩ : ∃ m, m = 64 - t - 1 := ⟨_, rfl⟩
        rw [← hl'] at hst hlen
        rw [← hm] at hst
        have HL' := Lib.hid hl'
        have HM := Lib.hid hm
        have HLEN := Lib.hid hlen
        have HST := Lib.hid hst
        clear hl' hm hlen hst
        obtain ⟨ad, rfl, hadB, _⟩ := (HR.out.below HST.out.below).at_ (k := t * 4) (by rw [bytesV_length, HL.out]; omega)
        go_wp2_with fail
        rw [show (t + 1) * 4 - t * 4 = 4 by omega]
        obtain ⟨pc, hpc⟩ : ∃ x, x = (blk.drop (t * 4)).take 4 := ⟨_, rfl⟩
        have hpl : pc.length = 4 := by rw [hpc]; simp; rw [HL.out]; omega
        have hrp : Rd w gf (some (ad.add (t * 4))) (bytesV pc) := by rw [hpc, bytesV, List.map_take, List.map_drop]; exact rd_take (rd_drop HR.out (t * 4)) 4
        have HPC := Lib.hid hpc
        have HRP := Lib.hid hrp
        have HPL := Lib.hid hpl
        clear hpc hrp hpl
        obtain ⟨wo, rfl⟩ : ∃ wo : World, wo = wr := ⟨_, rfl⟩
        go_loopw [35] (fun i wi => ∃ j : Nat, j ≤ 4 ∧ i = .int .i64 j ∧ RowSt32 w gf gw (rowP .u32 l (beN (pc.take j)) m) wi) (fun i _ => 4 - (intOf i).toNat)
        case atStart => exact ⟨0, by omega, rfl, by simpa [beN] using HST.out⟩
        case round =>
          obtain ⟨j, hj, rfl, hsi⟩ := hrel
          by_cases hjl : j < 4
          · have hjl' : (j : Int) < 4 := by omega
            have hpj : j < pc.length := by rw [HPL.out]; exact hjl
            obtain ⟨ad', hae, _, hcell⟩ := (HRP.out.below hsi.below).at_ (k := j) (by rw [bytesV_length]; exact hpj)
            injection hae with hae
            subst hae
            obtain ⟨z, hz⟩ : ∃ z, z = pc[j] := ⟨_, rfl⟩
            have hcl : wr.cell? ((ad.add (t * 4)).add j) = some (.int .u8 (z.toNat : Int)) := by rw [hcell, hz]; simp [bytesV, byteV]
            have hzl := z.toNat_lt
            have hzl2 : (z.toNat : Int) < 256 := by omega
            obtain ⟨x, hx⟩ : ∃ x, x = beN (pc.take j) := ⟨_, rfl⟩
            have hxl : x < 256 ^ j := by
              rw [hx]
              have h1 := beN_lt (pc.take j)
              have h2 : (pc.take j).length ≤ j := List.length_take_le _ _
              exact Nat.lt_of_lt_of_le h1 (Nat.pow_le_pow_right (by omega) h2)
            have hst : beN (pc.take (j + 1)) = x * 256 + z.toNat := by
              rw [List.take_succ_eq_append_getElem hpj, beN_snoc, hx, hz]
            rw [← hx] at hsi
            have crow := hsi.row.cell t
            rw [show (rowP .u32 l x m)[t]? = some (.int .u32 (x : Int)) by have := rowP_at .u32 l x m; rwa [HLEN.out] at this] at crow
            have frow := hsi.row.free t
            have HSI := Lib.hid hsi
            have HST2 := Lib.hid hst
            have HXL := Lib.hid hxl
            clear hcell hz hx hst hsi hpj hxl
            go_wp2_with fail
            refine ⟨⟨j + 1, hjl, by go_num, ?_⟩, by simp [intOf]; omega⟩
            have hx8 : x < 256 ^ (4 - 1) := Nat.lt_of_lt_of_le HXL.out (Nat.pow_le_pow_right (by omega) (by omega))
            rw [or_byte32 x z.toNat hx8 hzl, HST2.out]
            refine HSI.out.put (wrote_setCell_at _ _ _ _) ?_
            have := blk_setCell_at (i := t) HSI.out.row (.int .u32 ((x * 256 + z.toNat : Nat) : Int))
            have h9 := rowP_set .u32 l x (x * 256 + z.toNat) m
            rw [HLEN.out] at h9
            rwa [h9] at this
          · have hjl' : ¬ (j : Int) < 4 := by omega
            have hfin : RowSt32 w gf gw (rowC .u32 (rowW F32 blk (t + 1)) (64 - (t + 1))) wr := by
              obtain rfl : j = 4 := by omega
              rw [rowP_end, List.take_of_length_le (by rw [HPL.out]; omega)] at hsi
              rw [rowW, if_pos h16, ← HL'.out, show 64 - (t + 1) = m by rw [HM.out]; omega]
              rw [show pieceN (F32.bits / 8) blk t = beN pc by rw [HPC.out]; rfl]
              exact hsi
            have HFIN := Lib.hid hfin
            clear hfin hsi
            go_wp2_with fail
            exact ⟨⟨t + 1, hlt, by go_num, HFIN.out⟩, by simp [intOf]; omega⟩
      · have h16' : ¬ (t : Int) < 16 := by omega
        rw [show 64 - t = (64 - t - 1) + 1 by omega, rowC_start] at hst
        obtain ⟨l, hl'⟩ : ∃ l, l = rowW F32 blk t := ⟨_, rfl⟩
        obtain ⟨m, hm⟩ : ∃ m, m = 64 - t - 1 := ⟨_, rfl⟩
        have hlw : ∀ i, l.getD i 0 < 2 ^ 32 := by rw [hl']; exact getD_lt (rowW_lt F32 (by decide) blk t) (by decide)
        rw [← hl'] at hst hlen
        rw [← hm] at hst
        have HL' := Lib.hid hl'
        have HM := Lib.hid hm
        have HLEN := Lib.hid hlen
        have HLW := Lib.hid hlw
        obtain ⟨a15, h15⟩ : ∃ x, x = l.getD (t - 15) 0 := ⟨_, rfl⟩
        obtain ⟨a2, h2⟩ : ∃ x, x = l.getD (t - 2) 0 := ⟨_, rfl⟩
        obtain ⟨a16, h16e⟩ : ∃ x, x = l.getD (t - 16) 0 := ⟨_, rfl⟩
        obtain ⟨a7, h7⟩ : ∃ x, x = l.getD (t - 7) 0 := ⟨_, rfl⟩
        have w15 : a15 < 2 ^ 32 := by rw [h15]; exact hlw _
        have w2 : a2 < 2 ^ 32 := by rw [h2]; exact hlw _
        have w16 : a16 < 2 ^ 32 := by rw [h16e]; exact hlw _
        have w7 : a7 < 2 ^ 32 := by rw [h7]; exact hlw _
        have e15 : (rowP .u32 l 0 m)[t - 15]? = some (.int .u32 (a15 : Int)) := by rw [rowP_get _ _ _ _ _ (by omega), h15]
        have e2 : (rowP .u32 l 0 m)[t - 2]? = some (.int .u32 (a2 : Int)) := by rw [rowP_get _ _ _ _ _ (by omega), h2]
        have e16 : (rowP .u32 l 0 m)[t - 16]? = some (.int .u32 (a16 : Int)) := by rw [rowP_get _ _ _ _ _ (by omega), h16e]
        have e7 : (rowP .u32 l 0 m)[t - 7]? = some (.int .u32 (a7 : Int)) := by rw [rowP_get _ _ _ _ _ (by omega), h7]
        have E15 := Lib.hid e15
        have E2 := Lib.hid e2
        have E16 := Lib.hid e16
        have E7 := Lib.hid e7
        have W15 := Lib.hid (show a15 < 18446744073709551616 by omega)
        have W2 := Lib.hid (show a2 < 18446744073709551616 by omega)
        have W16 := Lib.hid w16
        have W7 := Lib.hid w7
        have H15 := Lib.hid h15
        have H2 := Lib.hid h2
        have H16 := Lib.hid h16e
        have H7 := Lib.hid h7
        have i15 : (a15 : Int) < 4294967296 := by omega
        have i2 : (a2 : Int) < 4294967296 := by omega
        clear hl' hm hlen hlw h15 h2 h16e h7 w15 w2 w16 w7 e15 e2 e16 e7
        have hu := Tryz.underlying141
        have hu3 := Tryz.underlying137
        have HC0 := hst.drew
        clear hst
        go_wp2_with fail
        refine wp_region_seq (fun u => RowSt32 w gf gw (rowP .u32 l 0 m) u) (by kernel_rfl) (by kernel_rfl) HC0 ?_
        apply SeqL.next
        · rfl
        · rfl
        · simp only [act_put, act_put_none, List.setIfInBounds_toArray, List.set_cons_zero, List.set_cons_succ]
          rfl
        · intro w1 hC1 E hE
          refine wpList_get_box hC1.form rfl rfl rfl hu rfl form_size ?_
          go_wp2_with fail
          exact .mk (hE _ hC1)
        iterate 4
          ((first | (apply SeqL.next; rfl; rfl)); (simp only [act_put, act_put_none, List.setIfInBounds_toArray, List.set_cons_zero, List.set_cons_succ]; rfl); (intro w1 hC1 E hE; go_wp2; exact .mk (hE _ hC1)))
        apply SeqL.next
        · rfl
        · rfl
        · simp only [act_put, act_put_none, List.setIfInBounds_toArray, List.set_cons_zero, List.set_cons_succ]
          rfl
        · intro w1 hC1 E hE
          have d0 := hC1.row.cell (t - 15)
          rw [E15.out] at d0
          go_wp2
          exact .mk (hE _ hC1)
        iterate 3
          ((first | (apply SeqL.next; rfl; rfl)); (simp only [act_put, act_put_none, List.setIfInBounds_toArray, List.set_cons_zero, List.set_cons_succ]; rfl); (intro w1 hC1 E hE; go_wp2; exact .mk (hE _ hC1)))
        apply SeqL.next
        · rfl
        · rfl
        · simp only [act_put, act_put_none, List.setIfInBounds_toArray, List.set_cons_zero, List.set_cons_succ]
          rfl
        · intro w1 hC1 E hE
          refine wpList_get_part (n := 3) (r := #[.int .i64 7, .int .i64 18, .int .i64 3]) hC1.form (by decide) rfl rfl rfl rfl hu3 rfl tri32_size ?_
          go_wp2_with fail
          exact .mk (hE _ hC1)
        apply SeqL.next
        · rfl
        · rfl
        · simp only [act_put, act_put_none, List.setIfInBounds_toArray, List.set_cons_zero, List.set_cons_succ]
          rfl
        · intro w1 hC1 E hE
          go_wp2_with fail
          refine calls_then (all32_any a15 7 18 3 true _ W15.out (by decide) (by decide) (by decide)) ?_
          rintro e w2 ⟨rfl, hb2⟩
          go_wp2_with fail
          exact .mk (hE _ (hC1.next hb2))
        apply SeqL.next
        · rfl
        · rfl
        · simp only [act_put, act_put_none, List.setIfInBounds_toArray, List.set_cons_zero, List.set_cons_succ]
          rfl
        · intro w1 hC1 E hE
          refine wpList_get_box hC1.form rfl rfl rfl hu rfl form_size ?_
          go_wp2_with fail
          exact .mk (hE _ hC1)
        iterate 4
          ((first | (apply SeqL.next; rfl; rfl)); (simp only [act_put, act_put_none, List.setIfInBounds_toArray, List.set_cons_zero, List.set_cons_succ]; rfl); (intro w1 hC1 E hE; go_wp2; exact .mk (hE _ hC1)))
        apply SeqL.next
        · rfl
        · rfl
        · simp only [act_put, act_put_none, List.setIfInBounds_toArray, List.set_cons_zero, List.set_cons_succ]
          rfl
        · intro w1 hC1 E hE
          have d0 := hC1.row.cell (t - 2)
          rw [E2.out] at d0
          go_wp2
          exact .mk (hE _ hC1)
        iterate 3
          ((first | (apply SeqL.next; rfl; rfl)); (simp only [act_put, act_put_none, List.setIfInBounds_toArray, List.set_cons_zero, List.set_cons_succ]; rfl); (intro w1 hC1 E hE; go_wp2; exact .mk (hE _ hC1)))
        apply SeqL.next
        · rfl
        · rfl
        · simp only [act_put, act_put_none, List.setIfInBounds_toArray, List.set_cons_zero, List.set_cons_succ]
          rfl
        · intro w1 hC1 E hE
          refine wpList_get_part (n := 3) (r := #[.int .i64 17, .int .i64 19, .int .i64 10]) hC1.form (by decide) rfl rfl rfl rfl hu3 rfl tri32_size ?_
          go_wp2_with fail
          exact .mk (hE _ hC1)
        apply SeqL.next
        · rfl
        · rfl
        · simp only [act_put, act_put_none, List.setIfInBounds_toArray, List.set_cons_zero, List.set_cons_succ]
          rfl
        · intro w1 hC1 E hE
          go_wp2_with fail
          refine calls_then (all32_any a2 17 19 10 true _ W2.out (by decide) (by decide) (by decide)) ?_
          rintro e w2 ⟨rfl, hb2⟩
          go_wp2_with fail
          exact .mk (hE _ (hC1.next hb2))
        iterate 2
          ((first | (apply SeqL.next; rfl; rfl)); (simp only [act_put, act_put_none, List.setIfInBounds_toArray, List.set_cons_zero, List.set_cons_succ]; rfl); (intro w1 hC1 E hE; go_wp2; exact .mk (hE _ hC1)))
        refine SeqL.nil ?_
        intro w1 hC1
        obtain ⟨X, hX⟩ : ∃ X : Nat, X = allN 32 a15 7 18 3 true := ⟨_, rfl⟩
        obtain ⟨Y, hY⟩ : ∃ X : Nat, X = allN 32 a2 17 19 10 true := ⟨_, rfl⟩
        rw [← hX, ← hY]
        obtain ⟨NV, hNV⟩ : ∃ v : Nat, v = (a16 + a7 + (X + Y)) % 2 ^ 32 := ⟨_, rfl⟩
        have HX := Lib.hid hX
        have HY := Lib.hid hY
        have HNV := Lib.hid hNV
        have lX : (X : Int) < 18446744073709551616 := by have := allN_lt (b := 32) (p := 7) (q := 18) (c := 3) (shift := true) W15.out; rw [← HX.out] at this; omega
        have lY : (Y : Int) < 18446744073709551616 := by have := allN_lt (b := 32) (p := 17) (q := 19) (c := 10) (shift := true) W2.out; rw [← HY.out] at this; omega
        have l16 : (a16 : Int) < 4294967296 := by have := W16.out; omega
        have l7 : (a7 : Int) < 4294967296 := by have := W7.out; omega
        clear HC0 hX hY hNV
        go_wp2_with fail
        have HC0 := hC1.drew
        refine wp_region_seqt (fun u => RowSt32 w gf gw (rowP .u32 l 0 m) u) (fun _ => false) 19 (by kernel_rfl) (by kernel_rfl) (by decide) (by kernel_rfl) HC0 ?_
        simp only [List.take_succ_cons, List.take_zero, List.drop_succ_cons, List.drop_zero]
        iterate 6
          ((first | (apply SeqL.next; rfl; rfl)); (simp only [act_put, act_put_none, List.setIfInBounds_toArray, List.set_cons_zero, List.set_cons_succ]; rfl); (intro w1 hC1 E hE; go_wp2; exact .mk (hE _ hC1)))
        apply SeqL.next
        · rfl
        · rfl
        · simp only [act_put, act_put_none, List.setIfInBounds_toArray, List.set_cons_zero, List.set_cons_succ]
          rfl
        · intro w1 hC1 E hE
          have d0 := hC1.row.cell (t - 16)
          rw [E16.out] at d0
          go_wp2
          exact .mk (hE _ hC1)
        iterate 4
          ((first | (apply SeqL.next; rfl; rfl)); (simp only [act_put, act_put_none, List.setIfInBounds_toArray, List.set_cons_zero, List.set_cons_succ]; rfl); (intro w1 hC1 E hE; go_wp2; exact .mk (hE _ hC1)))
        apply SeqL.next
        · rfl
        · rfl
        · simp only [act_put, act_put_none, List.setIfInBounds_toArray, List.set_cons_zero, List.set_cons_succ]
          rfl
        · intro w1 hC1 E hE
          have d0 := hC1.row.cell (t - 7)
          rw [E7.out] at d0
          go_wp2
          exact .mk (hE _ hC1)
        iterate 4
          ((first | (apply SeqL.next; rfl; rfl)); (simp only [act_put, act_put_none, List.setIfInBounds_toArray, List.set_cons_zero, List.set_cons_succ]; rfl); (intro w1 hC1 E hE; go_wp2; exact .mk (hE _ hC1)))
        apply SeqL.next
        · rfl
        · rfl
        · simp only [act_put, act_put_none, List.setIfInBounds_toArray, List.set_cons_zero, List.set_cons_succ]
          rfl
        · intro w1 hC1 E hE
          go_wp2_with fail
          rw [sum64w X Y]
          refine calls_then (cut32_any _ _ (Nat.mod_lt _ (by decide))) ?_
          rintro e w2 ⟨rfl, rfl⟩
          go_wp2_with fail
          exact .mk (hE _ hC1)
        apply SeqL.next
        · rfl
        · rfl
        · simp only [act_put, act_put_none, List.setIfInBounds_toArray, List.set_cons_zero, List.set_cons_succ]
          rfl
        · intro w1 hC1 E hE
          go_wp2
          rw [sum32f a16 a7 X Y, ← HNV.out]
          exact .mk (hE _ hC1)
        iterate 1
          ((first | (apply SeqL.next; rfl; rfl)); (simp only [act_put, act_put_none, List.setIfInBounds_toArray, List.set_cons_zero, List.set_cons_succ]; rfl); (intro w1 hC1 E hE; go_wp2; exact .mk (hE _ hC1)))
        refine SeqL.nil ?_
        apply SeqT.last (v := undef) (D := fun u => RowSt32 w gf gw (rowP .u32 l NV m) u)
        · rfl
        · exact act_put_none _ _
        · intro w1 hC1 E hE
          refine wpList_put_cell (i := t) (v := .int .u32 (NV : Int)) hC1.row rfl rfl rfl rfl one32 (by rw [rowP_size, HLEN.out]; omega) rfl ?_
          intro w2 hb2 hw2
          go_wp2_with fail
          exact .mk (hE _ (hC1.put hw2 (by have h9 := rowP_set .u32 l 0 NV m; rw [HLEN.out] at h9; rw [h9] at hb2; exact hb2)))
        intro w1 hC1
        have hfin : RowSt32 w gf gw (rowC .u32 (rowW F32 blk (t + 1)) (64 - (t + 1))) w1 := by
          rw [rowP_end] at hC1
          rw [rowW, if_neg h16, ← HL'.out, show 64 - (t + 1) = m by rw [HM.out]; omega]
          have : nextW F32 l t = NV := by
            rw [HNV.out, nextW, ← H16.out, ← H7.out, ← H15.out, ← H2.out, HX.out, HY.out]; rfl
          rw [this]
          exact hC1
        have HFIN := Lib.hid hfin
        clear hfin hC1 HC0
        go_wp2_with fail
        exact ⟨⟨t + 1, hlt, by go_num, HFIN.out⟩, by simp [intOf]; omega⟩
    · have hge : ¬ (t : Int) < 64 := by omega
      go_wp2_with fail
      go_ret
      obtain rfl : t = 64 := by omega
      exact ⟨gw, rfl, by rw [HGF.out]; have := hst.lw; omega, hst.row, by rw [HGF.out]; exact hst.below⟩
end Go.Proofs.YtoihgnkhalhocaaGreatDoor.Sh
/-
  Walk: sha's mix, words of 32 bits.
-/
namespace Go.Proofs.YtoihgnkhalhocaaGreatDoor.Sh
set_option linter.unusedSimpArgs false
set_option linter.unusedVariables false
open Go.RowKit
theorem eight32_size : (Tryz.prog.info? 170).map (·.size) = some 8 := by kernel_rfl
structure MixSt32 (w0 : World) (gf gr : Nat) (s : S8) (r : Array Value) (v : Array Value) (u : World) : Prop where
  bel : Below gf w0 u
  form : Blk u gf 141 f32C
  s : Blk u (gf + 1) 170 (s8V .u32 s)
  res : Blk u (gf + 1 + 1) 170 (s8V .u32 ⟨0, 0, 0, 0, 0, 0, 0, 0⟩)
  v : Blk u (gf + 1 + 1 + 1) 170 v
  row : Blk u gr 136 r
  lr : gf + 1 + 1 + 1 < gr
theorem MixSt32.next {w0 : World} {gf gr : Nat} {s : S8} {r v : Array Value} {u u' : World} (h : MixSt32 w0 gf gr s r v u) (hb : Below u.heap.size u u') : MixSt32 w0 gf gr s r v u' :=
  ⟨h.bel.trans (hb.mono (by have := h.form.lt; omega)), h.form.below hb h.form.lt, h.s.below hb h.s.lt, h.res.below hb h.res.lt, h.v.below hb h.v.lt, h.row.below hb h.row.lt, h.lr⟩
theorem MixSt32.drew {w0 : World} {gf gr : Nat} {s : S8} {r v : Array Value} {u : World} (h : MixSt32 w0 gf gr s r v u) : MixSt32 w0 gf gr s r v u.drew :=
  ⟨h.bel.drew, h.form, h.s, h.res, h.v, h.row, h.lr⟩
theorem MixSt32.put {w0 : World} {gf gr : Nat} {s : S8} {r v v' : Array Value} {u u' : World} (h : MixSt32 w0 gf gr s r v u) (hw : Wrote (gf + 1 + 1 + 1) u u') (hb : Blk u' (gf + 1 + 1 + 1) 170 v') : MixSt32 w0 gf gr s r v' u' :=
  ⟨hw.below h.bel (by omega) (by have := h.form.lt; omega), hw.blk h.form (by omega), hw.blk h.s (by omega), hw.blk h.res (by omega), hb, hw.blk h.row (by have := h.lr; omega), h.lr⟩
def MixPost32 (s : S8) (blk : List UInt8) (w : World) (e : Ending) (w' : World) : Prop :=
  e = .returned (.agg (s8V .u32 (mixS F32 s blk))) ∧ Below w.heap.size w w'
set_option maxRecDepth 100000 in
set_option maxHeartbeats 4000000 in
theorem mix32_any (s : S8) (blk : List UInt8) (A : Option Addr) (c B : Nat) (w : World) (hr : Rd w B A (bytesV blk)) (hB : B ≤ w.heap.size) (hl : blk.length = 64) (hc : blk.length ≤ c) (hcm : c ≤ 9223372036854775807) (hs : s.Lt (2 ^ 32)) (hG : TabG w) :
    Calls Tryz.prog 129 #[.agg f32C, .agg (s8V .u32 s), .slice A blk.length c] w (MixPost32 s blk w) := by
  obtain ⟨W0, hW0⟩ : ∃ W0, W0 = ((w.alloc (.cells f32C 141)).alloc (.cells (s8V .u32 s) 170)).alloc (.cells (s8V .u32 ⟨0, 0, 0, 0, 0, 0, 0, 0⟩) 170) := ⟨_, rfl⟩
  have hb0 : Below w.heap.size w W0 := by rw [hW0]; exact ((below_new _ _).alloc (by simp) _).alloc (by simp; omega) _
  have hs0 : W0.heap.size = w.heap.size + 1 + 1 + 1 := by rw [hW0]; simp
  have hf0 : Blk W0 w.heap.size 141 f32C := by rw [hW0]; exact ((Blk.new _ _ _).alloc _).alloc _
  have hbs0 : Blk W0 (w.heap.size + 1) 170 (s8V .u32 s) := by
    have := (Blk.new (w.alloc (.cells f32C 141)) 170 (s8V .u32 s)).alloc (.cells (s8V .u32 ⟨0, 0, 0, 0, 0, 0, 0, 0⟩) 170)
    rw [hW0]; simpa using this
  have hbr0 : Blk W0 (w.heap.size + 1 + 1) 170 (s8V .u32 ⟨0, 0, 0, 0, 0, 0, 0, 0⟩) := by
    have := Blk.new ((w.alloc (.cells f32C 141)).alloc (.cells (s8V .u32 s) 170)) 170 (s8V .u32 ⟨0, 0, 0, 0, 0, 0, 0, 0⟩)
    rw [hW0]; simpa using this
  have hbv0 : Blk (W0.alloc (.cells (s8V .u32 ⟨0, 0, 0, 0, 0, 0, 0, 0⟩) 170)) (w.heap.size + 1 + 1 + 1) 170 (s8V .u32 ⟨0, 0, 0, 0, 0, 0, 0, 0⟩) := by
    have := Blk.new W0 170 (s8V .u32 ⟨0, 0, 0, 0, 0, 0, 0, 0⟩)
    rwa [hs0] at this
  have hbs1 := hbs0
  rw [hW0] at hbs1
  have HB0 := Lib.hid hb0
  have HS0 := Lib.hid hs0
  have HF0 := Lib.hid hf0
  have HBS0 := Lib.hid hbs0
  have HBR0 := Lib.hid hbr0
  have HR := Lib.hid (hr.mono hB)
  have HL := Lib.hid hl
  have HG := Lib.hid hG
  have HSL := Lib.hid hs
  have hu8 := Tryz.underlying170
  have hu := Tryz.underlying141
  have hu3 := Tryz.underlying137
  have hc2 : 64 ≤ c := by omega
  rw [hW0] at hbv0
  have HW := Lib.hid hW0
  rw [HL.out]
  clear hb0 hs0 hf0 hbs0 hbr0 hr hl hG hs hc hW0
  go_enter Tryz.func129, Tryz.ntmps129
  go_wp2_with (first
    | (refine wpList_get_box (x := .tmp 4) (o := ⟨some 16, _, _, _, _, _⟩) (hbs1) rfl rfl rfl hu8 rfl eight32_size ?_)
    | (refine wpList_put_box (x := .tmp 7) hbv0 rfl rfl rfl rfl eight32_size rfl (by simp [s8V, Value.oneCell']) ?_; intro w1 hb1 hw1)
    | (refine wpList_get_box (x := .tmp 3) (hw1.blk (((Blk.new w 141 f32C).alloc _).alloc _ |>.alloc _) (by omega)) rfl rfl rfl hu rfl form_size ?_))
  have hf1 := hw1.blk (((Blk.new w 141 f32C).alloc (.cells (s8V .u32 s) 170)).alloc (.cells (s8V .u32 ⟨0, 0, 0, 0, 0, 0, 0, 0⟩) 170) |>.alloc (.cells (s8V .u32 ⟨0, 0, 0, 0, 0, 0, 0, 0⟩) 170)) (by omega)
  have hs1 : Blk w1 (w.heap.size + 1) 170 (s8V .u32 s) := hw1.blk (by have := HBS0.out.alloc (.cells (s8V .u32 ⟨0, 0, 0, 0, 0, 0, 0, 0⟩) 170); rwa [HW.out] at this) (by omega)
  have hr1 : Blk w1 (w.heap.size + 1 + 1) 170 (s8V .u32 ⟨0, 0, 0, 0, 0, 0, 0, 0⟩) := hw1.blk (by have := HBR0.out.alloc (.cells (s8V .u32 ⟨0, 0, 0, 0, 0, 0, 0, 0⟩) 170); rwa [HW.out] at this) (by omega)
  have hbel1 : Below w.heap.size w w1 := hw1.below (by have := HB0.out.alloc HB0.out.size (.cells (s8V .u32 ⟨0, 0, 0, 0, 0, 0, 0, 0⟩) 170); rwa [HW.out] at this) (by omega) (by simp; omega)
  have hz1 : w1.heap.size = w.heap.size + 1 + 1 + 1 + 1 := by rw [hw1.size]; simp
  have HF1 := Lib.hid hf1
  have HS1 := Lib.hid hs1
  have HR1 := Lib.hid hr1
  have HV1 := Lib.hid hb1
  have HBEL1 := Lib.hid hbel1
  have HZ1 := Lib.hid hz1
  have hrow := row32_any blk A c w1.heap.size w1 ((HR.out.below hbel1).mono hbel1.size) (Nat.le_refl _) HL.out (by rw [HL.out]; exact hc2) hcm
  rw [HL.out] at hrow
  clear hf1 hs1 hr1 hb1 hbel1 hz1 hw1 hbv0 hbs1 HB0 HS0 HF0 HBS0 HBR0 HW W0
  refine calls_then hrow ?_
  rintro e w2 ⟨gr, rfl, hgl, hbr, hbw⟩
  clear hrow
  obtain ⟨RW, hRW⟩ : ∃ x, x = rowW F32 blk 64 := ⟨_, rfl⟩
  rw [← hRW] at hbr
  have hst0 : MixSt32 w w.heap.size gr s (rowC .u32 RW 0) (s8V .u32 s) w2 :=
    ⟨HBEL1.out.trans (hbw.mono HBEL1.out.size), HF1.out.below hbw HF1.out.lt, HS1.out.below hbw HS1.out.lt, HR1.out.below hbw HR1.out.lt, HV1.out.below hbw HV1.out.lt, hbr, by rw [HZ1.out] at hgl; omega⟩
  have HGP := Lib.hid HG.out.size
  have HRW := Lib.hid hRW
  clear hbr hbw hgl hRW HF1 HS1 HR1 HV1 HBEL1 HZ1 HR
  generalize hgf : w.heap.size = gf at *
  have HGF := Lib.hid hgf
  clear hgf
  go_wp2_with fail
  go_loopw [21] (fun i wr => ∃ k : Nat, k ≤ 64 ∧ i = .int .i64 k ∧ MixSt32 w gf gr s (rowC .u32 RW 0) (s8V .u32 (mixTo F32 RW s k)) wr) (fun i _ => 64 - (intOf i).toNat)
  case atStart => exact ⟨0, by omega, rfl, hst0⟩
  case round =>
    obtain ⟨k, hk, rfl, hst⟩ := hrel
    clear hst0
    by_cases hlt : k < 64
    · have hlt' : (k : Int) < 64 := by omega
      obtain ⟨vv, hvv⟩ : ∃ x, x = mixTo F32 RW s k := ⟨_, rfl⟩
      have hvl : vv.Lt (2 ^ 32) := by rw [hvv]; exact mixTo_lt HSL.out k
      rw [← hvv] at hst
      have HVV := Lib.hid hvv
      obtain ⟨va, vb, vc, vd, ve, vf, vg, vh⟩ := vv
      obtain ⟨la, lb, lc, ld, le_, lf, lg, lh⟩ := hvl
      dsimp only at la lb lc ld le_ lf lg lh
      obtain ⟨wk, hwk⟩ : ∃ x, x = RW.getD k 0 := ⟨_, rfl⟩
      obtain ⟨kk, hkk⟩ : ∃ x, x = stepsN.getD k 0 := ⟨_, rfl⟩
      have hRL : RW.length = 64 := by rw [HRW.out]; exact rowW_length _ _ _
      have hwl : wk < 2 ^ 32 := by rw [hwk, HRW.out]; exact getD_lt (rowW_lt F32 (by decide) blk 64) (by decide) k
      have hkl : kk < 18446744073709551616 := by rw [hkk]; exact stepsN_lt k
      have hcr : (rowC .u32 RW 0)[k]? = some (.int .u32 (wk : Int)) := by rw [rowC_get _ _ _ _ (by rw [hRL]; exact hlt), hwk]
      have HGC : Hid (∀ u, Below gf w u → u.cell? ⟨0, k, none⟩ = some (.int .u64 (kk : Int))) := Lib.hid fun u hu => by
        rw [hkk]; exact (HG.out.below hu HGP.out).cell k (by omega)
      have crow := hst.row.cell k
      rw [hcr] at crow
      have iwk : (wk : Int) < 4294967296 := by omega
      have ikk : (kk : Int) < 18446744073709551616 := by omega
      have HWK := Lib.hid hwk
      have HKK := Lib.hid hkk
      have HL8 := Lib.hid (show S8.Lt ⟨va, vb, vc, vd, ve, vf, vg, vh⟩ (2 ^ 32) from ⟨la, lb, lc, ld, le_, lf, lg, lh⟩)
      have HWL := Lib.hid hwl
      have HKL := Lib.hid hkl
      clear hvv la lb lc ld le_ lf lg lh hwk hkk hRL hwl hkl hcr
      have HST := Lib.hid hst
      clear hst
      go_wp2_with fail
      obtain ⟨kn, hkn⟩ : ∃ x, x = kN F32 k := ⟨_, rfl⟩
      have hkn2 : kk / 4294967296 % 4294967296 = kn := by rw [hkn, kN, ← HKK.out]; rfl
      have hknl : kn < 2 ^ 32 := by rw [hkn]; exact Nat.mod_lt _ (by decide)
      skip
      have HKN := Lib.hid hkn2
      have HKNE := Lib.hid hkn
      have HKNL := Lib.hid hknl
      clear hkn2 hkn hknl
      have HC0 := HST.out.drew
      refine wp_region_seq (fun u => MixSt32 w gf gr s (rowC .u32 RW 0) (s8V .u32 ⟨va, vb, vc, vd, ve, vf, vg, vh⟩) u) (by kernel_rfl) (by kernel_rfl) HC0 ?_
      iterate 2
        ((first | (apply SeqL.next; rfl; rfl)); (simp only [act_put, act_put_none, List.setIfInBounds_toArray, List.set_cons_zero, List.set_cons_succ]; rfl); (intro w1 hC1 E hE; go_wp2; exact .mk (hE _ hC1)))
      apply SeqL.next
      · rfl
      · rfl
      · simp only [act_put, act_put_none, List.setIfInBounds_toArray, List.set_cons_zero, List.set_cons_succ]
        rfl
      · intro w1 hC1 E hE
        have d0 := HGC.out _ hC1.bel
        go_wp2
        exact .mk (hE _ hC1)
      iterate 1
        ((first | (apply SeqL.next; rfl; rfl)); (simp only [act_put, act_put_none, List.setIfInBounds_toArray, List.set_cons_zero, List.set_cons_succ]; rfl); (intro w1 hC1 E hE; go_wp2; exact .mk (hE _ hC1)))
      apply SeqL.next
      · rfl
      · rfl
      · simp only [act_put, act_put_none, List.setIfInBounds_toArray, List.set_cons_zero, List.set_cons_succ]
        rfl
      · intro w1 hC1 E hE
        have d0 := hC1.form.cell 0
        simp [f32C] at d0
        go_wp2
        exact .mk (hE _ hC1)
      iterate 2
        ((first | (apply SeqL.next; rfl; rfl)); (simp only [act_put, act_put_none, List.setIfInBounds_toArray, List.set_cons_zero, List.set_cons_succ]; rfl); (intro w1 hC1 E hE; go_wp2; exact .mk (hE _ hC1)))
      apply SeqL.next
      · rfl
      · rfl
      · simp only [act_put, act_put_none, List.setIfInBounds_toArray, List.set_cons_zero, List.set_cons_succ]
        rfl
      · intro w1 hC1 E hE
        go_wp2_with fail
        rw [show (kk : Int) / 4294967296 = ((kk / 4294967296 : Nat) : Int) from by omega]
        refine calls_then (cut32_any _ _ (by have := HKL.out; omega)) ?_
        rintro e w2 ⟨rfl, rfl⟩
        rw [HKN.out]
        go_wp2_with fail
        exact .mk (hE _ hC1)
      iterate 1
        ((first | (apply SeqL.next; rfl; rfl)); (simp only [act_put, act_put_none, List.setIfInBounds_toArray, List.set_cons_zero, List.set_cons_succ]; rfl); (intro w1 hC1 E hE; go_wp2; exact .mk (hE _ hC1)))
      refine SeqL.nil ?_
      intro w1 hC1
      clear HC0 crow
      go_wp2_with fail
      have HC0 := hC1.drew
      clear hC1
      refine wp_region_seq (fun u => MixSt32 w gf gr s (rowC .u32 RW 0) (s8V .u32 ⟨va, vb, vc, vd, ve, vf, vg, vh⟩) u) (by kernel_rfl) (by kernel_rfl) HC0 ?_
      iterate 1
        ((first | (apply SeqL.next; rfl; rfl)); (simp only [act_put, act_put_none, List.setIfInBounds_toArray, List.set_cons_zero, List.set_cons_succ]; rfl); (intro w1 hC1 E hE; go_wp2; exact .mk (hE _ hC1)))
      apply SeqL.next
      · rfl
      · rfl
      · simp only [act_put, act_put_none, List.setIfInBounds_toArray, List.set_cons_zero, List.set_cons_succ]
        rfl
      · intro w1 hC1 E hE
        have d0 := hC1.v.cell 0
        simp [s8V] at d0
        go_wp2
        exact .mk (hE _ hC1)
      iterate 1
        ((first | (apply SeqL.next; rfl; rfl)); (simp only [act_put, act_put_none, List.setIfInBounds_toArray, List.set_cons_zero, List.set_cons_succ]; rfl); (intro w1 hC1 E hE; go_wp2; exact .mk (hE _ hC1)))
      apply SeqL.next
      · rfl
      · rfl
      · simp only [act_put, act_put_none, List.setIfInBounds_toArray, List.set_cons_zero, List.set_cons_succ]
        rfl
      · intro w1 hC1 E hE
        have d0 := hC1.v.cell 4
        simp [s8V] at d0
        go_wp2
        exact .mk (hE _ hC1)
      iterate 2
        ((first | (apply SeqL.next; rfl; rfl)); (simp only [act_put, act_put_none, List.setIfInBounds_toArray, List.set_cons_zero, List.set_cons_succ]; rfl); (intro w1 hC1 E hE; go_wp2; exact .mk (hE _ hC1)))
      refine SeqL.nil ?_
      intro w1 hC1
      clear HC0
      have ive : (ve : Int) < 4294967296 := by have := HL8.out.e; dsimp only at this; omega
      have iva : (va : Int) < 4294967296 := by have := HL8.out.a; dsimp only at this; omega
      go_wp2_with fail
      have HC0 := hC1.drew
      clear hC1
      obtain ⟨XA, hXA⟩ : ∃ x, x = allN 32 ve 6 11 25 false := ⟨_, rfl⟩
      have lXA : XA < 18446744073709551616 := by rw [hXA]; exact allN_lt (by have := HL8.out.e; dsimp only at this; omega)
      obtain ⟨ca, hca⟩ : ∃ x, x = XA % 4294967296 := ⟨_, rfl⟩
      obtain ⟨af, haf⟩ : ∃ x, x = ve &&& vf := ⟨_, rfl⟩
      obtain ⟨ne, hne⟩ : ∃ x, x = 4294967295 - ve := ⟨_, rfl⟩
      obtain ⟨ng, hng⟩ : ∃ x, x = ne &&& vg := ⟨_, rfl⟩
      obtain ⟨ch, hch⟩ : ∃ x, x = af ^^^ ng := ⟨_, rfl⟩
      obtain ⟨p1, hp1⟩ : ∃ x, x = (vh + ca) % 2 ^ 32 := ⟨_, rfl⟩
      obtain ⟨p2, hp2⟩ : ∃ x, x = (p1 + ch) % 2 ^ 32 := ⟨_, rfl⟩
      obtain ⟨p3, hp3⟩ : ∃ x, x = (p2 + kn) % 2 ^ 32 := ⟨_, rfl⟩
      obtain ⟨xx, hxx⟩ : ∃ x, x = (p3 + wk) % 2 ^ 32 := ⟨_, rfl⟩
      have HP1 := Lib.hid hp1
      have HP2 := Lib.hid hp2
      have HP3 := Lib.hid hp3
      have HXA := Lib.hid hXA
      have LXA := Lib.hid lXA
      have HCA := Lib.hid hca
      have HAF := Lib.hid haf
      have HNE := Lib.hid hne
      have HNG := Lib.hid hng
      have HCH := Lib.hid hch
      have AFL : Hid (af < 2 ^ 32) := Lib.hid (by rw [haf]; exact and_lt HL8.out.e)
      have NEL : Hid (ne < 2 ^ 32) := Lib.hid (by rw [hne]; omega)
      have NGL : Hid (ng < 2 ^ 32) := Lib.hid (by rw [hng]; exact and_lt NEL.out)
      have HXX := Lib.hid hxx
      clear hXA lXA hca haf hne hng hch hxx hp1 hp2 hp3
      refine wp_region_seq (fun u => MixSt32 w gf gr s (rowC .u32 RW 0) (s8V .u32 ⟨va, vb, vc, vd, ve, vf, vg, vh⟩) u) (by kernel_rfl) (by kernel_rfl) HC0 ?_
      iterate 1
        ((first | (apply SeqL.next; rfl; rfl)); (simp only [act_put, act_put_none, List.setIfInBounds_toArray, List.set_cons_zero, List.set_cons_succ]; rfl); (intro w1 hC1 E hE; go_wp2; exact .mk (hE _ hC1)))
      apply SeqL.next
      · rfl
      · rfl
      · simp only [act_put, act_put_none, List.setIfInBounds_toArray, List.set_cons_zero, List.set_cons_succ]
        rfl
      · intro w1 hC1 E hE
        have d0 := hC1.v.cell 7
        simp [s8V] at d0
        go_wp2
        exact .mk (hE _ hC1)
      apply SeqL.next
      · rfl
      · rfl
      · simp only [act_put, act_put_none, List.setIfInBounds_toArray, List.set_cons_zero, List.set_cons_succ]
        rfl
      · intro w1 hC1 E hE
        refine wpList_get_box hC1.form rfl rfl rfl hu rfl form_size ?_
        go_wp2_with fail
        exact .mk (hE _ hC1)
      iterate 4
        ((first | (apply SeqL.next; rfl; rfl)); (simp only [act_put, act_put_none, List.setIfInBounds_toArray, List.set_cons_zero, List.set_cons_succ]; rfl); (intro w1 hC1 E hE; go_wp2; exact .mk (hE _ hC1)))
      apply SeqL.next
      · rfl
      · rfl
      · simp only [act_put, act_put_none, List.setIfInBounds_toArray, List.set_cons_zero, List.set_cons_succ]
        rfl
      · intro w1 hC1 E hE
        refine wpList_get_part (n := 3) (r := #[.int .i64 6, .int .i64 11, .int .i64 25]) hC1.form (by decide) rfl rfl rfl rfl hu3 rfl tri32_size ?_
        go_wp2_with fail
        exact .mk (hE _ hC1)
      apply SeqL.next
      · rfl
      · rfl
      · simp only [act_put, act_put_none, List.setIfInBounds_toArray, List.set_cons_zero, List.set_cons_succ]
        rfl
      · intro w1 hC1 E hE
        go_wp2_with fail
        refine calls_then (all32_any ve 6 11 25 false _ (by have := HL8.out.e; dsimp only at this; omega) (by decide) (by decide) (by decide)) ?_
        rintro e w2 ⟨rfl, hb2⟩
        rw [← HXA.out]
        go_wp2_with fail
        exact .mk (hE _ (hC1.next hb2))
      apply SeqL.next
      · rfl
      · rfl
      · simp only [act_put, act_put_none, List.setIfInBounds_toArray, List.set_cons_zero, List.set_cons_succ]
        rfl
      · intro w1 hC1 E hE
        go_wp2_with fail
        refine calls_then (cut32_any XA _ LXA.out) ?_
        rintro e w2 ⟨rfl, rfl⟩
        rw [← HCA.out]
        go_wp2_with fail
        exact .mk (hE _ hC1)
      apply SeqL.next
      · rfl
      · rfl
      · simp only [act_put, act_put_none, List.setIfInBounds_toArray, List.set_cons_zero, List.set_cons_succ]
        rfl
      · intro w1 hC1 E hE
        go_wp2
        rw [add2_32 vh ca, ← HP1.out]
        exact .mk (hE _ hC1)
      iterate 2
        ((first | (apply SeqL.next; rfl; rfl)); (simp only [act_put, act_put_none, List.setIfInBounds_toArray, List.set_cons_zero, List.set_cons_succ]; rfl); (intro w1 hC1 E hE; go_wp2; exact .mk (hE _ hC1)))
      apply SeqL.next
      · rfl
      · rfl
      · simp only [act_put, act_put_none, List.setIfInBounds_toArray, List.set_cons_zero, List.set_cons_succ]
        rfl
      · intro w1 hC1 E hE
        have d0 := hC1.v.cell 5
        simp [s8V] at d0
        go_wp2
        exact .mk (hE _ hC1)
      apply SeqL.next
      · rfl
      · rfl
      · simp only [act_put, act_put_none, List.setIfInBounds_toArray, List.set_cons_zero, List.set_cons_succ]
        rfl
      · intro w1 hC1 E hE
        go_wp2
        rw [and32 ve vf HL8.out.e HL8.out.f, ← HAF.out]
        exact .mk (hE _ hC1)
      iterate 1
        ((first | (apply SeqL.next; rfl; rfl)); (simp only [act_put, act_put_none, List.setIfInBounds_toArray, List.set_cons_zero, List.set_cons_succ]; rfl); (intro w1 hC1 E hE; go_wp2; exact .mk (hE _ hC1)))
      apply SeqL.next
      · rfl
      · rfl
      · simp only [act_put, act_put_none, List.setIfInBounds_toArray, List.set_cons_zero, List.set_cons_succ]
        rfl
      · intro w1 hC1 E hE
        refine wpList_unary (run_not32 ve HL8.out.e) rfl rfl rfl ?_
        rw [← HNE.out]
        go_wp2_with fail
        exact .mk (hE _ hC1)
      iterate 1
        ((first | (apply SeqL.next; rfl; rfl)); (simp only [act_put, act_put_none, List.setIfInBounds_toArray, List.set_cons_zero, List.set_cons_succ]; rfl); (intro w1 hC1 E hE; go_wp2; exact .mk (hE _ hC1)))
      apply SeqL.next
      · rfl
      · rfl
      · simp only [act_put, act_put_none, List.setIfInBounds_toArray, List.set_cons_zero, List.set_cons_succ]
        rfl
      · intro w1 hC1 E hE
        have d0 := hC1.v.cell 6
        simp [s8V] at d0
        go_wp2
        exact .mk (hE _ hC1)
      apply SeqL.next
      · rfl
      · rfl
      · simp only [act_put, act_put_none, List.setIfInBounds_toArray, List.set_cons_zero, List.set_cons_succ]
        rfl
      · intro w1 hC1 E hE
        go_wp2
        rw [and32 ne vg NEL.out HL8.out.g, ← HNG.out]
        exact .mk (hE _ hC1)
      apply SeqL.next
      · rfl
      · rfl
      · simp only [act_put, act_put_none, List.setIfInBounds_toArray, List.set_cons_zero, List.set_cons_succ]
        rfl
      · intro w1 hC1 E hE
        go_wp2
        rw [xor32 af ng AFL.out NGL.out, ← HCH.out]
        exact .mk (hE _ hC1)
      apply SeqL.next
      · rfl
      · rfl
      · simp only [act_put, act_put_none, List.setIfInBounds_toArray, List.set_cons_zero, List.set_cons_succ]
        rfl
      · intro w1 hC1 E hE
        go_wp2
        rw [add2_32 p1 ch, ← HP2.out]
        exact .mk (hE _ hC1)
      iterate 1
        ((first | (apply SeqL.next; rfl; rfl)); (simp only [act_put, act_put_none, List.setIfInBounds_toArray, List.set_cons_zero, List.set_cons_succ]; rfl); (intro w1 hC1 E hE; go_wp2; exact .mk (hE _ hC1)))
      apply SeqL.next
      · rfl
      · rfl
      · simp only [act_put, act_put_none, List.setIfInBounds_toArray, List.set_cons_zero, List.set_cons_succ]
        rfl
      · intro w1 hC1 E hE
        go_wp2
        rw [add2_32 p2 kn, ← HP3.out]
        exact .mk (hE _ hC1)
      iterate 1
        ((first | (apply SeqL.next; rfl; rfl)); (simp only [act_put, act_put_none, List.setIfInBounds_toArray, List.set_cons_zero, List.set_cons_succ]; rfl); (intro w1 hC1 E hE; go_wp2; exact .mk (hE _ hC1)))
      apply SeqL.next
      · rfl
      · rfl
      · simp only [act_put, act_put_none, List.setIfInBounds_toArray, List.set_cons_zero, List.set_cons_succ]
        rfl
      · intro w1 hC1 E hE
        go_wp2
        rw [add2_32 p3 wk, ← HXX.out]
        exact .mk (hE _ hC1)
      iterate 1
        ((first | (apply SeqL.next; rfl; rfl)); (simp only [act_put, act_put_none, List.setIfInBounds_toArray, List.set_cons_zero, List.set_cons_succ]; rfl); (intro w1 hC1 E hE; go_wp2; exact .mk (hE _ hC1)))
      refine SeqL.nil ?_
      intro w1 hC1
      clear HC0
      go_wp2_with fail
      have HC0 := hC1.drew
      clear hC1
      obtain ⟨YA, hYA⟩ : ∃ x, x = allN 32 va 2 13 22 false := ⟨_, rfl⟩
      have lYA : YA < 18446744073709551616 := by rw [hYA]; exact allN_lt (by have := HL8.out.a; dsimp only at this; omega)
      obtain ⟨cy, hcy⟩ : ∃ x, x = YA % 4294967296 := ⟨_, rfl⟩
      obtain ⟨ab, hab⟩ : ∃ x, x = va &&& vb := ⟨_, rfl⟩
      obtain ⟨ac, hac⟩ : ∃ x, x = va &&& vc := ⟨_, rfl⟩
      obtain ⟨bc, hbc⟩ : ∃ x, x = vb &&& vc := ⟨_, rfl⟩
      obtain ⟨x1, hx1⟩ : ∃ x, x = ab ^^^ ac := ⟨_, rfl⟩
      obtain ⟨mj, hmj⟩ : ∃ x, x = x1 ^^^ bc := ⟨_, rfl⟩
      obtain ⟨yy, hyy⟩ : ∃ x, x = (cy + mj) % 2 ^ 32 := ⟨_, rfl⟩
      have HYA := Lib.hid hYA
      have LYA := Lib.hid lYA
      have HCY := Lib.hid hcy
      have HAB := Lib.hid hab
      have HAC := Lib.hid hac
      have HBC := Lib.hid hbc
      have HX1 := Lib.hid hx1
      have HMJ := Lib.hid hmj
      have HYY := Lib.hid hyy
      have ABL : Hid (ab < 2 ^ 32) := Lib.hid (by rw [hab]; exact and_lt HL8.out.a)
      have ACL : Hid (ac < 2 ^ 32) := Lib.hid (by rw [hac]; exact and_lt HL8.out.a)
      have BCL : Hid (bc < 2 ^ 32) := Lib.hid (by rw [hbc]; exact and_lt HL8.out.b)
      have X1L : Hid (x1 < 2 ^ 32) := Lib.hid (by rw [hx1]; exact Nat.xor_lt_two_pow ABL.out ACL.out)
      clear hYA lYA hcy hab hac hbc hx1 hmj hyy
      refine wp_region_seq (fun u => MixSt32 w gf gr s (rowC .u32 RW 0) (s8V .u32 ⟨va, vb, vc, vd, ve, vf, vg, vh⟩) u) (by kernel_rfl) (by kernel_rfl) HC0 ?_
      apply SeqL.next
      · rfl
      · rfl
      · simp only [act_put, act_put_none, List.setIfInBounds_toArray, List.set_cons_zero, List.set_cons_succ]
        rfl
      · intro w1 hC1 E hE
        refine wpList_get_box hC1.form rfl rfl rfl hu rfl form_size ?_
        go_wp2_with fail
        exact .mk (hE _ hC1)
      iterate 4
        ((first | (apply SeqL.next; rfl; rfl)); (simp only [act_put, act_put_none, List.setIfInBounds_toArray, List.set_cons_zero, List.set_cons_succ]; rfl); (intro w1 hC1 E hE; go_wp2; exact .mk (hE _ hC1)))
      apply SeqL.next
      · rfl
      · rfl
      · simp only [act_put, act_put_none, List.setIfInBounds_toArray, List.set_cons_zero, List.set_cons_succ]
        rfl
      · intro w1 hC1 E hE
        refine wpList_get_part (n := 3) (r := #[.int .i64 2, .int .i64 13, .int .i64 22]) hC1.form (by decide) rfl rfl rfl rfl hu3 rfl tri32_size ?_
        go_wp2_with fail
        exact .mk (hE _ hC1)
      apply SeqL.next
      · rfl
      · rfl
      · simp only [act_put, act_put_none, List.setIfInBounds_toArray, List.set_cons_zero, List.set_cons_succ]
        rfl
      · intro w1 hC1 E hE
        go_wp2_with fail
        refine calls_then (all32_any va 2 13 22 false _ (by have := HL8.out.a; dsimp only at this; omega) (by decide) (by decide) (by decide)) ?_
        rintro e w2 ⟨rfl, hb2⟩
        rw [← HYA.out]
        go_wp2_with fail
        exact .mk (hE _ (hC1.next hb2))
      apply SeqL.next
      · rfl
      · rfl
      · simp only [act_put, act_put_none, List.setIfInBounds_toArray, List.set_cons_zero, List.set_cons_succ]
        rfl
      · intro w1 hC1 E hE
        go_wp2_with fail
        refine calls_then (cut32_any YA _ LYA.out) ?_
        rintro e w2 ⟨rfl, rfl⟩
        rw [← HCY.out]
        go_wp2_with fail
        exact .mk (hE _ hC1)
      iterate 2
        ((first | (apply SeqL.next; rfl; rfl)); (simp only [act_put, act_put_none, List.setIfInBounds_toArray, List.set_cons_zero, List.set_cons_succ]; rfl); (intro w1 hC1 E hE; go_wp2; exact .mk (hE _ hC1)))
      apply SeqL.next
      · rfl
      · rfl
      · simp only [act_put, act_put_none, List.setIfInBounds_toArray, List.set_cons_zero, List.set_cons_succ]
        rfl
      · intro w1 hC1 E hE
        have d0 := hC1.v.cell 1
        simp [s8V] at d0
        go_wp2
        exact .mk (hE _ hC1)
      apply SeqL.next
      · rfl
      · rfl
      · simp only [act_put, act_put_none, List.setIfInBounds_toArray, List.set_cons_zero, List.set_cons_succ]
        rfl
      · intro w1 hC1 E hE
        go_wp2
        rw [and32 va vb HL8.out.a HL8.out.b, ← HAB.out]
        exact .mk (hE _ hC1)
      iterate 2
        ((first | (apply SeqL.next; rfl; rfl)); (simp only [act_put, act_put_none, List.setIfInBounds_toArray, List.set_cons_zero, List.set_cons_succ]; rfl); (intro w1 hC1 E hE; go_wp2; exact .mk (hE _ hC1)))
      apply SeqL.next
      · rfl
      · rfl
      · simp only [act_put, act_put_none, List.setIfInBounds_toArray, List.set_cons_zero, List.set_cons_succ]
        rfl
      · intro w1 hC1 E hE
        have d0 := hC1.v.cell 2
        simp [s8V] at d0
        go_wp2
        exact .mk (hE _ hC1)
      apply SeqL.next
      · rfl
      · rfl
      · simp only [act_put, act_put_none, List.setIfInBounds_toArray, List.set_cons_zero, List.set_cons_succ]
        rfl
      · intro w1 hC1 E hE
        go_wp2
        rw [and32 va vc HL8.out.a HL8.out.c, ← HAC.out]
        exact .mk (hE _ hC1)
      apply SeqL.next
      · rfl
      · rfl
      · simp only [act_put, act_put_none, List.setIfInBounds_toArray, List.set_cons_zero, List.set_cons_succ]
        rfl
      · intro w1 hC1 E hE
        go_wp2
        rw [xor32 ab ac ABL.out ACL.out, ← HX1.out]
        exact .mk (hE _ hC1)
      iterate 1
        ((first | (apply SeqL.next; rfl; rfl)); (simp only [act_put, act_put_none, List.setIfInBounds_toArray, List.set_cons_zero, List.set_cons_succ]; rfl); (intro w1 hC1 E hE; go_wp2; exact .mk (hE _ hC1)))
      apply SeqL.next
      · rfl
      · rfl
      · simp only [act_put, act_put_none, List.setIfInBounds_toArray, List.set_cons_zero, List.set_cons_succ]
        rfl
      · intro w1 hC1 E hE
        have d0 := hC1.v.cell 1
        simp [s8V] at d0
        go_wp2
        exact .mk (hE _ hC1)
      iterate 1
        ((first | (apply SeqL.next; rfl; rfl)); (simp only [act_put, act_put_none, List.setIfInBounds_toArray, List.set_cons_zero, List.set_cons_succ]; rfl); (intro w1 hC1 E hE; go_wp2; exact .mk (hE _ hC1)))
      apply SeqL.next
      · rfl
      · rfl
      · simp only [act_put, act_put_none, List.setIfInBounds_toArray, List.set_cons_zero, List.set_cons_succ]
        rfl
      · intro w1 hC1 E hE
        have d0 := hC1.v.cell 2
        simp [s8V] at d0
        go_wp2
        exact .mk (hE _ hC1)
      apply SeqL.next
      · rfl
      · rfl
      · simp only [act_put, act_put_none, List.setIfInBounds_toArray, List.set_cons_zero, List.set_cons_succ]
        rfl
      · intro w1 hC1 E hE
        go_wp2
        rw [and32 vb vc HL8.out.b HL8.out.c, ← HBC.out]
        exact .mk (hE _ hC1)
      apply SeqL.next
      · rfl
      · rfl
      · simp only [act_put, act_put_none, List.setIfInBounds_toArray, List.set_cons_zero, List.set_cons_succ]
        rfl
      · intro w1 hC1 E hE
        go_wp2
        rw [xor32 x1 bc X1L.out BCL.out, ← HMJ.out]
        exact .mk (hE _ hC1)
      apply SeqL.next
      · rfl
      · rfl
      · simp only [act_put, act_put_none, List.setIfInBounds_toArray, List.set_cons_zero, List.set_cons_succ]
        rfl
      · intro w1 hC1 E hE
        go_wp2
        rw [add2_32 cy mj, ← HYY.out]
        exact .mk (hE _ hC1)
      iterate 1
        ((first | (apply SeqL.next; rfl; rfl)); (simp only [act_put, act_put_none, List.setIfInBounds_toArray, List.set_cons_zero, List.set_cons_succ]; rfl); (intro w1 hC1 E hE; go_wp2; exact .mk (hE _ hC1)))
      refine SeqL.nil ?_
      intro w1 hC1
      clear HC0
      go_wp2_with fail
      have HC0 := hC1.drew
      clear hC1
      refine wp_region_seqt (fun u => MixSt32 w gf gr s (rowC .u32 RW 0) (s8V .u32 ⟨va, vb, vc, vd, ve, vf, vg, vh⟩) u) (fun _ => false) 2 (by kernel_rfl) (by kernel_rfl) (by decide) (by kernel_rfl) HC0 ?_
      simp only [List.take_succ_cons, List.take_zero, List.drop_succ_cons, List.drop_zero]
      iterate 2
        ((first | (apply SeqL.next; rfl; rfl)); (simp only [act_put, act_put_none, List.setIfInBounds_toArray, List.set_cons_zero, List.set_cons_succ]; rfl); (intro w1 hC1 E hE; go_wp2; exact .mk (hE _ hC1)))
      refine SeqL.nil ?_
      apply SeqT.last (D := fun u => MixSt32 w gf gr s (rowC .u32 RW 0) (s8V .u32 ⟨va, va, vb, vc, vd, ve, vf, vg⟩) u)
      · rfl
      · simp only [act_put, act_put_none, List.setIfInBounds_toArray, List.set_cons_zero, List.set_cons_succ]
        rfl
      · intro w1 hC1 E hE
        refine wpList_copy_blk ((s8V .u32 ⟨va, vb, vc, vd, ve, vf, vg, vh⟩).toList.take 7) (new := s8V .u32 ⟨va, va, vb, vc, vd, ve, vf, vg⟩) hC1.v rfl rfl Tryz.underlying189 one32 rfl rfl rfl (blk_src hC1.v 7) (by simp [s8V]) (by simp [s8V, Value.oneCell']) rfl ?_
        intro w2 hb2 hw2
        go_wp2_with fail
        exact .mk (hE _ (hC1.put hw2 hb2))
      intro w1 hC1
      clear HC0
      have d4 := hC1.v.cell 4
      simp [s8V] at d4
      have d0 := hC1.v.cell 0
      simp [s8V] at d0
      have g4 := hC1.v.free 4
      have g0 := hC1.v.free 0
      have HC1 := Lib.hid hC1
      clear hC1 iwk ikk ive iva
      have hu8' := Lib.hid hu8
      have hu' := Lib.hid hu
      have hu3' := Lib.hid hu3
      clear hu8 hu hu3
      obtain ⟨dx, hdx⟩ : ∃ x, x = (vd + xx) % 2 ^ 32 := ⟨_, rfl⟩
      obtain ⟨xy, hxy⟩ : ∃ x, x = (xx + yy) % 2 ^ 32 := ⟨_, rfl⟩
      have HDX := Lib.hid hdx
      have HXY := Lib.hid hxy
      clear hdx hxy
      have hfin : ∀ u, u = (w1.setCell ⟨gf + 1 + 1 + 1, 4, none⟩ (.int .u32 (dx : Int))).setCell ⟨gf + 1 + 1 + 1, 0, none⟩ (.int .u32 (xy : Int)) → MixSt32 w gf gr s (rowC .u32 RW 0) (s8V .u32 (mixTo F32 RW s (k + 1))) u := by
        intro u hu
        rw [hu, mixTo, ← HVV.out]
        have h1 := HC1.out.put (v' := s8V .u32 ⟨va, va, vb, vc, dx, ve, vf, vg⟩) (wrote_setCell_at w1 (gf + 1 + 1 + 1) 4 (.int .u32 (dx : Int))) (blk_setCell_at (i := 4) HC1.out.v (.int .u32 (dx : Int)))
        have h2 := h1.put (v' := s8V .u32 ⟨xy, va, vb, vc, dx, ve, vf, vg⟩) (wrote_setCell_at _ (gf + 1 + 1 + 1) 0 (.int .u32 (xy : Int))) (blk_setCell_at (i := 0) h1.v (.int .u32 (xy : Int)))
        have e1 : mixX F32 ⟨va, vb, vc, vd, ve, vf, vg, vh⟩ (kN F32 k) (RW.getD k 0) = xx := by
          rw [HXX.out, HP3.out, HP2.out, HP1.out, HCH.out, HNG.out, HNE.out, HAF.out, HCA.out, HXA.out, HWK.out, HKNE.out]
          exact mixX_32 _ _ _ _ _
        have e2 : mixY F32 ⟨va, vb, vc, vd, ve, vf, vg, vh⟩ = yy := by
          rw [HYY.out, HMJ.out, HX1.out, HAB.out, HAC.out, HBC.out, HCY.out, HYA.out]
          exact mixY_32 _ _
        have e3 : stepS F32 ⟨va, vb, vc, vd, ve, vf, vg, vh⟩ (kN F32 k) (RW.getD k 0) = ⟨xy, va, vb, vc, dx, ve, vf, vg⟩ := by
          rw [stepS, e1, e2, HDX.out, HXY.out]
          rfl
        rw [e3]
        exact h2
      have HFIN := Lib.hid hfin
      clear hfin
      go_wp2_with fail
      rw [add2_32 vd xx, add2_32 xx yy, ← HDX.out, ← HXY.out]
      exact ⟨⟨k + 1, hlt, by go_num, HFIN.out _ rfl⟩, by simp [intOf]; omega⟩
    · have hge : ¬ (k : Int) < 64 := by omega
      obtain rfl : k = 64 := by omega
      have HST := Lib.hid hst
      clear hst
      go_wp2_with fail
      obtain ⟨vv, hvv⟩ : ∃ x, x = mixTo F32 RW s 64 := ⟨_, rfl⟩
      have HVV := Lib.hid hvv
      have hst9 : MixSt32 w gf gr s (rowC .u32 RW 0) (addC .u32 F32 s vv 0) wr := by rw [addC_zero, HVV.out]; exact HST.out
      clear hvv HST
      obtain ⟨wo, rfl⟩ : ∃ wo : World, wo = wr := ⟨_, rfl⟩
      go_loopw [101] (fun i wr => ∃ j : Nat, j ≤ 8 ∧ i = .int .i64 j ∧ MixSt32 w gf gr s (rowC .u32 RW 0) (addC .u32 F32 s vv j) wr) (fun i _ => 8 - (intOf i).toNat)
      case atStart => exact ⟨0, by omega, rfl, hst9⟩
      case round =>
        obtain ⟨j, hj, rfl, hsj⟩ := hrel
        clear hst9
        by_cases hj8 : j < 8
        · have hj8' : (j : Int) < 8 := by omega
          obtain ⟨vj, hvj⟩ : ∃ x, x = (s8L vv).getD j 0 := ⟨_, rfl⟩
          obtain ⟨sj, hsj'⟩ : ∃ x, x = (s8L s).getD j 0 := ⟨_, rfl⟩
          obtain ⟨aj, haj⟩ : ∃ x, x = (vj + sj) % 2 ^ 32 := ⟨_, rfl⟩
          have E1 : Hid ((addC .u32 F32 s vv j)[j]? = some (.int .u32 (vj : Int))) := Lib.hid (by rw [addC_at .u32 F32 s vv j hj8, hvj])
          have E2 : Hid ((s8V .u32 s)[j]? = some (.int .u32 (sj : Int))) := Lib.hid (by rw [s8V_at .u32 s j hj8, hsj'])
          have E3 : Hid ((addC .u32 F32 s vv j).setIfInBounds j (.int .u32 (aj : Int)) = addC .u32 F32 s vv (j + 1)) := Lib.hid (by rw [haj, hvj, hsj']; exact addC_set .u32 F32 s vv j hj8)
          have HAJ := Lib.hid haj
          clear hvj hsj' haj
          go_wp2_with fail
          have HC0 := hsj.drew
          clear hsj
          refine wp_region_seqt (fun u => MixSt32 w gf gr s (rowC .u32 RW 0) (addC .u32 F32 s vv j) u) (fun _ => false) 8 (by kernel_rfl) (by kernel_rfl) (by decide) (by kernel_rfl) HC0 ?_
          simp only [List.take_succ_cons, List.take_zero, List.drop_succ_cons, List.drop_zero]
          iterate 2
            ((first | (apply SeqL.next; rfl; rfl)); (simp only [act_put, act_put_none, List.setIfInBounds_toArray, List.set_cons_zero, List.set_cons_succ]; rfl); (intro w1 hC1 E hE; go_wp2; exact .mk (hE _ hC1)))
          apply SeqL.next
          · rfl
          · rfl
          · simp only [act_put, act_put_none, List.setIfInBounds_toArray, List.set_cons_zero, List.set_cons_succ]
            rfl
          · intro w1 hC1 E hE
            have d0 := hC1.v.cell j
            rw [E1.out] at d0
            go_wp2
            exact .mk (hE _ hC1)
          iterate 2
            ((first | (apply SeqL.next; rfl; rfl)); (simp only [act_put, act_put_none, List.setIfInBounds_toArray, List.set_cons_zero, List.set_cons_succ]; rfl); (intro w1 hC1 E hE; go_wp2; exact .mk (hE _ hC1)))
          apply SeqL.next
          · rfl
          · rfl
          · simp only [act_put, act_put_none, List.setIfInBounds_toArray, List.set_cons_zero, List.set_cons_succ]
            rfl
          · intro w1 hC1 E hE
            have d0 := hC1.s.cell j
            rw [E2.out] at d0
            go_wp2
            exact .mk (hE _ hC1)
          apply SeqL.next
          · rfl
          · rfl
          · simp only [act_put, act_put_none, List.setIfInBounds_toArray, List.set_cons_zero, List.set_cons_succ]
            rfl
          · intro w1 hC1 E hE
            go_wp2
            rw [add2_32 vj sj, ← HAJ.out]
            exact .mk (hE _ hC1)
          iterate 1
            ((first | (apply SeqL.next; rfl; rfl)); (simp only [act_put, act_put_none, List.setIfInBounds_toArray, List.set_cons_zero, List.set_cons_succ]; rfl); (intro w1 hC1 E hE; go_wp2; exact .mk (hE _ hC1)))
          refine SeqL.nil ?_
          apply SeqT.last (v := undef) (D := fun u => MixSt32 w gf gr s (rowC .u32 RW 0) (addC .u32 F32 s vv (j + 1)) u)
          · rfl
          · exact act_put_none _ _
          · intro w1 hC1 E hE
            refine wpList_put_cell (i := j) (v := .int .u32 (aj : Int)) hC1.v rfl rfl rfl rfl one32 (by rw [addC_size]; exact hj8) rfl ?_
            intro w2 hb2 hw2
            go_wp2_with fail
            exact .mk (hE _ (hC1.put hw2 (by rw [E3.out] at hb2; exact hb2)))
          intro w1 hC1
          clear HC0
          have HC1 := Lib.hid hC1
          clear hC1
          go_wp2_with fail
          exact ⟨⟨j + 1, hj8, by go_num, HC1.out⟩, by simp [intOf]; omega⟩
        · have hge : ¬ (j : Int) < 8 := by omega
          obtain rfl : j = 8 := by omega
          rw [addC_end] at hsj
          go_wp2_with (first
            | (refine wpList_get_box (x := .tmp 7) hsj.v rfl rfl rfl hu8 rfl eight32_size ?_)
            | (refine wpList_put_box (x := .tmp 6) hsj.res rfl rfl rfl rfl eight32_size rfl (by simp [s8V, Value.oneCell']) ?_; intro w5 hb5 hw5))
          refine bodyPost_ret (results_box (P := Tryz.prog) rfl rfl hb5 hu8 rfl eight32_size) rfl ?_
          refine ⟨?_, ?_⟩
          · rw [mixS, HVV.out, HRW.out]; rfl
          · rw [HGF.out]
            exact hw5.below hsj.bel (by omega) (by have := hsj.form.lt; omega)
end Go.Proofs.YtoihgnkhalhocaaGreatDoor.Sh
/-
  Plain: a digest, as the program makes it.
-/
namespace Go.Proofs.YtoihgnkhalhocaaGreatDoor.Sh
set_option linter.unusedSimpArgs false
set_option linter.unusedVariables false
open Go.RowKit
def zeroN (F : ShaF) (n : Nat) : Nat := (2 * F.bits - 8 + 2 * F.bits - (n + 1) % (2 * F.bits)) % (2 * F.bits)
def moreN (F : ShaF) (n : Nat) : Nat := if 8 < F.bits / 4 ∧ 2 * F.bits - F.bits / 4 ≤ n % (2 * F.bits) ∧ n % (2 * F.bits) < 2 * F.bits - 8 then 2 * F.bits else 0
def be8 (n : Nat) : Nat → List UInt8
  | 0 => []
  | k + 1 => be8 n k ++ [UInt8.ofNat (n / 2 ^ (56 - 8 * k))]
def prepS (F : ShaF) (data : List UInt8) : List UInt8 := data ++ [128] ++ List.replicate (zeroN F data.length) 0 ++ List.replicate (moreN F data.length) 0
def padS (F : ShaF) (data : List UInt8) : List UInt8 := data ++ [128] ++ List.replicate (zeroN F data.length) 0 ++ List.replicate (moreN F data.length) 0 ++ be8 (data.length * 8) 8
def firstN : List Nat := [7640891576956012808, 13503953896175478587, 4354685564936845355, 11912009170470909681, 5840696475078001361, 11170449401992604703, 2270897969802886507, 6620516959819538809]
def startS (F : ShaF) : S8 :=
  let f := fun i => firstN.getD i 0 / 2 ^ (64 - F.bits) % 2 ^ F.bits
  ⟨f 0, f 1, f 2, f 3, f 4, f 5, f 6, f 7⟩
def runS (F : ShaF) (all : List UInt8) : Nat → S8
  | 0 => startS F
  | k + 1 => mixS F (runS F all k) ((all.drop (k * (2 * F.bits))).take (2 * F.bits))
def setC (K : IntKind) (s : S8) (i : Nat) : Array Value := (wordsV K ((s8L s).take i ++ (s8L ⟨0, 0, 0, 0, 0, 0, 0, 0⟩).drop i)).toArray
theorem setC_end (K : IntKind) (s : S8) : setC K s 8 = s8V K s := rfl
theorem setC_at (K : IntKind) (s : S8) (i : Nat) (h : i < 8) : (setC K s i)[i]? = some (.int K 0) := by
  match i, h with
  | 0, _ => rfl
  | 1, _ => rfl
  | 2, _ => rfl
  | 3, _ => rfl
  | 4, _ => rfl
  | 5, _ => rfl
  | 6, _ => rfl
  | 7, _ => rfl
theorem setC_set (K : IntKind) (s : S8) (i : Nat) (h : i < 8) : (setC K s i).setIfInBounds i (.int K (((s8L s).getD i 0 : Nat) : Int)) = setC K s (i + 1) := by
  match i, h with
  | 0, _ => rfl
  | 1, _ => rfl
  | 2, _ => rfl
  | 3, _ => rfl
  | 4, _ => rfl
  | 5, _ => rfl
  | 6, _ => rfl
  | 7, _ => rfl
theorem startS_at (F : ShaF) (i : Nat) (h : i < 8) : (s8L (startS F)).getD i 0 = firstN.getD i 0 / 2 ^ (64 - F.bits) % 2 ^ F.bits := by
  match i, h with
  | 0, _ => rfl
  | 1, _ => rfl
  | 2, _ => rfl
  | 3, _ => rfl
  | 4, _ => rfl
  | 5, _ => rfl
  | 6, _ => rfl
  | 7, _ => rfl
theorem firstN_all : (firstN.all fun x => decide (x < 18446744073709551616)) = true := by decide +kernel
theorem firstN_lt (i : Nat) : firstN.getD i 0 < 18446744073709551616 :=
  getD_lt (fun x hx => by simpa using (List.all_eq_true.1 firstN_all) x hx) (by decide) i
theorem startS_lt (F : ShaF) : (startS F).Lt (2 ^ F.bits) := by
  constructor <;> exact Nat.mod_lt _ (Nat.two_pow_pos _)
theorem mixS_lt (F : ShaF) (s : S8) (blk : List UInt8) : (mixS F s blk).Lt (2 ^ F.bits) := addS_lt _ _ _
theorem runS_lt (F : ShaF) (all : List UInt8) : ∀ k, (runS F all k).Lt (2 ^ F.bits)
  | 0 => startS_lt F
  | _ + 1 => mixS_lt F _ _
theorem s8L_lt {s : S8} {m : Nat} (h : s.Lt m) (hm : 0 < m) (i : Nat) : (s8L s).getD i 0 < m :=
  getD_lt (fun x hx => by
    simp [s8L] at hx
    rcases hx with rfl | rfl | rfl | rfl | rfl | rfl | rfl | rfl
    all_goals first | exact h.a | exact h.b | exact h.c | exact h.d | exact h.e | exact h.f | exact h.g | exact h.h) hm i
def wordB (b : Nat) (x : Nat) : Nat → List UInt8
  | 0 => []
  | k + 1 => wordB b x k ++ [UInt8.ofNat (x / 2 ^ (b - 8 - 8 * k))]
def digS (F : ShaF) (data : List UInt8) : List UInt8 := (s8L (runS F (padS F data) ((padS F data).length / (2 * F.bits)))).flatMap fun x => wordB F.bits x (F.bits / 8)
end Go.Proofs.YtoihgnkhalhocaaGreatDoor.Sh
/-
  Walks and plain: what sha's sums of both kinds share.
-/
namespace Go.Proofs.YtoihgnkhalhocaaGreatDoor.Sh
set_option linter.unusedSimpArgs false
set_option linter.unusedVariables false
open Go.RowKit
theorem sl_bytes : SlT Tryz.prog 42 5 1 1 := SlT.mk1 (z := .int .u8 0) Tryz.underlying42 (by kernel_rfl) rfl (by decide)
def lenOf : Value → Nat | .slice _ n _ => n | _ => 0
def firstV : Array Value := #[.int .u64 7640891576956012808, .int .u64 13503953896175478587, .int .u64 4354685564936845355, .int .u64 11912009170470909681, .int .u64 5840696475078001361, .int .u64 11170449401992604703, .int .u64 2270897969802886507, .int .u64 6620516959819538809]
theorem firstV_at (k : Nat) (h : k < 8) : firstV[k]? = some (.int .u64 ((firstN.getD k 0 : Nat) : Int)) := by
  match k, h with
  | 0, _ => rfl
  | 1, _ => rfl
  | 2, _ => rfl
  | 3, _ => rfl
  | 4, _ => rfl
  | 5, _ => rfl
  | 6, _ => rfl
  | 7, _ => rfl
def outW (b e : Nat) (s : S8) (k : Nat) : List UInt8 := ((s8L s).take k).flatMap fun x => wordB b x e
theorem wordB_length (b x : Nat) : ∀ k, (wordB b x k).length = k
  | 0 => rfl
  | k + 1 => by simp [wordB, wordB_length b x k]
theorem outW_length (b e : Nat) (s : S8) (k : Nat) (h : k ≤ 8) : (outW b e s k).length = k * e := by
  match k, h with
  | 0, _ => simp [outW, s8L]
  | 1, _ => simp [outW, s8L, wordB_length]
  | 2, _ => simp [outW, s8L, wordB_length]; omega
  | 3, _ => simp [outW, s8L, wordB_length]; omega
  | 4, _ => simp [outW, s8L, wordB_length]; omega
  | 5, _ => simp [outW, s8L, wordB_length]; omega
  | 6, _ => simp [outW, s8L, wordB_length]; omega
  | 7, _ => simp [outW, s8L, wordB_length]; omega
  | 8, _ => simp [outW, s8L, wordB_length]; omega
theorem outW_succ (b e : Nat) (s : S8) (k : Nat) (h : k < 8) : outW b e s (k + 1) = outW b e s k ++ wordB b ((s8L s).getD k 0) e := by
  match k, h with
  | 0, _ => simp [outW, s8L]
  | 1, _ => simp [outW, s8L]
  | 2, _ => simp [outW, s8L]
  | 3, _ => simp [outW, s8L]
  | 4, _ => simp [outW, s8L]
  | 5, _ => simp [outW, s8L]
  | 6, _ => simp [outW, s8L]
  | 7, _ => simp [outW, s8L]
theorem wordB_val (x sh b k : Nat) (h : sh = b - 8 - 8 * k) : (Value.int .u8 ((x : Int) / 2 ^ sh % 256)) = .int .u8 ((UInt8.ofNat (x / 2 ^ (b - 8 - 8 * k))).toNat : Int) := by
  subst h
  rw [shr_int]
  congr 1
set_option maxHeartbeats 1000000 in
theorem first_any (w : World) : Calls Tryz.prog 127 #[] w fun e w' => e = .returned (.agg firstV) ∧ Below w.heap.size w w' := by
  have hb := Blk.new w 171 (s8V .u64 ⟨0, 0, 0, 0, 0, 0, 0, 0⟩)
  have hu8 := Tryz.underlying171
  go_enter Tryz.func127, Tryz.ntmps127
  go_wp2_with (refine wpList_put_box (x := .tmp 0) (cells := firstV) hb rfl rfl rfl rfl (by kernel_rfl) rfl (by simp [firstV, Value.oneCell']) ?_; intro w1 hb1 hw1)
  refine bodyPost_ret (results_box (P := Tryz.prog) rfl rfl hb1 hu8 rfl (by kernel_rfl)) rfl ⟨rfl, ?_⟩
  exact hw1.below (below_new _ _) (Nat.le_refl _) (by simp)
def oneZ (data : List UInt8) (k : Nat) : List UInt8 := data ++ [128] ++ List.replicate k 0
theorem oneZ_length (data : List UInt8) (k : Nat) : (oneZ data k).length = data.length + 1 + k := by simp [oneZ]; omega
theorem oneZ_zero (data : List UInt8) : oneZ data 0 = data ++ [128] := by simp [oneZ]
theorem oneZ_succ (data : List UInt8) (k : Nat) : oneZ data (k + 1) = oneZ data k ++ [0] := by simp [oneZ, List.replicate_succ']
theorem bytesV_snoc (l : List UInt8) (b : UInt8) : bytesV (l ++ [b]) = bytesV l ++ [.int .u8 (b.toNat : Int)] := by simp [bytesV, byteV]
theorem prepS_32 {data : List UInt8} (_ : data.length ≤ 1000) : prepS F32 data = oneZ data (zeroN F32 data.length) := by simp [prepS, oneZ, moreN, F32]
theorem prep32_le {data : List UInt8} (h : data.length ≤ 1000) : (prepS F32 data).length ≤ 3000 := by
  rw [prepS_32 h, oneZ_length]
  have : zeroN F32 data.length < 64 := Nat.mod_lt _ (by decide)
  omega
theorem be8_length (n : Nat) : ∀ k, (be8 n k).length = k
  | 0 => rfl
  | k + 1 => by simp [be8, be8_length n k]
theorem be8_val (n sh k : Nat) (h : sh = 56 - 8 * k) : (Value.int .u8 ((n : Int) * 8 / 2 ^ sh % 256)) = .int .u8 ((UInt8.ofNat (n * 8 / 2 ^ (56 - 8 * k))).toNat : Int) := by
  subst h
  rw [show (n : Int) * 8 = ((n * 8 : Nat) : Int) by omega, shr_int]
  congr 1
theorem own_empty (w : World) {B : Nat} {e : TypeId} (hB : B ≤ w.heap.size) : OwnX (w.alloc (.cells #[] e)) B e 1 (.slice (some ⟨w.heap.size, 0, none⟩) 0 0) 0 (bytesV []) :=
  ⟨rfl, .inr ⟨w.heap.size, 0, #[], (0, 0), rfl, hB, heap_alloc_new w _, Nat.le_refl _, by unfold maxLen; omega, rfl, rfl, .inl rfl⟩⟩
end Go.Proofs.YtoihgnkhalhocaaGreatDoor.Sh
/-
  Walk: sha's sum, words of 32 bits.
-/
namespace Go.Proofs.YtoihgnkhalhocaaGreatDoor.Sh
set_option linter.unusedSimpArgs false
set_option linter.unusedVariables false
open Go.RowKit
structure SumSt32 (w0 : World) (gf : Nat) (xs : List UInt8) (v : Value) (u : World) : Prop where
  bel : Below gf w0 u
  form : Blk u gf 141 f32C
  own : OwnX u (gf + 1) 5 1 v xs.length (bytesV xs)
theorem SumSt32.grow {w0 u u' : World} {gf : Nat} {xs ys : List UInt8} {v v' : Value} (h : SumSt32 w0 gf xs v u) (hg : u.grownBy u' v.ownBlock) (ho : OwnX u' (gf + 1) 5 1 v' ys.length (bytesV ys)) : SumSt32 w0 gf ys v' u' :=
  ⟨h.bel.grown hg (by have := h.form.lt; omega) (fun k hk => by have := (h.own.lt k hk).1; omega), h.form.grown hg (fun e => by have := (h.own.lt gf e.symm).1; omega), ho⟩
theorem zero32_ne (n k : Nat) (h : k < zeroN F32 n) : ((((n + 1 + k : Nat) : Int) % 64) != 56) = true := by
  simp only [zeroN, F32] at h
  rw [bne_iff_ne]
  omega
theorem zero32_eq (n : Nat) : ((((n + 1 + zeroN F32 n : Nat) : Int) % 64) != 56) = false := by
  have h : zeroN F32 n = (2 * 32 - 8 + 2 * 32 - (n + 1) % (2 * 32)) % (2 * 32) := rfl
  rw [bne_eq_false_iff_eq]
  omega
theorem pad32_blocks (data : List UInt8) : (padS F32 data).length % 64 = 0 := by
  have hz : zeroN F32 data.length = (2 * 32 - 8 + 2 * 32 - (data.length + 1) % (2 * 32)) % (2 * 32) := rfl
  have hm : moreN F32 data.length = 0 ∨ moreN F32 data.length = 64 := by
    unfold moreN
    split
    · exact .inr rfl
    · exact .inl rfl
  simp only [padS, List.length_append, List.length_replicate, List.length_singleton, be8_length]
  omega
structure SumT32 (w0 : World) (gf gs : Nat) (A : Option Addr) (xs : List UInt8) (cs : Array Value) (u : World) : Prop where
  bel : Below gf w0 u
  form : Blk u gf 141 f32C
  rd : Rd u gs A (bytesV xs)
  s : Blk u gs 170 cs
  lg : gf < gs
theorem SumT32.next {w0 u u' : World} {gf gs : Nat} {A : Option Addr} {xs : List UInt8} {cs : Array Value} (h : SumT32 w0 gf gs A xs cs u) (hb : Below u.heap.size u u') : SumT32 w0 gf gs A xs cs u' :=
  ⟨h.bel.trans (hb.mono (by have := h.form.lt; omega)), h.form.below hb h.form.lt, h.rd.below (hb.mono (by have := h.s.lt; omega)), h.s.below hb h.s.lt, h.lg⟩
theorem SumT32.drew {w0 u : World} {gf gs : Nat} {A : Option Addr} {xs : List UInt8} {cs : Array Value} (h : SumT32 w0 gf gs A xs cs u) : SumT32 w0 gf gs A xs cs u.drew :=
  ⟨h.bel.drew, h.form, h.rd.below ((Below.refl _ _).drew), h.s, h.lg⟩
theorem SumT32.put {w0 u u' : World} {gf gs : Nat} {A : Option Addr} {xs : List UInt8} {cs cs' : Array Value} (h : SumT32 w0 gf gs A xs cs u) (hw : Wrote gs u u') (hb : Blk u' gs 170 cs') : SumT32 w0 gf gs A xs cs' u' :=
  ⟨hw.below h.bel (by have := h.lg; omega) (by have := h.form.lt; omega), hw.blk h.form (by have := h.lg; omega), h.rd.below (hw.below (Below.refl _ _) (Nat.le_refl _) (by have := h.s.lt; omega)), hb, h.lg⟩
structure SumO32 (w0 : World) (gf gb : Nat) (xs : List UInt8) (v : Value) (u : World) : Prop where
  bel : Below gf w0 u
  form : Blk u gf 141 f32C
  own : u.ownsRow gb 5 1 v xs.length (bytesV xs)
  lb : gb ≤ u.heap.size
theorem SumO32.grow {w0 u u' : World} {gf gb : Nat} {xs ys : List UInt8} {v v' : Value} (h : SumO32 w0 gf gb xs v u) (hlt : gf < gb) (hg : u.grownBy u' v.ownBlock) (ho : u'.ownsRow gb 5 1 v' ys.length (bytesV ys)) : SumO32 w0 gf gb ys v' u' :=
  ⟨h.bel.grown hg (by have := h.form.lt; omega) (fun k hk => by have := (own_lt h.own k hk).1; omega), h.form.grown hg (fun e => by have := (own_lt h.own gf e.symm).1; omega), ho, by have := h.lb; have := hg.size; omega⟩
def SumPost32 (data : List UInt8) (w : World) (e : Ending) (w' : World) : Prop :=
  ∃ A c, e = .returned (.slice A (8 * 4) c) ∧ w'.ownsRow w.heap.size 5 1 (.slice A (8 * 4) c) (8 * 4) (bytesV (digS F32 data)) ∧ Below w.heap.size w w'
set_option maxRecDepth 100000 in
set_option maxHeartbeats 4000000 in
theorem sum32_any (data : List UInt8) (A : Option Addr) (c B : Nat) (w : World) (hr : Rd w B A (bytesV data)) (hB : B ≤ w.heap.size) (hl : data.length ≤ 1000) (hc : data.length ≤ c) (hcm : c ≤ 9223372036854775807) (hG : TabG w) :
    Calls Tryz.prog 93 #[.agg f32C, .slice A data.length c] w (SumPost32 data w) := by
  obtain ⟨W0, hW0⟩ : ∃ W0, W0 = w.alloc (.cells f32C 141) := ⟨_, rfl⟩
  have hb0 : Below w.heap.size w W0 := by rw [hW0]; exact below_new _ _
  have hf0 : Blk W0 w.heap.size 141 f32C := by rw [hW0]; exact Blk.new _ _ _
  have hs0 : W0.heap.size = w.heap.size + 1 := by rw [hW0]; simp
  have c0 := hf0.cell 0
  simp [f32C] at c0
  rw [hW0] at c0
  have HB0 := Lib.hid hb0
  have HF0 := Lib.hid hf0
  have HS0 := Lib.hid hs0
  have HR := Lib.hid (hr.mono hB)
  have HW := Lib.hid hW0
  have HG := Lib.hid hG
  have hl' : (data.length : Int) ≤ 1000 := by omega
  clear hb0 hf0 hs0 hr hW0 hG
  go_enter Tryz.func93, Tryz.ntmps93
  go_wp2
  go_quiet (fail)
  have hb1 : Below w.heap.size w ((w.alloc (.cells f32C 141)).drewN nq) := below_drewN' (below_new _ _) nq
  have hf1 : Blk ((w.alloc (.cells f32C 141)).drewN nq) w.heap.size 141 f32C := Blk.new _ _ _
  have hz1 : ((w.alloc (.cells f32C 141)).drewN nq).heap.size = w.heap.size + 1 := by simp
  generalize (w.alloc (.cells f32C 141)).drewN nq = W1 at *
  have hr1 := HR.out.below hb1
  generalize hgf : w.heap.size = gf at *
  have HGF := Lib.hid hgf
  have hst0 : SumSt32 w gf [] (.slice (some ⟨W1.heap.size, 0, none⟩) 0 0) (W1.alloc (.cells #[] 5)) :=
    ⟨hb1.alloc (by omega) _, hf1.alloc _, own_empty W1 (by omega)⟩
  have hr2 : Rd (W1.alloc (.cells #[] 5)) gf A (bytesV data) := hr1.below ((Below.refl _ _).alloc (by omega) _)
  have HST0 := Lib.hid hst0
  have HR2 := Lib.hid hr2
  have HZ1 := Lib.hid hz1
  clear hb1 hf1 hz1 hr1 hst0 hr2 hgf c0 HB0 HF0 HS0 HW
  have HOWN0 : Hid (OwnX (W1.alloc (.cells #[] 5)) (gf + 1) 5 1 (.slice (some ⟨W1.heap.size, 0, none⟩) 0 0) 0 []) := Lib.hid HST0.out.own
  go_wp2_with (first
    | (refine wpList_append_rd (o := ⟨some 25, _, _, _, _, _⟩) sl_bytes rfl rfl HOWN0.out rfl rfl (by simp [bytesV]) HR2.out (by intro u hu; simp [bytesV, byteV] at hu; obtain ⟨_, _, rfl⟩ := hu; rfl) (by unfold maxLen; omega) (by omega) (by have := HST0.out.form.lt; omega) ?_; intro A1 c1 w1 hown1 hg1 hn1; have HOWN1 : Hid (OwnX w1 (gf + 1) 5 1 (.slice A1 data.length c1) data.length (bytesV data)) := Lib.hid (by simpa using hown1); have H641 : Hid (gf + 1 ≤ w1.heap.size) := Lib.hid (by have := hg1.size; have := HZ1.out; simp at *; omega); have HG1 := Lib.hid hg1; clear hown1 hg1 hn1)
    | (refine wpList_append_one (o := ⟨some 28, _, _, _, _, _⟩) sl_bytes rfl rfl HOWN1.out rfl rfl rfl rfl (by unfold maxLen; omega) (by omega) H641.out ?_; intro A2 c2 w2 hown2 hg2 hn2; have HOWN2 := Lib.hid hown2; have HG2 := Lib.hid hg2; clear hown2 hg2 hn2))
  have hst2 : SumSt32 w gf (oneZ data 0) (.slice A2 (data.length + 1) c2) w2 :=
    (HST0.out.grow (ys := data) HG1.out HOWN1.out).grow HG2.out (by rw [oneZ_length, oneZ_zero, bytesV_snoc]; exact HOWN2.out)
  have hzl : zeroN F32 data.length < 64 := Nat.mod_lt _ (by decide)
  clear HST0 HOWN0 HR2 HZ1 HOWN1 H641 HG1 HOWN2 HG2
  go_loopw [7] (fun v wr => ∃ (k n : Nat) (A3 : Option Addr) (c3 : Nat), k ≤ zeroN F32 data.length ∧ n = data.length + 1 + k ∧ v = .slice A3 n c3 ∧ SumSt32 w gf (oneZ data k) (.slice A3 n c3) wr) (fun v _ => data.length + 1 + zeroN F32 data.length - lenOf v)
  case atStart => exact ⟨0, data.length + 1, A2, c2, Nat.zero_le _, rfl, rfl, hst2⟩
  case round =>
    obtain ⟨k, n, A3, c3, hk, hn, rfl, hst⟩ := hrel
    clear hst2
    have hn2 : n ≤ 2000 := by omega
    by_cases hlt : k < zeroN F32 data.length
    · have hne : (((n : Nat) : Int) % 64 != 56) = true := by rw [hn]; exact zero32_ne _ _ hlt
      have ho : OwnX wr (gf + 1) 5 1 (.slice A3 n c3) n (bytesV (oneZ data k)) := by have := hst.own; rwa [oneZ_length, ← hn] at this
      have HO := Lib.hid ho
      have HN := Lib.hid hn
      have HST := Lib.hid hst
      clear ho hn hst
      go_wp2_with (refine wpList_append_one (o := ⟨some 38, _, _, _, _, _⟩) sl_bytes rfl rfl HO.out rfl rfl rfl rfl (by unfold maxLen; omega) (by omega) (by have := HST.out.form.lt; omega) ?_; intro A4 c4 w4 hown4 hg4 hn4; have HOWN4 := Lib.hid hown4; have HG4 := Lib.hid hg4; clear hown4 hg4 hn4)
      exact ⟨⟨k + 1, n + 1, A4, c4, hlt, by rw [HN.out]; omega, rfl, HST.out.grow HG4.out (by rw [oneZ_length, oneZ_succ, bytesV_snoc, ← Nat.add_assoc, ← HN.out]; exact HOWN4.out)⟩, by simp only [lenOf]; have := HN.out; omega⟩
    · obtain rfl : k = zeroN F32 data.length := by omega
      have hne : (((n : Nat) : Int) % 64 != 56) = false := by rw [hn]; exact zero32_eq _
      have HN := Lib.hid hn
      have HST := Lib.hid hst
      clear hn hst
      go_wp2_with fail
      obtain ⟨pl, hpl⟩ : ∃ x, x = (prepS F32 data).length := ⟨_, rfl⟩
      have hpl3 : pl ≤ 3000 := by rw [hpl]; exact prep32_le hl
      have hst3 : SumSt32 w gf (prepS F32 data ++ be8 (data.length * 8) 0) (.slice A3 n c3) wr := by
        have h := HST.out
        simp only [be8, List.append_nil]
        rw [prepS_32 hl]
        exact h
      have hn3 : n = pl + 0 := by rw [hpl, prepS_32 hl, oneZ_length, HN.out]; rfl
      have HPL := Lib.hid hpl
      have HN3 := Lib.hid hn3
      clear hpl hn3 hn2
      obtain ⟨wo, rfl⟩ : ∃ wo : World, wo = wr := ⟨_, rfl⟩
      go_loopw [7, 8] (fun v i wr => ∃ (k m : Nat) (A4 : Option Addr) (c4 : Nat), k ≤ 8 ∧ m = pl + k ∧ v = .slice A4 m c4 ∧ i = .int .i64 (56 - 8 * (k : Int)) ∧ SumSt32 w gf (prepS F32 data ++ be8 (data.length * 8) k) (.slice A4 m c4) wr) (fun _ i _ => (intOf i + 8).toNat)
      case atStart => exact ⟨0, n, A3, c3, by omega, HN3.out, rfl, rfl, hst3⟩
      case round =>
        obtain ⟨k, m, A4, c4, hk8, hm, rfl, rfl, hs4⟩ := hrel
        clear hst3
        by_cases hlt8 : k < 8
        · obtain ⟨sh, hsh⟩ : ∃ sh : Nat, (56 - 8 * (k : Int)) = (sh : Int) := ⟨56 - 8 * k, by omega⟩
          rw [hsh]
          have hsh2 : sh = 56 - 8 * k := by omega
          have hsl : (sh : Int) < 64 := by omega
          have HSH := Lib.hid hsh2
          have HM := Lib.hid hm
          have HS4 := Lib.hid hs4
          have ho4 : OwnX wr (gf + 1) 5 1 (.slice A4 m c4) m (bytesV (prepS F32 data ++ be8 (data.length * 8) k)) := by
            have := hs4.own
            rwa [List.length_append, be8_length, ← HPL.out, ← hm] at this
          have HO4 := Lib.hid ho4
          have hm3 : m ≤ 4000 := by omega
          clear hsh hsh2 hm hs4 ho4
          go_wp2_with (refine wpList_append_one (o := ⟨some 76, _, _, _, _, _⟩) sl_bytes rfl rfl HO4.out rfl rfl rfl rfl (by unfold maxLen; omega) (by omega) (by have := HS4.out.form.lt; omega) ?_; intro A5 c5 w5 hown5 hg5 hn5; have HOWN5 := Lib.hid hown5; have HG5 := Lib.hid hg5; clear hown5 hg5 hn5)
          have hfin : SumSt32 w gf (prepS F32 data ++ be8 (data.length * 8) (k + 1)) (.slice A5 (m + 1) c5) w5 := by
            refine HS4.out.grow HG5.out ?_
            have h := HOWN5.out
            rw [be8_val _ _ _ HSH.out, ← bytesV_snoc, List.append_assoc] at h
            rw [List.length_append, be8_length, ← HPL.out, show pl + (k + 1) = m + 1 by rw [HM.out]; omega]
            exact h
          exact ⟨⟨k + 1, m + 1, A5, c5, hlt8, by rw [HM.out]; omega, rfl, by have := HSH.out; exact congrArg (Value.int .i64) (by omega), hfin⟩, by have := HSH.out; simp [intOf]; omega⟩
        · obtain rfl : k = 8 := by omega
          have HM := Lib.hid hm
          have HS4 := Lib.hid hs4
          clear hm hs4
          go_wp2_with fail
          obtain ⟨A64, hA64⟩ : ∃ x, x = padS F32 data := ⟨_, rfl⟩
          have hAll : A64 = prepS F32 data ++ be8 (data.length * 8) 8 := by rw [hA64]; rfl
          have hal : A64.length = m := by rw [hAll, List.length_append, be8_length, ← HPL.out, HM.out]
          obtain ⟨gs, hgs⟩ : ∃ x, x = wr.heap.size := ⟨_, rfl⟩
          have hst5 : SumT32 w gf gs A4 A64 (setC .u32 (startS F32) 0) (wr.alloc (.cells (s8V .u32 ⟨0, 0, 0, 0, 0, 0, 0, 0⟩) 170)) :=
            ⟨HS4.out.bel.alloc (by have := HS4.out.form.lt; omega) _, HS4.out.form.alloc _, by
              have ho : OwnX wr (gf + 1) 5 1 (.slice A4 m c4) m (bytesV A64) := by have := HS4.out.own; rwa [← hAll, hal] at this
              have h := Rd.of_own ho (Nat.le_refl _)
              rw [← hgs] at h
              exact h.below ((Below.refl _ _).alloc (by omega) _), by rw [hgs]; exact Blk.new _ _ _, by have := HS4.out.form.lt; omega⟩
          rw [← hgs]
          have HOWN4 : Hid (OwnX wr (gf + 1) 5 1 (.slice A4 m c4) m (bytesV A64)) := Lib.hid (by have := HS4.out.own; rwa [← hAll, hal] at this)
          have HA64 := Lib.hid hA64
          have HAL := Lib.hid hal
          have HGS := Lib.hid hgs
          have HS5 := Lib.hid hst5
          clear hA64 hAll hal hgs hst5
          refine calls_then (first_any _) ?_
          rintro e w6 ⟨rfl, hb6⟩
          have hst6 := HS5.out.next hb6
          clear HS5 hb6
          go_wp2_with fail
          have hu42 := Tryz.underlying171
          have hst6' := hst6
          clear hst6
          go_loopw [78] (fun i wr => ∃ k : Nat, k ≤ 8 ∧ i = .int .i64 k ∧ SumT32 w gf gs A4 A64 (setC .u32 (startS F32) k) wr) (fun i _ => 8 - (intOf i).toNat)
          case atStart => exact ⟨0, by omega, rfl, hst6'⟩
          case round =>
            obtain ⟨k, hk, rfl, hsk⟩ := hrel
            clear hst6'
            by_cases hk8 : k < 8
            · have hk8' : (k : Int) < 8 := by omega
              obtain ⟨x, hx⟩ : ∃ x, x = firstN.getD k 0 := ⟨_, rfl⟩
              obtain ⟨y, hy⟩ : ∃ y, y = (s8L (startS F32)).getD k 0 := ⟨_, rfl⟩
              have hxl : x < 18446744073709551616 := by rw [hx]; exact firstN_lt k
              have hxl' : (x : Int) < 18446744073709551616 := by omega
              have hyx : y = x / 4294967296 % 4294967296 := by rw [hy, hx, startS_at _ _ hk8]; rfl
              have hix : ∀ u : World, (Instr.index 171 (.agg firstV) (.int .i64 (k : Int))).run Tryz.prog u = .ok (.int .u64 (x : Int)) u := fun u =>
                run_index_array (n := 8) (e := 86) hu42 hk8 (by rw [hx]; exact firstV_at k hk8) (by kernel_rfl) (by kernel_rfl) ⟨_, Tryz.underlying86⟩
              have f0 := hsk.form.cell 0
              simp [f32C] at f0
              have d0 := hsk.s.cell k
              rw [setC_at _ _ _ hk8] at d0
              have g0 := hsk.s.free k
              have hfin : SumT32 w gf gs A4 A64 (setC .u32 (startS F32) (k + 1)) (wr.setCell ⟨gs, k, none⟩ (.int .u32 (y : Int))) :=
                hsk.put (wrote_setCell_at _ _ _ _) (by have := blk_setCell_at (i := k) hsk.s (.int .u32 (y : Int)); rwa [hy, setC_set _ _ _ hk8, ← hy] at this)
              have HFIN := Lib.hid hfin
              have HYX := Lib.hid hyx
              have HXL := Lib.hid hxl
              clear hfin hyx hxl hx hy hsk
              go_wp2_with fail
              rw [show (x : Int) / 4294967296 = ((x / 4294967296 : Nat) : Int) from by omega]
              refine calls_then (cut32_any _ _ (by have := HXL.out; omega)) ?_
              rintro e w7 ⟨rfl, rfl⟩
              rw [← HYX.out]
              go_wp2_with fail
              exact ⟨⟨k + 1, hk8, by go_num, HFIN.out⟩, by simp [intOf]; omega⟩
            · have hge : ¬ (k : Int) < 8 := by omega
              obtain rfl : k = 8 := by omega
              rw [setC_end] at hsk
              obtain ⟨nb, hnb⟩ : ∃ nb, m = nb * 64 := ⟨m / 64, by have := pad32_blocks data; rw [← HA64.out, HAL.out] at this; omega⟩
              have hm4 : m ≤ 4000 := by have := HM.out; omega
              have hcap : m ≤ c4 ∧ c4 ≤ 9223372036854775807 := by
                have ho : OwnX _ (gf + 1) 5 1 (.slice A4 m c4) m (bytesV A64) := HOWN4.out
                exact own_cap ho
              obtain ⟨hcap1, hcap2⟩ := hcap
              have hst8 : SumT32 w gf gs A4 A64 (s8V .u32 (runS F32 A64 0)) wr := hsk
              have HNB := Lib.hid hnb
              have HS8 := Lib.hid hst8
              clear hnb hst8 hsk hu42
              obtain ⟨wo3, rfl⟩ : ∃ wo3 : World, wo3 = wr := ⟨_, rfl⟩
              go_wp2_with fail
              go_loopw [12] (fun i wr => ∃ j a : Nat, j ≤ nb ∧ a = j * 64 ∧ i = .int .i64 (a : Int) ∧ SumT32 w gf gs A4 A64 (s8V .u32 (runS F32 A64 j)) wr) (fun i _ => m - (intOf i).toNat)
              case atStart => exact ⟨0, 0, by omega, rfl, rfl, HS8.out⟩
              case round =>
                obtain ⟨j, a, hj, ha, rfl, hsj⟩ := hrel
                by_cases hjn : j < nb
                · have ham : a + 64 ≤ m := by rw [HNB.out, ha]; omega
                  have hlt : a < m := by omega
                  have hle1 : a + 64 ≤ c4 := by omega
                  obtain ⟨ad, hAd, _, _⟩ := (hsj.rd).at_ (k := a) (by rw [bytesV_length, HAL.out]; omega)
                  subst hAd
                  obtain ⟨bk, hbk⟩ : ∃ x, x = (A64.drop a).take 64 := ⟨_, rfl⟩
                  have hbl : bk.length = 64 := by rw [hbk]; simp; rw [HAL.out]; omega
                  have HRB : Hid (∀ u, SumT32 w gf gs (some ad) A64 (s8V .u32 (runS F32 A64 j)) u → Rd u gs (some (ad.add a)) (bytesV bk)) := Lib.hid fun u hu => by
                    rw [hbk, bytesV, List.map_take, List.map_drop]; exact rd_take (rd_drop hu.rd a) 64
                  obtain ⟨sj, hsj2⟩ : ∃ x, x = runS F32 A64 j := ⟨_, rfl⟩
                  obtain ⟨sn, hsn⟩ : ∃ x, x = mixS F32 sj bk := ⟨_, rfl⟩
                  have hsl : sj.Lt (2 ^ 32) := by rw [hsj2]; exact runS_lt F32 A64 j
                  have hs1 : runS F32 A64 (j + 1) = sn := by rw [hsn, hsj2, hbk, ha]; rfl
                  rw [← hsj2] at hsj
                  have HRB2 : Hid (∀ u, SumT32 w gf gs (some ad) A64 (s8V .u32 sj) u → Rd u gs (some (ad.add a)) (bytesV bk)) := Lib.hid (by rw [hsj2]; exact HRB.out)
                  have HBL := Lib.hid hbl
                  have HSN := Lib.hid hsn
                  have HSL := Lib.hid hsl
                  have HS1 := Lib.hid hs1
                  have HA := Lib.hid ha
                  clear HRB hbl hsn hsl hs1 hbk hsj2 ha
                  have HC0 := hsj.drew
                  clear hsj
                  have hu8 := Tryz.underlying170
                  have hu := Tryz.underlying141
                  go_wp2_with fail
                  refine wp_region_seqt (fun u => SumT32 w gf gs (some ad) A64 (s8V .u32 sj) u) (fun _ => false) 9 (by kernel_rfl) (by kernel_rfl) (by decide) (by kernel_rfl) HC0 ?_
                  simp only [List.take_succ_cons, List.take_zero, List.drop_succ_cons, List.drop_zero]
                  apply SeqL.next
                  · rfl
                  · rfl
                  · simp only [act_put, act_put_none, List.setIfInBounds_toArray, List.set_cons_zero, List.set_cons_succ]
                    rfl
                  · intro w1 hC1 E hE
                    refine wpList_get_box hC1.form rfl rfl rfl hu rfl form_size ?_
                    go_wp2_with fail
                    exact .mk (hE _ hC1)
                  apply SeqL.next
                  · rfl
                  · rfl
                  · simp only [act_put, act_put_none, List.setIfInBounds_toArray, List.set_cons_zero, List.set_cons_succ]
                    rfl
                  · intro w1 hC1 E hE
                    refine wpList_get_box hC1.s rfl rfl rfl hu8 rfl eight32_size ?_
                    go_wp2_with fail
                    exact .mk (hE _ hC1)
                  iterate 5
                    ((first | (apply SeqL.next; rfl; rfl)); (simp only [act_put, act_put_none, List.setIfInBounds_toArray, List.set_cons_zero, List.set_cons_succ]; rfl); (intro w1 hC1 E hE; go_wp2; exact .mk (hE _ hC1)))
                  apply SeqL.next
                  · rfl
                  · rfl
                  · simp only [act_put, act_put_none, List.setIfInBounds_toArray, List.set_cons_zero, List.set_cons_succ]
                    rfl
                  · intro w1 hC1 E hE
                    go_wp2
                    rw [show a + 64 - a = 64 by omega]
                    exact .mk (hE _ hC1)
                  apply SeqL.next
                  · rfl
                  · rfl
                  · simp only [act_put, act_put_none, List.setIfInBounds_toArray, List.set_cons_zero, List.set_cons_succ]
                    rfl
                  · intro w1 hC1 E hE
                    go_wp2_with fail
                    have hmx := mix32_any sj bk (some (ad.add a)) (c4 - a) gs w1 (HRB2.out _ hC1) (by have := hC1.s.lt; omega) HBL.out (by rw [HBL.out]; omega) (by omega) HSL.out (HG.out.below hC1.bel (by rw [← HGF.out]; exact HG.out.size))
                    rw [HBL.out] at hmx
                    refine calls_then hmx ?_
                    rintro e w2 ⟨rfl, hb2⟩
                    rw [← HSN.out]
                    go_wp2_with fail
                    exact .mk (hE _ (hC1.next hb2))
                  refine SeqL.nil ?_
                  apply SeqT.last (v := undef) (D := fun u => SumT32 w gf gs (some ad) A64 (s8V .u32 sn) u)
                  · rfl
                  · exact act_put_none _ _
                  · intro w1 hC1 E hE
                    refine wpList_put_box hC1.s rfl rfl rfl rfl eight32_size rfl (by simp [s8V, Value.oneCell']) ?_
                    intro w2 hb2 hw2
                    go_wp2_with fail
                    exact .mk (hE _ (hC1.put hw2 hb2))
                  intro w1 hC1
                  clear HC0
                  have hfin : SumT32 w gf gs (some ad) A64 (s8V .u32 (runS F32 A64 (j + 1))) w1 := by rw [HS1.out]; exact hC1
                  have HFIN := Lib.hid hfin
                  clear hfin hC1
                  go_wp2_with fail
                  exact ⟨⟨j + 1, a + 64, hjn, by rw [HA.out]; omega, by go_num, HFIN.out⟩, by simp [intOf]; omega⟩
                · obtain rfl : j = nb := by omega
                  have hge : ¬ a < m := by rw [HNB.out, ha]; omega
                  have HA := Lib.hid ha
                  obtain ⟨sv, hsv⟩ : ∃ x, x = runS F32 A64 j := ⟨_, rfl⟩
                  have hsl : sv.Lt (2 ^ 32) := by rw [hsv]; exact runS_lt F32 A64 j
                  rw [← hsv] at hsj
                  have hu8 := Tryz.underlying170
                  have HSV := Lib.hid hsv
                  have HSL := Lib.hid hsl
                  clear ha hsv hsl
                  go_wp2_with (refine wpList_get_box (x := .tmp 9) hsj.s rfl rfl rfl hu8 rfl eight32_size ?_)
                  obtain ⟨g2, hg2⟩ : ∃ x, x = wr.heap.size := ⟨_, rfl⟩
                  have hso : SumO32 w gf (gf + 1) [] (.slice none 0 0) wr := ⟨hsj.bel, hsj.form, World.ownsRow_nil _ _ _ _, by have := hsj.form.lt; omega⟩
                  have HSO := Lib.hid hso
                  clear hso hsj
                  obtain ⟨wo4, rfl⟩ : ∃ wo4 : World, wo4 = wr := ⟨_, rfl⟩
                  go_loopw [13, 108] (fun v i wr => ∃ (k q : Nat) (A5 : Option Addr) (c5 : Nat), k ≤ 8 ∧ q = k * 4 ∧ i = .int .i64 k ∧ v = .slice A5 q c5 ∧ SumO32 w gf (gf + 1) (outW 32 4 sv k) (.slice A5 q c5) wr) (fun _ i _ => 8 - (intOf i).toNat)
                  case atStart => exact ⟨0, 0, none, 0, by omega, by omega, rfl, rfl, HSO.out⟩
                  case round =>
                    obtain ⟨k, q, A5, c5, hk, hq, rfl, rfl, hso⟩ := hrel
                    by_cases hk8 : k < 8
                    · have hk8' : (k : Int) < 8 := by omega
                      obtain ⟨x, hx⟩ : ∃ x, x = (s8L sv).getD k 0 := ⟨_, rfl⟩
                      have hxl : x < 2 ^ 32 := by rw [hx]; exact s8L_lt HSL.out (by decide) k
                      have hxl' : (x : Int) < 4294967296 := by omega
                      have hix : ∀ u : World, (Instr.index 170 (.agg (s8V .u32 sv)) (.int .i64 (k : Int))).run Tryz.prog u = .ok (.int .u32 (x : Int)) u := fun u =>
                        run_index_array (n := 8) (e := 136) hu8 hk8 (by rw [hx]; exact s8V_at .u32 sv k hk8) (by kernel_rfl) (by kernel_rfl) ⟨_, Tryz.underlying136⟩
                      have f0 := hso.form.cell 0
                      simp [f32C] at f0
                      have hs6 : SumO32 w gf (gf + 1) (outW 32 4 sv k ++ wordB 32 x 0) (.slice A5 q c5) wr := by simpa [wordB] using hso
                      have HX := Lib.hid hx
                      have HQ := Lib.hid hq
                      have HS6 := Lib.hid hs6
                      have HU8 := Lib.hid hu8
                      have hq9 : q ≤ 64 := by omega
                      clear hx hq hs6 hso hxl hu8
                      go_wp2_with fail
                      clear hix f0
                      obtain ⟨wo5, rfl⟩ : ∃ wo5 : World, wo5 = wr := ⟨_, rfl⟩
                      go_loopw [13, 16] (fun v i wr => ∃ (p r : Nat) (A6 : Option Addr) (c6 : Nat), p ≤ 4 ∧ r = q + p ∧ v = .slice A6 r c6 ∧ i = .int .i64 (32 - 8 - 8 * (p : Int)) ∧ SumO32 w gf (gf + 1) (outW 32 4 sv k ++ wordB 32 x p) (.slice A6 r c6) wr) (fun _ i _ => (intOf i + 8).toNat)
                      case atStart => exact ⟨0, q, A5, c5, by omega, by omega, rfl, rfl, HS6.out⟩
                      case round =>
                        obtain ⟨p, r, A6, c6, hp, hr6, rfl, rfl, hs7⟩ := hrel
                        by_cases hp8 : p < 4
                        · obtain ⟨sh, hsh⟩ : ∃ sh : Nat, (32 - 8 - 8 * (p : Int)) = (sh : Int) := ⟨32 - 8 - 8 * p, by omega⟩
                          rw [hsh]
                          have hsh2 : sh = 32 - 8 - 8 * p := by omega
                          have hsl : (sh : Int) < 32 := by omega
                          have HSH := Lib.hid hsh2
                          have HR6 := Lib.hid hr6
                          have HS7 := Lib.hid hs7
                          have ho7 : wr.ownsRow (gf + 1) 5 1 (.slice A6 r c6) r (bytesV (outW 32 4 sv k ++ wordB 32 x p)) := by
                            have := hs7.own
                            rwa [List.length_append, wordB_length, outW_length _ _ _ _ (by omega), ← HQ.out, ← hr6] at this
                          have HO7 := Lib.hid ho7
                          have hr9 : r ≤ 100 := by omega
                          clear hsh hsh2 hr6 hs7 ho7
                          go_wp2_with (refine wpList_append_own1 sl_bytes rfl rfl HO7.out rfl rfl rfl rfl (by unfold maxLen; omega) (by omega) HS7.out.lb ?_; intro A8 c8 w8 hown8 hg8; have HOWN8 := Lib.hid hown8; have HG8 := Lib.hid hg8; clear hown8 hg8)
                          have hfin : SumO32 w gf (gf + 1) (outW 32 4 sv k ++ wordB 32 x (p + 1)) (.slice A8 (r + 1) c8) w8 := by
                            refine HS7.out.grow (by omega) HG8.out ?_
                            have h := HOWN8.out
                            rw [wordB_val _ _ _ _ HSH.out, ← bytesV_snoc, List.append_assoc] at h
                            rw [List.length_append, wordB_length, outW_length _ _ _ _ (by omega), ← HQ.out, show q + (p + 1) = r + 1 by rw [HR6.out]; omega]
                            exact h
                          exact ⟨⟨p + 1, r + 1, A8, c8, hp8, by rw [HR6.out]; omega, rfl, by have := HSH.out; exact congrArg (Value.int .i64) (by omega), hfin⟩, by have := HSH.out; simp [intOf]; omega⟩
                        · obtain rfl : p = 4 := by omega
                          have hfin : SumO32 w gf (gf + 1) (outW 32 4 sv (k + 1)) (.slice A6 r c6) wr := by rw [outW_succ _ _ _ _ hk8, ← HX.out]; exact hs7
                          have HFIN := Lib.hid hfin
                          have HR6 := Lib.hid hr6
                          clear hfin hr6 hs7
                          go_wp2_with fail
                          exact ⟨⟨k + 1, r, A6, c6, hk8, by rw [HR6.out, HQ.out]; omega, by go_num, rfl, HFIN.out⟩, by simp [intOf]; omega⟩
                    · have hge : ¬ (k : Int) < 8 := by omega
                      obtain rfl : k = 8 := by omega
                      have HSO := Lib.hid hso
                      obtain rfl : q = 8 * 4 := hq
                      clear hso
                      go_wp2_with fail
                      go_ret
                      refine ⟨A5, c5, rfl, ?_, by rw [HGF.out]; exact HSO.out.bel⟩
                      have h := HSO.out.own
                      rw [outW_length _ _ _ _ (by omega)] at h
                      have hd : outW 32 4 sv 8 = digS F32 data := by
                        rw [HSV.out, digS, ← HA64.out, HAL.out, HNB.out]
                        show _ = (s8L (runS F32 A64 (j * 64 / 64))).flatMap _
                        rw [Nat.mul_div_cancel _ (by decide)]
                        rfl
                      rw [← hd]
                      exact own_mono h (by rw [HGF.out]; omega)
end Go.Proofs.YtoihgnkhalhocaaGreatDoor.Sh
/-
  Walk: the digest of 32 bytes as it is called.
-/
namespace Go.Proofs.YtoihgnkhalhocaaGreatDoor.Sh
set_option linter.unusedSimpArgs false
set_option linter.unusedVariables false
open Go.RowKit
set_option maxRecDepth 100000 in
theorem p256_any (data : List UInt8) (A : Option Addr) (c B : Nat) (w : World) (hr : Rd w B A (bytesV data)) (hB : B ≤ w.heap.size) (hl : data.length ≤ 1000) (hc : data.length ≤ c) (hcm : c ≤ 9223372036854775807) (hG : TabG w) :
    Calls Tryz.prog 54 #[.slice A data.length c] w (SumPost32 data w) := by
  have hs := sum32_any data A c B w hr hB hl hc hcm hG
  rw [f32C] at hs
  go_enter Tryz.func54, Tryz.ntmps54
  go_wp2_with fail
  refine calls_then hs ?_
  rintro e w' ⟨A2, c2, rfl, ho, hb⟩
  have HO := Lib.hid ho
  have HB := Lib.hid hb
  clear ho hb hs
  go_wp2_with fail
  go_ret
  exact ⟨A2, c2, rfl, HO.out, HB.out⟩
end Go.Proofs.YtoihgnkhalhocaaGreatDoor.Sh
/-
  Plain: numbers modulo 2^255 - 19 as five limbs of 51 bits.
-/
namespace Go.Proofs.YtoihgnkhalhocaaGreatDoor
set_option linter.unusedSimpArgs false
set_option linter.unusedVariables false
open Go.RowKit
structure E5 where
  a : Nat
  b : Nat
  c : Nat
  d : Nat
  e : Nat
def E5.val (x : E5) : Nat := x.a + x.b * 2251799813685248 + x.c * 5070602400912917605986812821504 + x.d * 11417981541647679048466287755595961091061972992 + x.e * 25711008708143844408671393477458601640355247900524685364822016
structure E5.Lt (x : E5) (m : Nat) : Prop where
  a : x.a < m
  b : x.b < m
  c : x.c < m
  d : x.d < m
  e : x.e < m
theorem E5.Lt.mono {x : E5} {m n : Nat} (h : x.Lt m) (hm : m ≤ n) : x.Lt n := ⟨Nat.lt_of_lt_of_le h.a hm, Nat.lt_of_lt_of_le h.b hm, Nat.lt_of_lt_of_le h.c hm, Nat.lt_of_lt_of_le h.d hm, Nat.lt_of_lt_of_le h.e hm⟩
def carryE (x : E5) : E5 := ⟨x.a % 2251799813685248 + x.e / 2251799813685248 * 19, x.b % 2251799813685248 + x.a / 2251799813685248, x.c % 2251799813685248 + x.b / 2251799813685248, x.d % 2251799813685248 + x.c / 2251799813685248, x.e % 2251799813685248 + x.d / 2251799813685248⟩
theorem carry_lt {x : E5} (h : x.Lt 18446744073709551616) : (carryE x).Lt 2251799813947392 := by
  obtain ⟨h1, h2, h3, h4, h5⟩ := h
  constructor <;> simp only [carryE] <;> omega
def overP (x : E5) : Nat := (x.e + (x.d + (x.c + (x.b + (x.a + 19) / 2251799813685248) / 2251799813685248) / 2251799813685248) / 2251799813685248) / 2251799813685248
def leastQ (x : E5) (q : Nat) : E5 :=
  let a := x.a + 19 * q
  let b := x.b + a / 2251799813685248
  let c := x.c + b / 2251799813685248
  let d := x.d + c / 2251799813685248
  let e := x.e + d / 2251799813685248
  ⟨a % 2251799813685248, b % 2251799813685248, c % 2251799813685248, d % 2251799813685248, e % 2251799813685248⟩
def leastE (x : E5) : E5 := leastQ (carryE (carryE x)) (overP (carryE (carryE x)))
theorem leastQ_lt (x : E5) (q : Nat) : (leastQ x q).Lt 2251799813685248 := by
  constructor <;> exact Nat.mod_lt _ (by decide)
theorem least_lt (x : E5) : (leastE x).Lt 2251799813685248 := leastQ_lt _ _
abbrev E5.Ok (x : E5) : Prop := x.Lt 4503599627370496
theorem E5.Ok.big {x : E5} (h : x.Ok) : x.Lt 18446744073709551616 := E5.Lt.mono h (by decide)
end Go.Proofs.YtoihgnkhalhocaaGreatDoor
/-
  Walks: the field's carried.
-/
namespace Go.Proofs.YtoihgnkhalhocaaGreatDoor
set_option linter.unusedSimpArgs false
set_option linter.unusedVariables false
open Go.RowKit
theorem below_new (w : World) (o : Obj) : Below w.heap.size w (w.alloc o) := (Below.refl _ _).alloc (Nat.le_refl _) _
theorem elem_size : (Tryz.prog.info? 113).map (·.size) = some 5 := by kernel_rfl
theorem five_size : (Tryz.prog.info? 111).map (·.size) = some 5 := by kernel_rfl
def limbs (x : E5) : List Nat := [x.a, x.b, x.c, x.d, x.e]
def wV (l : List Nat) : Array Value := (l.map fun n : Nat => Value.int .u64 (n : Int)).toArray
def eV (x : E5) : Array Value := wV (limbs x)
def mixV (x y : E5) (k : Nat) : Array Value := wV ((limbs x).take k ++ (limbs y).drop k)
theorem mixV_end (x y : E5) : mixV x y 5 = eV x := rfl
theorem eV_size (x : E5) : (eV x).size = 5 := rfl
theorem eV_at (x : E5) (k : Nat) (h : k < 5) : (eV x)[k]? = some (.int .u64 (((limbs x).getD k 0 : Nat) : Int)) := by
  match k, h with
  | 0, _ => rfl
  | 1, _ => rfl
  | 2, _ => rfl
  | 3, _ => rfl
  | 4, _ => rfl
theorem mixV_at (x y : E5) (k : Nat) (h : k < 5) : (mixV x y k)[k]? = some (.int .u64 (((limbs y).getD k 0 : Nat) : Int)) := by
  match k, h with
  | 0, _ => rfl
  | 1, _ => rfl
  | 2, _ => rfl
  | 3, _ => rfl
  | 4, _ => rfl
theorem mixV_set (x y : E5) (k : Nat) (h : k < 5) : (mixV x y k).setIfInBounds k (.int .u64 (((limbs x).getD k 0 : Nat) : Int)) = mixV x y (k + 1) := by
  match k, h with
  | 0, _ => rfl
  | 1, _ => rfl
  | 2, _ => rfl
  | 3, _ => rfl
  | 4, _ => rfl
theorem limb_lt {x : E5} {m : Nat} (h : x.Lt m) (hm : 0 < m) (k : Nat) : (limbs x).getD k 0 < m := by
  match k with
  | 0 => exact h.a
  | 1 => exact h.b
  | 2 => exact h.c
  | 3 => exact h.d
  | 4 => exact h.e
  | k + 5 => exact hm
def zE : E5 := ⟨0, 0, 0, 0, 0⟩
def highE (x : E5) : E5 := ⟨x.a / 2251799813685248, x.b / 2251799813685248, x.c / 2251799813685248, x.d / 2251799813685248, x.e / 2251799813685248⟩
theorem highE_at (x : E5) (k : Nat) (h : k < 5) : (limbs (highE x)).getD k 0 = (limbs x).getD k 0 / 2251799813685248 := by
  match k, h with
  | 0, _ => rfl
  | 1, _ => rfl
  | 2, _ => rfl
  | 3, _ => rfl
  | 4, _ => rfl
theorem carryE_at (x : E5) (k : Nat) (h : k < 5) : (limbs (carryE x)).getD k 0 = (limbs x).getD k 0 % 2251799813685248 + (if k = 0 then (limbs (highE x)).getD 4 0 * 19 else (limbs (highE x)).getD (k - 1) 0) := by
  match k, h with
  | 0, _ => rfl
  | 1, _ => rfl
  | 2, _ => rfl
  | 3, _ => rfl
  | 4, _ => rfl
structure F3 (w0 : World) (g r h : Nat) (x z y : Array Value) (u : World) : Prop where
  bel : Below w0.heap.size w0 u
  x : Blk u g 113 x
  z : Blk u r 113 z
  y : Blk u h 111 y
  lg : w0.heap.size ≤ g
  lr : w0.heap.size ≤ r
  lh : w0.heap.size ≤ h
  gh : g ≠ h
  gr : g ≠ r
  rh : r ≠ h
theorem F3.putX {w0 u u' : World} {g r h : Nat} {x z y x' : Array Value} (k : F3 w0 g r h x z y u) (hw : Wrote g u u') (hb : Blk u' g 113 x') : F3 w0 g r h x' z y u' :=
  ⟨hw.below k.bel k.lg k.bel.size, hb, hw.blk k.z (Ne.symm k.gr), hw.blk k.y (Ne.symm k.gh), k.lg, k.lr, k.lh, k.gh, k.gr, k.rh⟩
theorem F3.putY {w0 u u' : World} {g r h : Nat} {x z y y' : Array Value} (k : F3 w0 g r h x z y u) (hw : Wrote h u u') (hb : Blk u' h 111 y') : F3 w0 g r h x z y' u' :=
  ⟨hw.below k.bel k.lh k.bel.size, hw.blk k.x k.gh, hw.blk k.z k.rh, hb, k.lg, k.lr, k.lh, k.gh, k.gr, k.rh⟩
theorem mask51 (l : Nat) (h : l < 18446744073709551616) : bits .and .u64 (l : Int) 2251799813685247 = ((l % 2251799813685248 : Nat) : Int) := by
  have h1 := and64 l 2251799813685247 h (by decide)
  rw [show ((2251799813685247 : Nat) : Int) = 2251799813685247 from rfl] at h1
  rw [h1]
  congr 1
  exact Nat.and_two_pow_sub_one_eq_mod l 51
theorem mask_sum (l v : Nat) (h : l < 18446744073709551616) (hv : v < 18444492273895866368) : IntKind.u64.wrap (bits .and .u64 (l : Int) 2251799813685247 + (v : Int)) = ((l % 2251799813685248 + v : Nat) : Int) := by
  rw [mask51 l h, IntKind.wrap_u64]; omega
theorem mask_sum19 (l v : Nat) (h : l < 18446744073709551616) (hv : v < 900000000000000000) : IntKind.u64.wrap (bits .and .u64 (l : Int) 2251799813685247 + (v : Int) * 19) = ((l % 2251799813685248 + v * 19 : Nat) : Int) := by
  rw [mask51 l h, IntKind.wrap_u64]; omega
def ElemPost (x : E5) (w : World) (e : Ending) (w' : World) : Prop := e = .returned (.agg (eV x)) ∧ Below w.heap.size w w'
theorem Blk.newAt {w : World} {n : Nat} {t : TypeId} {cs : Array Value} (h : w.heap.size = n) : Blk (w.alloc (.cells cs t)) n t cs := h ▸ Blk.new w t cs
set_option maxRecDepth 100000 in
set_option maxHeartbeats 2000000 in
theorem carried_any (x : E5) (w : World) (hx : x.Lt 18446744073709551616) : Calls Tryz.prog 134 #[.agg (eV x)] w (ElemPost (carryE x) w) := by
  have hu := Tryz.underlying113
  have hu5 := Tryz.underlying111
  have hst0 : F3 w w.heap.size (w.heap.size + 1) (w.heap.size + 1 + 1) (eV x) (eV zE) (mixV (highE x) zE 0) (((w.alloc (.cells (eV x) 113)).alloc (.cells (eV zE) 113)).alloc (.cells (eV zE) 111)) :=
    ⟨((below_new _ _).alloc (by simp) _).alloc (by simp; try omega) _, ((Blk.new _ _ _).alloc _).alloc _, (Blk.newAt (by simp)).alloc _, Blk.newAt (by simp), Nat.le_refl _, by omega, by omega, by omega, by omega, by omega⟩
  have HX := Lib.hid hx
  have HST0 := Lib.hid hst0
  clear hx
  go_enter Tryz.func134, Tryz.ntmps134
  go_wp2_with (refine wpList_get_part (x := .tmp 8) (n := 5) (r := eV x) hst0.x (by rw [eV_size]; decide) rfl rfl rfl rfl hu5 rfl five_size ?_)
  clear hst0
  generalize hc : w.heap.size + 1 + 1 = c at *
  generalize hr : w.heap.size + 1 = r at *
  generalize hg : w.heap.size = g at *
  have HC := Lib.hid hc
  have HR := Lib.hid hr
  have HG := Lib.hid hg
  clear hc hr hg
  go_loopw [10] (fun i wr => ∃ k : Nat, k ≤ 5 ∧ i = .int .i64 k ∧ F3 w g r c (eV x) (eV zE) (mixV (highE x) zE k) wr) (fun i _ => 5 - (intOf i).toNat)
  case atStart => exact ⟨0, by omega, rfl, HST0.out⟩
  case round =>
    clear HST0
    obtain ⟨k, hk, rfl, hst⟩ := hrel
    by_cases hlt : k < 5
    · have hlt' : (k : Int) < 5 := by omega
      obtain ⟨l, hl⟩ : ∃ l, l = (limbs x).getD k 0 := ⟨_, rfl⟩
      have hll : (l : Int) < 18446744073709551616 := by have := limb_lt HX.out (by decide) k; rw [← hl] at this; omega
      have hix : ∀ u : World, (Instr.index 111 (.agg (eV x)) (.int .i64 (k : Int))).run Tryz.prog u = .ok (.int .u64 (l : Int)) u := fun u =>
        run_index_array (n := 5) (e := 86) hu5 hlt (by rw [hl]; exact eV_at x k hlt) (by kernel_rfl) (by kernel_rfl) ⟨_, Tryz.underlying86⟩
      have d0 := hst.y.cell k
      rw [mixV_at _ _ _ hlt] at d0
      have f0 := hst.y.free k
      have hset := mixV_set (highE x) zE k hlt
      rw [highE_at _ _ hlt, ← hl] at hset
      have HSET := Lib.hid hset
      have HST := Lib.hid hst
      clear hset hst hl
      go_wp2_with fail
      refine ⟨⟨k + 1, by omega, by go_num, HST.out.putY (wrote_setCell_at _ _ _ _) ?_⟩, by simp [intOf]; omega⟩
      have h := blk_setCell_at (i := k) HST.out.y (.int .u64 ((l / 2251799813685248 : Nat) : Int))
      rw [HSET.out] at h
      exact h
    · obtain rfl : k = 5 := by omega
      rw [mixV_end] at hst
      have hst1 : F3 w g r c (mixV (carryE x) x 0) (eV zE) (eV (highE x)) wr := hst
      have HST := Lib.hid hst1
      clear hst hst1
      go_wp2_with fail
      obtain ⟨wo, rfl⟩ : ∃ x : World, x = wr := ⟨_, rfl⟩
      go_loopw [19] (fun i wr => ∃ k : Nat, k ≤ 5 ∧ i = .int .i64 k ∧ F3 w g r c (mixV (carryE x) x k) (eV zE) (eV (highE x)) wr) (fun i _ => 5 - (intOf i).toNat)
      case atStart => exact ⟨0, by omega, rfl, HST.out⟩
      case round =>
        clear HST
        obtain ⟨k, hk, rfl, hst⟩ := hrel
        by_cases hlt2 : k < 5
        · obtain ⟨l, hl⟩ : ∃ l, l = (limbs x).getD k 0 := ⟨_, rfl⟩
          have hll0 := limb_lt HX.out (by decide) k
          rw [← hl] at hll0
          have hll : (l : Int) < 18446744073709551616 := by omega
          obtain ⟨j, hj⟩ : ∃ j, j = if k = 0 then 4 else k - 1 := ⟨_, rfl⟩
          have hj5 : j < 5 := by rw [hj]; split <;> omega
          have hjk : ((k : Int) + 5 - 1) % 5 = (j : Int) := by rw [hj]; split <;> omega
          have hjk2 : ((k : Int) + 4) % 5 = (j : Int) := by rw [hj]; split <;> omega
          obtain ⟨m, hm⟩ : ∃ m, m = (limbs (highE x)).getD j 0 := ⟨_, rfl⟩
          have hml : m < 8192 := by
            have := limb_lt HX.out (by decide) j
            rw [hm, highE_at _ _ hj5]; omega
          have hml' : (m : Int) < 8192 := by omega
          have dx := hst.x.cell k
          rw [mixV_at _ _ _ hlt2, ← hl] at dx
          have fx := hst.x.free k
          have dy := hst.y.cell j
          rw [eV_at _ _ hj5, ← hm] at dy
          have hset := mixV_set (carryE x) x k hlt2
          have hval : (limbs (carryE x)).getD k 0 = l % 2251799813685248 + (if k = 0 then m * 19 else m) := by
            rw [carryE_at _ _ hlt2, ← hl, hm, hj]
            by_cases h0 : k = 0
            · simp [h0]
            · simp [h0]
          rw [hval] at hset
          have HSET := Lib.hid hset
          have HST := Lib.hid hst
          have HJ := Lib.hid hj
          have hlt' : (k : Int) < 5 := by omega
          clear hset hst hl hm hval hj
          by_cases h0 : k = 0
          · subst h0
            obtain rfl : j = 4 := by have := HJ.out; simpa using this
            rw [show ((0 : Nat) : Int) = 0 from rfl]
            clear hjk hjk2 hlt' hlt2
            go_wp2_with fail
            refine ⟨⟨1, by omega, rfl, HST.out.putX (wrote_setCell_at _ _ _ _) ?_⟩, by simp [intOf]⟩
            rw [mask_sum19 l m hll0 (by omega)]
            have h := blk_setCell_at (i := 0) HST.out.x (.int .u64 ((l % 2251799813685248 + m * 19 : Nat) : Int))
            have h2 := HSET.out
            rw [if_pos rfl] at h2
            rw [h2] at h
            exact h
          · have hb : ((k : Int) == 0) = false := by rw [beq_eq_false_iff_ne]; omega
            go_wp2_with fail
            refine ⟨⟨k + 1, by omega, by go_num, HST.out.putX (wrote_setCell_at _ _ _ _) ?_⟩, by simp [intOf]; omega⟩
            rw [mask_sum l m hll0 (by omega)]
            have h := blk_setCell_at (i := k) HST.out.x (.int .u64 ((l % 2251799813685248 + m : Nat) : Int))
            have h2 := HSET.out
            rw [if_neg h0] at h2
            rw [h2] at h
            exact h
        · obtain rfl : k = 5 := by omega
          rw [mixV_end] at hst
          have HST := Lib.hid hst
          clear hst
          go_wp2_with (first
            | (refine wpList_get_box (x := .tmp 1) HST.out.x rfl rfl rfl hu rfl elem_size ?_)
            | (refine wpList_put_box (x := .tmp 2) (cells := eV (carryE x)) HST.out.z rfl rfl rfl rfl elem_size rfl (by simp [eV, wV, limbs, Value.oneCell']) ?_; intro w5 hb5 hw5))
          refine bodyPost_ret (results_box (P := Tryz.prog) rfl rfl hb5 hu rfl elem_size) rfl ⟨rfl, ?_⟩
          exact hw5.below HST.out.bel HST.out.lr HST.out.bel.size
end Go.Proofs.YtoihgnkhalhocaaGreatDoor
/-
  Walks: the field's Add and Sub.
-/
namespace Go.Proofs.YtoihgnkhalhocaaGreatDoor
set_option linter.unusedSimpArgs false
set_option linter.unusedVariables false
open Go.RowKit
structure G3 (w0 : World) (g h r : Nat) (x y z : Array Value) (u : World) : Prop where
  bel : Below w0.heap.size w0 u
  x : Blk u g 113 x
  y : Blk u h 113 y
  z : Blk u r 113 z
  lg : w0.heap.size ≤ g
  lh : w0.heap.size ≤ h
  lr : w0.heap.size ≤ r
  gh : g ≠ h
  gr : g ≠ r
  hr : h ≠ r
theorem G3.putX {w0 u u' : World} {g h r : Nat} {x y z x' : Array Value} (k : G3 w0 g h r x y z u) (hw : Wrote g u u') (hb : Blk u' g 113 x') : G3 w0 g h r x' y z u' :=
  ⟨hw.below k.bel k.lg k.bel.size, hb, hw.blk k.y (Ne.symm k.gh), hw.blk k.z (Ne.symm k.gr), k.lg, k.lh, k.lr, k.gh, k.gr, k.hr⟩
theorem G3.putY {w0 u u' : World} {g h r : Nat} {x y z y' : Array Value} (k : G3 w0 g h r x y z u) (hw : Wrote h u u') (hb : Blk u' h 113 y') : G3 w0 g h r x y' z u' :=
  ⟨hw.below k.bel k.lh k.bel.size, hw.blk k.x k.gh, hb, hw.blk k.z (Ne.symm k.hr), k.lg, k.lh, k.lr, k.gh, k.gr, k.hr⟩
theorem G3.drew {w0 u : World} {g h r : Nat} {x y z : Array Value} (k : G3 w0 g h r x y z u) : G3 w0 g h r x y z u.drew :=
  ⟨k.bel.drew, k.x, k.y, k.z, k.lg, k.lh, k.lr, k.gh, k.gr, k.hr⟩
theorem G3.next {w0 u u' : World} {g h r : Nat} {x y z : Array Value} (k : G3 w0 g h r x y z u) (hb : Below u.heap.size u u') : G3 w0 g h r x y z u' :=
  ⟨k.bel.trans (hb.mono k.bel.size), k.x.below hb k.x.lt, k.y.below hb k.y.lt, k.z.below hb k.z.lt, k.lg, k.lh, k.lr, k.gh, k.gr, k.hr⟩
end Go.Proofs.YtoihgnkhalhocaaGreatDoor
/-
  Walk: the field's least.
-/
namespace Go.Proofs.YtoihgnkhalhocaaGreatDoor
set_option linter.unusedSimpArgs false
set_option linter.unusedVariables false
open Go.RowKit
def ovr (x : E5) : Nat → Nat
  | 0 => ((limbs x).getD 0 0 + 19) / 2251799813685248
  | k + 1 => ((limbs x).getD (k + 1) 0 + ovr x k) / 2251799813685248
theorem ovr_le {x : E5} (h : x.Lt 4503599627370496) : ∀ k, ovr x k ≤ 2
  | 0 => by have := limb_lt h (by decide) 0; simp only [ovr]; omega
  | k + 1 => by have := limb_lt h (by decide) (k + 1); have := ovr_le h k; simp only [ovr]; omega
def cyE (x : E5) (q : Nat) : Nat → Nat
  | 0 => (limbs x).getD 0 0 + 19 * q
  | k + 1 => (limbs x).getD (k + 1) 0 + cyE x q k / 2251799813685248
theorem cyE_le {x : E5} (h : x.Lt 4503599627370496) {q : Nat} (hq : q ≤ 2) : ∀ k, cyE x q k < 4503599627370600
  | 0 => by have := limb_lt h (by decide) 0; simp only [cyE]; omega
  | k + 1 => by have := limb_lt h (by decide) (k + 1); have := cyE_le h hq k; simp only [cyE]; omega
def lstV (x : E5) (q k : Nat) : Array Value := wV ((List.range k).map (fun j => cyE x q j % 2251799813685248) ++ cyE x q k :: (limbs x).drop (k + 1))
def midV (x : E5) (q k : Nat) : Array Value := wV ((List.range k).map (fun j => cyE x q j % 2251799813685248) ++ cyE x q k :: cyE x q (k + 1) :: (limbs x).drop (k + 2))
theorem lstV_zero (x : E5) (q : Nat) : (eV x).setIfInBounds 0 (.int .u64 (((limbs x).getD 0 0 + 19 * q : Nat) : Int)) = lstV x q 0 := rfl
theorem lstV_at (x : E5) (q k : Nat) (h : k < 5) : (lstV x q k)[k]? = some (.int .u64 ((cyE x q k : Nat) : Int)) := by
  match k, h with
  | 0, _ => rfl
  | 1, _ => rfl
  | 2, _ => rfl
  | 3, _ => rfl
  | 4, _ => rfl
theorem lstV_at1 (x : E5) (q k : Nat) (h : k < 4) : (lstV x q k)[k + 1]? = some (.int .u64 (((limbs x).getD (k + 1) 0 : Nat) : Int)) := by
  match k, h with
  | 0, _ => rfl
  | 1, _ => rfl
  | 2, _ => rfl
  | 3, _ => rfl
theorem lstV_set (x : E5) (q k : Nat) (h : k < 4) : (lstV x q k).setIfInBounds (k + 1) (.int .u64 ((cyE x q (k + 1) : Nat) : Int)) = midV x q k := by
  match k, h with
  | 0, _ => rfl
  | 1, _ => rfl
  | 2, _ => rfl
  | 3, _ => rfl
theorem midV_at (x : E5) (q k : Nat) (h : k < 4) : (midV x q k)[k]? = some (.int .u64 ((cyE x q k : Nat) : Int)) := by
  match k, h with
  | 0, _ => rfl
  | 1, _ => rfl
  | 2, _ => rfl
  | 3, _ => rfl
theorem midV_set (x : E5) (q k : Nat) (h : k < 4) : (midV x q k).setIfInBounds k (.int .u64 ((cyE x q k % 2251799813685248 : Nat) : Int)) = lstV x q (k + 1) := by
  match k, h with
  | 0, _ => rfl
  | 1, _ => rfl
  | 2, _ => rfl
  | 3, _ => rfl
theorem lstV_end (x : E5) (q : Nat) : (lstV x q 4).setIfInBounds 4 (.int .u64 ((cyE x q 4 % 2251799813685248 : Nat) : Int)) = eV (leastQ x q) := rfl
structure G2 (w0 : World) (g r : Nat) (x z : Array Value) (u : World) : Prop where
  bel : Below w0.heap.size w0 u
  x : Blk u g 113 x
  z : Blk u r 113 z
  lg : w0.heap.size ≤ g
  lr : w0.heap.size ≤ r
  gr : g ≠ r
theorem G2.putX {w0 u u' : World} {g r : Nat} {x z x' : Array Value} (k : G2 w0 g r x z u) (hw : Wrote g u u') (hb : Blk u' g 113 x') : G2 w0 g r x' z u' :=
  ⟨hw.below k.bel k.lg k.bel.size, hb, hw.blk k.z (Ne.symm k.gr), k.lg, k.lr, k.gr⟩
theorem G2.drew {w0 u : World} {g r : Nat} {x z : Array Value} (k : G2 w0 g r x z u) : G2 w0 g r x z u.drew :=
  ⟨k.bel.drew, k.x, k.z, k.lg, k.lr, k.gr⟩
theorem G2.next {w0 u u' : World} {g r : Nat} {x z : Array Value} (k : G2 w0 g r x z u) (hb : Below u.heap.size u u') : G2 w0 g r x z u' :=
  ⟨k.bel.trans (hb.mono k.bel.size), k.x.below hb k.x.lt, k.z.below hb k.z.lt, k.lg, k.lr, k.gr⟩
theorem g2_new (w : World) (x z : Array Value) : G2 w w.heap.size (w.heap.size + 1) x z ((w.alloc (.cells x 113)).alloc (.cells z 113)) :=
  ⟨(below_new _ _).alloc (by simp) _, (Blk.new _ _ _).alloc _, Blk.newAt (by simp), Nat.le_refl _, by omega, by omega⟩
set_option maxRecDepth 100000 in
set_option maxHeartbeats 2000000 in
theorem least_any (x : E5) (w : World) (hx : x.Lt 18446744073709551616) : Calls Tryz.prog 138 #[.agg (eV x)] w (ElemPost (leastE x) w) := by
  have hu := Tryz.underlying113
  have hst0 : G2 w w.heap.size (w.heap.size + 1) (eV x) (eV zE) _ := g2_new w (eV x) (eV zE)
  have hx1 : (carryE x).Lt 18446744073709551616 := (carry_lt hx).mono (by decide)
  obtain ⟨y, hy⟩ : ∃ y, y = carryE (carryE x) := ⟨_, rfl⟩
  have hyl : y.Lt 4503599627370496 := by rw [hy]; exact (carry_lt hx1).mono (by decide)
  have hfin : leastE x = leastQ y (ovr y 4) := by rw [hy]; rfl
  have HX := Lib.hid hx
  have HX1 := Lib.hid hx1
  have HYL := Lib.hid hyl
  have HST0 := Lib.hid hst0
  have HFIN := Lib.hid hfin
  have HY := Lib.hid hy
  clear hx hx1 hyl hst0 hfin hy
  go_enter Tryz.func138, Tryz.ntmps138
  go_wp2_with (refine wpList_get_box (x := .tmp 1) HST0.out.x rfl rfl rfl hu rfl elem_size ?_)
  generalize hr : w.heap.size + 1 = r at *
  generalize hg : w.heap.size = g at *
  have HR := Lib.hid hr
  have HG := Lib.hid hg
  clear hr hg
  refine calls_then (carried_any x _ HX.out) ?_
  rintro e w2 ⟨rfl, hb2⟩
  have hs2 := HST0.out.next hb2
  have HS2 := Lib.hid hs2
  clear HST0 hs2 hb2
  go_wp2_with fail
  refine calls_then (carried_any (carryE x) _ HX1.out) ?_
  rintro e w3 ⟨rfl, hb3⟩
  rw [← HY.out]
  have hs3 := HS2.out.next hb3
  have HS3 := Lib.hid hs3
  clear HS2 hs3 hb3
  have hl0 := limb_lt HYL.out (by decide) 0
  obtain ⟨l0, hl⟩ : ∃ l, l = (limbs y).getD 0 0 := ⟨_, rfl⟩
  rw [← hl] at hl0
  have hq0 : ovr y 0 = (l0 + 19) / 2251799813685248 := by rw [hl]; rfl
  have hll0 : (l0 : Int) < 4503599627370496 := by omega
  have ex0 : (eV y)[0]? = some (.int .u64 (l0 : Int)) := by rw [hl]; exact eV_at _ _ (by decide)
  have HL := Lib.hid hl
  have HQ0 := Lib.hid hq0
  have EX0 := Lib.hid ex0
  clear hl0 hl hq0 ex0
  go_wp2_with (refine wpList_put_box (x := .tmp 1) (cells := eV y) HS3.out.x rfl rfl rfl rfl elem_size rfl (by simp [eV, wV, limbs, Value.oneCell']) ?_; intro w4 hb4 hw4; have d0 := hb4.cell 0; rw [EX0.out] at d0; have HB4 := Lib.hid hb4; have HW4 := Lib.hid hw4; clear hb4 hw4)
  have hs4 : G2 w g r (eV y) (eV zE) w4 := HS3.out.putX HW4.out HB4.out
  have HS4 := Lib.hid hs4
  clear HS3 hs4 HB4 HW4 EX0
  go_loopw [18, 3] (fun i q wr => ∃ k : Nat, k ≤ 4 ∧ i = .int .i64 k ∧ q = .int .u64 (ovr y k : Nat) ∧ G2 w g r (eV y) (eV zE) wr) (fun i _ _ => 4 - (intOf i).toNat)
  case atStart => exact ⟨0, by omega, rfl, by rw [HQ0.out]; go_num, HS4.out⟩
  case round =>
    clear HS4
    obtain ⟨k, hk, rfl, rfl, hst⟩ := hrel
    by_cases hlt : k < 4
    · have hlt' : (k : Int) < 4 := by omega
      obtain ⟨l, hl⟩ : ∃ l, l = (limbs y).getD (k + 1) 0 := ⟨_, rfl⟩
      have hll : l < 4503599627370496 := by rw [hl]; exact limb_lt HYL.out (by decide) (k + 1)
      obtain ⟨q, hq⟩ : ∃ q, q = ovr y k := ⟨_, rfl⟩
      have hql : q ≤ 2 := by rw [hq]; exact ovr_le HYL.out k
      have hqn : ovr y (k + 1) = (l + q) / 2251799813685248 := by rw [hq, hl]; rfl
      have d0 := hst.x.cell (1 + k)
      rw [Nat.add_comm 1 k, eV_at _ _ (by omega), ← hl, Nat.add_comm k 1] at d0
      rw [← hq]
      have hli : (l : Int) < 4503599627370496 := by omega
      have hqi : (q : Int) ≤ 2 := by omega
      have HQN := Lib.hid hqn
      have HST := Lib.hid hst
      clear hqn hq hl hst
      go_wp2_with fail
      exact ⟨⟨k + 1, by omega, by go_num, by rw [HQN.out]; go_num, HST.out⟩, by simp [intOf]; omega⟩
    · obtain rfl : k = 4 := by omega
      obtain ⟨q, hq⟩ : ∃ q, q = ovr y 4 := ⟨_, rfl⟩
      have hql : q ≤ 2 := by rw [hq]; exact ovr_le HYL.out 4
      rw [← hq]
      have hfin := HFIN.out
      rw [← hq] at hfin
      have d0 := hst.x.cell 0
      rw [eV_at _ _ (by decide), ← HL.out] at d0
      have f0 := hst.x.free 0
      have hqi : (q : Int) ≤ 2 := by omega
      have hset := lstV_zero y q
      rw [← HL.out] at hset
      have hz : (l0 : Int) + 19 * (q : Int) = ((l0 + 19 * q : Nat) : Int) := by omega
      have HZ := Lib.hid hz
      have HSET := Lib.hid hset
      have HST := Lib.hid hst
      have HF := Lib.hid hfin
      clear hset hst hq hfin HFIN hz
      go_wp2_with fail
      obtain ⟨wo, hwo⟩ : ∃ x, x = wr.setCell ⟨g, 0, none⟩ (.int .u64 ((l0 : Int) + 19 * (q : Int))) := ⟨_, rfl⟩
      rw [← hwo]
      have hs5 : G2 w g r (lstV y q 0) (eV zE) wo := by
        rw [hwo]
        refine HST.out.putX (wrote_setCell_at _ _ _ _) ?_
        rw [HZ.out]
        have h := blk_setCell_at (i := 0) HST.out.x (.int .u64 ((l0 + 19 * q : Nat) : Int))
        rw [HSET.out] at h
        exact h
      have HS5 := Lib.hid hs5
      have HQL := Lib.hid hql
      clear HST HSET HZ hwo hs5 hql d0 f0 hqi hll0 HQ0 HL
      go_loopw [35] (fun i wr => ∃ k : Nat, k ≤ 4 ∧ i = .int .i64 k ∧ G2 w g r (lstV y q k) (eV zE) wr) (fun i _ => 4 - (intOf i).toNat)
      case atStart => exact ⟨0, by omega, rfl, HS5.out⟩
      case round =>
        clear HS5
        obtain ⟨k, hk, rfl, hst⟩ := hrel
        by_cases hlt2 : k < 4
        · have hlt3 : (k : Int) < 4 := by omega
          obtain ⟨c0, hc0⟩ : ∃ c, c = cyE y q k := ⟨_, rfl⟩
          obtain ⟨c1, hc1⟩ : ∃ c, c = cyE y q (k + 1) := ⟨_, rfl⟩
          obtain ⟨l, hl⟩ : ∃ l, l = (limbs y).getD (k + 1) 0 := ⟨_, rfl⟩
          have hcl : c0 < 4503599627370600 := by rw [hc0]; exact cyE_le HYL.out HQL.out k
          have hc10 : c1 = l + c0 / 2251799813685248 := by rw [hc1, hl, hc0]; rfl
          have hll : l < 4503599627370496 := by rw [hl]; exact limb_lt HYL.out (by decide) (k + 1)
          have ea := lstV_at y q k (by omega)
          have eb := lstV_at1 y q k hlt2
          have ec := lstV_set y q k hlt2
          have ed := midV_at y q k hlt2
          have ee := midV_set y q k hlt2
          rw [← hc0] at ea
          rw [← hl] at eb
          rw [← hc1] at ec
          rw [← hc0] at ed ee
          have EA := Lib.hid ea
          have EB := Lib.hid eb
          have EC := Lib.hid ec
          have ED := Lib.hid ed
          have EE := Lib.hid ee
          have HCL := Lib.hid hcl
          have HLL := Lib.hid hll
          have HC10 := Lib.hid hc10
          have HC0 := hst.drew
          have hk5 : (k : Int) + 1 < 5 := by omega
          have hk6 : (k : Int) < 5 := by omega
          clear ea eb ec ed ee hcl hll hc10 hc0 hc1 hl hst
          go_wp2_with fail
          refine wp_region_det (fun u => G2 w g r (lstV y q k) (eV zE) u) (fun u => G2 w g r (midV y q k) (eV zE) u) [(0, some 38), (1, some 39), (2, some 40), (3, some 41), (4, some 42), (5, some 43), (6, some 44), (7, some 45), (8, some 46), (9, some 47), (10, some 48), (11, some 49), (12, some 50), (13, none)] (by kernel_rfl) (by kernel_rfl) (by decide) (by kernel_rfl) (fun _ => rfl) HC0 ?_
          apply DetL.next
          · -- 0: Op.move (Operand.tmp 6)
            apply detStep_plain []
            exact fun _ => rfl
            rfl
            rintro vals - w1 hC1 E hE
            simp only [puts, act_put, act_put_none, List.setIfInBounds_toArray, List.set_cons_zero, List.set_cons_succ] at hE ⊢
            go_wp2
            exact .mk (hE _ hC1)
          apply DetL.next
          · -- 1: Op.binOp BinOp.add 3 (Operand.tmp 38) (Operand.const (Value.int IntKind.i64 1)) 3
            apply detStep_plain [(0, some 38)]
            exact fun _ => rfl
            rfl
            rintro vals ⟨-, f0⟩ w1 hC1 E hE
            simp only [puts, act_put, act_put_none, List.setIfInBounds_toArray, List.set_cons_zero, List.set_cons_succ, f0] at hE ⊢
            clear f0
            go_wp2
            exact .mk (hE _ hC1)
          apply DetL.next
          · -- 2: Op.fieldAddr 113 (Operand.tmp 1) 0
            apply detStep_plain []
            exact fun _ => rfl
            rfl
            rintro vals ⟨⟨-, -⟩, -⟩ w1 hC1 E hE
            simp only [puts, act_put, act_put_none, List.setIfInBounds_toArray, List.set_cons_zero, List.set_cons_succ] at hE ⊢
            go_wp2
            exact .mk (hE _ hC1)
          apply DetL.next
          · -- 3: Op.indexAddr 111 (Operand.tmp 40) (Operand.tmp 39)
            apply detStep_plain [(2, some 40), (1, some 39)]
            exact fun _ => rfl
            rfl
            rintro vals ⟨⟨⟨-, -⟩, f1⟩, f2⟩ w1 hC1 E hE
            simp only [puts, act_put, act_put_none, List.setIfInBounds_toArray, List.set_cons_zero, List.set_cons_succ, f1, f2] at hE ⊢
            clear f1 f2
            go_wp2
            exact .mk (hE _ hC1)
          apply DetL.next
          · -- 4: Op.load 86 (Operand.tmp 41)
            apply detStep_plain [(3, some 41)]
            exact fun _ => rfl
            rfl
            rintro vals ⟨⟨⟨⟨-, -⟩, -⟩, -⟩, f3⟩ w1 hC1 E hE
            have d0 := hC1.x.cell (k + 1)
            rw [EB.out] at d0
            simp only [puts, act_put, act_put_none, List.setIfInBounds_toArray, List.set_cons_zero, List.set_cons_succ, f3] at hE ⊢
            clear f3
            go_wp2
            exact .mk (hE _ hC1)
          apply DetL.next
          · -- 5: Op.move (Operand.tmp 6)
            apply detStep_plain []
            exact fun _ => rfl
            rfl
            rintro vals ⟨⟨⟨⟨⟨-, -⟩, -⟩, -⟩, -⟩, -⟩ w1 hC1 E hE
            simp only [puts, act_put, act_put_none, List.setIfInBounds_toArray, List.set_cons_zero, List.set_cons_succ] at hE ⊢
            go_wp2
            exact .mk (hE _ hC1)
          apply DetL.next
          · -- 6: Op.fieldAddr 113 (Operand.tmp 1) 0
            apply detStep_plain []
            exact fun _ => rfl
            rfl
            rintro vals ⟨⟨⟨⟨⟨⟨-, -⟩, -⟩, -⟩, -⟩, -⟩, -⟩ w1 hC1 E hE
            simp only [puts, act_put, act_put_none, List.setIfInBounds_toArray, List.set_cons_zero, List.set_cons_succ] at hE ⊢
            go_wp2
            exact .mk (hE _ hC1)
          apply DetL.next
          · -- 7: Op.indexAddr 111 (Operand.tmp 44) (Operand.tmp 43)
            apply detStep_plain [(6, some 44), (5, some 43)]
            exact fun _ => rfl
            rfl
            rintro vals ⟨⟨⟨⟨⟨⟨⟨-, -⟩, -⟩, -⟩, -⟩, -⟩, f5⟩, f6⟩ w1 hC1 E hE
            simp only [puts, act_put, act_put_none, List.setIfInBounds_toArray, List.set_cons_zero, List.set_cons_succ, f5, f6] at hE ⊢
            clear f5 f6
            go_wp2
            exact .mk (hE _ hC1)
          apply DetL.next
          · -- 8: Op.load 86 (Operand.tmp 45)
            apply detStep_plain [(7, some 45)]
            exact fun _ => rfl
            rfl
            rintro vals ⟨⟨⟨⟨⟨⟨⟨⟨-, -⟩, -⟩, -⟩, -⟩, -⟩, -⟩, -⟩, f7⟩ w1 hC1 E hE
            have d0 := hC1.x.cell k
            rw [EA.out] at d0
            simp only [puts, act_put, act_put_none, List.setIfInBounds_toArray, List.set_cons_zero, List.set_cons_succ, f7] at hE ⊢
            clear f7
            go_wp2
            exact .mk (hE _ hC1)
          apply DetL.next
          · -- 9: Op.binOp BinOp.shr 86 (Operand.tmp 46) (Operand.const (Value.int IntKind.u64 51)) 94
            apply detStep_plain [(8, some 46)]
            exact fun _ => rfl
            rfl
            rintro vals ⟨⟨⟨⟨⟨⟨⟨⟨⟨-, -⟩, -⟩, -⟩, -⟩, -⟩, -⟩, -⟩, -⟩, f8⟩ w1 hC1 E hE
            simp only [puts, act_put, act_put_none, List.setIfInBounds_toArray, List.set_cons_zero, List.set_cons_succ, f8] at hE ⊢
            clear f8
            go_wp2
            exact .mk (hE _ hC1)
          apply DetL.next
          · -- 10: Op.binOp BinOp.add 86 (Operand.tmp 42) (Operand.tmp 47) 86
            apply detStep_plain [(4, some 42), (9, some 47)]
            exact fun _ => rfl
            rfl
            rintro vals ⟨⟨⟨⟨⟨⟨⟨⟨⟨⟨-, -⟩, -⟩, -⟩, -⟩, f4⟩, -⟩, -⟩, -⟩, -⟩, f9⟩ w1 hC1 E hE
            simp only [puts, act_put, act_put_none, List.setIfInBounds_toArray, List.set_cons_zero, List.set_cons_succ, f4, f9] at hE ⊢
            clear f4 f9
            go_wp2
            rw [show IntKind.u64.wrap ((l : Int) + (c0 : Int) / 2251799813685248) = (c1 : Int) by have := HCL.out; have := HLL.out; have := HC10.out; rw [IntKind.wrap_u64]; omega]
            exact .mk (hE _ hC1)
          apply DetL.next
          · -- 11: Op.fieldAddr 113 (Operand.tmp 1) 0
            apply detStep_plain []
            exact fun _ => rfl
            rfl
            rintro vals ⟨⟨⟨⟨⟨⟨⟨⟨⟨⟨⟨-, -⟩, -⟩, -⟩, -⟩, -⟩, -⟩, -⟩, -⟩, -⟩, -⟩, -⟩ w1 hC1 E hE
            simp only [puts, act_put, act_put_none, List.setIfInBounds_toArray, List.set_cons_zero, List.set_cons_succ] at hE ⊢
            go_wp2
            exact .mk (hE _ hC1)
          apply DetL.next
          · -- 12: Op.indexAddr 111 (Operand.tmp 49) (Operand.tmp 39)
            apply detStep_plain [(11, some 49), (1, some 39), (0, some 38), (1, some 39), (2, some 40), (3, some 41), (4, some 42), (5, some 43), (6, some 44), (7, some 45), (8, some 46), (9, some 47), (10, some 48)]
            exact fun _ => rfl
            rfl
            rintro vals ⟨⟨⟨⟨⟨⟨⟨⟨⟨⟨⟨⟨-, f0⟩, f1⟩, f2⟩, f3⟩, f4⟩, f5⟩, f6⟩, f7⟩, f8⟩, f9⟩, f10⟩, f11⟩ w1 hC1 E hE
            simp only [puts, act_put, act_put_none, List.setIfInBounds_toArray, List.set_cons_zero, List.set_cons_succ, f0, f1, f2, f3, f4, f5, f6, f7, f8, f9, f10, f11] at hE ⊢
            clear f0 f1 f2 f3 f4 f5 f6 f7 f8 f9 f10 f11
            go_wp2
            exact .mk (hE _ hC1)
          apply DetL.last (v := undef)
          · -- 13: Op.store 86 (Operand.tmp 50) (Operand.tmp 48)
            apply detStep_plain [(12, some 50), (10, some 48), (0, some 38), (1, some 39), (2, some 40), (3, some 41), (4, some 42), (5, some 43), (6, some 44), (7, some 45), (8, some 46), (9, some 47), (10, some 48)]
            exact fun _ => rfl
            rfl
            rintro vals ⟨⟨⟨⟨⟨⟨⟨⟨⟨⟨⟨⟨⟨-, f0⟩, f1⟩, f2⟩, f3⟩, f4⟩, f5⟩, f6⟩, f7⟩, f8⟩, f9⟩, f10⟩, -⟩, f12⟩ w1 hC1 E hE
            have d0 := hC1.x.cell (k + 1)
            rw [EB.out] at d0
            have q0 := hC1.x.free (k + 1)
            simp only [puts, act_put, act_put_none, List.setIfInBounds_toArray, List.set_cons_zero, List.set_cons_succ, f0, f1, f2, f3, f4, f5, f6, f7, f8, f9, f10, f12] at hE ⊢
            clear f0 f1 f2 f3 f4 f5 f6 f7 f8 f9 f10 f12
            go_wp2
            refine .mk (hE _ (hC1.putX (wrote_setCell_at _ _ _ _) ?_))
            have h := blk_setCell_at (i := k + 1) hC1.x (.int .u64 (c1 : Int))
            rw [EC.out] at h
            exact h
          rintro vals ⟨⟨⟨⟨⟨⟨⟨⟨⟨⟨⟨⟨⟨⟨-, f0⟩, f1⟩, f2⟩, f3⟩, f4⟩, f5⟩, f6⟩, f7⟩, f8⟩, f9⟩, f10⟩, f11⟩, f12⟩, f13⟩ w1 hC1
          simp only [puts, act_put, act_put_none, List.setIfInBounds_toArray, List.set_cons_zero, List.set_cons_succ, f0, f1, f2, f3, f4, f5, f6, f7, f8, f9, f10, f11, f12, f13]
          clear f0 f1 f2 f3 f4 f5 f6 f7 f8 f9 f10 f11 f12 f13
          clear HC0
          have d0 := hC1.x.cell k
          rw [ED.out] at d0
          have q0 := hC1.x.free k
          have HC1 := Lib.hid hC1
          clear hC1
          go_wp2_with fail
          refine ⟨⟨k + 1, by omega, by go_num, HC1.out.putX (wrote_setCell_at _ _ _ _) ?_⟩, by simp [intOf]; omega⟩
          rw [mask51 c0 (by have := HCL.out; omega)]
          have h := blk_setCell_at (i := k) HC1.out.x (.int .u64 ((c0 % 2251799813685248 : Nat) : Int))
          rw [EE.out] at h
          exact h
        · obtain rfl : k = 4 := by omega
          obtain ⟨c0, hc0⟩ : ∃ c, c = cyE y q 4 := ⟨_, rfl⟩
          have hcl : c0 < 4503599627370600 := by rw [hc0]; exact cyE_le HYL.out HQL.out 4
          have ea := lstV_at y q 4 (by omega)
          have ee := lstV_end y q
          rw [← hc0] at ea ee
          rw [← HF.out] at ee
          have d0 := hst.x.cell 4
          rw [ea] at d0
          have q0 := hst.x.free 4
          have hm := mask51 c0 (by omega)
          have hpt : ∀ u : World, G2 w g r (eV (leastE x)) (eV zE) u → True := fun _ _ => trivial
          have hs6 : G2 w g r (eV (leastE x)) (eV zE) (wr.setCell ⟨g, 4, none⟩ (.int .u64 (bits .and .u64 (c0 : Int) 2251799813685247))) := by
            refine hst.putX (wrote_setCell_at _ _ _ _) ?_
            rw [hm]
            have h := blk_setCell_at (i := 4) hst.x (.int .u64 ((c0 % 2251799813685248 : Nat) : Int))
            rw [ee] at h
            exact h
          have HS6 := Lib.hid hs6
          clear hs6 hst hc0 hcl ea ee hm hpt
          go_wp2_with (first
            | (refine wpList_get_box (x := .tmp 1) HS6.out.x rfl rfl rfl hu rfl elem_size ?_)
            | (refine wpList_put_box (x := .tmp 2) (cells := eV (leastE x)) HS6.out.z rfl rfl rfl rfl elem_size rfl (by simp [eV, wV, limbs, Value.oneCell']) ?_; intro w5 hb5 hw5))
          refine bodyPost_ret (results_box (P := Tryz.prog) rfl rfl hb5 hu rfl elem_size) rfl ⟨rfl, ?_⟩
          exact hw5.below HS6.out.bel HS6.out.lr HS6.out.bel.size
end Go.Proofs.YtoihgnkhalhocaaGreatDoor
/-
  Walk: the field's Mul.
-/
namespace Go.Proofs.YtoihgnkhalhocaaGreatDoor
set_option linter.unusedSimpArgs false
set_option linter.unusedVariables false
open Go.RowKit
structure M4 (w0 : World) (g h r s : Nat) (x y z m : Array Value) (u : World) : Prop where
  bel : Below w0.heap.size w0 u
  x : Blk u g 113 x
  y : Blk u h 113 y
  z : Blk u r 113 z
  m : Blk u s 180 m
  lg : w0.heap.size ≤ g
  lh : w0.heap.size ≤ h
  lr : w0.heap.size ≤ r
  ls : w0.heap.size ≤ s
  gs : g ≠ s
  hs : h ≠ s
  rs : r ≠ s
theorem M4.next {w0 u u' : World} {g h r s : Nat} {x y z m : Array Value} (k : M4 w0 g h r s x y z m u) (hb : Below u.heap.size u u') : M4 w0 g h r s x y z m u' :=
  ⟨k.bel.trans (hb.mono k.bel.size), k.x.below hb k.x.lt, k.y.below hb k.y.lt, k.z.below hb k.z.lt, k.m.below hb k.m.lt, k.lg, k.lh, k.lr, k.ls, k.gs, k.hs, k.rs⟩
structure O3 (w0 : World) (r s q : Nat) (z m v : Array Value) (u : World) : Prop where
  bel : Below w0.heap.size w0 u
  z : Blk u r 113 z
  m : Blk u s 180 m
  o : Blk u q 113 v
  lr : w0.heap.size ≤ r
  lo : w0.heap.size ≤ q
  ro : r ≠ q
  so : s ≠ q
theorem O3.put {w0 u u' : World} {r s o : Nat} {z m v v' : Array Value} (k : O3 w0 r s o z m v u) (hw : Wrote o u u') (hb : Blk u' o 113 v') : O3 w0 r s o z m v' u' :=
  ⟨hw.below k.bel k.lo k.bel.size, hw.blk k.z k.ro, hw.blk k.m k.so, hb, k.lr, k.lo, k.ro, k.so⟩
theorem O3.next {w0 u u' : World} {r s o : Nat} {z m v : Array Value} (k : O3 w0 r s o z m v u) (hb : Below u.heap.size u u') : O3 w0 r s o z m v u' :=
  ⟨k.bel.trans (hb.mono k.bel.size), k.z.below hb k.z.lt, k.m.below hb k.m.lt, k.o.below hb k.o.lt, k.lr, k.lo, k.ro, k.so⟩
theorem M4.out {w0 u : World} {g h r s : Nat} {x y z m : Array Value} (k : M4 w0 g h r s x y z m u) (v : Array Value) : O3 w0 r s u.heap.size z m v (u.alloc (.cells v 113)) :=
  ⟨k.bel.alloc k.bel.size _, k.z.alloc _, k.m.alloc _, Blk.new _ _ _, k.lr, k.bel.size, Nat.ne_of_lt k.z.lt, Nat.ne_of_lt k.m.lt⟩
end Go.Proofs.YtoihgnkhalhocaaGreatDoor
/-
  Walks: the field's Odd and Equal.
-/
namespace Go.Proofs.YtoihgnkhalhocaaGreatDoor
set_option linter.unusedSimpArgs false
set_option linter.unusedVariables false
open Go.RowKit
theorem and_one (l : Nat) (h : l < 18446744073709551616) : bits .and .u64 (l : Int) 1 = ((l % 2 : Nat) : Int) := by
  have h1 := and64 l 1 h (by decide)
  rw [show ((1 : Nat) : Int) = 1 from rfl] at h1
  rw [h1]
  congr 1
  exact Nat.and_two_pow_sub_one_eq_mod l 1
set_option maxRecDepth 100000 in
set_option maxHeartbeats 1000000 in
theorem odd_any (x : E5) (w : World) (hx : x.Lt 18446744073709551616) : Calls Tryz.prog 111 #[.agg (eV x)] w (fun e w' => e = .returned (.bool (decide ((leastE x).a % 2 = 1))) ∧ Below w.heap.size w w') := by
  have hu := Tryz.underlying113
  have hu5 := Tryz.underlying111
  have HX := Lib.hid hx
  clear hx
  obtain ⟨z, hz⟩ : ∃ z, z = leastE x := ⟨_, rfl⟩
  have hzl : z.a < 2251799813685248 := by rw [hz]; exact (least_lt x).a
  rw [← hz]
  have HZ := Lib.hid hz
  have HZL := Lib.hid hzl
  have hix : ∀ u : World, (Instr.index 111 (.agg (eV z)) (.int .i64 0)).run Tryz.prog u = .ok (.int .u64 (z.a : Int)) u := fun u =>
    run_index_array (k := 0) (n := 5) (e := 86) hu5 (by decide) rfl (by kernel_rfl) (by kernel_rfl) ⟨_, Tryz.underlying86⟩
  have hfd : ∀ u : World, (Instr.field 113 (.agg (eV z)) 0).run Tryz.prog u = .ok (.agg (eV z)) u := fun u => by kernel_rfl
  have hb0 := Blk.new w 113 (eV x)
  have HB0 := Lib.hid hb0
  clear hz hzl hb0
  go_enter Tryz.func111, Tryz.ntmps111
  go_wp2_with (refine wpList_get_box (x := .tmp 1) HB0.out rfl rfl rfl hu rfl elem_size ?_)
  refine calls_then (least_any x _ HX.out) ?_
  rintro e w2 ⟨rfl, hb2⟩
  rw [← HZ.out]
  go_wp2_with fail
  go_ret
  refine ⟨?_, (below_new _ _).trans (hb2.mono (by simp))⟩
  rw [and_one z.a (by have := HZL.out; omega)]
  have e : (((z.a % 2 : Nat) : Int) == 1) = decide (z.a % 2 = 1) := by
    rw [Bool.eq_iff_iff, beq_iff_eq, decide_eq_true_iff]
    omega
  exact congrArg (fun b => Ending.returned (.bool b)) e
end Go.Proofs.YtoihgnkhalhocaaGreatDoor
/-
  Plain: a number's bytes, bit by bit.
-/
namespace Go.Proofs.YtoihgnkhalhocaaGreatDoor
set_option linter.unusedSimpArgs false
set_option linter.unusedVariables false
open Go.RowKit
def byN (N : Nat) : List Nat := (List.range 32).map fun j => N / 256 ^ j % 256
theorem byN_length (N : Nat) : (byN N).length = 32 := by simp [byN]
theorem byN_at (N j : Nat) (h : j < 32) : (byN N)[j]? = some (N / 256 ^ j % 256) := by simp [byN, h]
theorem pow256 (j : Nat) : 256 ^ j = 2 ^ (8 * j) := by rw [Nat.pow_mul]
theorem byN_zero : byN 0 = List.replicate 32 0 := by decide
theorem mod_bit (V n : Nat) : V % 2 ^ (n + 1) = V % 2 ^ n + V / 2 ^ n % 2 * 2 ^ n := by
  rw [Nat.pow_succ, Nat.mod_mul, Nat.mul_comm]
theorem byte_other (N b n j : Nat) (hN : N < 2 ^ n) (hb : b < 2) (hj : j ≠ n / 8) : (N + b * 2 ^ n) / 256 ^ j % 256 = N / 256 ^ j % 256 := by
  rw [pow256]
  by_cases h : j < n / 8
  · obtain ⟨d, hd⟩ : ∃ d, n = 8 * j + (8 + d) := ⟨n - 8 * j - 8, by omega⟩
    have e : b * 2 ^ n = 2 ^ (8 * j) * (256 * (b * 2 ^ d)) := by
      rw [hd, Nat.pow_add, Nat.pow_add, show (2 : Nat) ^ 8 = 256 from rfl]
      rw [Nat.mul_left_comm, Nat.mul_left_comm b 256]
    rw [e, Nat.add_mul_div_left _ _ (Nat.two_pow_pos _), Nat.add_mul_mod_self_left]
  · have hle : n + 1 ≤ 8 * j := by omega
    have h2 : 2 ^ (n + 1) ≤ 2 ^ (8 * j) := Nat.pow_le_pow_right (by decide) hle
    rw [Nat.pow_succ] at h2
    have h3 : b * 2 ^ n ≤ 1 * 2 ^ n := Nat.mul_le_mul_right _ (by omega)
    rw [Nat.div_eq_of_lt (by omega), Nat.div_eq_of_lt (by omega)]
theorem byte_this (N b n : Nat) (hN : N < 2 ^ n) (hb : b < 2) : (N + b * 2 ^ n) / 256 ^ (n / 8) % 256 = N / 256 ^ (n / 8) % 256 ||| b * 2 ^ (n % 8) := by
  obtain ⟨q, r, hr, rfl⟩ : ∃ q r, r < 8 ∧ n = 8 * q + r := ⟨n / 8, n % 8, by omega, by omega⟩
  rw [show (8 * q + r) / 8 = q by omega, show (8 * q + r) % 8 = r by omega, pow256]
  have hp := Nat.two_pow_pos (8 * q)
  have e : b * 2 ^ (8 * q + r) = 2 ^ (8 * q) * (b * 2 ^ r) := by rw [Nat.pow_add, Nat.mul_left_comm]
  rw [e, Nat.add_mul_div_left _ _ hp]
  have hlt : N / 2 ^ (8 * q) < 2 ^ r := by
    rw [Nat.div_lt_iff_lt_mul hp, ← Nat.pow_add, Nat.add_comm]; exact hN
  have hr8 : 2 ^ (r + 1) ≤ 2 ^ 8 := Nat.pow_le_pow_right (by decide) (by omega)
  rw [Nat.pow_succ, show (2 : Nat) ^ 8 = 256 from rfl] at hr8
  have hb2 : b * 2 ^ r ≤ 1 * 2 ^ r := Nat.mul_le_mul_right _ (by omega)
  rw [Nat.mod_eq_of_lt (by omega), Nat.mod_eq_of_lt (a := N / 2 ^ (8 * q)) (by omega)]
  have h := Nat.shiftLeft_add_eq_or_of_lt hlt b
  rw [Nat.shiftLeft_eq] at h
  rw [Nat.add_comm, h, Nat.or_comm]
theorem byN_step (V n : Nat) (hn : n < 256) : (byN (V % 2 ^ n)).set (n / 8) (V % 2 ^ n / 256 ^ (n / 8) % 256 ||| V / 2 ^ n % 2 * 2 ^ (n % 8)) = byN (V % 2 ^ (n + 1)) := by
  have hN : V % 2 ^ n < 2 ^ n := Nat.mod_lt _ (Nat.two_pow_pos _)
  have hb : V / 2 ^ n % 2 < 2 := Nat.mod_lt _ (by decide)
  rw [mod_bit]
  apply List.ext_getElem?
  intro j
  by_cases hj : j < 32
  · rw [byN_at _ _ hj, List.getElem?_set]
    by_cases h : n / 8 = j
    · rw [if_pos h, if_pos (by rw [byN_length]; exact h ▸ hj), ← h, byte_this _ _ _ hN hb]
    · rw [if_neg h, byN_at _ _ hj, byte_other _ _ _ _ hN hb (Ne.symm h)]
  · rw [List.getElem?_eq_none (by rw [List.length_set, byN_length]; omega), List.getElem?_eq_none (by rw [byN_length]; omega)]
theorem high_bit (l r k : Nat) (hk : k < 51) : (l + 2251799813685248 * r) / 2 ^ k % 2 = l / 2 ^ k % 2 := by
  obtain ⟨d, hd⟩ : ∃ d, 51 = k + (1 + d) := ⟨50 - k, by omega⟩
  have e : 2251799813685248 * r = 2 ^ k * (2 * (2 ^ d * r)) := by
    rw [show (2251799813685248 : Nat) = 2 ^ 51 from rfl, hd, Nat.pow_add, Nat.pow_add, Nat.pow_one, Nat.mul_assoc, Nat.mul_assoc]
  rw [e, Nat.add_mul_div_left _ _ (Nat.two_pow_pos _), Nat.add_mul_mod_self_left]
end Go.Proofs.YtoihgnkhalhocaaGreatDoor
/-
  Walk: the field's Bytes.
-/
namespace Go.Proofs.YtoihgnkhalhocaaGreatDoor
set_option linter.unusedSimpArgs false
set_option linter.unusedVariables false
open Go.RowKit
def bnV (l : List Nat) : List Value := l.map fun n : Nat => Value.int .u8 (n : Int)
theorem bnV_at {l : List Nat} {j n : Nat} (h : l[j]? = some n) : (bnV l).toArray[j]? = some (.int .u8 (n : Int)) := by simp [bnV, h]
theorem bnV_set (l : List Nat) (j n : Nat) : (bnV l).toArray.setIfInBounds j (.int .u8 (n : Int)) = (bnV (l.set j n)).toArray := by simp [bnV, List.map_set]
theorem val_bit (x : E5) (hx : x.Lt 2251799813685248) (i k n : Nat) (hi : i < 5) (hk : k < 51) (hn : i * 51 + k = n) : x.val / 2 ^ n % 2 = (limbs x).getD i 0 / 2 ^ k % 2 := by
  rw [← hn, Nat.pow_add, ← Nat.div_div_eq_div_mul]
  obtain ⟨h1, h2, h3, h4, h5⟩ := hx
  have go : ∀ l r : Nat, x.val / 2 ^ (i * 51) = l + 2251799813685248 * r → (limbs x).getD i 0 = l → x.val / 2 ^ (i * 51) / 2 ^ k % 2 = (limbs x).getD i 0 / 2 ^ k % 2 := fun l r e f => by
    rw [e, f]; exact high_bit l r k hk
  match i, hi with
  | 0, _ => exact go x.a (x.b + x.c * 2251799813685248 + x.d * 5070602400912917605986812821504 + x.e * 11417981541647679048466287755595961091061972992) (by simp only [E5.val]; omega) rfl
  | 1, _ => exact go x.b (x.c + x.d * 2251799813685248 + x.e * 5070602400912917605986812821504) (by rw [show (2 : Nat) ^ (1 * 51) = 2251799813685248 by decide]; simp only [E5.val]; omega) rfl
  | 2, _ => exact go x.c (x.d + x.e * 2251799813685248) (by rw [show (2 : Nat) ^ (2 * 51) = 5070602400912917605986812821504 by decide]; simp only [E5.val]; omega) rfl
  | 3, _ => exact go x.d x.e (by rw [show (2 : Nat) ^ (3 * 51) = 11417981541647679048466287755595961091061972992 by decide]; simp only [E5.val]; omega) rfl
  | 4, _ => exact go x.e 0 (by rw [show (2 : Nat) ^ (4 * 51) = 25711008708143844408671393477458601640355247900524685364822016 by decide]; simp only [E5.val]; omega) rfl
structure B2 (w0 : World) (g o : Nat) (x : Array Value) (l : List Nat) (u : World) : Prop where
  bel : Below w0.heap.size w0 u
  x : Blk u g 113 x
  out : Blk u o 5 (bnV l).toArray
  lo : w0.heap.size ≤ o
  go : g ≠ o
theorem B2.put {w0 u u' : World} {g o : Nat} {x : Array Value} {l l' : List Nat} (k : B2 w0 g o x l u) (hw : Wrote o u u') (hb : Blk u' o 5 (bnV l').toArray) : B2 w0 g o x l' u' :=
  ⟨hw.below k.bel k.lo k.bel.size, hw.blk k.x k.go, hb, k.lo, k.go⟩
theorem B2.drew {w0 u : World} {g o : Nat} {x : Array Value} {l : List Nat} (k : B2 w0 g o x l u) : B2 w0 g o x l u.drew :=
  ⟨k.bel.drew, k.x, k.out, k.lo, k.go⟩
theorem b2_new (w0 u : World) (g : Nat) (x : Array Value) (hbel : Below w0.heap.size w0 u) (hx : Blk u g 113 x) : B2 w0 g u.heap.size x (byN 0) (u.alloc (.cells (bnV (byN 0)).toArray 5)) :=
  ⟨hbel.alloc hbel.size _, hx.alloc _, Blk.new _ _ _, hbel.size, Nat.ne_of_lt hx.lt⟩
def BytesPost (N : Nat) (w : World) (e : Ending) (w' : World) : Prop :=
  ∃ o, e = .returned (.slice (some ⟨o, 0, none⟩) 32 32) ∧ w.heap.size ≤ o ∧ Blk w' o 5 (bnV (byN N)).toArray ∧ Below w.heap.size w w'
set_option maxRecDepth 100000 in
set_option maxHeartbeats 2000000 in
theorem bytes_any (x : E5) (w : World) (hx : x.Lt 18446744073709551616) : Calls Tryz.prog 121 #[.agg (eV x)] w (BytesPost (leastE x).val w) := by
  have hu := Tryz.underlying113
  have hu5 := Tryz.underlying111
  obtain ⟨z, hz⟩ : ∃ z, z = leastE x := ⟨_, rfl⟩
  have hzl : z.Lt 2251799813685248 := by rw [hz]; exact least_lt x
  have hmk : ∀ u : World, (Instr.makeSlice 42 (.int .i64 32) (.int .i64 32)).run Tryz.prog u = .ok (.slice (some ⟨u.heap.size, 0, none⟩) 32 32) (u.alloc (.cells (bnV (byN 0)).toArray 5)) := fun _ => by rw [byN_zero]; kernel_rfl
  rw [← hz]
  have HX := Lib.hid hx
  have HZ := Lib.hid hz
  have HZL := Lib.hid hzl
  have hb0 := Blk.new w 113 (eV x)
  have HB0 := Lib.hid hb0
  clear hx hz hzl hb0
  go_enter Tryz.func121, Tryz.ntmps121
  go_wp2_with (refine wpList_get_box (x := .tmp 1) HB0.out rfl rfl rfl hu rfl elem_size ?_)
  refine calls_then (least_any x _ HX.out) ?_
  rintro e w2 ⟨rfl, hb2⟩
  rw [← HZ.out]
  have hb3 : Below w.heap.size w w2 := (below_new _ _).trans (hb2.mono (by simp))
  have hb4 := HB0.out.below hb2 HB0.out.lt
  have HB3 := Lib.hid hb3
  have HB4 := Lib.hid hb4
  clear hb2 hb3 hb4 HB0
  generalize hg : w.heap.size = g at *
  go_wp2_with (first
    | (refine wpList_put_box (x := .tmp 1) (cells := eV z) HB4.out rfl rfl rfl rfl elem_size rfl (by simp [eV, wV, limbs, Value.oneCell']) ?_; intro w5 hb5 hw5; have HB5 := Lib.hid hb5; have HW5 := Lib.hid hw5; clear hb5 hw5)
    | (refine wpList_get_part (x := .tmp 11) (n := 5) (r := eV z) (HB5.out.alloc _) (by rw [eV_size]; decide) rfl rfl rfl rfl hu5 rfl five_size ?_))
  have hst0 := b2_new w w5 g (eV z) (by
    rw [hg]
    exact HW5.out.below HB3.out (Nat.le_refl _) (by rw [← hg]; exact HB3.out.size)) HB5.out
  obtain ⟨o, ho⟩ : ∃ o, o = w5.heap.size := ⟨_, rfl⟩
  obtain ⟨V, hV⟩ : ∃ V, V = z.val := ⟨_, rfl⟩
  have h00 : byN 0 = byN (V % 2 ^ (0 * 51)) := by rw [Nat.zero_mul, Nat.pow_zero, Nat.mod_one]
  rw [← ho, h00] at hst0
  rw [← ho, h00, ← hV]
  have HV := Lib.hid hV
  have HST0 := Lib.hid hst0
  clear hst0 ho HB3 HB4 HB5 HW5 hmk h00 hV
  go_loopw [13] (fun i wr => ∃ k : Nat, k ≤ 5 ∧ i = .int .i64 k ∧ B2 w g o (eV z) (byN (V % 2 ^ (k * 51))) wr) (fun i _ => 5 - (intOf i).toNat)
  case atStart => exact ⟨0, by omega, rfl, HST0.out⟩
  case round =>
    clear HST0
    obtain ⟨i, hi, rfl, hst⟩ := hrel
    by_cases hlt : i < 5
    · have hlt' : (i : Int) < 5 := by omega
      obtain ⟨l, hl⟩ : ∃ l, l = (limbs z).getD i 0 := ⟨_, rfl⟩
      have hll : l < 2251799813685248 := by rw [hl]; exact limb_lt HZL.out (by decide) i
      have hix : ∀ u : World, (Instr.index 111 (.agg (eV z)) (.int .i64 (i : Int))).run Tryz.prog u = .ok (.int .u64 (l : Int)) u := fun u =>
        run_index_array (n := 5) (e := 86) hu5 hlt (by rw [hl]; exact eV_at z i hlt) (by kernel_rfl) (by kernel_rfl) ⟨_, Tryz.underlying86⟩
      have hst' : B2 w g o (eV z) (byN (V % 2 ^ (i * 51 + 0))) wr := hst
      have HST := Lib.hid hst'
      have HL := Lib.hid hl
      have HLL := Lib.hid hll
      clear hst hst' hl hll
      go_wp2_with fail
      obtain ⟨wo, rfl⟩ : ∃ x, x = wr := ⟨_, rfl⟩
      go_loopw [17] (fun c wr => ∃ k : Nat, k ≤ 51 ∧ c = .int .i64 k ∧ B2 w g o (eV z) (byN (V % 2 ^ (i * 51 + k))) wr) (fun c _ => 51 - (intOf c).toNat)
      case atStart => exact ⟨0, by omega, rfl, HST.out⟩
      case round =>
        clear HST hix
        obtain ⟨k, hk, rfl, hst⟩ := hrel
        by_cases hltk : k < 51
        · have hltk' : (k : Int) < 51 := by omega
          obtain ⟨n, hn⟩ : ∃ n, n = i * 51 + k := ⟨_, rfl⟩
          have hni : (i : Int) * 51 + (k : Int) = (n : Int) := by omega
          obtain ⟨q, hq⟩ : ∃ q, q = n / 8 := ⟨_, rfl⟩
          obtain ⟨r, hr⟩ : ∃ r, r = n % 8 := ⟨_, rfl⟩
          have hqi : (n : Int) / 8 = (q : Int) := by omega
          have hri : (n : Int) % 8 = (r : Int) := by omega
          have hq32 : (q : Int) < 32 := by omega
          have hr8 : (r : Int) < 8 := by omega
          have hstep := byN_step V n (by omega)
          have hbit := val_bit z HZL.out i k n hlt hltk hn.symm
          rw [← HV.out, ← HL.out] at hbit
          rw [← hq, ← hr, hbit] at hstep
          rw [← hn] at hst
          have hcur := byN_at (V % 2 ^ n) q (by omega)
          obtain ⟨y, hy⟩ : ∃ y, y = V % 2 ^ n / 256 ^ q % 256 := ⟨_, rfl⟩
          rw [← hy] at hstep hcur
          have hyl : y < 256 := by rw [hy]; exact Nat.mod_lt _ (by decide)
          obtain ⟨lk, hlk⟩ : ∃ lk, lk = l / 2 ^ k := ⟨_, rfl⟩
          rw [← hlk] at hstep
          have hlkl : lk < 2251799813685248 := by rw [hlk]; exact Nat.lt_of_le_of_lt (Nat.div_le_self _ _) HLL.out
          have hlki : (l : Int) / 2 ^ k = (lk : Int) := by rw [hlk, shr_int]
          obtain ⟨b, hb⟩ : ∃ b, b = lk % 2 := ⟨_, rfl⟩
          rw [← hb] at hstep
          have HLK := Lib.hid hlki
          have HLKL := Lib.hid hlkl
          have hbl : b < 2 := by rw [hb]; exact Nat.mod_lt _ (by decide)
          obtain ⟨LN, hLN⟩ : ∃ LN, LN = byN (V % 2 ^ n) := ⟨_, rfl⟩
          rw [← hLN] at hstep hcur hst
          obtain ⟨LM, hLM⟩ : ∃ LM, LM = byN (V % 2 ^ (n + 1)) := ⟨_, rfl⟩
          rw [← hLM] at hstep
          obtain ⟨s, hs⟩ : ∃ s, s = b * 2 ^ r := ⟨_, rfl⟩
          rw [← hs] at hstep
          have hsl : s < 256 := by
            have e1 : 2 ^ r ≤ 2 ^ 7 := Nat.pow_le_pow_right (by decide) (by omega)
            have e2 : b * 2 ^ r ≤ 1 * 2 ^ 7 := Nat.mul_le_mul (by omega) e1
            rw [hs]; exact Nat.lt_of_le_of_lt e2 (by decide)
          have hsi : (b : Int) * 2 ^ r % 256 = (s : Int) := by
            rw [shl_int, ← hs]; omega
          have hor := or8 (a := y) (b := s) hyl hsl
          obtain ⟨yn, hyn⟩ : ∃ yn, yn = y ||| s := ⟨_, rfl⟩
          rw [← hyn] at hor hstep
          have HOR := Lib.hid hor
          have HSI := Lib.hid hsi
          have HSTEP := Lib.hid hstep
          have HCUR := Lib.hid (bnV_at hcur)
          have HB := Lib.hid hb
          have HBL := Lib.hid hbl
          have HYL := Lib.hid hyl
          have HLM := Lib.hid hLM
          have HN := Lib.hid hn
          have HC0 := hst.drew
          clear hst hstep hcur hb hbl hyl hLM hLN hy hbit hq hr hn hlk hlki hlkl hs hsl hsi hor hyn
          go_wp2_with fail
          refine wp_region_det (fun u => B2 w g o (eV z) LN u) (fun u => B2 w g o (eV z) LM u) [(0, some 24), (1, some 25), (2, some 26), (3, some 27), (4, some 28), (5, some 29), (6, some 30), (7, some 31), (8, some 32), (9, some 33), (10, some 34), (11, some 35), (12, some 36), (13, some 37), (14, some 38), (15, none)] (by kernel_rfl) (by kernel_rfl) (by decide) (by kernel_rfl) (fun _ => rfl) HC0 ?_
          apply DetL.next
          · -- 0: Op.move (Operand.tmp 3)
            apply detStep_plain []
            exact fun _ => rfl
            rfl
            rintro vals - w1 hC1 E hE
            simp only [puts, act_put, act_put_none, List.setIfInBounds_toArray, List.set_cons_zero, List.set_cons_succ] at hE ⊢
            go_wp2
            exact .mk (hE _ hC1)
          apply DetL.next
          · -- 1: Op.move (Operand.tmp 7)
            apply detStep_plain []
            exact fun _ => rfl
            rfl
            rintro vals ⟨-, -⟩ w1 hC1 E hE
            simp only [puts, act_put, act_put_none, List.setIfInBounds_toArray, List.set_cons_zero, List.set_cons_succ] at hE ⊢
            go_wp2
            exact .mk (hE _ hC1)
          apply DetL.next
          · -- 2: Op.binOp BinOp.quo 3 (Operand.tmp 25) (Operand.const (Value.int IntKind.i64 8)) 3
            apply detStep_plain [(1, some 25)]
            exact fun _ => rfl
            rfl
            rintro vals ⟨⟨-, -⟩, f1⟩ w1 hC1 E hE
            simp only [puts, act_put, act_put_none, List.setIfInBounds_toArray, List.set_cons_zero, List.set_cons_succ, f1] at hE ⊢
            clear f1
            go_wp2
            exact .mk (hE _ hC1)
          apply DetL.next
          · -- 3: Op.indexAddr 42 (Operand.tmp 24) (Operand.tmp 26)
            apply detStep_plain [(0, some 24), (2, some 26)]
            exact fun _ => rfl
            rfl
            rintro vals ⟨⟨⟨-, f0⟩, -⟩, f2⟩ w1 hC1 E hE
            simp only [puts, act_put, act_put_none, List.setIfInBounds_toArray, List.set_cons_zero, List.set_cons_succ, f0, f2] at hE ⊢
            clear f0 f2
            go_wp2
            exact .mk (hE _ hC1)
          apply DetL.next
          · -- 4: Op.load 5 (Operand.tmp 27)
            apply detStep_plain [(3, some 27)]
            exact fun _ => rfl
            rfl
            rintro vals ⟨⟨⟨⟨-, -⟩, -⟩, -⟩, f3⟩ w1 hC1 E hE
            have d0 := hC1.out.cell q
            rw [HCUR.out] at d0
            simp only [puts, act_put, act_put_none, List.setIfInBounds_toArray, List.set_cons_zero, List.set_cons_succ, f3] at hE ⊢
            clear f3
            go_wp2
            exact .mk (hE _ hC1)
          apply DetL.next
          · -- 5: Op.move (Operand.tmp 5)
            apply detStep_plain []
            exact fun _ => rfl
            rfl
            rintro vals ⟨⟨⟨⟨⟨-, -⟩, -⟩, -⟩, -⟩, -⟩ w1 hC1 E hE
            simp only [puts, act_put, act_put_none, List.setIfInBounds_toArray, List.set_cons_zero, List.set_cons_succ] at hE ⊢
            go_wp2
            exact .mk (hE _ hC1)
          apply DetL.next
          · -- 6: Op.move (Operand.tmp 6)
            apply detStep_plain []
            exact fun _ => rfl
            rfl
            rintro vals ⟨⟨⟨⟨⟨⟨-, -⟩, -⟩, -⟩, -⟩, -⟩, -⟩ w1 hC1 E hE
            simp only [puts, act_put, act_put_none, List.setIfInBounds_toArray, List.set_cons_zero, List.set_cons_succ] at hE ⊢
            go_wp2
            exact .mk (hE _ hC1)
          apply DetL.next
          · -- 7: Op.binOp BinOp.shr 86 (Operand.tmp 29) (Operand.tmp 30) 3
            apply detStep_plain [(5, some 29), (6, some 30)]
            exact fun _ => rfl
            rfl
            rintro vals ⟨⟨⟨⟨⟨⟨⟨-, -⟩, -⟩, -⟩, -⟩, -⟩, f5⟩, f6⟩ w1 hC1 E hE
            simp only [puts, act_put, act_put_none, List.setIfInBounds_toArray, List.set_cons_zero, List.set_cons_succ, f5, f6] at hE ⊢
            clear f5 f6
            go_wp2
            rw [HLK.out]
            exact .mk (hE _ hC1)
          apply DetL.next
          · -- 8: Op.binOp BinOp.and 86 (Operand.tmp 31) (Operand.const (Value.int IntKind.u64 1)) 86
            apply detStep_plain [(7, some 31)]
            exact fun _ => rfl
            rfl
            rintro vals ⟨⟨⟨⟨⟨⟨⟨⟨-, -⟩, -⟩, -⟩, -⟩, -⟩, -⟩, -⟩, f7⟩ w1 hC1 E hE
            simp only [puts, act_put, act_put_none, List.setIfInBounds_toArray, List.set_cons_zero, List.set_cons_succ, f7] at hE ⊢
            clear f7
            go_wp2
            rw [and_one lk (by have := HLKL.out; omega), ← HB.out]
            exact .mk (hE _ hC1)
          apply DetL.next
          · -- 9: Op.convert 86 5 (Operand.tmp 32)
            apply detStep_plain [(8, some 32)]
            exact fun _ => rfl
            rfl
            rintro vals ⟨⟨⟨⟨⟨⟨⟨⟨⟨-, -⟩, -⟩, -⟩, -⟩, -⟩, -⟩, -⟩, -⟩, f8⟩ w1 hC1 E hE
            have hb8 : (b : Int) < 256 := by have := HBL.out; omega
            simp only [puts, act_put, act_put_none, List.setIfInBounds_toArray, List.set_cons_zero, List.set_cons_succ, f8] at hE ⊢
            clear f8
            go_wp2
            exact .mk (hE _ hC1)
          apply DetL.next
          · -- 10: Op.move (Operand.tmp 7)
            apply detStep_plain []
            exact fun _ => rfl
            rfl
            rintro vals ⟨⟨⟨⟨⟨⟨⟨⟨⟨⟨-, -⟩, -⟩, -⟩, -⟩, -⟩, -⟩, -⟩, -⟩, -⟩, -⟩ w1 hC1 E hE
            simp only [puts, act_put, act_put_none, List.setIfInBounds_toArray, List.set_cons_zero, List.set_cons_succ] at hE ⊢
            go_wp2
            exact .mk (hE _ hC1)
          apply DetL.next
          · -- 11: Op.binOp BinOp.rem 3 (Operand.tmp 34) (Operand.const (Value.int IntKind.i64 8)) 3
            apply detStep_plain [(10, some 34)]
            exact fun _ => rfl
            rfl
            rintro vals ⟨⟨⟨⟨⟨⟨⟨⟨⟨⟨⟨-, -⟩, -⟩, -⟩, -⟩, -⟩, -⟩, -⟩, -⟩, -⟩, -⟩, f10⟩ w1 hC1 E hE
            simp only [puts, act_put, act_put_none, List.setIfInBounds_toArray, List.set_cons_zero, List.set_cons_succ, f10] at hE ⊢
            clear f10
            go_wp2
            exact .mk (hE _ hC1)
          apply DetL.next
          · -- 12: Op.binOp BinOp.shl 5 (Operand.tmp 33) (Operand.tmp 35) 3
            apply detStep_plain [(9, some 33), (11, some 35)]
            exact fun _ => rfl
            rfl
            rintro vals ⟨⟨⟨⟨⟨⟨⟨⟨⟨⟨⟨⟨-, -⟩, -⟩, -⟩, -⟩, -⟩, -⟩, -⟩, -⟩, -⟩, f9⟩, -⟩, f11⟩ w1 hC1 E hE
            simp only [puts, act_put, act_put_none, List.setIfInBounds_toArray, List.set_cons_zero, List.set_cons_succ, f9, f11] at hE ⊢
            clear f9 f11
            go_wp2
            rw [HSI.out]
            exact .mk (hE _ hC1)
          apply DetL.next
          · -- 13: Op.binOp BinOp.or 5 (Operand.tmp 28) (Operand.tmp 36) 5
            apply detStep_plain [(4, some 28), (12, some 36)]
            exact fun _ => rfl
            rfl
            rintro vals ⟨⟨⟨⟨⟨⟨⟨⟨⟨⟨⟨⟨⟨-, -⟩, -⟩, -⟩, -⟩, f4⟩, -⟩, -⟩, -⟩, -⟩, -⟩, -⟩, -⟩, f12⟩ w1 hC1 E hE
            simp only [puts, act_put, act_put_none, List.setIfInBounds_toArray, List.set_cons_zero, List.set_cons_succ, f4, f12] at hE ⊢
            clear f4 f12
            go_wp2
            rw [HOR.out]
            exact .mk (hE _ hC1)
          apply DetL.next
          · -- 14: Op.indexAddr 42 (Operand.tmp 24) (Operand.tmp 26)
            apply detStep_plain [(0, some 24), (2, some 26), (0, some 24), (1, some 25), (2, some 26), (3, some 27), (4, some 28), (5, some 29), (6, some 30), (7, some 31), (8, some 32), (9, some 33), (10, some 34), (11, some 35), (12, some 36), (13, some 37)]
            exact fun _ => rfl
            rfl
            rintro vals ⟨⟨⟨⟨⟨⟨⟨⟨⟨⟨⟨⟨⟨⟨-, f0⟩, f1⟩, f2⟩, f3⟩, f4⟩, f5⟩, f6⟩, f7⟩, f8⟩, f9⟩, f10⟩, f11⟩, f12⟩, f13⟩ w1 hC1 E hE
            simp only [puts, act_put, act_put_none, List.setIfInBounds_toArray, List.set_cons_zero, List.set_cons_succ, f0, f1, f2, f3, f4, f5, f6, f7, f8, f9, f10, f11, f12, f13] at hE ⊢
            clear f0 f1 f2 f3 f4 f5 f6 f7 f8 f9 f10 f11 f12 f13
            go_wp2
            exact .mk (hE _ hC1)
          apply DetL.last (v := undef)
          · -- 15: Op.store 5 (Operand.tmp 38) (Operand.tmp 37)
            apply detStep_plain [(14, some 38), (13, some 37), (0, some 24), (1, some 25), (2, some 26), (3, some 27), (4, some 28), (5, some 29), (6, some 30), (7, some 31), (8, some 32), (9, some 33), (10, some 34), (11, some 35), (12, some 36), (13, some 37)]
            exact fun _ => rfl
            rfl
            rintro vals ⟨⟨⟨⟨⟨⟨⟨⟨⟨⟨⟨⟨⟨⟨⟨-, f0⟩, f1⟩, f2⟩, f3⟩, f4⟩, f5⟩, f6⟩, f7⟩, f8⟩, f9⟩, f10⟩, f11⟩, f12⟩, f13⟩, f14⟩ w1 hC1 E hE
            have d0 := hC1.out.cell q
            rw [HCUR.out] at d0
            have q0 := hC1.out.free q
            simp only [puts, act_put, act_put_none, List.setIfInBounds_toArray, List.set_cons_zero, List.set_cons_succ, f0, f1, f2, f3, f4, f5, f6, f7, f8, f9, f10, f11, f12, f13, f14] at hE ⊢
            clear f0 f1 f2 f3 f4 f5 f6 f7 f8 f9 f10 f11 f12 f13 f14
            go_wp2
            refine .mk (hE _ (hC1.put (wrote_setCell_at _ _ _ _) ?_))
            have h := blk_setCell_at (i := q) hC1.out (.int .u8 (yn : Int))
            rw [bnV_set, HSTEP.out] at h
            exact h
          rintro vals ⟨⟨⟨⟨⟨⟨⟨⟨⟨⟨⟨⟨⟨⟨⟨⟨-, f0⟩, f1⟩, f2⟩, f3⟩, f4⟩, f5⟩, f6⟩, f7⟩, f8⟩, f9⟩, f10⟩, f11⟩, f12⟩, f13⟩, f14⟩, f15⟩ w1 hC1
          simp only [puts, act_put, act_put_none, List.setIfInBounds_toArray, List.set_cons_zero, List.set_cons_succ, f0, f1, f2, f3, f4, f5, f6, f7, f8, f9, f10, f11, f12, f13, f14, f15]
          clear f0 f1 f2 f3 f4 f5 f6 f7 f8 f9 f10 f11 f12 f13 f14 f15
          clear HC0
          have hfin : B2 w g o (eV z) (byN (V % 2 ^ (i * 51 + (k + 1)))) w1 := by
            rw [show i * 51 + (k + 1) = n + 1 by rw [HN.out]; omega, ← HLM.out]
            exact hC1
          have HFIN := Lib.hid hfin
          clear hC1 hfin
          go_wp2_with fail
          exact ⟨⟨k + 1, by omega, by go_num, HFIN.out⟩, by simp [intOf]; omega⟩
        · obtain rfl : k = 51 := by omega
          rw [show i * 51 + 51 = (i + 1) * 51 by omega] at hst
          have HST := Lib.hid hst
          clear hst
          go_wp2_with fail
          exact ⟨⟨i + 1, by omega, by go_num, HST.out⟩, by simp [intOf]; omega⟩
    · obtain rfl : i = 5 := by omega
      have hmod : V % 2 ^ (5 * 51) = V := by
        have h := HZL.out
        obtain ⟨h1, h2, h3, h4, h5⟩ := h
        rw [HV.out, show (2 : Nat) ^ (5 * 51) = 57896044618658097711785492504343953926634992332820282019728792003956564819968 by decide]
        apply Nat.mod_eq_of_lt
        simp only [E5.val]
        omega
      rw [hmod] at hst
      have HST := Lib.hid hst
      clear hst hmod
      go_wp2_with fail
      go_ret
      exact ⟨o, rfl, HST.out.lo, by rw [← HV.out]; exact HST.out.out, HST.out.bel⟩
end Go.Proofs.YtoihgnkhalhocaaGreatDoor
/-
  Walk: the field's Inv.
-/
namespace Go.Proofs.YtoihgnkhalhocaaGreatDoor
set_option linter.unusedSimpArgs false
set_option linter.unusedVariables false
open Go.RowKit
structure I3 (w0 : World) (g r o : Nat) (x z : Array Value) (l : List Nat) (u : World) : Prop where
  bel : Below w0.heap.size w0 u
  x : Blk u g 113 x
  z : Blk u r 113 z
  out : Blk u o 5 (bnV l).toArray
  lg : w0.heap.size ≤ g
  lr : w0.heap.size ≤ r
  lo : w0.heap.size ≤ o
  go : g ≠ o
  ro : r ≠ o
theorem I3.put {w0 u u' : World} {g r o : Nat} {x z : Array Value} {l l' : List Nat} (k : I3 w0 g r o x z l u) (hw : Wrote o u u') (hb : Blk u' o 5 (bnV l').toArray) : I3 w0 g r o x z l' u' :=
  ⟨hw.below k.bel k.lo k.bel.size, hw.blk k.x k.go, hw.blk k.z k.ro, hb, k.lg, k.lr, k.lo, k.go, k.ro⟩
theorem I3.next {w0 u u' : World} {g r o : Nat} {x z : Array Value} {l : List Nat} (k : I3 w0 g r o x z l u) (hb : Below u.heap.size u u') : I3 w0 g r o x z l u' :=
  ⟨k.bel.trans (hb.mono k.bel.size), k.x.below hb k.x.lt, k.z.below hb k.z.lt, k.out.below hb k.out.lt, k.lg, k.lr, k.lo, k.go, k.ro⟩
end Go.Proofs.YtoihgnkhalhocaaGreatDoor
/-
  Plain: an element of 32 bytes.
-/
namespace Go.Proofs.YtoihgnkhalhocaaGreatDoor
set_option linter.unusedSimpArgs false
set_option linter.unusedVariables false
open Go.RowKit
def digs (l : List UInt8) : List Nat := l.map UInt8.toNat
theorem digs_lt (l : List UInt8) : ∀ d ∈ digs l, d < 256 := fun d h => by
  obtain ⟨b, _, rfl⟩ := List.mem_map.1 h
  exact b.toNat_lt
end Go.Proofs.YtoihgnkhalhocaaGreatDoor
/-
  Walks: the reference's Digits and Bytes.
-/
namespace Go.Proofs.YtoihgnkhalhocaaGreatDoor
set_option linter.unusedSimpArgs false
set_option linter.unusedVariables false
open Go.RowKit
theorem sl_bytes : SlT Tryz.prog 42 5 1 1 := SlT.mk1 (z := .int .u8 0) Tryz.underlying42 (by kernel_rfl) rfl (by decide)
def numV (n : Nat) : Value := .int .i64 (n : Int)
def dV (l : List Nat) : List Value := l.map numV
end Go.Proofs.YtoihgnkhalhocaaGreatDoor
/-
  Walks: the reference's P and Less.
-/
namespace Go.Proofs.YtoihgnkhalhocaaGreatDoor
set_option linter.unusedSimpArgs false
set_option linter.unusedVariables false
open Go.RowKit
def DigPost (l : List Nat) (w : World) (e : Ending) (w' : World) : Prop :=
  ∃ A c, e = .returned (.slice A l.length c) ∧ l.length ≤ c ∧ Rd w' w'.heap.size A (dV l) ∧ Below w.heap.size w w'
structure D1 (w0 : World) (o : Nat) (l : List Nat) (u : World) : Prop where
  bel : Below w0.heap.size w0 u
  out : Blk u o 3 (dV l).toArray
  lo : w0.heap.size ≤ o
theorem D1.put {w0 u u' : World} {o : Nat} {l l' : List Nat} (k : D1 w0 o l u) (hw : Wrote o u u') (hb : Blk u' o 3 (dV l').toArray) : D1 w0 o l' u' :=
  ⟨hw.below k.bel k.lo k.bel.size, hb, k.lo⟩
theorem D1.next {w0 u u' : World} {o : Nat} {l : List Nat} (k : D1 w0 o l u) (hb : Below u.heap.size u u') : D1 w0 o l u' :=
  ⟨k.bel.trans (hb.mono k.bel.size), k.out.below hb k.out.lt, k.lo⟩
theorem D1.drew {w0 u : World} {o : Nat} {l : List Nat} (k : D1 w0 o l u) : D1 w0 o l u.drew := ⟨k.bel.drew, k.out, k.lo⟩
theorem D1.post {w0 u : World} {o n c : Nat} {l : List Nat} (k : D1 w0 o l u) (hn : n = l.length) (hc : n ≤ c) : DigPost l w0 (.returned (.slice (some ⟨o, 0, none⟩) n c)) u :=
  ⟨_, c, by rw [hn], by omega, Rd.of_blk k.out k.out.lt, k.bel⟩
end Go.Proofs.YtoihgnkhalhocaaGreatDoor
/-
  Walk: jwk.Name.
-/
namespace Go.Proofs.YtoihgnkhalhocaaGreatDoor
set_option linter.unusedSimpArgs false
set_option linter.unusedVariables false
open Go.RowKit
def hexD (n : Nat) : Nat := if n < 10 then 48 + n else 87 + n
theorem hexD_lt {n : Nat} (h : n < 16) : hexD n < 256 := by unfold hexD; split <;> omega
def hexB (x : Nat) : List UInt8 := [UInt8.ofNat (hexD (x / 16)), UInt8.ofNat (hexD (x % 16))]
def nameK (h : List UInt8) (k : Nat) : List UInt8 := (h.take k).flatMap fun b => hexB b.toNat
theorem nameK_succ {h : List UInt8} {k : Nat} (hk : k < h.length) : nameK h (k + 1) = nameK h k ++ hexB h[k].toNat := by
  rw [nameK, List.take_succ_eq_append_getElem hk, List.flatMap_append]
  simp [nameK]
theorem hexB_length (x : Nat) : (hexB x).length = 2 := rfl
theorem nameK_length {h : List UInt8} : ∀ {k : Nat}, k ≤ h.length → (nameK h k).length = 2 * k
  | 0, _ => by simp [nameK]
  | k + 1, hk => by rw [nameK_succ (by omega), List.length_append, nameK_length (k := k) (by omega), hexB_length]; omega
def nameS (data : List UInt8) : ByteArray := ⟨(nameK (Sh.digS Sh.F32 data) 4).toArray⟩
theorem hexB_val (x : Nat) (hx : x < 256) : bytesV (hexB x) = [.int .u8 (hexD (x / 16) : Nat), .int .u8 (hexD (x % 16) : Nat)] := by
  have h1 := hexD_lt (n := x / 16) (by omega)
  have h2 := hexD_lt (n := x % 16) (by omega)
  simp [hexB, bytesV, byteV]
  omega
theorem rd_lift {w w' : World} {A : Option Addr} {xs : List Value} (h : Rd w w.heap.size A xs) (hb : Below w.heap.size w w') : Rd w' w'.heap.size A xs := (h.below hb).mono hb.size
theorem hexA_get (n : Nat) (h : n < 16) (h2 : n < (⟨#[48, 49, 50, 51, 52, 53, 54, 55, 56, 57, 97, 98, 99, 100, 101, 102]⟩ : ByteArray).size) : ((⟨#[48, 49, 50, 51, 52, 53, 54, 55, 56, 57, 97, 98, 99, 100, 101, 102]⟩ : ByteArray)[n]'h2).toNat = hexD n := by
  have : n = 0 ∨ n = 1 ∨ n = 2 ∨ n = 3 ∨ n = 4 ∨ n = 5 ∨ n = 6 ∨ n = 7 ∨ n = 8 ∨ n = 9 ∨ n = 10 ∨ n = 11 ∨ n = 12 ∨ n = 13 ∨ n = 14 ∨ n = 15 := by omega
  rcases this with h | h | h | h | h | h | h | h | h | h | h | h | h | h | h | h <;> subst h <;> rfl
theorem oneV (b : List UInt8) : ∀ u ∈ bytesV b, u.oneCell' = true := fun u h => by
  rw [bytesV] at h
  obtain ⟨x, _, rfl⟩ := List.mem_map.1 h
  rfl
set_option maxRecDepth 100000 in
set_option maxHeartbeats 4000000 in
theorem jname_any (data : List UInt8) (hl : data.length ≤ 1000) (A : Option Addr) (c : Nat) (w : World) (hr : Rd w w.heap.size A (bytesV data)) (hc : data.length ≤ c) (hcm : c ≤ 9223372036854775807) (hG : Sh.TabG w) :
    Calls Tryz.prog 34 #[.slice A data.length c] w (fun e w' => e = .returned (.string (nameS data)) ∧ Below w.heap.size w w') := by
  have hus := Tryz.underlying9
  have hub := Tryz.underlying42
  have hu8 := Tryz.underlying5
  have HS := Lib.hid (Sh.p256_any data A c w.heap.size w hr (Nat.le_refl _) hl hc hcm hG)
  obtain ⟨n, hn⟩ : ∃ n, n = data.length := ⟨_, rfl⟩
  rw [← hn] at HS ⊢
  clear hr hl hc hcm hG hn
  go_enter Tryz.func34, Tryz.ntmps34
  go_wp2_with fail
  refine calls_then HS.out ?_
  rintro e u1 ⟨A1, c1, rfl, ho, hb1⟩
  obtain ⟨H, hH⟩ : ∃ H, H = Sh.digS Sh.F32 data := ⟨_, rfl⟩
  rw [← hH] at ho
  have ho' : OwnX u1 w.heap.size 5 1 (.slice A1 32 c1) 32 (bytesV H) := OwnX.of ho
  have hlH : H.length = 32 := by have := ho'.1; rw [bytesV_length] at this; omega
  have hcap : 32 ≤ c1 := ho'.le_cap
  have HRD := Lib.hid (Rd.of_own ho' (Nat.le_refl _))
  obtain ⟨ad0, hA1, -, -⟩ := HRD.out.at_ (k := 0) (by rw [bytesV_length, hlH]; decide)
  have HH := Lib.hid hH
  have HB1 := Lib.hid hb1
  have HLH := Lib.hid hlH
  subst hA1
  clear hb1 ho ho' hlH hH HS
  go_wp2_with fail
  go_loopw [3, 10] (fun v i wr => ∃ (k : Nat) (A2 : Option Addr) (c2 : Nat), k ≤ 4 ∧ i = .int .i64 (k : Int) ∧ v = .slice A2 (2 * k) c2 ∧ OwnX wr u1.heap.size 5 1 (.slice A2 (2 * k) c2) (2 * k) (bytesV (nameK H k)) ∧ Below u1.heap.size u1 wr) (fun _ i _ => 4 - (intOf i).toNat)
  case atStart => exact ⟨0, none, 0, by omega, rfl, rfl, OwnX.nil _ _ _ _, Below.refl _ _⟩
  case round =>
    obtain ⟨k, A2, c2, hk, rfl, rfl, hown, hbel⟩ := hrel
    by_cases hlt : k < 4
    · have hlt' : (k : Int) < 4 := by omega
      have hkH : k < H.length := by rw [HLH.out]; omega
      obtain ⟨ad', hA', -, hcell⟩ := (HRD.out.below hbel).at_ (k := k) (by rw [bytesV_length]; exact hkH)
      injection hA' with hA'
      subst hA'
      obtain ⟨x, hx⟩ : ∃ x, x = H[k].toNat := ⟨_, rfl⟩
      have hxl : x < 256 := by have := H[k].toNat_lt; omega
      have hbv : (bytesV H)[k]'(by rw [bytesV_length]; exact hkH) = .int .u8 (x : Int) := by
        rw [hx]; simp [bytesV, byteV]
      rw [hbv] at hcell
      obtain ⟨L, hL⟩ : ∃ L, L = nameK H k := ⟨_, rfl⟩
      have HN := Lib.hid (show bytesV (nameK H (k + 1)) = bytesV L ++ bytesV (hexB x) by rw [nameK_succ hkH, ← hx, bytesV_append, hL])
      rw [← hL] at hown
      clear hx hbv hL hkH
      go_wp2_with fail
      have HC0 : Below u1.heap.size u1 wr.drew := hbel.drew
      have HI0 : OwnX wr.drew u1.heap.size 5 1 (.slice A2 (2 * k) c2) (2 * k) (bytesV L) := hown
      clear hbel hown
      refine wp_region_list (fun u => Below u1.heap.size u1 u) (fun | false => (fun u => OwnX u u1.heap.size 5 1 (.slice A2 (2 * k) c2) (2 * k) (bytesV L)) | true => (fun _ => True)) (fun | false, i => i == 8 | true, _ => false)
        [fun z _ => z 0 = .slice A2 (2 * k) c2,
         fun z _ => z 1 = .int .u8 (x : Int),
         fun z _ => z 2 = .int .u8 ((x / 16 : Nat) : Int),
         fun z _ => z 3 = .int .u8 ((hexD (x / 16) : Nat) : Int),
         fun z _ => z 4 = .int .u8 (x : Int),
         fun z _ => z 5 = .int .u8 ((x % 16 : Nat) : Int),
         fun z _ => z 6 = .int .u8 ((hexD (x % 16) : Nat) : Int),
         fun z u => (fun v u => ∃ g, v = .slice (some ⟨g, 0, none⟩) 2 2 ∧ Blk u g 5 (bytesV (hexB x)).toArray) (z 7) u,
         fun z u => ∃ A3 c3, z 8 = .slice A3 (2 * (k + 1)) c3 ∧ OwnX u u1.heap.size 5 1 (.slice A3 (2 * (k + 1)) c3) (2 * (k + 1)) (bytesV (nameK H (k + 1))),
         fun z u => ∃ A3 c3, z 9 = .slice A3 (2 * (k + 1)) c3 ∧ OwnX u u1.heap.size 5 1 (.slice A3 (2 * (k + 1)) c3) (2 * (k + 1)) (bytesV (nameK H (k + 1)))]
        [Eq, Eq, Eq, Eq, Eq, Eq, Eq, fun u u' => Below u.heap.size u u', fun _ _ => True, Eq]
        (fun i k => (i == 8 && k == 7)) [(0, some 14), (1, some 15), (2, some 16), (3, some 17), (4, some 18), (5, some 19), (6, some 20), (7, some 21), (8, some 22), (9, some 3)] (by kernel_rfl) (by kernel_rfl) rfl (fun _ => rfl) ?_ ?_ ?_ ?_ ?_ ?_
      · exact HC0
      · intro m; cases m; exact HI0; exact trivial
      · intro m; cases m
        · exact ⟨.inr (fun _ _ h h0 => h ▸ h0), .inr (fun _ _ h h0 => h ▸ h0), .inr (fun _ _ h h0 => h ▸ h0), .inr (fun _ _ h h0 => h ▸ h0), .inr (fun _ _ h h0 => h ▸ h0), .inr (fun _ _ h h0 => h ▸ h0), .inr (fun _ _ h h0 => h ▸ h0), .inr (fun _ _ h h0 => h0.below h (Nat.le_refl _)), .inl rfl, .inr (fun _ _ h h0 => h ▸ h0), trivial⟩
        · exact ⟨.inr (fun _ _ h h0 => h ▸ h0), .inr (fun _ _ h h0 => h ▸ h0), .inr (fun _ _ h h0 => h ▸ h0), .inr (fun _ _ h h0 => h ▸ h0), .inr (fun _ _ h h0 => h ▸ h0), .inr (fun _ _ h h0 => h ▸ h0), .inr (fun _ _ h h0 => h ▸ h0), .inr (fun _ _ _ h => h), .inr (fun _ _ _ h => h), .inr (fun _ _ h h0 => h ▸ h0), trivial⟩
      · exact ⟨⟨.inl rfl, .inr (.inr (.inr (fun _ _ _ _ _ h => h))), .inr (.inr (.inr (fun _ _ _ _ _ h => h))), .inr (.inr (.inr (fun _ _ _ _ _ h => h))), .inr (.inr (.inr (fun _ _ _ _ _ h => h))), .inr (.inr (.inr (fun _ _ _ _ _ h => h))), .inr (.inr (.inr (fun _ _ _ _ _ h => h))), .inr (.inr (.inr (fun _ _ _ _ h h0 => by cases h; exact h0))), .inr (.inr (.inl rfl)), .inr (.inr (.inl rfl)), trivial⟩,
          ⟨.inr (.inr (.inr (fun _ _ _ _ _ h => h))), .inl rfl, .inr (.inr (.inl rfl)), .inr (.inr (.inl rfl)), .inr (.inr (.inr (fun _ _ _ _ _ h => h))), .inr (.inr (.inr (fun _ _ _ _ _ h => h))), .inr (.inr (.inr (fun _ _ _ _ _ h => h))), .inr (.inr (.inl rfl)), .inr (.inr (.inr (fun _ _ _ _ h h0 => by cases h; exact h0))), .inr (.inr (.inl rfl)), trivial⟩,
          ⟨.inr (.inr (.inr (fun _ _ _ _ _ h => h))), .inr (.inr (.inr (fun _ _ _ _ _ h => h))), .inl rfl, .inr (.inr (.inl rfl)), .inr (.inr (.inr (fun _ _ _ _ _ h => h))), .inr (.inr (.inr (fun _ _ _ _ _ h => h))), .inr (.inr (.inr (fun _ _ _ _ _ h => h))), .inr (.inr (.inl rfl)), .inr (.inr (.inl rfl)), .inr (.inr (.inl rfl)), trivial⟩,
          ⟨.inr (.inr (.inr (fun _ _ _ _ _ h => h))), .inr (.inr (.inr (fun _ _ _ _ _ h => h))), .inr (.inr (.inr (fun _ _ _ _ _ h => h))), .inl rfl, .inr (.inr (.inr (fun _ _ _ _ _ h => h))), .inr (.inr (.inr (fun _ _ _ _ _ h => h))), .inr (.inr (.inr (fun _ _ _ _ _ h => h))), .inr (.inr (.inl rfl)), .inr (.inr (.inl rfl)), .inr (.inr (.inl rfl)), trivial⟩,
          ⟨.inr (.inr (.inr (fun _ _ _ _ _ h => h))), .inr (.inr (.inr (fun _ _ _ _ _ h => h))), .inr (.inr (.inr (fun _ _ _ _ _ h => h))), .inr (.inr (.inr (fun _ _ _ _ _ h => h))), .inl rfl, .inr (.inr (.inl rfl)), .inr (.inr (.inl rfl)), .inr (.inr (.inl rfl)), .inr (.inr (.inr (fun _ _ _ _ h h0 => by cases h; exact h0))), .inr (.inr (.inl rfl)), trivial⟩,
          ⟨.inr (.inr (.inr (fun _ _ _ _ _ h => h))), .inr (.inr (.inr (fun _ _ _ _ _ h => h))), .inr (.inr (.inr (fun _ _ _ _ _ h => h))), .inr (.inr (.inr (fun _ _ _ _ _ h => h))), .inr (.inr (.inr (fun _ _ _ _ _ h => h))), .inl rfl, .inr (.inr (.inl rfl)), .inr (.inr (.inl rfl)), .inr (.inr (.inl rfl)), .inr (.inr (.inl rfl)), trivial⟩,
          ⟨.inr (.inr (.inr (fun _ _ _ _ _ h => h))), .inr (.inr (.inr (fun _ _ _ _ _ h => h))), .inr (.inr (.inr (fun _ _ _ _ _ h => h))), .inr (.inr (.inr (fun _ _ _ _ _ h => h))), .inr (.inr (.inr (fun _ _ _ _ _ h => h))), .inr (.inr (.inr (fun _ _ _ _ _ h => h))), .inl rfl, .inr (.inr (.inl rfl)), .inr (.inr (.inl rfl)), .inr (.inr (.inl rfl)), trivial⟩,
          ⟨.inr (.inr (.inr (fun _ _ _ _ _ h => h))), .inr (.inr (.inr (fun _ _ _ _ _ h => h))), .inr (.inr (.inr (fun _ _ _ _ _ h => h))), .inr (.inr (.inr (fun _ _ _ _ _ h => h))), .inr (.inr (.inr (fun _ _ _ _ _ h => h))), .inr (.inr (.inr (fun _ _ _ _ _ h => h))), .inr (.inr (.inr (fun _ _ _ _ _ h => h))), .inl rfl, .inr (.inr (.inl rfl)), .inr (.inr (.inl rfl)), trivial⟩,
          ⟨.inr (.inr (.inr (fun _ _ _ _ _ h => h))), .inr (.inr (.inr (fun _ _ _ _ _ h => h))), .inr (.inr (.inr (fun _ _ _ _ _ h => h))), .inr (.inr (.inr (fun _ _ _ _ _ h => h))), .inr (.inr (.inr (fun _ _ _ _ _ h => h))), .inr (.inr (.inr (fun _ _ _ _ _ h => h))), .inr (.inr (.inr (fun _ _ _ _ _ h => h))), .inr (.inl rfl), .inl rfl, .inr (.inr (.inl rfl)), trivial⟩,
          ⟨.inr (.inr (.inr (fun _ _ _ _ _ h => h))), .inr (.inr (.inr (fun _ _ _ _ _ h => h))), .inr (.inr (.inr (fun _ _ _ _ _ h => h))), .inr (.inr (.inr (fun _ _ _ _ _ h => h))), .inr (.inr (.inr (fun _ _ _ _ _ h => h))), .inr (.inr (.inr (fun _ _ _ _ _ h => h))), .inr (.inr (.inr (fun _ _ _ _ _ h => h))), .inr (.inr (.inr (fun _ _ _ _ h h0 => by cases h; exact h0))), .inr (.inr (.inr (fun _ _ _ _ h h0 => by cases h; exact h0))), .inl rfl, trivial⟩, trivial⟩
      · refine ⟨?_, ?_, ?_, ?_, ?_, ?_, ?_, ?_, ?_, ?_, trivial⟩
        · -- 0: Op.move (Operand.tmp 3)
          refine step_plain [] (fun _ => rfl) rfl ?_
          intro w1 vals hC1 hi0 hf E hE
          have hI1 : (fun u => OwnX u u1.heap.size 5 1 (.slice A2 (2 * k) c2) (2 * k) (bytesV L)) w1 := hi0 false rfl
          try dsimp only at hI1
          clear hi0
          clear hf
          simp only [puts, act_put, act_put_none, List.setIfInBounds_toArray, List.set_cons_zero, List.set_cons_succ] at hE ⊢
          go_wp2
          exact .mk (hE _ _ rfl hC1 rfl)
        · -- 1: Op.move (Operand.tmp 5)
          refine step_plain [] (fun _ => rfl) rfl ?_
          intro w1 vals hC1 hi0 hf E hE
          clear hi0
          clear hf
          simp only [puts, act_put, act_put_none, List.setIfInBounds_toArray, List.set_cons_zero, List.set_cons_succ] at hE ⊢
          go_wp2
          exact .mk (hE _ _ rfl hC1 rfl)
        · -- 2: Op.binOp BinOp.shr 5 (Operand.tmp 15) (Operand.const (Value.int IntKind.u64 4)) 94
          refine step_plain [(1, some 15)] (fun _ => rfl) rfl ?_
          intro w1 vals hC1 hi0 hf E hE
          have hI1 : (fun u => OwnX u u1.heap.size 5 1 (.slice A2 (2 * k) c2) (2 * k) (bytesV L)) w1 := hi0 false rfl
          try dsimp only at hI1
          clear hi0
          have f1 : vals 1 = .int .u8 (x : Int) := hf 1 rfl
          try dsimp only at f1
          clear hf
          simp only [puts, act_put, act_put_none, List.setIfInBounds_toArray, List.set_cons_zero, List.set_cons_succ, f1] at hE ⊢
          clear f1
          go_wp2
          exact .mk (hE _ _ rfl hC1 rfl)
        · -- 3: Op.index 9 (Operand.const (Value.string { data := #[48, 49, 50, 51, 52, 53, 54, 55, 56, 57, 97, 98, 99, 100, 1
          refine step_plain [(2, some 16)] (fun _ => rfl) rfl ?_
          intro w1 vals hC1 hi0 hf E hE
          have hI1 : (fun u => OwnX u u1.heap.size 5 1 (.slice A2 (2 * k) c2) (2 * k) (bytesV L)) w1 := hi0 false rfl
          try dsimp only at hI1
          clear hi0
          have f2 : vals 2 = .int .u8 ((x / 16 : Nat) : Int) := hf 2 rfl
          try dsimp only at f2
          clear hf
          simp only [puts, act_put, act_put_none, List.setIfInBounds_toArray, List.set_cons_zero, List.set_cons_succ, f2] at hE ⊢
          clear f2
          go_wp2
          rw [hexA_get (x / 16) (by omega)]
          exact .mk (hE _ _ rfl hC1 rfl)
        · -- 4: Op.move (Operand.tmp 5)
          refine step_plain [] (fun _ => rfl) rfl ?_
          intro w1 vals hC1 hi0 hf E hE
          clear hi0
          clear hf
          simp only [puts, act_put, act_put_none, List.setIfInBounds_toArray, List.set_cons_zero, List.set_cons_succ] at hE ⊢
          go_wp2
          exact .mk (hE _ _ rfl hC1 rfl)
        · -- 5: Op.binOp BinOp.and 5 (Operand.tmp 18) (Operand.const (Value.int IntKind.u8 15)) 5
          refine step_plain [(4, some 18)] (fun _ => rfl) rfl ?_
          intro w1 vals hC1 hi0 hf E hE
          have hI1 : (fun u => OwnX u u1.heap.size 5 1 (.slice A2 (2 * k) c2) (2 * k) (bytesV L)) w1 := hi0 false rfl
          try dsimp only at hI1
          clear hi0
          have f4 : vals 4 = .int .u8 (x : Int) := hf 4 rfl
          try dsimp only at f4
          clear hf
          simp only [puts, act_put, act_put_none, List.setIfInBounds_toArray, List.set_cons_zero, List.set_cons_succ, f4] at hE ⊢
          clear f4
          go_wp2
          exact .mk (hE _ _ rfl hC1 rfl)
        · -- 6: Op.index 9 (Operand.const (Value.string { data := #[48, 49, 50, 51, 52, 53, 54, 55, 56, 57, 97, 98, 99, 100, 1
          refine step_plain [(5, some 19)] (fun _ => rfl) rfl ?_
          intro w1 vals hC1 hi0 hf E hE
          have hI1 : (fun u => OwnX u u1.heap.size 5 1 (.slice A2 (2 * k) c2) (2 * k) (bytesV L)) w1 := hi0 false rfl
          try dsimp only at hI1
          clear hi0
          have f5 : vals 5 = .int .u8 ((x % 16 : Nat) : Int) := hf 5 rfl
          try dsimp only at f5
          clear hf
          simp only [puts, act_put, act_put_none, List.setIfInBounds_toArray, List.set_cons_zero, List.set_cons_succ, f5] at hE ⊢
          clear f5
          go_wp2
          rw [hexA_get (x % 16) (by omega)]
          exact .mk (hE _ _ rfl hC1 rfl)
        · -- 7: Op.buildSlice 42 2 #[(0, Operand.tmp 17), (1, Operand.tmp 20)]
          refine step_plain [(3, some 17), (6, some 20)] (fun _ => rfl) rfl ?_
          intro w1 vals hC1 hi0 hf E hE
          have hI1 : (fun u => OwnX u u1.heap.size 5 1 (.slice A2 (2 * k) c2) (2 * k) (bytesV L)) w1 := hi0 false rfl
          try dsimp only at hI1
          clear hi0
          have f3 : vals 3 = .int .u8 ((hexD (x / 16) : Nat) : Int) := hf 3 rfl
          have f6 : vals 6 = .int .u8 ((hexD (x % 16) : Nat) : Int) := hf 6 rfl
          try dsimp only at f3 f6
          clear hf
          simp only [puts, act_put, act_put_none, List.setIfInBounds_toArray, List.set_cons_zero, List.set_cons_succ, f3, f6] at hE ⊢
          clear f3 f6
          go_wp2
          exact .mk (hE _ _ ⟨_, rfl, by rw [hexB_val x hxl]; exact Blk.new _ _ _⟩ (hC1.alloc hC1.size _) ((Below.refl _ _).alloc (Nat.le_refl _) _))
        · -- 8: Op.call { callee := Callee.builtin Builtin.append, args := #[Operand.tmp 14, Operand.tmp 21], argTypes := #[42
          refine step_plain [(0, some 14), (7, some 21)] (fun _ => rfl) rfl ?_
          intro w1 vals hC1 hi0 hf E hE
          have hI1 : (fun u => OwnX u u1.heap.size 5 1 (.slice A2 (2 * k) c2) (2 * k) (bytesV L)) w1 := hi0 false rfl
          try dsimp only at hI1
          clear hi0
          have f0 : vals 0 = .slice A2 (2 * k) c2 := hf 0 rfl
          have f7 : (fun v u => ∃ g, v = .slice (some ⟨g, 0, none⟩) 2 2 ∧ Blk u g 5 (bytesV (hexB x)).toArray) (vals 7) w1 := hf 7 rfl
          try dsimp only at f0 f7
          clear hf
          obtain ⟨g8, hx8, hg8⟩ := f7
          simp only [puts, act_put, act_put_none, List.setIfInBounds_toArray, List.set_cons_zero, List.set_cons_succ, f0, hx8] at hE ⊢
          clear f0
          clear hx8
          obtain ⟨A3, c3, w2, hr2, hown2, hgr2, hn2⟩ := run_append_x (ty := 42) (c := 2) (Ad := some ⟨g8, 0, none⟩) Sh.sl_bytes hI1 (news := bytesV (hexB x)) (m := 2) rfl (fun j u hu => ⟨_, rfl, blk_src hg8 2 j u (by simpa [hexB_val x hxl] using hu)⟩) (oneV _) (by unfold maxLen; omega) (by omega) hC1.size
          refine wpList_of_append (R := fun v' u' => v' = .slice A3 (2 * k + 2) c3 ∧ u' = w2) rfl rfl rfl rfl ⟨_, _, hr2, rfl, rfl⟩ ?_
          rintro v' u' ⟨rfl, rfl⟩
          go_wp2_with fail
          exact .mk (hE _ _ ⟨A3, c3, rfl, by rw [HN.out]; exact hown2⟩ (hC1.grown hgr2 hC1.size (fun j hj => (hI1.lt j hj).1)) trivial)
        · -- 9: Op.assign (Operand.tmp 22)
          refine step_plain [(8, some 22), (8, some 22), (0, some 14), (1, some 15), (2, some 16), (3, some 17), (4, some 18), (5, some 19), (6, some 20), (7, some 21), (8, some 22)] (fun _ => rfl) rfl ?_
          intro w1 vals hC1 hi0 hf E hE
          clear hi0
          have f0 : vals 0 = .slice A2 (2 * k) c2 := hf 0 rfl
          have f1 : vals 1 = .int .u8 (x : Int) := hf 1 rfl
          have f2 : vals 2 = .int .u8 ((x / 16 : Nat) : Int) := hf 2 rfl
          have f3 : vals 3 = .int .u8 ((hexD (x / 16) : Nat) : Int) := hf 3 rfl
          have f4 : vals 4 = .int .u8 (x : Int) := hf 4 rfl
          have f5 : vals 5 = .int .u8 ((x % 16 : Nat) : Int) := hf 5 rfl
          have f6 : vals 6 = .int .u8 ((hexD (x % 16) : Nat) : Int) := hf 6 rfl
          have f8 : (fun z u => ∃ A3 c3, z 8 = .slice A3 (2 * (k + 1)) c3 ∧ OwnX u u1.heap.size 5 1 (.slice A3 (2 * (k + 1)) c3) (2 * (k + 1)) (bytesV (nameK H (k + 1)))) vals w1 := hf 8 rfl
          try dsimp only at f0 f1 f2 f3 f4 f5 f6 f8
          clear hf
          obtain ⟨A3, c3, hx8, ho8⟩ := f8
          simp only [puts, act_put, act_put_none, List.setIfInBounds_toArray, List.set_cons_zero, List.set_cons_succ, f0, f1, f2, f3, f4, f5, f6, hx8] at hE ⊢
          clear f0 f1 f2 f3 f4 f5 f6
          clear hx8
          go_wp2_with fail
          exact .mk (hE _ _ ⟨A3, c3, rfl, ho8⟩ hC1 rfl)
      intro w1 vals hC1 hf
      have f0 : vals 0 = .slice A2 (2 * k) c2 := hf 0 (by decide) rfl
      have f1 : vals 1 = .int .u8 (x : Int) := hf 1 (by decide) rfl
      have f2 : vals 2 = .int .u8 ((x / 16 : Nat) : Int) := hf 2 (by decide) rfl
      have f3 : vals 3 = .int .u8 ((hexD (x / 16) : Nat) : Int) := hf 3 (by decide) rfl
      have f4 : vals 4 = .int .u8 (x : Int) := hf 4 (by decide) rfl
      have f5 : vals 5 = .int .u8 ((x % 16 : Nat) : Int) := hf 5 (by decide) rfl
      have f6 : vals 6 = .int .u8 ((hexD (x % 16) : Nat) : Int) := hf 6 (by decide) rfl
      have f8 : (fun z u => ∃ A3 c3, z 8 = .slice A3 (2 * (k + 1)) c3 ∧ OwnX u u1.heap.size 5 1 (.slice A3 (2 * (k + 1)) c3) (2 * (k + 1)) (bytesV (nameK H (k + 1)))) vals w1 := hf 8 (by decide) rfl
      have f9 : (fun z u => ∃ A3 c3, z 9 = .slice A3 (2 * (k + 1)) c3 ∧ OwnX u u1.heap.size 5 1 (.slice A3 (2 * (k + 1)) c3) (2 * (k + 1)) (bytesV (nameK H (k + 1)))) vals w1 := hf 9 (by decide) rfl
      try dsimp only at f0 f1 f2 f3 f4 f5 f6 f8 f9
      clear hf
      simp only [puts, act_put, act_put_none, List.setIfInBounds_toArray, List.set_cons_zero, List.set_cons_succ, f0, f1, f2, f3, f4, f5, f6]
      clear f0 f1 f2 f3 f4 f5 f6
      generalize vals 7 = x7 at *
      generalize vals 8 = x8 at *
      generalize vals 9 = x9 at *
      obtain ⟨A3, c3, hx9, ho9⟩ := f9
      rw [hx9]
      have HO9 := Lib.hid ho9
      have HC9 := Lib.hid hC1
      clear hx9 ho9 hC1 HC0 HI0
      go_wp2_with fail
      go_roundw
      case rel => exact ⟨k + 1, A3, c3, by omega, by go_num, rfl, HO9.out, HC9.out⟩
      case measure => simp [intOf]; omega
    · obtain rfl : k = 4 := by omega
      have HR4 := Lib.hid (Rd.of_own hown (Nat.le_refl _))
      have hn8 : (nameK H 4).length = 2 * 4 := nameK_length (by rw [HLH.out]; decide)
      have HF := Lib.hid (HB1.out.trans (hbel.mono HB1.out.size))
      clear hown hbel
      go_wp2_with (refine wpList_str_of HR4.out hub hu8 hus rfl rfl (by rw [hn8]; rfl) ?_)
      go_ret
      exact ⟨by rw [nameS, ← HH.out]; rfl, HF.out⟩
end Go.Proofs.YtoihgnkhalhocaaGreatDoor
/-
  Plain: turning a word step by step is turning it at once.
-/
namespace Go.Proofs.YtoihgnkhalhocaaGreatDoor.Sh
set_option linter.unusedSimpArgs false
set_option linter.unusedVariables false
open Go.RowKit
def turnR (b x : Nat) : Nat → Nat
  | 0 => x
  | n + 1 => turnR b x n / 2 + turnR b x n % 2 * 2 ^ (b - 1)
theorem rotN_add {b x n : Nat} (hx : x < 2 ^ b) (hn : n ≤ b) : rotN b x n = x / 2 ^ n + x % 2 ^ n * 2 ^ (b - n) := by
  obtain ⟨m, rfl⟩ : ∃ m, b = n + m := ⟨b - n, by omega⟩
  have hm : n + m - n = m := by omega
  rw [rotN, hm]
  have h1 : x * 2 ^ m % 2 ^ (n + m) = x % 2 ^ n * 2 ^ m := by
    rw [Nat.pow_add, Nat.mul_mod_mul_right]
  have h2 : x / 2 ^ n < 2 ^ m := by
    rw [Nat.div_lt_iff_lt_mul (Nat.two_pow_pos _), ← Nat.pow_add, Nat.add_comm m n]; exact hx
  rw [h1, Nat.mul_comm (x % 2 ^ n), Nat.or_comm, ← Nat.two_pow_add_eq_or_of_lt h2]
  omega
theorem turnR_eq {b x : Nat} (hx : x < 2 ^ b) : ∀ n, n ≤ b → turnR b x n = x / 2 ^ n + x % 2 ^ n * 2 ^ (b - n)
  | 0, _ => by simp [turnR, Nat.mod_one]
  | n + 1, hn => by
    rw [turnR, turnR_eq hx n (by omega)]
    obtain ⟨m, rfl⟩ : ∃ m, b = n + 1 + m := ⟨b - (n + 1), by omega⟩
    rw [show n + 1 + m - n = m + 1 by omega, show n + 1 + m - (n + 1) = m by omega, show n + 1 + m - 1 = n + m by omega]
    obtain ⟨q, hq⟩ : ∃ q, q = x / 2 ^ n := ⟨_, rfl⟩
    obtain ⟨r, hr⟩ : ∃ r, r = x % 2 ^ n := ⟨_, rfl⟩
    have hq2 : x / 2 ^ (n + 1) = q / 2 := by rw [hq, Nat.pow_succ, Nat.div_div_eq_div_mul]
    have hr2 : x % 2 ^ (n + 1) = r + q % 2 * 2 ^ n := by
      rw [hr, hq, Nat.pow_succ, Nat.mod_mul]
      rw [Nat.mul_comm (2 ^ n)]
    rw [hq2, hr2, ← hq, ← hr]
    rw [Nat.pow_succ, ← Nat.mul_assoc]
    generalize hz : r * 2 ^ m = z
    rw [Nat.add_mul, hz, Nat.mul_assoc, ← Nat.pow_add, Nat.add_mul_mod_self_right, Nat.add_mul_div_right _ _ (by decide)]
    omega
theorem turnR_rot {b x n : Nat} (hx : x < 2 ^ b) (hn : n ≤ b) : turnR b x n = rotN b x n := by rw [turnR_eq hx n hn, rotN_add hx hn]
theorem turnR_lt {b x : Nat} (hb : 0 < b) (hx : x < 2 ^ b) : ∀ n, turnR b x n < 2 ^ b
  | 0 => hx
  | n + 1 => by
    have ih := turnR_lt hb hx n
    obtain ⟨c, rfl⟩ : ∃ c, b = c + 1 := ⟨b - 1, by omega⟩
    rw [turnR, show c + 1 - 1 = c by omega]
    rw [Nat.pow_succ] at *
    generalize 2 ^ c = p at *
    generalize turnR (c + 1) x n = y at *
    have : y % 2 = 0 ∨ y % 2 = 1 := by omega
    rcases this with h | h <;> rw [h] <;> omega
theorem turnR_turned {b x n : Nat} (hb : b = 32 ∨ b = 64) (hx : x < 2 ^ b) (hn : n ≤ b) : turnR b x n = turnedN b x n := by
  rw [turnR_rot hx hn]
  rcases hb with rfl | rfl
  · rw [turnedN, if_pos rfl, Nat.mod_eq_of_lt hx]
  · rw [turnedN, if_neg (by decide)]
end Go.Proofs.YtoihgnkhalhocaaGreatDoor.Sh
/-
  Walks: the reference's turn, mixed, low, top.
-/
namespace Go.Proofs.YtoihgnkhalhocaaGreatDoor.Sh
set_option linter.unusedSimpArgs false
set_option linter.unusedVariables false
open Go.RowKit
def hC (bits steps : Nat) (a b c d k f : Value) : Array Value := #[.int .i64 bits, .int .i64 steps, a, b, c, d, k, f]
section
variable (bits steps : Nat) (a b c d k f : Value) (w : World)
theorem low_any (hb : bits = 32 ∨ bits = 64) (x : Nat) (hx : x < 18446744073709551616) :
    Calls Tryz.prog 83 #[.agg (hC bits steps a b c d k f), .int .u64 x] w fun e w' => e = .returned (.int .u64 (x % 2 ^ bits : Nat)) ∧ Below w.heap.size w w' := by
  have c0 := (Blk.new w 65 (hC bits steps a b c d k f)).cell 0
  simp only [hC, List.getElem?_toArray, List.getElem?_cons_zero] at c0
  have hx1 : (x : Int) < 18446744073709551616 := by omega
  rw [hC]
  rcases hb with rfl | rfl
  · clear hx
    go_enter Tryz.func83, Tryz.ntmps83
    go_wp2
    go_ret
    exact ⟨ret_int' (by omega), below_new _ _⟩
  · have HX := Lib.hid hx
    clear hx
    go_enter Tryz.func83, Tryz.ntmps83
    go_wp2
    go_ret
    exact ⟨ret_int' (by have := HX.out; omega), below_new _ _⟩
theorem top_any (hb : bits = 32 ∨ bits = 64) (x : Nat) (hx : x < 18446744073709551616) :
    Calls Tryz.prog 47 #[.agg (hC bits steps a b c d k f), .int .u64 x] w fun e w' => e = .returned (.int .u64 (x / 2 ^ (64 - bits) % 2 ^ bits : Nat)) ∧ Below w.heap.size w w' := by
  have c0 := (Blk.new w 65 (hC bits steps a b c d k f)).cell 0
  simp only [hC, List.getElem?_toArray, List.getElem?_cons_zero] at c0
  have hx1 : (x : Int) < 18446744073709551616 := by omega
  rw [hC]
  rcases hb with rfl | rfl
  · have HX := Lib.hid hx
    clear hx
    go_enter Tryz.func47, Tryz.ntmps47
    go_wp2
    go_ret
    exact ⟨ret_int' (by have := HX.out; omega), below_new _ _⟩
  · have HX := Lib.hid hx
    clear hx
    go_enter Tryz.func47, Tryz.ntmps47
    go_wp2
    go_ret
    exact ⟨ret_int' (by have := HX.out; omega), below_new _ _⟩
set_option maxHeartbeats 1000000 in
theorem turn_any (hb : bits = 32 ∨ bits = 64) (x n : Nat) (hx : x < 2 ^ bits) (hn : n ≤ bits) :
    Calls Tryz.prog 122 #[.agg (hC bits steps a b c d k f), .int .u64 x, .int .i64 n] w fun e w' => e = .returned (.int .u64 (turnedN bits x n : Nat)) ∧ Below w.heap.size w w' := by
  have c0 := (Blk.new w 65 (hC bits steps a b c d k f)).cell 0
  simp only [hC, List.getElem?_toArray, List.getElem?_cons_zero] at c0
  have hbel := below_new w (.cells (hC bits steps a b c d k f) 65)
  rw [hC] at hbel ⊢
  have HTU := Lib.hid (turnR_turned hb hx hn)
  have HTL := Lib.hid (turnR_lt (by omega) hx)
  have HBEL := Lib.hid hbel
  have hn64 : n ≤ 64 := by omega
  clear hbel hn hx
  rcases hb with rfl | rfl
  all_goals
    go_enter Tryz.func122, Tryz.ntmps122
    go_wp2
    go_loop [1, 7] (fun v i => ∃ j y : Nat, j ≤ n ∧ i = .int .i64 j ∧ y = turnR _ x j ∧ v = .int .u64 y) (fun _ i => n - (intOf i).toNat)
    case atStart => exact ⟨0, x, by omega, rfl, rfl, rfl⟩
    case round =>
      obtain ⟨j, y, hj, rfl, hy, rfl⟩ := hrel
      have hyl := HTL.out j
      rw [← hy] at hyl
      have HY := Lib.hid hy
      have hyl2 : (y : Int) < 18446744073709551616 := by omega
      have hyl3 : (y : Int) / 2 + 2147483648 < 18446744073709551616 := by omega
      have hyl4 : (y : Int) / 2 + 9223372036854775808 < 18446744073709551616 := by omega
      clear hy hyl
      by_cases hlt : j < n
      · rcases Nat.mod_two_eq_zero_or_one y with h | h
        · have ho : (((y : Int) % 2) == 1) = false := by rw [beq_eq_false_iff_ne]; omega
          have HH := Lib.hid h
          clear h
          go_wp2
          exact ⟨⟨j + 1, y / 2, by omega, by go_num, by rw [turnR, ← HY.out, HH.out]; omega, by go_num⟩, by simp [intOf]; omega⟩
        · have ho : (((y : Int) % 2) == 1) = true := by rw [beq_iff_eq]; omega
          have HH := Lib.hid h
          clear h
          go_wp2
          first
            | exact ⟨⟨j + 1, y / 2 + 2147483648, by omega, by go_num, by rw [turnR, ← HY.out, HH.out], by go_num⟩, by simp [intOf]; omega⟩
            | exact ⟨⟨j + 1, y / 2 + 9223372036854775808, by omega, by go_num, by rw [turnR, ← HY.out, HH.out], by go_num⟩, by simp [intOf]; omega⟩
      · obtain rfl : j = n := by omega
        go_wp2
        go_ret
        exact ⟨ret_int' (by rw [HY.out, HTU.out]), HBEL.out⟩
end
end Go.Proofs.YtoihgnkhalhocaaGreatDoor.Sh
/-
  Laws of my own: cells of a slice that reads.
-/
namespace Go.Proofs.YtoihgnkhalhocaaGreatDoor
set_option linter.unusedSimpArgs false
set_option linter.unusedVariables false
open Go.RowKit
theorem Rd.val {w : World} {B : Nat} {ad : Addr} {xs : List Value} (h : Rd w B (some ad) xs) {k : Nat} {v : Value} (hv : xs[k]? = some v) : w.cell? (ad.add k) = some v := by
  obtain ⟨ad', e, _, hc⟩ := h k v hv
  injection e with e
  subst e
  exact hc
theorem Rd.val0 {w : World} {B : Nat} {ad : Addr} {xs : List Value} (h : Rd w B (some ad) xs) {v : Value} (hv : xs[0]? = some v) : w.cell? ad = some v := by
  have := h.val hv
  rwa [show ad.add 0 = ad by unfold Addr.add; simp] at this
theorem Rd.lit {w : World} {B : Nat} {ad : Addr} {xs : List Value} (h : Rd w B (some ad) xs) {k : Nat} {v : Value} (hv : xs[k]? = some v) (hk : k ≠ 0) : w.cell? ⟨ad.block, ad.off + k, none⟩ = some v := by
  have := h.val hv
  rwa [show ad.add k = ⟨ad.block, ad.off + k, none⟩ by unfold Addr.add; simp [hk]] at this
theorem OwnX.ptr {w : World} {base e n c : Nat} {A : Option Addr} {xs : List Value} (h : OwnX w base e 1 (.slice A n c) n xs) (hn : 0 < n) : ∃ g, A = some ⟨g, 0, none⟩ ∧ base ≤ g ∧ g < w.heap.size := by
  have hl := h.lt
  rcases h.2 with ⟨_, h0⟩ | ⟨g, cap, cur, fz, hv, hb, hg, _⟩
  · omega
  · injection hv with h1
    subst h1
    exact ⟨g, rfl, hb, (Array.getElem?_eq_some_iff.1 hg).1⟩
theorem OwnX.atN {w : World} {base e n c g i : Nat} {xs : List Value} {v : Value} (h : OwnX w base e 1 (.slice (some ⟨g, 0, none⟩) n c) n xs) (hv : xs[i]? = some v) : w.cell? ⟨g, i, none⟩ = some v := by
  have := h.cells (g := g) rfl i v hv
  rwa [Addr.add_lit, Nat.zero_add] at this
end Go.Proofs.YtoihgnkhalhocaaGreatDoor
/-
  Walk: the reference's mixed.
-/
namespace Go.Proofs.YtoihgnkhalhocaaGreatDoor.Sh
set_option linter.unusedSimpArgs false
set_option linter.unusedVariables false
open Go.RowKit
theorem h_size : (Tryz.prog.info? 65).map (·.size) = some 8 := by kernel_rfl
def triV (p q c : Nat) : List Value := [.int .i64 p, .int .i64 q, .int .i64 c]
structure MxSt (w0 : World) (g : Nat) (cs : Array Value) (A : Option Addr) (xs : List Value) (u : World) : Prop where
  bel : Below g w0 u
  h : Blk u g 65 cs
  rd : Rd u g A xs
theorem MxSt.next {w0 u u' : World} {g : Nat} {cs : Array Value} {A : Option Addr} {xs : List Value} (h : MxSt w0 g cs A xs u) (hb : Below u.heap.size u u') : MxSt w0 g cs A xs u' :=
  ⟨h.bel.trans (hb.mono (by have := h.h.lt; omega)), h.h.below hb h.h.lt, h.rd.below (hb.mono (by have := h.h.lt; omega))⟩
theorem MxSt.drew {w0 u : World} {g : Nat} {cs : Array Value} {A : Option Addr} {xs : List Value} (h : MxSt w0 g cs A xs u) : MxSt w0 g cs A xs u.drew :=
  ⟨h.bel.drew, h.h, h.rd.below (Below.refl _ _).drew⟩
def halves (x : Nat) : Nat → Nat
  | 0 => x
  | n + 1 => halves x n / 2
theorem halves_eq (x : Nat) : ∀ n, halves x n = x / 2 ^ n
  | 0 => by simp [halves]
  | n + 1 => by rw [halves, halves_eq x n, Nat.div_div_eq_div_mul, Nat.pow_succ]
theorem halves_le (x : Nat) (n : Nat) : halves x n ≤ x := by rw [halves_eq]; exact Nat.div_le_self _ _
set_option maxRecDepth 100000 in
set_option maxHeartbeats 2000000 in
theorem mixed_any (bits steps : Nat) (a b c d k f : Value) (w : World) (hb : bits = 32 ∨ bits = 64) (x p q r : Nat) (shift : Bool) (hx : x < 2 ^ bits) (hp : p ≤ bits) (hq : q ≤ bits) (hr : r ≤ bits)
    (A : Option Addr) (cp B : Nat) (hrd : Rd w B A (triV p q r)) (hB : B ≤ w.heap.size) (hcp : 3 ≤ cp) :
    Calls Tryz.prog 82 #[.agg (hC bits steps a b c d k f), .int .u64 x, .slice A 3 cp, .bool shift] w fun e w' => e = .returned (.int .u64 (allN bits x p q r shift : Nat)) ∧ Below w.heap.size w w' := by
  obtain ⟨ad, rfl, _, _⟩ := hrd.at_ (k := 0) (by simp [triV])
  obtain ⟨W0, hW0⟩ : ∃ W0, W0 = w.alloc (.cells (hC bits steps a b c d k f) 65) := ⟨_, rfl⟩
  obtain ⟨cs, hcs⟩ : ∃ cs, cs = hC bits steps a b c d k f := ⟨_, rfl⟩
  have hst : MxSt w w.heap.size cs (some ad) (triV p q r) W0 := by
    rw [hW0, hcs]; exact ⟨below_new _ _, Blk.new _ _ _, (hrd.mono hB).below (below_new _ _)⟩
  have hb64 : bits ≤ 64 := by omega
  have hx64 : x < 2 ^ 64 := Nat.lt_of_lt_of_le hx (Nat.pow_le_pow_right (by omega) hb64)
  have hst0 := hst
  rw [hW0, ← hcs] at hst0
  have hr64 : r ≤ 64 := by omega
  have HST := Lib.hid hst0
  have HX := Lib.hid hx
  have HXL := Lib.hid hx64
  have HB := Lib.hid hb
  have HP := Lib.hid hp
  have HQ := Lib.hid hq
  have HR := Lib.hid hr
  have HCS := Lib.hid hcs
  have hu := Tryz.underlying65
  have hcs8 : cs.size = 8 := by rw [hcs]; rfl
  have HCS8 := Lib.hid hcs8
  rw [← hcs]
  have hx1 : (x : Int) < 18446744073709551616 := by omega
  have hAN : allN bits x p q r shift = (turnedN bits x p ^^^ turnedN bits x q) ^^^ lastN bits x r shift := rfl
  have HAN := Lib.hid hAN
  obtain ⟨tp, htp⟩ : ∃ z, z = turnedN bits x p := ⟨_, rfl⟩
  obtain ⟨tq, htq⟩ : ∃ z, z = turnedN bits x q := ⟨_, rfl⟩
  obtain ⟨tr, htr⟩ : ∃ z, z = turnedN bits x r := ⟨_, rfl⟩
  obtain ⟨la, hla⟩ : ∃ z, z = lastN bits x r shift := ⟨_, rfl⟩
  obtain ⟨pq, hpq⟩ : ∃ z, z = tp ^^^ tq := ⟨_, rfl⟩
  obtain ⟨re, hre⟩ : ∃ z, z = pq ^^^ la := ⟨_, rfl⟩
  have HTP := Lib.hid htp
  have HTQ := Lib.hid htq
  have HTR := Lib.hid htr
  have HLA := Lib.hid hla
  have HPQ := Lib.hid hpq
  have HRE := Lib.hid hre
  have LTP : Hid (tp < 2 ^ 64) := Lib.hid (by rw [htp]; exact turnedN_lt hx64)
  have LTQ : Hid (tq < 2 ^ 64) := Lib.hid (by rw [htq]; exact turnedN_lt hx64)
  have LLA : Hid (la < 2 ^ 64) := Lib.hid (by rw [hla]; exact lastN_lt hx64)
  have LPQ : Hid (pq < 2 ^ 64) := Lib.hid (by rw [hpq]; exact Nat.xor_lt_two_pow LTP.out LTQ.out)
  clear hrd hst hx hx64 hb hp hq hr hcs hcs8 hW0 hst0 hAN htp htq htr hla hpq hre W0
  cases shift
  all_goals
    go_enter Tryz.func82, Tryz.ntmps82
    go_wp2_with fail
    have HC0 := HST.out.drew
    refine wp_region_seq (fun u => MxSt w w.heap.size cs (some ad) (triV p q r) u) (by kernel_rfl) (by kernel_rfl) HC0 ?_
    apply SeqL.next
    · rfl
    · rfl
    · simp only [act_put, act_put_none, List.setIfInBounds_toArray, List.set_cons_zero, List.set_cons_succ]
      rfl
    · intro w1 hC1 E hE
      refine wpList_get_box hC1.h rfl rfl rfl hu rfl (by rw [HCS8.out]; exact h_size) ?_
      go_wp2_with fail
      exact .mk (hE _ hC1)
    iterate 3
      ((first | (apply SeqL.next; rfl; rfl)); (simp only [act_put, act_put_none, List.setIfInBounds_toArray, List.set_cons_zero, List.set_cons_succ]; rfl); (intro w1 hC1 E hE; go_wp2; exact .mk (hE _ hC1)))
    apply SeqL.next
    · rfl
    · rfl
    · simp only [act_put, act_put_none, List.setIfInBounds_toArray, List.set_cons_zero, List.set_cons_succ]
      rfl
    · intro w1 hC1 E hE
      have d0 := hC1.rd.lit (k := 2) rfl (by decide)
      go_wp2
      exact .mk (hE _ hC1)
    apply SeqL.next
    · rfl
    · rfl
    · simp only [act_put, act_put_none, List.setIfInBounds_toArray, List.set_cons_zero, List.set_cons_succ]
      rfl
    · intro w1 hC1 E hE
      go_wp2_with fail
      have hct := turn_any bits steps a b c d k f w1 HB.out x r HX.out HR.out
      rw [← HCS.out] at hct
      refine calls_then hct ?_
      rintro e w2 ⟨rfl, hb2⟩
      rw [← HTR.out]
      go_wp2_with fail
      exact .mk (hE _ (hC1.next hb2))
    iterate 1
      ((first | (apply SeqL.next; rfl; rfl)); (simp only [act_put, act_put_none, List.setIfInBounds_toArray, List.set_cons_zero, List.set_cons_succ]; rfl); (intro w1 hC1 E hE; go_wp2; exact .mk (hE _ hC1)))
    refine SeqL.nil ?_
    intro w1 hC1
    clear HC0
    have HC1 := Lib.hid hC1
    have d2 := hC1.rd.lit (k := 2) rfl (by decide)
    clear hC1
    go_wp2_with fail
  · obtain rfl : tr = la := by rw [HLA.out, HTR.out]; rfl
    have HC0 := HC1.out.drew
    refine wp_region_seq (fun u => MxSt w w.heap.size cs (some ad) (triV p q r) u) (by kernel_rfl) (by kernel_rfl) HC0 ?_
    apply SeqL.next
    · rfl
    · rfl
    · simp only [act_put, act_put_none, List.setIfInBounds_toArray, List.set_cons_zero, List.set_cons_succ]
      rfl
    · intro w1 hC1 E hE
      refine wpList_get_box hC1.h rfl rfl rfl hu rfl (by rw [HCS8.out]; exact h_size) ?_
      go_wp2_with fail
      exact .mk (hE _ hC1)
    iterate 3
      ((first | (apply SeqL.next; rfl; rfl)); (simp only [act_put, act_put_none, List.setIfInBounds_toArray, List.set_cons_zero, List.set_cons_succ]; rfl); (intro w1 hC1 E hE; go_wp2; exact .mk (hE _ hC1)))
    apply SeqL.next
    · rfl
    · rfl
    · simp only [act_put, act_put_none, List.setIfInBounds_toArray, List.set_cons_zero, List.set_cons_succ]
      rfl
    · intro w1 hC1 E hE
      have d0 := hC1.rd.val0 rfl
      go_wp2
      exact .mk (hE _ hC1)
    apply SeqL.next
    · rfl
    · rfl
    · simp only [act_put, act_put_none, List.setIfInBounds_toArray, List.set_cons_zero, List.set_cons_succ]
      rfl
    · intro w1 hC1 E hE
      go_wp2_with fail
      have hct := turn_any bits steps a b c d k f w1 HB.out x p HX.out HP.out
      rw [← HCS.out] at hct
      refine calls_then hct ?_
      rintro e w2 ⟨rfl, hb2⟩
      rw [← HTP.out]
      go_wp2_with fail
      exact .mk (hE _ (hC1.next hb2))
    apply SeqL.next
    · rfl
    · rfl
    · simp only [act_put, act_put_none, List.setIfInBounds_toArray, List.set_cons_zero, List.set_cons_succ]
      rfl
    · intro w1 hC1 E hE
      refine wpList_get_box hC1.h rfl rfl rfl hu rfl (by rw [HCS8.out]; exact h_size) ?_
      go_wp2_with fail
      exact .mk (hE _ hC1)
    iterate 3
      ((first | (apply SeqL.next; rfl; rfl)); (simp only [act_put, act_put_none, List.setIfInBounds_toArray, List.set_cons_zero, List.set_cons_succ]; rfl); (intro w1 hC1 E hE; go_wp2; exact .mk (hE _ hC1)))
    apply SeqL.next
    · rfl
    · rfl
    · simp only [act_put, act_put_none, List.setIfInBounds_toArray, List.set_cons_zero, List.set_cons_succ]
      rfl
    · intro w1 hC1 E hE
      have d0 := hC1.rd.lit (k := 1) rfl (by decide)
      go_wp2
      exact .mk (hE _ hC1)
    apply SeqL.next
    · rfl
    · rfl
    · simp only [act_put, act_put_none, List.setIfInBounds_toArray, List.set_cons_zero, List.set_cons_succ]
      rfl
    · intro w1 hC1 E hE
      go_wp2_with fail
      have hct := turn_any bits steps a b c d k f w1 HB.out x q HX.out HQ.out
      rw [← HCS.out] at hct
      refine calls_then hct ?_
      rintro e w2 ⟨rfl, hb2⟩
      rw [← HTQ.out]
      go_wp2_with fail
      exact .mk (hE _ (hC1.next hb2))
    apply SeqL.next
    · rfl
    · rfl
    · simp only [act_put, act_put_none, List.setIfInBounds_toArray, List.set_cons_zero, List.set_cons_succ]
      rfl
    · intro w1 hC1 E hE
      go_wp2
      rw [xor64 tp tq LTP.out LTQ.out, ← HPQ.out]
      exact .mk (hE _ hC1)
    iterate 1
      ((first | (apply SeqL.next; rfl; rfl)); (simp only [act_put, act_put_none, List.setIfInBounds_toArray, List.set_cons_zero, List.set_cons_succ]; rfl); (intro w1 hC1 E hE; go_wp2; exact .mk (hE _ hC1)))
    apply SeqL.next
    · rfl
    · rfl
    · simp only [act_put, act_put_none, List.setIfInBounds_toArray, List.set_cons_zero, List.set_cons_succ]
      rfl
    · intro w1 hC1 E hE
      go_wp2
      rw [xor64 pq tr LPQ.out LLA.out, ← HRE.out]
      exact .mk (hE _ hC1)
    iterate 1
      ((first | (apply SeqL.next; rfl; rfl)); (simp only [act_put, act_put_none, List.setIfInBounds_toArray, List.set_cons_zero, List.set_cons_succ]; rfl); (intro w1 hC1 E hE; go_wp2; exact .mk (hE _ hC1)))
    refine SeqL.nil ?_
    intro w1 hC1
    clear HC0
    go_wp2_with fail
    go_ret
    exact ⟨ret_int' (by rw [HAN.out, HRE.out, HPQ.out, HTP.out, HTQ.out, HLA.out]), hC1.bel⟩
  · go_loop [9, 10] (fun v i => ∃ j : Nat, j ≤ r ∧ i = .int .i64 j ∧ v = .int .u64 (halves x j)) (fun _ i => r - (intOf i).toNat)
    case atStart => exact ⟨0, by omega, rfl, rfl⟩
    case round =>
      obtain ⟨j, hj, rfl, rfl⟩ := hrel
      have hh := halves_le x j
      have hhs : halves x (j + 1) = halves x j / 2 := rfl
      obtain ⟨y, hy⟩ : ∃ y, y = halves x j := ⟨_, rfl⟩
      rw [← hy] at hh hhs ⊢
      have HY := Lib.hid hy
      have HHS := Lib.hid hhs
      have hy1 : (y : Int) < 18446744073709551616 := by omega
      clear hy hhs
      by_cases hlt : j < r
      · have hlt' : (j : Int) < (r : Int) := by omega
        go_wp2
        exact ⟨⟨j + 1, by omega, by go_num, by rw [HHS.out]; go_num⟩, by simp [intOf]; omega⟩
      · obtain rfl : j = r := by omega
        obtain rfl : y = la := by rw [HLA.out, HY.out, halves_eq]; rfl
        go_wp2_with fail
        have HC0 := HC1.out.drew
        refine wp_region_seq (fun u => MxSt w w.heap.size cs (some ad) (triV p q j) u) (by kernel_rfl) (by kernel_rfl) HC0 ?_
        apply SeqL.next
        · rfl
        · rfl
        · simp only [act_put, act_put_none, List.setIfInBounds_toArray, List.set_cons_zero, List.set_cons_succ]
          rfl
        · intro w1 hC1 E hE
          refine wpList_get_box hC1.h rfl rfl rfl hu rfl (by rw [HCS8.out]; exact h_size) ?_
          go_wp2_with fail
          exact .mk (hE _ hC1)
        iterate 3
          ((first | (apply SeqL.next; rfl; rfl)); (simp only [act_put, act_put_none, List.setIfInBounds_toArray, List.set_cons_zero, List.set_cons_succ]; rfl); (intro w1 hC1 E hE; go_wp2; exact .mk (hE _ hC1)))
        apply SeqL.next
        · rfl
        · rfl
        · simp only [act_put, act_put_none, List.setIfInBounds_toArray, List.set_cons_zero, List.set_cons_succ]
          rfl
        · intro w1 hC1 E hE
          have d0 := hC1.rd.val0 rfl
          go_wp2
          exact .mk (hE _ hC1)
        apply SeqL.next
        · rfl
        · rfl
        · simp only [act_put, act_put_none, List.setIfInBounds_toArray, List.set_cons_zero, List.set_cons_succ]
          rfl
        · intro w1 hC1 E hE
          go_wp2_with fail
          have hct := turn_any bits steps a b c d k f w1 HB.out x p HX.out HP.out
          rw [← HCS.out] at hct
          refine calls_then hct ?_
          rintro e w2 ⟨rfl, hb2⟩
          rw [← HTP.out]
          go_wp2_with fail
          exact .mk (hE _ (hC1.next hb2))
        apply SeqL.next
        · rfl
        · rfl
        · simp only [act_put, act_put_none, List.setIfInBounds_toArray, List.set_cons_zero, List.set_cons_succ]
          rfl
        · intro w1 hC1 E hE
          refine wpList_get_box hC1.h rfl rfl rfl hu rfl (by rw [HCS8.out]; exact h_size) ?_
          go_wp2_with fail
          exact .mk (hE _ hC1)
        iterate 3
          ((first | (apply SeqL.next; rfl; rfl)); (simp only [act_put, act_put_none, List.setIfInBounds_toArray, List.set_cons_zero, List.set_cons_succ]; rfl); (intro w1 hC1 E hE; go_wp2; exact .mk (hE _ hC1)))
        apply SeqL.next
        · rfl
        · rfl
        · simp only [act_put, act_put_none, List.setIfInBounds_toArray, List.set_cons_zero, List.set_cons_succ]
          rfl
        · intro w1 hC1 E hE
          have d0 := hC1.rd.lit (k := 1) rfl (by decide)
          go_wp2
          exact .mk (hE _ hC1)
        apply SeqL.next
        · rfl
        · rfl
        · simp only [act_put, act_put_none, List.setIfInBounds_toArray, List.set_cons_zero, List.set_cons_succ]
          rfl
        · intro w1 hC1 E hE
          go_wp2_with fail
          have hct := turn_any bits steps a b c d k f w1 HB.out x q HX.out HQ.out
          rw [← HCS.out] at hct
          refine calls_then hct ?_
          rintro e w2 ⟨rfl, hb2⟩
          rw [← HTQ.out]
          go_wp2_with fail
          exact .mk (hE _ (hC1.next hb2))
        apply SeqL.next
        · rfl
        · rfl
        · simp only [act_put, act_put_none, List.setIfInBounds_toArray, List.set_cons_zero, List.set_cons_succ]
          rfl
        · intro w1 hC1 E hE
          go_wp2
          rw [xor64 tp tq LTP.out LTQ.out, ← HPQ.out]
          exact .mk (hE _ hC1)
        iterate 1
          ((first | (apply SeqL.next; rfl; rfl)); (simp only [act_put, act_put_none, List.setIfInBounds_toArray, List.set_cons_zero, List.set_cons_succ]; rfl); (intro w1 hC1 E hE; go_wp2; exact .mk (hE _ hC1)))
        apply SeqL.next
        · rfl
        · rfl
        · simp only [act_put, act_put_none, List.setIfInBounds_toArray, List.set_cons_zero, List.set_cons_succ]
          rfl
        · intro w1 hC1 E hE
          go_wp2
          rw [xor64 pq y LPQ.out LLA.out, ← HRE.out]
          exact .mk (hE _ hC1)
        iterate 1
          ((first | (apply SeqL.next; rfl; rfl)); (simp only [act_put, act_put_none, List.setIfInBounds_toArray, List.set_cons_zero, List.set_cons_succ]; rfl); (intro w1 hC1 E hE; go_wp2; exact .mk (hE _ hC1)))
        refine SeqL.nil ?_
        intro w1 hC1
        clear HC0
        go_wp2_with fail
        go_ret
        exact ⟨ret_int' (by rw [HAN.out, HRE.out, HPQ.out, HTP.out, HTQ.out, HLA.out]), hC1.bel⟩
end Go.Proofs.YtoihgnkhalhocaaGreatDoor.Sh
/-
  The reference's H as it lies: a struct of slices.
-/
namespace Go.Proofs.YtoihgnkhalhocaaGreatDoor.Sh
set_option linter.unusedSimpArgs false
set_option linter.unusedVariables false
open Go.RowKit
theorem wordsV_snoc (K : IntKind) (l : List Nat) (x : Nat) : wordsV K (l ++ [x]) = wordsV K l ++ [.int K (x : Int)] := by simp [wordsV]
theorem wordsV_get (K : IntKind) (l : List Nat) (i : Nat) (h : i < l.length) : (wordsV K l)[i]? = some (.int K ((l.getD i 0 : Nat) : Int)) := by
  simp [wordsV, h]
structure HP where
  a : Addr
  b : Addr
  c : Addr
  d : Addr
  k : Addr
  f : Addr
  ca : Nat
  cb : Nat
  cc : Nat
  cd : Nat
  ck : Nat
  cf : Nat
def tri (t : Nat × Nat × Nat) : List Value := triV t.1 t.2.1 t.2.2
def kL (F : ShaF) : List Nat := (List.range F.many).map (kN F)
theorem kL_get (F : ShaF) (t : Nat) (h : t < F.many) : (kL F)[t]? = some (kN F t) := by simp [kL, h]
theorem kL_length (F : ShaF) : (kL F).length = F.many := by simp [kL]
def hv (F : ShaF) (p : HP) : Array Value := hC F.bits F.many (.slice (some p.a) 3 p.ca) (.slice (some p.b) 3 p.cb) (.slice (some p.c) 3 p.cc) (.slice (some p.d) 3 p.cd) (.slice (some p.k) F.many p.ck) (.slice (some p.f) 8 p.cf)
structure HOk (F : ShaF) (p : HP) (w : World) (B : Nat) : Prop where
  a : Rd w B (some p.a) (tri F.s0)
  b : Rd w B (some p.b) (tri F.s1)
  c : Rd w B (some p.c) (tri F.t0)
  d : Rd w B (some p.d) (tri F.t1)
  k : Rd w B (some p.k) (wordsV .u64 (kL F))
  f : Rd w B (some p.f) (wordsV .u64 (s8L (startS F)))
  ca : 3 ≤ p.ca
  cb : 3 ≤ p.cb
  cc : 3 ≤ p.cc
  cd : 3 ≤ p.cd
  ck : F.many ≤ p.ck
  cf : 8 ≤ p.cf
theorem HOk.below {F : ShaF} {p : HP} {w w' : World} {B : Nat} (h : HOk F p w B) (hb : Below B w w') : HOk F p w' B :=
  ⟨h.a.below hb, h.b.below hb, h.c.below hb, h.d.below hb, h.k.below hb, h.f.below hb, h.ca, h.cb, h.cc, h.cd, h.ck, h.cf⟩
theorem HOk.mono {F : ShaF} {p : HP} {w : World} {B B' : Nat} (h : HOk F p w B) (hb : B ≤ B') : HOk F p w B' :=
  ⟨h.a.mono hb, h.b.mono hb, h.c.mono hb, h.d.mono hb, h.k.mono hb, h.f.mono hb, h.ca, h.cb, h.cc, h.cd, h.ck, h.cf⟩
structure BkSt (w0 : World) (gf : Nat) (F : ShaF) (p : HP) (bA : Option Addr) (blk : List UInt8) (sA : Option Addr) (S : S8) (u : World) : Prop where
  bel : Below gf w0 u
  h : Blk u gf 65 (hv F p)
  ok : HOk F p u gf
  rb : Rd u gf bA (bytesV blk)
  rs : Rd u gf sA (wordsV .u64 (s8L S))
section
variable {w0 u u' : World} {gf : Nat} {F : ShaF} {p : HP} {bA sA : Option Addr} {blk : List UInt8} {S : S8}
theorem BkSt.keep (h : BkSt w0 gf F p bA blk sA S u) (hb : Below (gf + 1) u u') : BkSt w0 gf F p bA blk sA S u' :=
  ⟨h.bel.trans (hb.mono (by omega)), h.h.below hb (by omega), h.ok.below (hb.mono (by omega)), h.rb.below (hb.mono (by omega)), h.rs.below (hb.mono (by omega))⟩
theorem BkSt.next (h : BkSt w0 gf F p bA blk sA S u) (hb : Below u.heap.size u u') : BkSt w0 gf F p bA blk sA S u' :=
  h.keep (hb.mono (by have := h.h.lt; omega))
theorem BkSt.drew (h : BkSt w0 gf F p bA blk sA S u) : BkSt w0 gf F p bA blk sA S u.drew := h.keep (Below.refl _ _).drew
theorem BkSt.grow {e : TypeId} {s n : Nat} {v : Value} {xs : List Value} (h : BkSt w0 gf F p bA blk sA S u) (ho : OwnX u (gf + 1) e s v n xs) (hg : u.grownBy u' v.ownBlock) : BkSt w0 gf F p bA blk sA S u' :=
  h.keep (below_of_grown hg (by have := h.h.lt; omega) (fun k hk => (ho.lt k hk).1))
end
structure BkW (w0 : World) (gf : Nat) (F : ShaF) (p : HP) (bA : Option Addr) (blk : List UInt8) (sA : Option Addr) (S : S8) (v : Value) (l : List Nat) (u : World) : Prop where
  st : BkSt w0 gf F p bA blk sA S u
  own : OwnX u (gf + 1) 86 1 v l.length (wordsV .u64 l)
section
variable {w0 u u' : World} {gf : Nat} {F : ShaF} {p : HP} {bA sA : Option Addr} {blk : List UInt8} {S : S8} {v : Value} {l : List Nat}
theorem BkW.next (h : BkW w0 gf F p bA blk sA S v l u) (hb : Below u.heap.size u u') : BkW w0 gf F p bA blk sA S v l u' :=
  ⟨h.st.next hb, h.own.below hb (Nat.le_refl _)⟩
theorem BkW.drew (h : BkW w0 gf F p bA blk sA S v l u) : BkW w0 gf F p bA blk sA S v l u.drew := h.next (Below.refl _ _).drew
theorem BkW.app {v' : Value} {x : Nat} (h : BkW w0 gf F p bA blk sA S v l u) (ho : OwnX u' (gf + 1) 86 1 v' (l.length + 1) (wordsV .u64 l ++ [.int .u64 (x : Int)])) (hg : u.grownBy u' v.ownBlock) : BkW w0 gf F p bA blk sA S v' (l ++ [x]) u' :=
  ⟨h.st.grow h.own hg, by rw [List.length_append, wordsV_snoc]; exact ho⟩
theorem BkW.at_ {g n c i : Nat} (h : BkW w0 gf F p bA blk sA S (.slice (some ⟨g, 0, none⟩) n c) l u) (hn : l.length = n) (hi : i < n) : u.cell? ⟨g, i, none⟩ = some (.int .u64 ((l.getD i 0 : Nat) : Int)) := by
  subst hn
  exact h.own.atN (wordsV_get .u64 l i hi)
end
structure BkR (w0 : World) (gf : Nat) (F : ShaF) (p : HP) (bA : Option Addr) (blk : List UInt8) (sA : Option Addr) (S : S8) (v : Value) (l : List Nat) (g2 c2 : Nat) (V : S8) (u : World) : Prop where
  w : BkW w0 gf F p bA blk sA S v l u
  r : OwnX u (gf + 1) 86 1 (.slice (some ⟨g2, 0, none⟩) 8 c2) 8 (wordsV .u64 (s8L V))
section
variable {w0 u u' : World} {gf : Nat} {F : ShaF} {p : HP} {bA sA : Option Addr} {blk : List UInt8} {S V : S8} {v : Value} {l : List Nat} {g2 c2 : Nat}
theorem BkR.next (h : BkR w0 gf F p bA blk sA S v l g2 c2 V u) (hb : Below u.heap.size u u') : BkR w0 gf F p bA blk sA S v l g2 c2 V u' :=
  ⟨h.w.next hb, h.r.below hb (Nat.le_refl _)⟩
theorem BkR.drew (h : BkR w0 gf F p bA blk sA S v l g2 c2 V u) : BkR w0 gf F p bA blk sA S v l g2 c2 V u.drew := h.next (Below.refl _ _).drew
theorem BkR.turn {V' : S8} {fz : Nat × Nat} (h : BkR w0 gf F p bA blk sA S v l g2 c2 V u) : BkR w0 gf F p bA blk sA S v l u.heap.size 8 V' (u.alloc (.cells (wordsV .u64 (s8L V')).toArray 86 fz)) :=
  ⟨h.w.next ((Below.refl _ _).alloc (Nat.le_refl _) _), own_const (C := (wordsV .u64 (s8L V')).toArray) rfl rfl (by unfold maxLen; omega) (by have := h.w.st.h.lt; omega)⟩
theorem BkR.le (h : BkR w0 gf F p bA blk sA S v l g2 c2 V u) : 8 ≤ c2 := h.r.le_cap
end
structure BkO (w0 : World) (gf : Nat) (F : ShaF) (p : HP) (bA : Option Addr) (blk : List UInt8) (sA : Option Addr) (S : S8) (v : Value) (l : List Nat) (g2 c2 : Nat) (V : S8) (ov : Value) (x : List Nat) (u : World) : Prop where
  r : BkR w0 gf F p bA blk sA S v l g2 c2 V u
  o : OwnX u (gf + 1) 86 1 ov x.length (wordsV .u64 x)
  ne : ov.ownBlock = none ∨ (ov.ownBlock ≠ v.ownBlock ∧ ov.ownBlock ≠ some g2)
section
variable {w0 u u' : World} {gf : Nat} {F : ShaF} {p : HP} {bA sA : Option Addr} {blk : List UInt8} {S V : S8} {v o o' : Value} {l x : List Nat} {g2 c2 : Nat}
theorem BkO.next (h : BkO w0 gf F p bA blk sA S v l g2 c2 V o x u) (hb : Below u.heap.size u u') : BkO w0 gf F p bA blk sA S v l g2 c2 V o x u' :=
  ⟨h.r.next hb, h.o.below hb (Nat.le_refl _), h.ne⟩
theorem BkO.drew (h : BkO w0 gf F p bA blk sA S v l g2 c2 V o x u) : BkO w0 gf F p bA blk sA S v l g2 c2 V o x u.drew := h.next (Below.refl _ _).drew
theorem BkO.app {y : Nat} (h : BkO w0 gf F p bA blk sA S v l g2 c2 V o x u) (ho : OwnX u' (gf + 1) 86 1 o' (x.length + 1) (wordsV .u64 x ++ [.int .u64 (y : Int)])) (hg : u.grownBy u' o.ownBlock) (hn : Next u o o') : BkO w0 gf F p bA blk sA S v l g2 c2 V o' (x ++ [y]) u' := by
  have hk : ∀ (v2 : Value), (o.ownBlock = none ∨ o.ownBlock ≠ v2.ownBlock) → v2.ownBlock = none ∨ v2.ownBlock ≠ o.ownBlock := fun v2 h2 => by
    rcases h2 with h2 | h2
    · rw [h2]
      cases v2.ownBlock with
      | none => exact .inl rfl
      | some k => exact .inr (by simp)
    · exact .inr (Ne.symm h2)
  refine ⟨⟨⟨h.r.w.st.grow h.o hg, h.r.w.own.kept hg (hk v (h.ne.imp id And.left))⟩, h.r.r.kept hg (hk (.slice (some ⟨g2, 0, none⟩) 8 c2) (h.ne.imp id And.right))⟩, by rw [List.length_append, wordsV_snoc]; exact ho, ?_⟩
  rcases hn with hn | hn
  · rw [hn]; exact h.ne
  · cases ho2 : o'.ownBlock with
    | none => exact .inl rfl
    | some k =>
      have hk2 := hn k ho2
      refine .inr ⟨fun e => ?_, fun e => ?_⟩
      · have := (h.r.w.own.lt k e.symm).2; omega
      · have := (h.r.r.lt k (by rw [e]; rfl)).2; omega
end
theorem ones_xor (n e : Nat) (he : e < 2 ^ n) : (2 ^ n - 1) ^^^ e = 2 ^ n - 1 - e := by
  have h : ((2 ^ n - 1) ^^^ e) = (~~~ (BitVec.ofNat n e)).toNat := by
    rw [← BitVec.allOnes_xor, BitVec.toNat_xor, BitVec.toNat_allOnes, BitVec.toNat_ofNat, Nat.mod_eq_of_lt he]
  rw [h, BitVec.toNat_not, BitVec.toNat_ofNat, Nat.mod_eq_of_lt he]
theorem mixX_r32 (h al ch k w : Nat) : (h + al + ch + k + w) % 2 ^ 32 = ((((h + al) % 2 ^ 64 + ch) % 2 ^ 64 + k) % 2 ^ 64 + w) % 2 ^ 64 % 2 ^ 32 := by omega
theorem mod_r32 (a b : Nat) : (a + b) % 2 ^ 32 = (a + b) % 2 ^ 64 % 2 ^ 32 := by omega
theorem addS_get (F : ShaF) (s v : S8) (i : Nat) (h : i < 8) : (s8L (addS F s v)).getD i 0 = ((s8L v).getD i 0 + (s8L s).getD i 0) % 2 ^ F.bits := by
  match i, h with
  | 0, _ => rfl
  | 1, _ => rfl
  | 2, _ => rfl
  | 3, _ => rfl
  | 4, _ => rfl
  | 5, _ => rfl
  | 6, _ => rfl
  | 7, _ => rfl
theorem s8_take (s : S8) (i : Nat) (h : i < 8) : (s8L s).take (i + 1) = (s8L s).take i ++ [(s8L s).getD i 0] := by
  match i, h with
  | 0, _ => rfl
  | 1, _ => rfl
  | 2, _ => rfl
  | 3, _ => rfl
  | 4, _ => rfl
  | 5, _ => rfl
  | 6, _ => rfl
  | 7, _ => rfl
theorem s8_take_len (s : S8) (i : Nat) (h : i ≤ 8) : ((s8L s).take i).length = i := by
  rw [List.length_take]; show min i 8 = i; omega
theorem next_32 (a b c d : Nat) : (a + c + (b + d)) % 2 ^ 32 = (((a + b) % 2 ^ 64 + c) % 2 ^ 64 + d) % 2 ^ 64 % 2 ^ 32 := by omega
def BlockPost (F : ShaF) (S : S8) (blk : List UInt8) (w : World) (e : Ending) (w' : World) : Prop :=
  ∃ A c, e = .returned (.slice A 8 c) ∧ OwnX w' w.heap.size 86 1 (.slice A 8 c) 8 (wordsV .u64 (s8L (mixS F S blk))) ∧ Below w.heap.size w w'
theorem sl_u64 : SlT Tryz.prog 63 86 1 8 := SlT.mk1 (z := .int .u64 0) Tryz.underlying63 (by kernel_rfl) rfl (by decide)
end Go.Proofs.YtoihgnkhalhocaaGreatDoor.Sh
/-
  Walk: the reference's bytes of a word.
-/
namespace Go.Proofs.YtoihgnkhalhocaaGreatDoor.Sh
set_option linter.unusedSimpArgs false
set_option linter.unusedVariables false
open Go.RowKit
def backC (e : Nat) (ws : List UInt8) (j : Nat) : Array Value := (List.replicate (e - j) (Value.int .u8 0) ++ (bytesV ws).drop (e - j)).toArray
theorem backC_size (e : Nat) (ws : List UInt8) (j : Nat) (hw : ws.length = e) (hj : j ≤ e) : (backC e ws j).size = e := by
  have h : ((bytesV ws).drop (e - j)).length = j := by rw [List.length_drop, bytesV_length, hw]; omega
  rw [backC, List.size_toArray, List.length_append, List.length_replicate, h]; omega
theorem backC_end (e : Nat) (ws : List UInt8) : backC e ws e = (bytesV ws).toArray := by simp [backC]
theorem backC_set (e : Nat) (ws : List UInt8) (j i : Nat) (v : Value) (hw : ws.length = e) (hi : i + j + 1 = e) (hv : (bytesV ws)[i]? = some v) : (backC e ws j).setIfInBounds i v = backC e ws (j + 1) := by
  apply Array.ext'
  have h1 : e - j = i + 1 := by omega
  have h2 : e - (j + 1) = i := by omega
  have hlt : i < (bytesV ws).length := by simp [bytesV]; omega
  have hv2 : (bytesV ws)[i] = v := by rw [List.getElem?_eq_getElem hlt] at hv; exact Option.some.inj hv
  rw [Array.toList_setIfInBounds, backC, backC, h1, h2, List.drop_eq_getElem_cons hlt, hv2]
  simp only [List.replicate_succ', List.append_assoc]
  rw [List.set_append_right (s := List.replicate i (Value.int .u8 0)) _ _ (by simp)]
  simp
theorem backC_zero (e : Nat) (ws : List UInt8) (hw : ws.length = e) : backC e ws 0 = (List.replicate e (Value.int .u8 0)).toArray := by
  rw [backC, Nat.sub_zero, List.drop_of_length_le (by rw [bytesV_length, hw]; exact Nat.le_refl _), List.append_nil]
theorem wordB_get (b x : Nat) : ∀ (k i : Nat), i < k → (wordB b x k)[i]? = some (UInt8.ofNat (x / 2 ^ (b - 8 - 8 * i)))
  | k + 1, i, h => by
    rw [wordB, List.getElem?_append, wordB_length]
    split
    · rename_i h2; exact wordB_get b x k i h2
    · obtain rfl : i = k := by omega
      simp
structure ByStR (w0 : World) (gf : Nat) (cs : Array Value) (gw : Nat) (r : Array Value) (u : World) : Prop where
  bel : Below gf w0 u
  h : Blk u gf 65 cs
  row : Blk u gw 5 r
  lw : gf < gw
theorem ByStR.put {w u u' : World} {gf gw : Nat} {cs r r' : Array Value} (h : ByStR w gf cs gw r u) (hw : Wrote gw u u') (hb : Blk u' gw 5 r') : ByStR w gf cs gw r' u' :=
  ⟨hw.below h.bel (by have := h.lw; omega) (by have := h.h.lt; omega), hw.blk h.h (by have := h.lw; omega), hb, h.lw⟩
def BytesPost (bits x : Nat) (w : World) (e : Ending) (w' : World) : Prop :=
  ∃ g, e = .returned (.slice (some ⟨g, 0, none⟩) (bits / 8) (bits / 8)) ∧ w.heap.size ≤ g ∧ Blk w' g 5 (bytesV (wordB bits x (bits / 8))).toArray ∧ Below w.heap.size w w'
set_option maxRecDepth 100000 in
set_option maxHeartbeats 2000000 in
theorem bytes_any (bits steps : Nat) (a b c d k f : Value) (w : World) (hb : bits = 32 ∨ bits = 64) (x : Nat) (hx : x < 2 ^ bits) :
    Calls Tryz.prog 50 #[.agg (hC bits steps a b c d k f), .int .u64 x] w (BytesPost bits x w) := by
  have hbel := below_new w (.cells (hC bits steps a b c d k f) 65)
  have hblk := Blk.new w 65 (hC bits steps a b c d k f)
  have c0 := hblk.cell 0
  simp only [hC, List.getElem?_toArray, List.getElem?_cons_zero] at c0
  have hx64 : (x : Int) < 18446744073709551616 := by
    have : x < 2 ^ 64 := Nat.lt_of_lt_of_le hx (Nat.pow_le_pow_right (by omega) (by omega))
    omega
  have HBEL := Lib.hid hbel
  have HBLK := Lib.hid hblk
  obtain ⟨ie, hie, hez, hes, heb⟩ := info_parts (show (Tryz.prog.info? 5).map (fun i => (i.zero, i.size, i.bytes)) = some (some (.int .u8 0), 1, 1) by kernel_rfl)
  have hmk4 : ∀ u : World, (Instr.makeSlice 42 (.int .i64 4) (.int .i64 4)).run Tryz.prog u = .ok (.slice (some ⟨u.heap.size, 0, none⟩) 4 4) (u.alloc (.cells (List.replicate 4 (Value.int .u8 0)).toArray 5)) := fun _ => by kernel_rfl
  have hmk8 : ∀ u : World, (Instr.makeSlice 42 (.int .i64 8) (.int .i64 8)).run Tryz.prog u = .ok (.slice (some ⟨u.heap.size, 0, none⟩) 8 8) (u.alloc (.cells (List.replicate 8 (Value.int .u8 0)).toArray 5)) := fun _ => by kernel_rfl
  rw [hC] at *
  clear hbel hblk hx
  rcases hb with rfl | rfl
  · obtain ⟨ws, hws⟩ : ∃ ws, ws = wordB 32 x 4 := ⟨_, rfl⟩
    have hwl : ws.length = 4 := by rw [hws]; exact wordB_length _ _ _
    have HWS := Lib.hid hws
    have HWL := Lib.hid hwl
    clear hws hwl
    go_enter Tryz.func50, Tryz.ntmps50
    go_wp2_with fail
    obtain ⟨hs, hhs⟩ : ∃ hs : Array Value, hs = #[.int .i64 32, .int .i64 steps, a, b, c, d, k, f] := ⟨_, rfl⟩
    have hst0 : ByStR w w.heap.size hs (w.heap.size + 1) (backC 4 ws 0) ((w.alloc (.cells hs 65)).alloc (.cells (List.replicate 4 (Value.int .u8 0)).toArray 5)) := by
      rw [backC_zero _ _ HWL.out]
      exact ⟨(below_new _ _).alloc (by simp) _, (Blk.new _ _ _).alloc _, by have := Blk.new (w.alloc (.cells hs 65)) 5 (List.replicate 4 (Value.int .u8 0)).toArray; simpa using this, by omega⟩
    rw [hhs] at hst0
    generalize hgw : w.heap.size + 1 = gw at *
    generalize hgf : w.heap.size = gf at *
    have HGF := Lib.hid hgf
    have HGW := Lib.hid hgw
    clear hgf hgw c0 hmk4 hmk8 HBEL HBLK hhs hs
    go_loopw [1, 6] (fun v i wr => ∃ (j : Nat) (y : Nat), j ≤ 4 ∧ y = x / 2 ^ (8 * j) ∧ v = .int .u64 y ∧ i = .int .i64 ((4 : Int) - 1 - (j : Int)) ∧ ByStR w gf #[.int .i64 32, .int .i64 steps, a, b, c, d, k, f] gw (backC 4 ws j) wr) (fun _ i _ => (intOf i + 1).toNat)
    case atStart => exact ⟨0, x, by omega, by simp, rfl, rfl, hst0⟩
    case round =>
      obtain ⟨j, y, hj, hy, rfl, rfl, hst⟩ := hrel
      clear hst0
      have hyx : y ≤ x := by rw [hy]; exact Nat.div_le_self _ _
      have hy64 : (y : Int) < 18446744073709551616 := by omega
      by_cases hlt : j < 4
      · obtain ⟨ix, hix⟩ : ∃ ix : Nat, (4 : Int) - 1 - (j : Int) = (ix : Int) := ⟨4 - 1 - j, by omega⟩
        have hix2 : ix + j + 1 = 4 := by omega
        have hval : (bytesV ws)[ix]? = some (.int .u8 ((y % 256 : Nat) : Int)) := by
          rw [bytesV, List.getElem?_map, HWS.out, wordB_get _ _ _ _ (by omega)]
          simp only [Option.map_some, byteV]
          rw [show 32 - 8 - 8 * ix = 8 * j by omega, ← hy]
          simp
        have hset := backC_set 4 ws j ix _ HWL.out hix2 hval
        have hsz := backC_size 4 ws j HWL.out hj
        have hnx : x / 2 ^ (8 * (j + 1)) = y / 256 := by rw [hy, show 8 * (j + 1) = 8 * j + 8 by omega, Nat.pow_add, ← Nat.div_div_eq_div_mul]
        rw [hix]
        have dcell := hst.row.cell ix
        obtain ⟨ov, hov⟩ : ∃ ov, (backC 4 ws j)[ix]? = some ov := ⟨_, Array.getElem?_eq_getElem (by omega)⟩
        rw [hov] at dcell
        have dfree := hst.row.free ix
        have hixl : (ix : Int) < 4 := by omega
        have HSET := Lib.hid hset
        have HNX := Lib.hid hnx
        have HST := Lib.hid hst
        have HIX := Lib.hid hix
        have HIX2 := Lib.hid hix2
        clear hset hnx hst hix hix2 hval hy hsz hov
        go_wp2_with fail
        refine ⟨⟨j + 1, y / 256, by omega, by rw [HNX.out], by go_num, by have := HIX.out; exact congrArg (Value.int .i64) (by omega), ?_⟩, by simp [intOf]⟩
        refine HST.out.put (wrote_setCell_at _ _ _ _) ?_
        have h := blk_setCell_at (i := ix) HST.out.row (.int .u8 ((y % 256 : Nat) : Int))
        rw [HSET.out] at h
        exact h
      · obtain rfl : j = 4 := by omega
        rw [backC_end] at hst
        have HST := Lib.hid hst
        clear hst hy
        go_wp2_with fail
        go_ret
        refine ⟨gw, rfl, by rw [HGF.out, ← HGW.out]; omega, ?_, by rw [HGF.out]; exact HST.out.bel⟩
        have h := HST.out.row
        rw [HWS.out] at h
        exact h
  · obtain ⟨ws, hws⟩ : ∃ ws, ws = wordB 64 x 8 := ⟨_, rfl⟩
    have hwl : ws.length = 8 := by rw [hws]; exact wordB_length _ _ _
    have HWS := Lib.hid hws
    have HWL := Lib.hid hwl
    clear hws hwl
    go_enter Tryz.func50, Tryz.ntmps50
    go_wp2_with fail
    obtain ⟨hs, hhs⟩ : ∃ hs : Array Value, hs = #[.int .i64 64, .int .i64 steps, a, b, c, d, k, f] := ⟨_, rfl⟩
    have hst0 : ByStR w w.heap.size hs (w.heap.size + 1) (backC 8 ws 0) ((w.alloc (.cells hs 65)).alloc (.cells (List.replicate 8 (Value.int .u8 0)).toArray 5)) := by
      rw [backC_zero _ _ HWL.out]
      exact ⟨(below_new _ _).alloc (by simp) _, (Blk.new _ _ _).alloc _, by have := Blk.new (w.alloc (.cells hs 65)) 5 (List.replicate 8 (Value.int .u8 0)).toArray; simpa using this, by omega⟩
    rw [hhs] at hst0
    generalize hgw : w.heap.size + 1 = gw at *
    generalize hgf : w.heap.size = gf at *
    have HGF := Lib.hid hgf
    have HGW := Lib.hid hgw
    clear hgf hgw c0 hmk4 hmk8 HBEL HBLK hhs hs
    go_loopw [1, 6] (fun v i wr => ∃ (j : Nat) (y : Nat), j ≤ 8 ∧ y = x / 2 ^ (8 * j) ∧ v = .int .u64 y ∧ i = .int .i64 ((8 : Int) - 1 - (j : Int)) ∧ ByStR w gf #[.int .i64 64, .int .i64 steps, a, b, c, d, k, f] gw (backC 8 ws j) wr) (fun _ i _ => (intOf i + 1).toNat)
    case atStart => exact ⟨0, x, by omega, by simp, rfl, rfl, hst0⟩
    case round =>
      obtain ⟨j, y, hj, hy, rfl, rfl, hst⟩ := hrel
      clear hst0
      have hyx : y ≤ x := by rw [hy]; exact Nat.div_le_self _ _
      have hy64 : (y : Int) < 18446744073709551616 := by omega
      by_cases hlt : j < 8
      · obtain ⟨ix, hix⟩ : ∃ ix : Nat, (8 : Int) - 1 - (j : Int) = (ix : Int) := ⟨8 - 1 - j, by omega⟩
        have hix2 : ix + j + 1 = 8 := by omega
        have hval : (bytesV ws)[ix]? = some (.int .u8 ((y % 256 : Nat) : Int)) := by
          rw [bytesV, List.getElem?_map, HWS.out, wordB_get _ _ _ _ (by omega)]
          simp only [Option.map_some, byteV]
          rw [show 64 - 8 - 8 * ix = 8 * j by omega, ← hy]
          simp
        have hset := backC_set 8 ws j ix _ HWL.out hix2 hval
        have hsz := backC_size 8 ws j HWL.out hj
        have hnx : x / 2 ^ (8 * (j + 1)) = y / 256 := by rw [hy, show 8 * (j + 1) = 8 * j + 8 by omega, Nat.pow_add, ← Nat.div_div_eq_div_mul]
        rw [hix]
        have dcell := hst.row.cell ix
        obtain ⟨ov, hov⟩ : ∃ ov, (backC 8 ws j)[ix]? = some ov := ⟨_, Array.getElem?_eq_getElem (by omega)⟩
        rw [hov] at dcell
        have dfree := hst.row.free ix
        have hixl : (ix : Int) < 8 := by omega
        have HSET := Lib.hid hset
        have HNX := Lib.hid hnx
        have HST := Lib.hid hst
        have HIX := Lib.hid hix
        have HIX2 := Lib.hid hix2
        clear hset hnx hst hix hix2 hval hy hsz hov
        go_wp2_with fail
        refine ⟨⟨j + 1, y / 256, by omega, by rw [HNX.out], by go_num, by have := HIX.out; exact congrArg (Value.int .i64) (by omega), ?_⟩, by simp [intOf]⟩
        refine HST.out.put (wrote_setCell_at _ _ _ _) ?_
        have h := blk_setCell_at (i := ix) HST.out.row (.int .u8 ((y % 256 : Nat) : Int))
        rw [HSET.out] at h
        exact h
      · obtain rfl : j = 8 := by omega
        rw [backC_end] at hst
        have HST := Lib.hid hst
        clear hst hy
        go_wp2_with fail
        go_ret
        refine ⟨gw, rfl, by rw [HGF.out, ← HGW.out]; omega, ?_, by rw [HGF.out]; exact HST.out.bel⟩
        have h := HST.out.row
        rw [HWS.out] at h
        exact h
end Go.Proofs.YtoihgnkhalhocaaGreatDoor.Sh
/-
  Plain: numbers as digits of 65536, the lowest first; roots found bit by bit.
-/
namespace Go.Proofs.YtoihgnkhalhocaaGreatDoor.Sh
set_option linter.unusedSimpArgs false
set_option linter.unusedVariables false
open Go.RowKit
def dval : List Nat → Nat
  | [] => 0
  | d :: r => d + 65536 * dval r
def digs : Nat → Nat → List Nat
  | 0, _ => []
  | n + 1, N => N % 65536 :: digs n (N / 65536)
theorem digs_length : ∀ n N, (digs n N).length = n
  | 0, _ => rfl
  | n + 1, N => by simp [digs, digs_length n]
theorem digs_lt : ∀ n N, ∀ d ∈ digs n N, d < 65536
  | 0, _, d, h => by simp [digs] at h
  | n + 1, N, d, h => by
    simp only [digs, List.mem_cons] at h
    rcases h with rfl | h
    · exact Nat.mod_lt _ (by decide)
    · exact digs_lt n _ d h
theorem dval_digs : ∀ n N, N < 65536 ^ n → dval (digs n N) = N
  | 0, N, h => by simp at h; simp [digs, dval, h]
  | n + 1, N, h => by
    rw [digs, dval, dval_digs n (N / 65536) (by rw [Nat.div_lt_iff_lt_mul (by decide)]; rwa [Nat.pow_succ] at h)]
    omega
theorem digs_dval : ∀ l : List Nat, (∀ d ∈ l, d < 65536) → digs l.length (dval l) = l
  | [], _ => rfl
  | d :: r, h => by
    have hd := h d (List.mem_cons_self ..)
    rw [List.length_cons, dval, digs, show (d + 65536 * dval r) % 65536 = d by omega, show (d + 65536 * dval r) / 65536 = dval r by omega, digs_dval r fun x hx => h x (List.mem_cons_of_mem _ hx)]
theorem dval_lt : ∀ l : List Nat, (∀ d ∈ l, d < 65536) → dval l < 65536 ^ l.length
  | [], _ => by simp [dval]
  | d :: r, h => by
    have hd := h d (List.mem_cons_self ..)
    have ih := dval_lt r fun x hx => h x (List.mem_cons_of_mem _ hx)
    rw [List.length_cons, dval, Nat.pow_succ]
    omega
theorem dval_take_succ : ∀ (l : List Nat) (j : Nat), j < l.length → dval (l.take (j + 1)) = dval (l.take j) + l.getD j 0 * 65536 ^ j
  | d :: r, 0, _ => by simp [dval]
  | d :: r, j + 1, h => by
    have ih := dval_take_succ r j (by simpa using h)
    rw [List.take_succ_cons, dval, ih, List.take_succ_cons, dval, List.getD_cons_succ, Nat.pow_succ]
    rw [Nat.mul_add, ← Nat.mul_assoc, Nat.mul_comm 65536 (r.getD j 0), Nat.mul_assoc (r.getD j 0), Nat.mul_comm 65536 (65536 ^ j)]
    omega
theorem dval_set : ∀ (l : List Nat) (i d : Nat), i < l.length → dval (l.set i d) + l.getD i 0 * 65536 ^ i = dval l + d * 65536 ^ i
  | x :: r, 0, d, _ => by simp [dval]; omega
  | x :: r, i + 1, d, h => by
    have ih := dval_set r i d (by simpa using h)
    rw [List.set_cons_succ, dval, dval, List.getD_cons_succ, Nat.pow_succ, ← Nat.mul_assoc, ← Nat.mul_assoc]
    omega
theorem getD_dig : ∀ (l : List Nat) (i : Nat), (∀ d ∈ l, d < 65536) → l.getD i 0 = dval l / 65536 ^ i % 65536
  | [], i, _ => by simp [dval]
  | d :: r, 0, h => by
    have hd := h d (List.mem_cons_self ..)
    simp [dval]; omega
  | d :: r, i + 1, h => by
    have hd := h d (List.mem_cons_self ..)
    rw [List.getD_cons_succ, getD_dig r i fun x hx => h x (List.mem_cons_of_mem _ hx), dval, Nat.pow_succ, Nat.mul_comm (65536 ^ i), ← Nat.div_div_eq_div_mul, show (d + 65536 * dval r) / 65536 = dval r by omega]
theorem dig_lt {l : List Nat} (h : ∀ d ∈ l, d < 65536) (i : Nat) : l.getD i 0 < 65536 := getD_lt h (by decide) i
theorem set_lt {l : List Nat} {i d : Nat} (h : ∀ x ∈ l, x < 65536) (hd : d < 65536) : ∀ x ∈ l.set i d, x < 65536 := fun x hx => by
  rcases List.mem_or_eq_of_mem_set hx with h1 | h1
  · exact h x h1
  · rw [h1]; exact hd
theorem getD_set_ne (l : List Nat) (i j d : Nat) (h : i ≠ j) : (l.set i d).getD j 0 = l.getD j 0 := by simp [List.getElem?_set, h]
theorem wordsV_set (K : IntKind) (l : List Nat) (i d : Nat) : (wordsV K l).toArray.setIfInBounds i (.int K (d : Int)) = (wordsV K (l.set i d)).toArray := by
  apply Array.ext'
  simp [wordsV, Array.toList_setIfInBounds, List.map_set]
theorem mul_step {n k c P a b d i j t : Nat} (hv : t + c * 65536 ^ (i + j) = P + a * d * 65536 ^ i) (h : n + (k * 65536 ^ (i + j)) = t + ((k + a * b + c) % 65536) * 65536 ^ (i + j)) :
    n + (k + a * b + c) / 65536 * 65536 ^ (i + (j + 1)) = P + a * (d + b * 65536 ^ j) * 65536 ^ i := by
  have e1 : 65536 ^ (i + (j + 1)) = 65536 * 65536 ^ (i + j) := by rw [← Nat.add_assoc, Nat.pow_succ, Nat.mul_comm]
  have e2 : a * (d + b * 65536 ^ j) * 65536 ^ i = a * d * 65536 ^ i + a * b * 65536 ^ (i + j) := by
    rw [Nat.mul_add, Nat.add_mul, Nat.pow_add, ← Nat.mul_assoc a b]
    congr 1
    rw [Nat.mul_assoc, Nat.mul_comm (65536 ^ j)]
  rw [e1, e2]
  generalize 65536 ^ (i + j) = q at *
  obtain ⟨v, hv2⟩ : ∃ v, v = k + a * b + c := ⟨_, rfl⟩
  have e3 : v / 65536 * (65536 * q) + v % 65536 * q = v * q := by
    rw [← Nat.mul_assoc, ← Nat.add_mul, Nat.div_add_mod']
  have e4 : v * q = k * q + a * b * q + c * q := by rw [hv2, Nat.add_mul, Nat.add_mul]
  rw [← hv2] at h ⊢
  omega
def rootX (p k : Nat) : Nat → Nat
  | 0 => 0
  | n + 1 => if p * 65536 ^ (4 * k) < (rootX p k n + 2 ^ (68 - n)) ^ k then rootX p k n else rootX p k n + 2 ^ (68 - n)
def rootN (p k : Nat) : Nat := rootX p k 69 % 2 ^ 64
theorem rootX_dvd (p k : Nat) : ∀ n, n ≤ 69 → 2 ^ (69 - n) ∣ rootX p k n
  | 0, _ => Nat.dvd_zero _
  | n + 1, h => by
    have ih := rootX_dvd p k n (by omega)
    have h1 : 2 ^ (69 - (n + 1)) ∣ rootX p k n := Nat.dvd_trans (Nat.pow_dvd_pow 2 (by omega)) ih
    rw [rootX]
    split
    · exact h1
    · rw [show 68 - n = 69 - (n + 1) by omega]
      exact Nat.dvd_add h1 (Nat.dvd_refl _)
theorem rootX_lt (p k : Nat) : ∀ n, n ≤ 69 → rootX p k n + 2 ^ (69 - n) ≤ 2 ^ 69
  | 0, _ => by simp [rootX]
  | n + 1, h => by
    have ih := rootX_lt p k n (by omega)
    have e : 2 ^ (69 - n) = 2 * 2 ^ (69 - (n + 1)) := by rw [show 69 - n = 69 - (n + 1) + 1 by omega, Nat.pow_succ, Nat.mul_comm]
    rw [rootX]
    split
    · omega
    · rw [show 68 - n = 69 - (n + 1) by omega]
      omega
theorem dig_room {X r at_ : Nat} (hr : r < 16) (h : 2 ^ (16 * at_ + r + 1) ∣ X) : X / 65536 ^ at_ % 65536 + 2 ^ r < 65536 := by
  obtain ⟨q, rfl⟩ := h
  have e1 : (65536 : Nat) ^ at_ = 2 ^ (16 * at_) := by rw [Nat.pow_mul]
  have e2 : 2 ^ (16 * at_ + r + 1) * q / 2 ^ (16 * at_) = 2 ^ (r + 1) * q := by
    rw [Nat.add_assoc, Nat.pow_add, Nat.mul_assoc, Nat.mul_div_cancel_left _ (Nat.two_pow_pos _)]
  rw [e1, e2]
  obtain ⟨s, hs⟩ : ∃ s, r + 1 + s = 16 := ⟨15 - r, by omega⟩
  have e3 : (65536 : Nat) = 2 ^ (r + 1) * 2 ^ s := by rw [← Nat.pow_add, hs]
  have h4 : 2 ^ (r + 1) * q % 65536 = 2 ^ (r + 1) * (q % 2 ^ s) := by rw [e3, Nat.mul_mod_mul_left]
  have h5 : q % 2 ^ s < 2 ^ s := Nat.mod_lt _ (Nat.two_pow_pos _)
  have h6 : 2 ^ (r + 1) * (q % 2 ^ s) + 2 ^ (r + 1) ≤ 2 ^ (r + 1) * 2 ^ s := by
    rw [← Nat.mul_succ]; exact Nat.mul_le_mul_left _ h5
  have h7 : 2 ^ (r + 1) = 2 * 2 ^ r := by rw [Nat.pow_succ, Nat.mul_comm]
  have h8 := Nat.two_pow_pos r
  omega
theorem dig_add {X n bit : Nat} (hX : X < 65536 ^ n) (hb : bit / 16 < n) (h : 2 ^ (bit + 1) ∣ X) :
    (digs n X).set (bit / 16) ((digs n X).getD (bit / 16) 0 + 2 ^ (bit % 16)) = digs n (X + 2 ^ bit) ∧ (digs n X).getD (bit / 16) 0 + 2 ^ (bit % 16) < 65536 := by
  have hlt := digs_lt n X
  have hv := dval_digs n X hX
  have hg := getD_dig (digs n X) (bit / 16) hlt
  rw [hv] at hg
  have hroom : (digs n X).getD (bit / 16) 0 + 2 ^ (bit % 16) < 65536 := by
    rw [hg]
    exact dig_room (Nat.mod_lt _ (by decide)) (by rw [show 16 * (bit / 16) + bit % 16 + 1 = bit + 1 by omega]; exact h)
  refine ⟨?_, hroom⟩
  have h1 := digs_dval _ (set_lt (i := bit / 16) hlt hroom)
  rw [← h1, List.length_set, digs_length]
  congr 1
  have h2 := dval_set (digs n X) (bit / 16) ((digs n X).getD (bit / 16) 0 + 2 ^ (bit % 16)) (by rw [digs_length]; exact hb)
  rw [hv, Nat.add_mul] at h2
  have h3 : 2 ^ (bit % 16) * 65536 ^ (bit / 16) = 2 ^ bit := by
    rw [show (65536 : Nat) = 2 ^ 16 from rfl, ← Nat.pow_mul, ← Nat.pow_add]
    congr 1
    omega
  rw [h3] at h2
  omega
theorem mul_w64 (a b : Nat) (h : a * b ≤ 9223372036854775807) : wrap64 ((a : Int) * (b : Int)) = ((a * b : Nat) : Int) := by
  rw [← Int.natCast_mul]; unfold wrap64; omega
theorem add_w64 (a b : Nat) (h : a + b ≤ 9223372036854775807) : wrap64 ((a : Int) + (b : Int)) = ((a + b : Nat) : Int) := by
  unfold wrap64; omega
end Go.Proofs.YtoihgnkhalhocaaGreatDoor.Sh
