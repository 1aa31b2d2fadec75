/-
  Joined texts: Do2 Ap2 Cp3 Id1.
-/
import Derived.Lib.SplitLaws
import Derived.Test.YtilhhigdegccgaaDoorJ30
import Derived.Test.YtilhhigdegccgaaDoorJ32
import Derived.Test.YtilhhigdegccgaaDoorJ29
import Derived.Test.YtilhhigdegccgaaDoorJ31
/-
  Walk: brevetref15.does.
-/
namespace Go.Proofs.YtilhhigdegccgaaDoor
set_option linter.unusedSimpArgs false
set_option linter.unusedVariables false
open Go.RowKit
theorem opC_ent (o : OpD) : (((opC o).toList.drop 3).take 5).toArray = entCells o.ent := rfl
theorem LW.ents_put {u u' v : World} {base g K : Nat} {d : LedD} {s : Sl EntD} (h : LW u base g K d) (hk : KeepBut 36 u u') (hs : s.Own u' base 36 5 entCells K) (ho : ∀ x ∈ s.l, EntOk u' x) (hw : Wrote g u' v) (hb : Blk v g 33 ((ledCells d).setIfInBounds 0 s.v)) : LW v base g K { d with ents := s } :=
  LW.put (h.box.keep hk (by decide)) h.hg ⟨hs, h.ll.nodes.keep hk (by decide), h.ll.bans.keep hk (by decide), h.ll.joins.keep hk (by decide), h.ll.keys.keep hk (by decide), h.ll.buns.keep hk (by decide), ho, fun x hx => (h.ll.bunOk x hx).keep hk (by decide)⟩ hw hb
theorem DoPost.of {base g K : Nat} {w u : World} {e : Ending} {w' : World} (h : DoPost base g K u e w') (hb : Below base w u) : DoPost base g K w e w' := by
  obtain ⟨d', f, h1, h2, h3⟩ := h
  exact ⟨d', f, h1, h2, hb.trans h3⟩
theorem opO_size : (Tryd.prog.info? 47).map (·.size) = some 24 := by kernel_rfl
end Go.Proofs.YtilhhigdegccgaaDoor
/-
  Walk: brevetref15.Apply.
-/
namespace Go.Proofs.YtilhhigdegccgaaDoor
set_option linter.unusedSimpArgs false
set_option linter.unusedVariables false
open Go.RowKit
theorem LedOk.wrote {u u' : World} {K g : Nat} {d : LedD} {cs : Array Value} (h : LedOk u K d) (hb : Blk u g 33 cs) (hw : Wrote g u u') : LedOk u' K d := h.box (KeepBut.of_wrote hw hb)
end Go.Proofs.YtilhhigdegccgaaDoor
/-
  Walk: brevetref15.Copy, and what it does to tokens and nodes. (Printed by gen/conv3.py.)
-/
namespace Go.Proofs.YtilhhigdegccgaaDoor
set_option linter.unusedSimpArgs false
set_option linter.unusedVariables false
open Go.RowKit
def CpPostR (d : LedD) (K : Nat) (w : World) (e : Ending) (w' : World) : Prop := ∃ d' : LedD, e = .returned (.agg (ledCells d')) ∧ LL w' w.heap.size K d' ∧ Below w.heap.size w w' ∧ d'.nodes.l = d.nodes.l ∧ d'.bans.l = d.bans.l ∧ d'.joins.l = d.joins.l
set_option maxRecDepth 100000 in
set_option maxHeartbeats 8000000 in
theorem copy15r_any (d : LedD) (K : Nat) (w : World) (h : LedOk w K d) (hK : K ≤ 900) :
    Calls Tryd.prog 25 #[.agg (ledCells d)] w (CpPostR d K w) := by
  have hul := Tryd.underlying33
  have hue := Tryd.underlying36
  obtain ⟨W0, hW0⟩ : ∃ W0, W0 = (w.alloc (.cells (ledCells d) 33)).alloc (.cells (ledCells zLed) 33) := ⟨_, rfl⟩
  have hb0 : Below w.heap.size w W0 := by rw [hW0]; exact ((Below.refl _ w).alloc (Nat.le_refl _) _).alloc (by simp) _
  have HB0 := Lib.hid hb0
  have HK0 := Lib.hid (show Blk W0 w.heap.size 33 (ledCells d) by rw [hW0]; exact (Blk.new _ _ _).alloc _)
  have HZ0 := Lib.hid (show Blk W0 (w.heap.size + 1) 33 (ledCells zLed) by rw [hW0]; have := Blk.new (w.alloc (.cells (ledCells d) 33)) 33 (ledCells zLed); simpa using this)
  have HS0 := Lib.hid (show W0.heap.size = w.heap.size + 2 by rw [hW0]; simp)
  have HW0 := Lib.hid hW0
  have HOK := Lib.hid h
  have HKK := Lib.hid hK
  obtain ⟨le, hle⟩ : ∃ le, le = d.ents := ⟨_, rfl⟩
  have HLE := Lib.hid hle
  have hel : (le.l.length : Int) ≤ 900 := by rw [hle]; have := h.ents.len; omega
  have HEL := Lib.hid (show le.l.length ≤ K by rw [hle]; exact h.ents.len)
  clear hW0 h hb0 hK hle
  go_enter Tryd.func25, Tryd.ntmps25
  go_upto_region 1 with (fail)
  rw [show (w.alloc (.cells (ledCells d) 33)).alloc (.cells #[.slice none 0 0, .slice none 0 0, .slice none 0 0, .slice none 0 0, .slice none 0 0, .slice none 0 0] 33) = W0 from HW0.out.symm]
  generalize Value.agg (ledCells d) = AV
  obtain ⟨W1, hW1⟩ : ∃ W1, W1 = W0.alloc (.cells (ledCells zLed) 33) := ⟨_, rfl⟩
  have hbw : Below W0.heap.size W0 W1 := by rw [hW1]; exact (Below.refl _ _).alloc (Nat.le_refl _) _
  have HB1 := Lib.hid (HB0.out.trans (hbw.mono HB0.out.size))
  have HK1 := Lib.hid (HK0.out.below hbw HK0.out.lt)
  have HZ1 := Lib.hid (HZ0.out.below hbw HZ0.out.lt)
  have HL1 := Lib.hid (show LW W1 w.heap.size (w.heap.size + 2) K zLed from ⟨by rw [← HS0.out, hW1]; exact Blk.new _ _ _, by omega, zLed_ll _ _ _⟩)
  have HW1 := Lib.hid hW1
  clear hW1 hbw
  go_upto_region 2 with (fail)
  rw [show W0.alloc (.cells #[.slice none 0 0, .slice none 0 0, .slice none 0 0, .slice none 0 0, .slice none 0 0, .slice none 0 0] 33) = W1 from HW1.out.symm, HS0.out]
  go_wp2_with fail
  go_loopw [4] (fun x wr => ∃ (i : Nat) (s : Sl EntD), i ≤ le.l.length ∧ x = .int .i64 (i : Int) ∧ s.l.length = i ∧ LW wr w.heap.size (w.heap.size + 2) K { zLed with ents := s } ∧ Below w.heap.size w wr ∧ Blk wr w.heap.size 33 (ledCells d) ∧ Blk wr (w.heap.size + 1) 33 (ledCells zLed)) (fun x _ => le.l.length - (intOf x).toNat)
  case atStart => exact ⟨0, .nil, Nat.zero_le _, rfl, rfl, HL1.out, HB1.out, HK1.out, HZ1.out⟩
  case round =>
    obtain ⟨i, s, hi, rfl, hsl, hlw, hbw, hkb, hzb⟩ := hrel
    have HSL := Lib.hid hsl
    have HLW := Lib.hid hlw
    have HBW := Lib.hid hbw
    have HKB := Lib.hid hkb
    have HZB := Lib.hid hzb
    have HOR := Lib.hid (HOK.out.grow hbw)
    have a0 : wr.cell? ⟨w.heap.size, 0, none⟩ = some (.slice le.A le.l.length le.c) := by rw [HLE.out]; exact hkb.cell 0
    have c0 : wr.cell? ⟨w.heap.size + 2, 0, none⟩ = some (.slice s.A s.l.length s.c) := hlw.box.cell 0
    clear hsl hlw hbw hkb hzb
    by_cases hlt : i < le.l.length
    · have hlt' : (i : Int) < (le.l.length : Int) := by omega
      have hi0 : (0 : Int) ≤ (i : Int) := by omega
      have hre : le.Ok wr 36 entCells K := by rw [HLE.out]; exact HOR.out.ents
      obtain ⟨ad, hA, -, hcell⟩ := rd_rows (f := entCells) (m := 5) (fun _ => rfl) (by decide) hre.row.rd hlt
      rw [hA] at a0
      obtain ⟨X, hX⟩ : ∃ X, X = le.l[i] := ⟨_, rfl⟩
      have HXO := Lib.hid (show EntOk wr X from HOR.out.entOk X (by rw [hX, ← HLE.out]; exact List.getElem_mem hlt))
      rw [← hX] at hcell
      have HCL := Lib.hid (show ∀ j u, (entCells X).toList[j]? = some u → wr.cell? ((ad.add (i * 5)).add j) = some u from fun j u hu => hcell j u (by simpa using hu))
      have HLT := Lib.hid hlt
      clear hX hcell hre hlt hA c0
      go_upto_region 6 with (first
        | refine wpList_get_rd (r := (entCells X).toList) HCL.out rfl rfl rfl hue rfl entT_size ?_
        | (refine wpList_put_box (cells := entCells X) (Blk.new _ _ _) rfl rfl rfl rfl entT_size rfl (entCells_one X) ?_; intro w5 hb5 hw5))
      have hbw5 : Below wr.heap.size wr w5 := box_low9 hw5
      obtain ⟨H, hH⟩ : ∃ H, H = wr.heap.size := ⟨_, rfl⟩
      rw [← hH] at hb5 ⊢
      have HK5 := Lib.hid hb5
      have HB5 := Lib.hid hbw5
      have HHE := Lib.hid hH
      have a4 : w5.cell? ⟨H, 4, none⟩ = some (.slice X.sA X.sn X.sc) := hb5.cell 4
      obtain ⟨hx1, hx2, l, hl, hrow⟩ := HXO.out.grow hbw5
      have HROW := Lib.hid hrow
      have HLL := Lib.hid (show (rowsV strCell l).length = X.sn * 1 by rw [rowsV_len (f := strCell) (m := 1) (fun _ => rfl), hl])
      have HNL := Lib.hid (OwnR.nil w5 w5.heap.size 9 1)
      have hsn : X.sn ≤ 1000 := hx2
      clear hb5 hw5 hbw5 hH hx1 hx2 hl hrow a0
      go_upto_region 9 with (first
        | (refine wpList_append_r (m := X.sn) (news := rowsV strCell l) sl_strz rfl rfl HNL.out rfl rfl HLL.out HROW.out.rd (rowsV_mem strCell_one _) (by unfold maxLen; omega) (by omega) (Nat.le_refl _) ?_; intro A6 c6 w6 ho6 hg6 hn6; rw [Nat.zero_add] at ho6; have HO6 := Lib.hid ho6; have HB6 := Lib.hid (below_of_nil (K := 0) hg6); have HK6 := Lib.hid (HK5.out.below HB6.out HK5.out.lt); clear ho6 hg6 hn6)
        | (refine wpList_put_cell (i := 4) HK6.out rfl rfl rfl rfl (by kernel_rfl) (by simp [entCells]) rfl ?_; intro w7 hb7 hw7))
      obtain ⟨Y, hY⟩ : ∃ Y : EntD, Y = ⟨X.n, X.path, X.parent, X.ttl, A6, X.sn, c6⟩ := ⟨_, rfl⟩
      have HK7 := Lib.hid (show Blk w7 H 36 (entCells Y) by rw [hY]; exact hb7)
      have HLW7 := Lib.hid ((HLW.out.below HB5.out).below HB6.out)
      have hbw7 : Below wr.heap.size wr w7 := hw7.below (HB5.out.trans (HB6.out.mono HB5.out.size)) (by rw [HHE.out]; exact Nat.le_refl _) (HB5.out.trans (HB6.out.mono HB5.out.size)).size
      have HB7 := Lib.hid hbw7
      have HYO := Lib.hid (show EntOk w7 Y by
        rw [hY]
        have hkb := KeepBut.of_wrote hw7 HK6.out
        refine ⟨?_, by show X.sn ≤ 1000; omega, l, by show l.length = X.sn; have := HLL.out; rw [rowsV_len (f := strCell) (m := 1) (fun _ => rfl)] at this; omega, ?_⟩
        · have := HO6.out.cap
          show X.sn ≤ c6
          omega
        · have h := HO6.out.row
          rw [List.nil_append] at h
          exact (h.keep hkb (by decide)).mono hkb.1)
      have HW8 := Lib.hid (HLW.out.below hbw7)
      have HKB7 := Lib.hid (HKB.out.below hbw7 HKB.out.lt)
      have HZB7 := Lib.hid (HZB.out.below hbw7 HZB.out.lt)
      have c0 : w7.cell? ⟨w.heap.size + 2, 0, none⟩ = some (.slice s.A s.l.length s.c) := HW8.out.box.cell 0
      have hsl9 : (s.l.length : Int) ≤ 900 := by have := HSL.out; omega
      have HEO := Lib.hid (show OwnR w7 w.heap.size 36 5 s.A s.c s.l.length (rowsV entCells s.l) from HW8.out.ll.ents.own)
      have HSN := Lib.hid (show s.l.length + 1 ≤ K by have := HSL.out; have := HLT.out; have := HEL.out; omega)
      have HLO := Lib.hid (show w.heap.size ≤ w7.heap.size from Nat.le_trans HBW.out.size hbw7.size)
      clear hb7 hw7 hbw7 hY a4
      go_wp2_with (first
        | refine wpList_get_box (cs := #[.int .i64 Y.n, .string Y.path, .string Y.parent, .int .i64 Y.ttl, .slice Y.sA Y.sn Y.sc]) HK7.out rfl rfl rfl hue rfl entT_size ?_
        | (refine wpList_append_r1 (ys := [.int .i64 Y.n, .string Y.path, .string Y.parent, .int .i64 Y.ttl, .slice Y.sA Y.sn Y.sc]) sl_ents rfl rfl HEO.out rfl rfl rfl rfl (by simp [Value.oneCell']) (by unfold maxLen; omega) (by omega) HLO.out ?_; intro A9 c9 w9 hown9 hgr9 hn9; have HO9 := Lib.hid hown9; have HG9 := Lib.hid hgr9; have HKE := Lib.hid (keepBut_grown HEO.out hgr9); clear hown9 hgr9 hn9)
        | (refine wpList_put_cell (i := 0) (HW8.out.box.keep HKE.out (by decide)) rfl rfl rfl rfl (by kernel_rfl) (by simp [ledCells]) rfl ?_; intro wa hba hwa))
      have HFN := Lib.hid (show LW wa w.heap.size (w.heap.size + 2) K { zLed with ents := ⟨A9, c9, s.l ++ [Y]⟩ } from HW8.out.ents_set (s := ⟨A9, c9, s.l ++ [Y]⟩) HKE.out ⟨by
          show OwnR w9 w.heap.size _ 5 A9 c9 (s.l ++ [Y]).length _
          rw [rowsV_append, rowsV_one, List.length_append]
          exact HO9.out, by show (s.l ++ [Y]).length ≤ K; rw [List.length_append, List.length_singleton]; exact HSN.out⟩ (fun x hx => by
          rcases List.mem_append.1 hx with hx | hx
          · exact (HW8.out.ll.entOk x hx).keep HKE.out (by decide)
          · have e : x = Y := by simpa using hx
            rw [e]
            exact HYO.out.keep HKE.out (by decide)) hwa (by
          have e : (⟨A9, c9, s.l ++ [Y]⟩ : Sl EntD).v = .slice A9 (s.l.length + 1) c9 := by
            show Value.slice A9 (s.l ++ [Y]).length c9 = _
            rw [List.length_append]
            rfl
          rw [e]
          exact hba))
      have HBA := Lib.hid (show Below w.heap.size w wa from hwa.below ((HBW.out.trans (HB7.out.mono HBW.out.size)).grown HG9.out (HBW.out.trans (HB7.out.mono HBW.out.size)).size fun j hj => (HEO.out.lt j hj).1) (by omega) (Nat.le_trans HLO.out HKE.out.1))
      have HKA := Lib.hid (hwa.blk (HKB7.out.keep HKE.out (by decide)) (by omega))
      have HZA := Lib.hid (hwa.blk (HZB7.out.keep HKE.out (by decide)) (by omega))
      clear hba hwa
      go_roundw
      case rel => exact ⟨i + 1, ⟨A9, c9, s.l ++ [Y]⟩, HLT.out, by go_num, by have := HSL.out; show (s.l ++ [Y]).length = _; rw [List.length_append, List.length_singleton]; omega, HFN.out, HBA.out, HKA.out, HZA.out⟩
      case measure => have := HLT.out; simp [intOf]; omega
    · have hlt' : ¬ (i : Int) < (le.l.length : Int) := by omega
      clear hlt c0
      -- nodes
      obtain ⟨lnodes, hlnodes⟩ : ∃ l, l = d.nodes := ⟨_, rfl⟩
      have HOR0 := Lib.hid (HOK.out.grow HBW.out)
      have HR0 := Lib.hid (show lnodes.Ok wr 40 nodeCells K by rw [hlnodes]; exact HOR0.out.nodes)
      have anodes : wr.cell? ⟨w.heap.size, 1, none⟩ = some (.slice lnodes.A lnodes.l.length lnodes.c) := by rw [hlnodes]; exact HKB.out.cell 1
      have cnodes : wr.cell? ⟨w.heap.size + 2, 1, none⟩ = some (.slice none 0 0) := HLW.out.box.cell 1
      have HN0 := Lib.hid (OwnR.nil wr w.heap.size 40 5)
      have HT0 := Lib.hid (show (rowsV nodeCells lnodes.l).length = lnodes.l.length * 5 by rw [rowsV_len (f := nodeCells) (m := 5) (fun _ => rfl)])
      have hm0 : lnodes.l.length ≤ 900 := by have := HR0.out.len; have := HKK.out; omega
      have HD0 := Lib.hid hlnodes
      clear hlnodes
      have HLO0 := Lib.hid (HBW.out.size)
      go_upto_region 11 with (first
        | (refine wpList_append_r (m := lnodes.l.length) (news := rowsV nodeCells lnodes.l) sl_nodes rfl rfl HN0.out rfl rfl HT0.out HR0.out.row.rd (rowsV_mem nodeCells_one _) (by unfold maxLen; omega) (by omega) HLO0.out ?_; intro A6 c6 w6 ho6 hg6 hn6; rw [Nat.zero_add] at ho6; have HO0 := Lib.hid ho6; have HB50 := Lib.hid (below_of_nil (K := 0) hg6); have HX0 := Lib.hid (HLW.out.below HB50.out); clear ho6 hg6 hn6)
        | (refine wpList_put_cell (i := 1) HX0.out.box rfl rfl rfl rfl (by kernel_rfl) (by simp [ledCells]) rfl ?_; intro v0 hb7 hw7))
      obtain ⟨snodes, hsnodes⟩ : ∃ s : Sl NodeD, s = ⟨A6, c6, lnodes.l⟩ := ⟨_, rfl⟩
      have HL20 := Lib.hid (show LW v0 w.heap.size (w.heap.size + 2) K { zLed with ents := s, nodes := snodes } from HX0.out.nodes_set (s := snodes) (by rw [hsnodes]; exact ⟨by rw [List.nil_append] at HO0; exact HO0.out, HR0.out.len⟩) hw7 (by rw [hsnodes]; exact hb7))
      have HM0 := Lib.hid (hw7.below (HBW.out.trans (HB50.out.mono HBW.out.size)) (by omega) (HBW.out.trans (HB50.out.mono HBW.out.size)).size)
      have HKc0 := Lib.hid (hw7.blk (HKB.out.below HB50.out HKB.out.lt) (by omega))
      have HZc0 := Lib.hid (hw7.blk (HZB.out.below HB50.out HZB.out.lt) (by omega))
      have HEQ0 := Lib.hid (show snodes.l = d.nodes.l by rw [hsnodes, HD0.out])
      clear hb7 hw7 hsnodes anodes cnodes
      -- bans
      obtain ⟨lbans, hlbans⟩ : ∃ l, l = d.bans := ⟨_, rfl⟩
      have HOR1 := Lib.hid (HOK.out.grow HM0.out)
      have HR1 := Lib.hid (show lbans.Ok v0 9 strCell K by rw [hlbans]; exact HOR1.out.bans)
      have abans : v0.cell? ⟨w.heap.size, 2, none⟩ = some (.slice lbans.A lbans.l.length lbans.c) := by rw [hlbans]; exact HKc0.out.cell 2
      have cbans : v0.cell? ⟨w.heap.size + 2, 2, none⟩ = some (.slice none 0 0) := HL20.out.box.cell 2
      have HN1 := Lib.hid (OwnR.nil v0 w.heap.size 9 1)
      have HT1 := Lib.hid (show (rowsV strCell lbans.l).length = lbans.l.length * 1 by rw [rowsV_len (f := strCell) (m := 1) (fun _ => rfl)])
      have hm1 : lbans.l.length ≤ 900 := by have := HR1.out.len; have := HKK.out; omega
      have HD1 := Lib.hid hlbans
      clear hlbans
      have HLO1 := Lib.hid (HM0.out.size)
      go_upto_region 12 with (first
        | (refine wpList_append_r (m := lbans.l.length) (news := rowsV strCell lbans.l) sl_strz rfl rfl HN1.out rfl rfl HT1.out HR1.out.row.rd (rowsV_mem strCell_one _) (by unfold maxLen; omega) (by omega) HLO1.out ?_; intro A6 c6 w6 ho6 hg6 hn6; rw [Nat.zero_add] at ho6; have HO1 := Lib.hid ho6; have HB51 := Lib.hid (below_of_nil (K := 0) hg6); have HX1 := Lib.hid (HL20.out.below HB51.out); clear ho6 hg6 hn6)
        | (refine wpList_put_cell (i := 2) HX1.out.box rfl rfl rfl rfl (by kernel_rfl) (by simp [ledCells]) rfl ?_; intro v1 hb7 hw7))
      obtain ⟨sbans, hsbans⟩ : ∃ s : Sl ByteArray, s = ⟨A6, c6, lbans.l⟩ := ⟨_, rfl⟩
      have HL21 := Lib.hid (show LW v1 w.heap.size (w.heap.size + 2) K { zLed with ents := s, nodes := snodes, bans := sbans } from HX1.out.bans_set (s := sbans) (by rw [hsbans]; exact ⟨by rw [List.nil_append] at HO1; exact HO1.out, HR1.out.len⟩) hw7 (by rw [hsbans]; exact hb7))
      have HM1 := Lib.hid (hw7.below (HM0.out.trans (HB51.out.mono HM0.out.size)) (by omega) (HM0.out.trans (HB51.out.mono HM0.out.size)).size)
      have HKc1 := Lib.hid (hw7.blk (HKc0.out.below HB51.out HKc0.out.lt) (by omega))
      have HZc1 := Lib.hid (hw7.blk (HZc0.out.below HB51.out HZc0.out.lt) (by omega))
      have HEQ1 := Lib.hid (show sbans.l = d.bans.l by rw [hsbans, HD1.out])
      clear hb7 hw7 hsbans abans cbans
      -- joins
      obtain ⟨ljoins, hljoins⟩ : ∃ l, l = d.joins := ⟨_, rfl⟩
      have HOR2 := Lib.hid (HOK.out.grow HM1.out)
      have HR2 := Lib.hid (show ljoins.Ok v1 38 joinCells K by rw [hljoins]; exact HOR2.out.joins)
      have ajoins : v1.cell? ⟨w.heap.size, 3, none⟩ = some (.slice ljoins.A ljoins.l.length ljoins.c) := by rw [hljoins]; exact HKc1.out.cell 3
      have cjoins : v1.cell? ⟨w.heap.size + 2, 3, none⟩ = some (.slice none 0 0) := HL21.out.box.cell 3
      have HN2 := Lib.hid (OwnR.nil v1 w.heap.size 38 4)
      have HT2 := Lib.hid (show (rowsV joinCells ljoins.l).length = ljoins.l.length * 4 by rw [rowsV_len (f := joinCells) (m := 4) (fun _ => rfl)])
      have hm2 : ljoins.l.length ≤ 900 := by have := HR2.out.len; have := HKK.out; omega
      have HD2 := Lib.hid hljoins
      clear hljoins
      have HLO2 := Lib.hid (HM1.out.size)
      go_upto_region 13 with (first
        | (refine wpList_append_r (m := ljoins.l.length) (news := rowsV joinCells ljoins.l) sl_joins rfl rfl HN2.out rfl rfl HT2.out HR2.out.row.rd (rowsV_mem joinCells_one _) (by unfold maxLen; omega) (by omega) HLO2.out ?_; intro A6 c6 w6 ho6 hg6 hn6; rw [Nat.zero_add] at ho6; have HO2 := Lib.hid ho6; have HB52 := Lib.hid (below_of_nil (K := 0) hg6); have HX2 := Lib.hid (HL21.out.below HB52.out); clear ho6 hg6 hn6)
        | (refine wpList_put_cell (i := 3) HX2.out.box rfl rfl rfl rfl (by kernel_rfl) (by simp [ledCells]) rfl ?_; intro v2 hb7 hw7))
      obtain ⟨sjoins, hsjoins⟩ : ∃ s : Sl JoinD, s = ⟨A6, c6, ljoins.l⟩ := ⟨_, rfl⟩
      have HL22 := Lib.hid (show LW v2 w.heap.size (w.heap.size + 2) K { zLed with ents := s, nodes := snodes, bans := sbans, joins := sjoins } from HX2.out.joins_set (s := sjoins) (by rw [hsjoins]; exact ⟨by rw [List.nil_append] at HO2; exact HO2.out, HR2.out.len⟩) hw7 (by rw [hsjoins]; exact hb7))
      have HM2 := Lib.hid (hw7.below (HM1.out.trans (HB52.out.mono HM1.out.size)) (by omega) (HM1.out.trans (HB52.out.mono HM1.out.size)).size)
      have HKc2 := Lib.hid (hw7.blk (HKc1.out.below HB52.out HKc1.out.lt) (by omega))
      have HZc2 := Lib.hid (hw7.blk (HZc1.out.below HB52.out HZc1.out.lt) (by omega))
      have HEQ2 := Lib.hid (show sjoins.l = d.joins.l by rw [hsjoins, HD2.out])
      clear hb7 hw7 hsjoins ajoins cjoins
      -- keys
      obtain ⟨lkeys, hlkeys⟩ : ∃ l, l = d.keys := ⟨_, rfl⟩
      have HOR3 := Lib.hid (HOK.out.grow HM2.out)
      have HR3 := Lib.hid (show lkeys.Ok v2 42 skeyCells K by rw [hlkeys]; exact HOR3.out.keys)
      have akeys : v2.cell? ⟨w.heap.size, 4, none⟩ = some (.slice lkeys.A lkeys.l.length lkeys.c) := by rw [hlkeys]; exact HKc2.out.cell 4
      have ckeys : v2.cell? ⟨w.heap.size + 2, 4, none⟩ = some (.slice none 0 0) := HL22.out.box.cell 4
      have HN3 := Lib.hid (OwnR.nil v2 w.heap.size 42 4)
      have HT3 := Lib.hid (show (rowsV skeyCells lkeys.l).length = lkeys.l.length * 4 by rw [rowsV_len (f := skeyCells) (m := 4) (fun _ => rfl)])
      have hm3 : lkeys.l.length ≤ 900 := by have := HR3.out.len; have := HKK.out; omega
      have HD3 := Lib.hid hlkeys
      clear hlkeys
      have HLO3 := Lib.hid (HM2.out.size)
      go_upto_region 14 with (first
        | (refine wpList_append_r (m := lkeys.l.length) (news := rowsV skeyCells lkeys.l) sl_skeys rfl rfl HN3.out rfl rfl HT3.out HR3.out.row.rd (rowsV_mem skeyCells_one _) (by unfold maxLen; omega) (by omega) HLO3.out ?_; intro A6 c6 w6 ho6 hg6 hn6; rw [Nat.zero_add] at ho6; have HO3 := Lib.hid ho6; have HB53 := Lib.hid (below_of_nil (K := 0) hg6); have HX3 := Lib.hid (HL22.out.below HB53.out); clear ho6 hg6 hn6)
        | (refine wpList_put_cell (i := 4) HX3.out.box rfl rfl rfl rfl (by kernel_rfl) (by simp [ledCells]) rfl ?_; intro v3 hb7 hw7))
      obtain ⟨skeys, hskeys⟩ : ∃ s : Sl SkeyD, s = ⟨A6, c6, lkeys.l⟩ := ⟨_, rfl⟩
      have HL23 := Lib.hid (show LW v3 w.heap.size (w.heap.size + 2) K { zLed with ents := s, nodes := snodes, bans := sbans, joins := sjoins, keys := skeys } from HX3.out.keys_set (s := skeys) (by rw [hskeys]; exact ⟨by rw [List.nil_append] at HO3; exact HO3.out, HR3.out.len⟩) hw7 (by rw [hskeys]; exact hb7))
      have HM3 := Lib.hid (hw7.below (HM2.out.trans (HB53.out.mono HM2.out.size)) (by omega) (HM2.out.trans (HB53.out.mono HM2.out.size)).size)
      have HKc3 := Lib.hid (hw7.blk (HKc2.out.below HB53.out HKc2.out.lt) (by omega))
      have HZc3 := Lib.hid (hw7.blk (HZc2.out.below HB53.out HZc2.out.lt) (by omega))
      clear hb7 hw7 hskeys akeys ckeys
      -- buns
      obtain ⟨lbuns, hlbuns⟩ : ∃ l, l = d.buns := ⟨_, rfl⟩
      have HOR4 := Lib.hid (HOK.out.grow HM3.out)
      have HR4 := Lib.hid (show lbuns.Ok v3 45 bunCells K by rw [hlbuns]; exact HOR4.out.buns)
      have abuns : v3.cell? ⟨w.heap.size, 5, none⟩ = some (.slice lbuns.A lbuns.l.length lbuns.c) := by rw [hlbuns]; exact HKc3.out.cell 5
      have cbuns : v3.cell? ⟨w.heap.size + 2, 5, none⟩ = some (.slice none 0 0) := HL23.out.box.cell 5
      have HN4 := Lib.hid (OwnR.nil v3 w.heap.size 45 3)
      have HT4 := Lib.hid (show (rowsV bunCells lbuns.l).length = lbuns.l.length * 3 by rw [rowsV_len (f := bunCells) (m := 3) (fun _ => rfl)])
      have hm4 : lbuns.l.length ≤ 900 := by have := HR4.out.len; have := HKK.out; omega
      have HD4 := Lib.hid hlbuns
      clear hlbuns
      have HLO4 := Lib.hid (HM3.out.size)
      go_upto_region 15 with (first
        | (refine wpList_append_r (m := lbuns.l.length) (news := rowsV bunCells lbuns.l) sl_buns rfl rfl HN4.out rfl rfl HT4.out HR4.out.row.rd (rowsV_mem bunCells_one _) (by unfold maxLen; omega) (by omega) HLO4.out ?_; intro A6 c6 w6 ho6 hg6 hn6; rw [Nat.zero_add] at ho6; have HO4 := Lib.hid ho6; have HB54 := Lib.hid (below_of_nil (K := 0) hg6); have HX4 := Lib.hid (HL23.out.below HB54.out); clear ho6 hg6 hn6)
        | (refine wpList_put_cell (i := 5) HX4.out.box rfl rfl rfl rfl (by kernel_rfl) (by simp [ledCells]) rfl ?_; intro v4 hb7 hw7))
      obtain ⟨sbuns, hsbuns⟩ : ∃ s : Sl BunD, s = ⟨A6, c6, lbuns.l⟩ := ⟨_, rfl⟩
      have HL24 := Lib.hid (show LW v4 w.heap.size (w.heap.size + 2) K { zLed with ents := s, nodes := snodes, bans := sbans, joins := sjoins, keys := skeys, buns := sbuns } from HX4.out.buns_set (s := sbuns) (by rw [hsbuns]; exact ⟨by rw [List.nil_append] at HO4; exact HO4.out, HR4.out.len⟩) (fun x hx => by rw [hsbuns] at hx; exact (HOR4.out.bunOk x (by rw [← HD4.out]; exact hx)).grow HB54.out) hw7 (by rw [hsbuns]; exact hb7))
      have HM4 := Lib.hid (hw7.below (HM3.out.trans (HB54.out.mono HM3.out.size)) (by omega) (HM3.out.trans (HB54.out.mono HM3.out.size)).size)
      have HKc4 := Lib.hid (hw7.blk (HKc3.out.below HB54.out HKc3.out.lt) (by omega))
      have HZc4 := Lib.hid (hw7.blk (HZc3.out.below HB54.out HZc3.out.lt) (by omega))
      clear hb7 hw7 hsbuns abuns cbuns
      go_wp2_with (first
        | refine wpList_get_box (x := .tmp 3) (cs := ledCells { zLed with ents := s, nodes := snodes, bans := sbans, joins := sjoins, keys := skeys, buns := sbuns }) HL24.out.box rfl rfl rfl hul rfl ledT2_size ?_
        | (refine wpList_put_box (x := .tmp 2) (cells := ledCells { zLed with ents := s, nodes := snodes, bans := sbans, joins := sjoins, keys := skeys, buns := sbuns }) HZc4.out rfl rfl rfl rfl ledT2_size rfl (ledCells_one _) ?_; intro w9 hb9 hw9))
      have HB9 := Lib.hid hb9
      have HFN := Lib.hid (show CpPostR d K w (.returned (.agg (ledCells { zLed with ents := s, nodes := snodes, bans := sbans, joins := sjoins, keys := skeys, buns := sbuns }))) w9 from ⟨_, rfl, HL24.out.ll.wrote HZc4.out hw9, hw9.below HM4.out (by omega) HM4.out.size, HEQ0.out, HEQ1.out, HEQ2.out⟩)
      refine bodyPost_ret (results_box (P := Tryd.prog) rfl rfl HB9.out hul rfl ledT2_size) rfl ?_
      exact HFN.out
end Go.Proofs.YtilhhigdegccgaaDoor
/-
  Plain: which texts are paths, and agents' paths.
-/
namespace Go.Proofs.YtilhhigdegccgaaDoor.Js
set_option linter.unusedSimpArgs false
set_option linter.unusedVariables false
def namedZ (z : Int) : Bool := innerZ z || (decide (65 ≤ z) && decide (z ≤ 90)) || z == 95
def namedC (c : UInt8) : Bool := namedZ ((c.toNat : Nat) : Int)
def allN (s : Bs) : Bool := s.all namedC && !s.isEmpty
def segOk (w : Bs) : Bool := allN w && (decide (w ≠ [46]) && decide (w ≠ [46, 46]))
def segsOk : Bs → Bs → Bool
  | cur, [] => segOk cur
  | cur, c :: r => if c = 47 then segOk cur && segsOk [] r else segsOk (cur ++ [c]) r
def pathB (s : Bs) : Bool := decide (s.length ≤ 40) && (decide (s.take 1 = [47]) && segsOk [] (s.drop 1))
def agentT : Bs := [47, 97, 103, 101, 110, 116, 47]
def agentB (s : Bs) : Bool := decide (s.take 7 = agentT) && (pathB s && decide (47 ∉ s.drop 7))
theorem index_at (l r : Bs) (c : UInt8) (h : c ∉ l) : Lib.index (l ++ c :: r) [c] = (l.length : Int) := by
  induction l with
  | nil => rw [List.nil_append, Lib.index]; simp [List.isPrefixOf]
  | cons b t ih =>
    have hb : c ≠ b := fun e => h (by rw [e]; exact List.mem_cons_self ..)
    have hp : ([c] : List UInt8).isPrefixOf (b :: (t ++ c :: r)) = false := by simp [List.isPrefixOf, hb]
    rw [List.cons_append, Lib.index, hp, ih (fun hm => h (List.mem_cons_of_mem _ hm))]
    have hne : ¬ ((t.length : Int) = -1) := by omega
    simp [hne]
theorem split_no (l : Bs) (c : UInt8) (h : c ∉ l) : Lib.split l [c] = [l] := by
  rw [Lib.split, Lib.count_one, List.count_eq_zero_of_not_mem h]
  rfl
theorem split_at (l r : Bs) (c : UInt8) (h : c ∉ l) : Lib.split (l ++ c :: r) [c] = l :: Lib.split r [c] := by
  have e : (l ++ c :: r).count c = r.count c + 1 := by rw [List.count_append, List.count_eq_zero_of_not_mem h, List.count_cons_self]; omega
  have hne : ¬ ((l.length : Int) == -1) = true := by simp
  rw [Lib.split, Lib.count_one, e, Lib.splitK, index_at l r c h, if_neg hne, Lib.split, Lib.count_one]
  have e1 : (l ++ c :: r).take ((l.length : Int).toNat + 0) = l := by simp
  have e2 : (l ++ c :: r).drop ((l.length : Int).toNat + [c].length) = r := by simp [List.drop_append]
  rw [e1, e2]
theorem segs_split : ∀ (r cur : Bs), 47 ∉ cur → segsOk cur r = (Lib.split (cur ++ r) [47]).all segOk
  | [], cur, h => by rw [List.append_nil, split_no cur 47 h]; simp [segsOk]
  | c :: r, cur, h => by
    by_cases hc : c = 47
    · subst hc
      have e : segsOk [] r = (Lib.split r [47]).all segOk := by simpa using segs_split r [] (by simp)
      rw [split_at cur r 47 h, List.all_cons, ← e]
      simp [segsOk]
    · have h2 : 47 ∉ cur ++ [c] := by simp [h, Ne.symm hc]
      rw [segsOk, if_neg hc, segs_split r (cur ++ [c]) h2, List.append_assoc]
      rfl
theorem path_split (r : Bs) : (Lib.split (47 :: r) [47]).tail.all segOk = segsOk [] r := by
  rw [show (47 :: r : Bs) = [] ++ 47 :: r from rfl, split_at [] r 47 (by simp), List.tail_cons, segs_split r [] (by simp), List.nil_append]
def pathC : Bs := [97, 98, 99, 100, 101, 102, 103, 104, 105, 106, 107, 108, 109, 110, 111, 112, 113, 114, 115, 116, 117, 118, 119, 120, 121, 122, 65, 66, 67, 68, 69, 70, 71, 72, 73, 74, 75, 76, 77, 78, 79, 80, 81, 82, 83, 84, 85, 86, 87, 88, 89, 90, 48, 49, 50, 51, 52, 53, 54, 55, 56, 57, 46, 45, 95]
theorem namedC_eq (c : UInt8) : namedC c = decide (c ∈ pathC) := by
  have h : ∀ n : Fin 256, namedC (UInt8.ofNat n.val) = decide (UInt8.ofNat n.val ∈ pathC) := by decide +kernel
  have := h ⟨c.toNat, c.toNat_lt⟩
  simpa using this
theorem of9_named (s : Bs) (h : s.length ≤ 40) : of9 s pathC 40 = allN s := by
  have e : (fun c => decide (c ∈ pathC)) = namedC := funext fun c => (namedC_eq c).symm
  rw [of9, e, allN]
  cases s with
  | nil => simp
  | cons c r => simp at h ⊢; intro _ _; omega
end Go.Proofs.YtilhhigdegccgaaDoor.Js
