/-
  PROVED: 'brevetlaw23.FedOwns': what is held stays as it is, and what is told is new. The listed variables are tied to the program's text by the card.
-/
import Derived.Test.YtoihgnkhalhocaaGreatDoorCards
import Derived.Test.YtoihgnkhalhocaaGreatDoorTie
import Derived.SevenTiedAt
import Derived.Lay
import Derived.ProofKit
import Derived.OpenShut
import Derived.Test.YtoihgnkhalhocaaGreatDoorH6
import Derived.Test.YtoihgnkhalhocaaGreatDoorH1
/-
  The law FedOwns.
-/
namespace Go.Proofs.YtoihgnkhalhocaaGreatDoor.Js
set_option linter.unusedSimpArgs false
set_option linter.unusedVariables false
open Go.RowKit

/-- a block of keys: two texts each -/
def KBlk (u : World) (g : Nat) : Prop := ∃ ks : List (Bs × Bs), Blk u g 39 (rowsV kCell ks).toArray
/-- bundles that may be written to: the row's own block, and the keys in blocks of keys -/
structure WL (u : World) (K : Nat) (A : Option Addr) (c : Nat) (ys : List FD) : Prop where
  row : OwnR u K 25 3 A c ys.length (rowsV fC ys)
  keys : ∀ y ∈ ys, y.k = [] ∨ ∃ g cap cur, y.A = some ⟨g, 0, none⟩ ∧ K ≤ g ∧ Blk u g 39 cur ∧ cur.size = cap * 2 ∧ y.k.length ≤ cap
theorem HO.wl {w : World} {K : Nat} {A : Option Addr} {c : Nat} {ys : List FD} (h : HO w K A c ys) : WL w K A c ys := ⟨h.row, fun y hy => by
  rcases (h.keys y hy).2 with ⟨_, h0⟩ | ⟨g, cap, cur, h1, h2, h3, h4, h5, h6, h7⟩
  · exact .inl (List.eq_nil_of_length_eq_zero h0)
  · injection h1 with e1 e2 e3
    exact .inr ⟨g, cap, cur, e1, h2, h3, h6, h4⟩⟩
theorem WL.num {u u' : World} {K : Nat} {A : Option Addr} {c g : Nat} {ys : List FD} {i : Nat} {x : FD} {cs : Array Value} (h : WL u K A c ys) (hi : i < ys.length) (hb : Blk u g 25 cs) (hw : Wrote g u u') (hA : x.A = (ys[i]).A) (hk : x.k = (ys[i]).k)
    (hr : OwnR u' K 25 3 A c ys.length (rowsV fC (ys.set i x))) : WL u' K A c (ys.set i x) :=
  ⟨by rw [List.length_set]; exact hr, fun y hy => by
    have hold : ∀ y ∈ ys, y.k = [] ∨ ∃ g cap cur, y.A = some ⟨g, 0, none⟩ ∧ K ≤ g ∧ Blk u' g 39 cur ∧ cur.size = cap * 2 ∧ y.k.length ≤ cap := fun y hy => by
      rcases h.keys y hy with h0 | ⟨g', cap, cur, h1, h2, h3, h4⟩
      · exact .inl h0
      · refine .inr ⟨g', cap, cur, h1, h2, hw.blk h3 (fun he => ?_), h4⟩
        subst he
        unfold Blk at hb h3
        rw [hb] at h3
        injection h3 with h3
        injection h3 with _ h3 _
        exact absurd h3 (by decide)
    rcases List.mem_or_eq_of_mem_set hy with hy | rfl
    · exact hold y hy
    · rw [hA, hk]
      exact hold _ (List.getElem_mem hi)⟩
theorem WL.key {u u' : World} {K : Nat} {A : Option Addr} {c g j : Nat} {ys : List FD} {v : Value} {cs : Array Value} (h : WL u K A c ys) (hb : Blk u g 39 cs) (hw : Wrote g u u') (hb' : Blk u' g 39 (cs.setIfInBounds j v)) : WL u' K A c ys :=
  ⟨ownR_wrote h.row hw (ownR_ne h.row hb (by decide)), fun y hy => by
    rcases h.keys y hy with h0 | ⟨g', cap, cur, h1, h2, h3, h4, h5⟩
    · exact .inl h0
    · by_cases he : g' = g
      · subst he
        unfold Blk at hb h3
        rw [hb] at h3
        injection h3 with h3
        injection h3 with h3 _ _
        subst h3
        exact .inr ⟨g', cap, _, h1, h2, hb', by simpa using h4, h5⟩
      · exact .inr ⟨g', cap, cur, h1, h2, hw.blk h3 he, h4, h5⟩⟩
set_option maxRecDepth 100000 in
set_option maxHeartbeats 8000000 in
theorem fedOwns_any (l : List FD) (b : FD) (A : Option Addr) (c : Nat) (w : World) (hr : HL w w.heap.size A l) (hb : Rd w w.heap.size b.A (rowsV kCell b.k)) (hl : (l.length : Int) ≤ 9223372036854775807) (hk : ∀ x ∈ l, (x.k.length : Int) ≤ 9223372036854775807)
    (hbk : (b.k.length : Int) ≤ 9223372036854775807) (hG : Sh.TabG w) :
    Calls Tryz.prog 4 #[.slice A l.length c, .agg (fC b)] w fun e w' => e = .returned (.bool true) ∧ Below w.heap.size w w' := by
  have hub := Tryz.underlying25
  obtain ⟨W0, hW0⟩ : ∃ W0, W0 = w.alloc (.cells (fC b) 25) := ⟨_, rfl⟩
  have hb0 : Below w.heap.size w W0 := by rw [hW0]; exact (Below.refl _ w).alloc (Nat.le_refl _) _
  have HB0 := Lib.hid hb0
  have HK0 := Lib.hid (show Blk W0 w.heap.size 25 (fC b) by rw [hW0]; exact Blk.new _ _ _)
  have HW0 := Lib.hid hW0
  have CH := Lib.hid (show ∀ u, Below w.heap.size w u → Calls Tryz.prog 5 #[.slice A l.length c] u (HeldPost l u) from fun u hu => held_any l A c w.heap.size u (hr.below hu) hu.size hl hk)
  have CC := Lib.hid (show ∀ u, Below w.heap.size w u → Calls Tryz.prog 6 #[.agg (fC b)] u (CutPost9 b.d b.n b.k u) from fun u hu => cut23_any b.d b.n b.k b.A b.c w.heap.size u (hb.below hu) hu.size hbk)
  have HTG := Lib.hid (show ∀ u, Below w.heap.size w u → Sh.TabG u from fun u hu => hG.below hu hG.size)
  have HLV := Lib.hid lives23_any
  obtain ⟨n, hn⟩ : ∃ n, n = l.length := ⟨_, rfl⟩
  rw [← hn] at CH ⊢
  clear hW0 hb0 hr hb hl hk hbk hG hn
  go_enter Tryz.func4, Tryz.ntmps4
  go_upto_region 1 with (fail)
  rw [show w.alloc (.cells (fC b) 25) = W0 from HW0.out.symm]
  generalize hAV : Value.agg (fC b) = AV
  rw [hAV] at CC
  go_wp2_with fail
  refine calls_then (CH.out _ HB0.out) ?_
  rintro e w1 ⟨A1, c1, hs, rfl, hsb, hgood, hhl, _, hb1⟩
  have HSB := Lib.hid hsb
  have HGD := Lib.hid hgood
  have HHL := Lib.hid hhl
  have HB1 := Lib.hid (HB0.out.trans (hb1.mono HB0.out.size))
  have HK1 := Lib.hid (HK0.out.below hb1 HK0.out.lt)
  clear hsb hgood hhl hb1
  obtain ⟨m, hm⟩ : ∃ m, m = hs.length := ⟨_, rfl⟩
  rw [← hm]
  have HM := Lib.hid hm
  clear hm
  go_wp2_with fail
  refine calls_then (CH.out _ HB1.out) ?_
  rintro e w2 ⟨A2, c2, gs, rfl, hsb, hgood, hhl, _, hb2⟩
  have HGB := Lib.hid (show hs.map FD.b = gs.map FD.b by rw [HSB.out, hsb])
  have HGG := Lib.hid hgood
  have HGL := Lib.hid hhl
  have HH2 := Lib.hid (HHL.out.grow hb2)
  have HB2 := Lib.hid (HB1.out.trans (hb2.mono HB1.out.size))
  have HK2 := Lib.hid (HK1.out.below hb2 HK1.out.lt)
  clear hsb hgood hhl hb2 CH
  obtain ⟨mg, hmg⟩ : ∃ m, m = gs.length := ⟨_, rfl⟩
  rw [← hmg]
  have HMG := Lib.hid hmg
  clear hmg
  go_wp2_with (refine wpList_get_box (x := .tmp 3) (cs := fC b) HK2.out rfl rfl rfl hub rfl fbC_size ?_)
  refine calls_then (CC.out w2 HB2.out) ?_
  rintro e w3 ⟨A3, c3, rfl, hb3, hr3, _⟩
  obtain ⟨b2, hb2e⟩ : ∃ b2 : FD, b2 = ⟨b.d.take 30, b.n, A3, c3, cutL b.k⟩ := ⟨_, rfl⟩
  have HSM := Lib.hid (show Small b2 by rw [hb2e]; exact ⟨by simp; omega, cutL_len b.k, cutL_small b.k⟩)
  have HR3 := Lib.hid (show Rd w3 w3.heap.size b2.A (rowsV kCell b2.k) by rw [hb2e]; exact hr3)
  have HB3 := Lib.hid (HB2.out.trans (hb3.mono HB2.out.size))
  have HH3 := Lib.hid (HH2.out.grow hb3)
  have HG3 := Lib.hid (HGL.out.grow hb3)
  have HBA := Lib.hid (show Value.agg (bC (b.d.take 30) b.n A3 (cutL b.k).length c3) = .agg (fC b2) by rw [hb2e]; rfl)
  rw [HBA.out]
  clear hb3 hr3 hb2e hAV CC
  have CFH := Lib.hid (fhold_any b2 hs A1 c1 w3.heap.size w3 HH3.out HR3.out (Nat.le_refl _) (by have := HGD.out.len; omega) HGD.out.ord (by have := HSM.out.1; omega) (by have := HSM.out.2.1; omega) (fun x hx => by have := (HGD.out.small x hx).2.1; omega) (fun k hk => by have := HSM.out.2.2 k hk; omega) (HTG.out _ HB3.out))
  have HGH := Lib.hid (HGD.out.hold HSM.out)
  rw [← HM.out] at CFH
  go_wp2_with fail
  refine calls_then CFH.out ?_
  rintro e w4 ⟨A4, c4, ys, rfl, hys, ho4, hb4⟩
  have HWL := Lib.hid ho4.wl
  have HYK := Lib.hid (show ∀ y ∈ ys, y.k.length ≤ 9 from fun y hy => (small_map hys HGH.out.small y hy).2.1)
  have HYL := Lib.hid (show ys.length ≤ 3 by rw [len_same hys]; exact HGH.out.len)
  have HB4 := Lib.hid hb4
  clear hys ho4 hb4 CFH
  obtain ⟨ny, hny⟩ : ∃ n, n = ys.length := ⟨_, rfl⟩
  have HNY := Lib.hid hny
  have hnl : (ny : Int) ≤ 3 := by have := HYL.out; omega
  rw [← hny]
  clear hny
  go_wp2_with fail
  go_loopw [9] (fun x wr => ∃ (i : Nat) (zs : List FD), i ≤ ny ∧ x = .int .i64 (i : Int) ∧ zs.length = ny ∧ (∀ z ∈ zs, z.k.length ≤ 9) ∧ WL wr w3.heap.size A4 c4 zs ∧ Below w3.heap.size w3 wr) (fun x _ => ny - (intOf x).toNat)
  case atStart => exact ⟨0, ys, Nat.zero_le _, rfl, HNY.out.symm, HYK.out, HWL.out, HB4.out⟩
  case round =>
    obtain ⟨i, zs, hi, rfl, hzl, hzk, hwl, hbw⟩ := hrel
    have HZL := Lib.hid hzl
    have HZK := Lib.hid hzk
    have HW := Lib.hid hwl
    have HBW := Lib.hid hbw
    clear hzl hzk hwl hbw
    by_cases hlt : i < ny
    · have hiz : i < zs.length := by rw [HZL.out]; exact hlt
      have hlt' : (i : Int) < (ny : Int) := by omega
      have hi0 : (0 : Int) ≤ (i : Int) := by omega
      have hown := HW.out.row
      obtain ⟨ad, cur, hA, hbase, hblt, hblk, hoff, hput⟩ := ownR_ad (f := fC) (m := 3) (fun _ => rfl) hown hiz (j := 1) (by decide)
      have HAD := Lib.hid hA
      have HAE := Lib.hid (show A4 = some ad from hA)
      subst hA
      obtain ⟨X, hX⟩ : ∃ X, X = zs[i] := ⟨_, rfl⟩
      have HXK := Lib.hid (show X.k.length ≤ 9 from HZK.out X (by rw [hX]; exact List.getElem_mem hiz))
      obtain ⟨Y, hY⟩ : ∃ Y : FD, Y = ⟨X.d, -1, X.A, X.c, X.k⟩ := ⟨_, rfl⟩
      have HBLK := Lib.hid hblk
      have HOFF := Lib.hid hoff
      have HN1 := Lib.hid (show ∀ u, Blk u (ad.add (i * 3)).block 25 (cur.setIfInBounds ((ad.add (i * 3)).off + 1) (.int .i64 (-1))) → Wrote (ad.add (i * 3)).block wr u → WL u w3.heap.size (some ad) c4 (zs.set i Y) ∧ Below w3.heap.size w3 u from fun u hb hw =>
        ⟨HW.out.num hiz hblk hw (by rw [hY, hX]) (by rw [hY, hX]) (hput _ _ _ (by rw [hY, hX]; rfl) hb), hw.below HBW.out hbase HBW.out.size⟩)
      have HLT := Lib.hid hlt
      have HY1 := Lib.hid (show (zs.set i Y).length = ny ∧ (∀ z ∈ zs.set i Y, z.k.length ≤ 9) ∧ (∃ h : i < (zs.set i Y).length, (zs.set i Y)[i] = Y) ∧ Y.k.length ≤ 9 from ⟨by rw [List.length_set]; exact HZL.out, fun z hz => by
        rcases List.mem_or_eq_of_mem_set hz with hz | rfl
        · exact HZK.out z hz
        · rw [hY]; exact HXK.out, ⟨by rw [List.length_set]; exact hiz, by simp⟩, by rw [hY]; exact HXK.out⟩)
      clear hX hY hput hblk hoff hbase hblt hown hiz hlt
      go_upto_region 8 with (refine wpList_put_cell HBLK.out rfl rfl rfl rfl (by kernel_rfl) HOFF.out rfl ?_; intro w5 hb5 hw5)
      obtain ⟨hwl5, hbw5⟩ := HN1.out _ hb5 hw5
      have HW5 := Lib.hid hwl5
      have HB5 := Lib.hid hbw5
      obtain ⟨xs, hxs⟩ : ∃ xs, xs = zs.set i Y := ⟨_, rfl⟩
      rw [← hxs] at HW5 HY1
      clear hb5 hw5 hwl5 hbw5 hxs HN1 HBLK HOFF HW
      obtain ⟨q, hq⟩ : ∃ q, q = Y.k.length := ⟨_, rfl⟩
      have HQ := Lib.hid hq
      have hq9 : (q : Int) ≤ 9 := by have := HY1.out.2.2.2; omega
      clear hq
      go_wp2_with fail
      go_loopw [10] (fun x wq => ∃ j : Nat, j ≤ q ∧ x = .int .i64 (j : Int) ∧ WL wq w3.heap.size (some ad) c4 xs ∧ Below w3.heap.size w3 wq) (fun x _ => q - (intOf x).toNat)
      case atStart => exact ⟨0, Nat.zero_le _, rfl, HW5.out, HB5.out⟩
      case round =>
        obtain ⟨j, hj, rfl, hwl, hbw⟩ := hrel
        have HWJ := Lib.hid hwl
        have HBJ := Lib.hid hbw
        obtain ⟨hi2, hxi⟩ := HY1.out.2.2.1
        obtain ⟨ad', hA', -, hcell⟩ := rd_rows (f := fC) (m := 3) (fun _ => rfl) (by decide) (Rd.of_own (B := wr.heap.size) hwl.row.x (Nat.le_refl _)) hi2
        injection hA' with hA'
        subst hA'
        rw [hxi] at hcell
        have d2 : wr.cell? ⟨(ad.add (i * 3)).block, (ad.add (i * 3)).off + 2, none⟩ = some (.slice Y.A q Y.c) := by
          rw [HQ.out]
          exact hcell 2 _ rfl
        by_cases hjq : j < q
        · have hjq' : (j : Int) < (q : Int) := by omega
          have hj0 : (0 : Int) ≤ (j : Int) := by omega
          rcases hwl.keys Y (by rw [← hxi]; exact List.getElem_mem hi2) with h0 | ⟨g, cap, cur2, hYA, hKg, hkb, hks, hkc⟩
          · rw [h0] at HQ
            have := HQ.out
            simp at this
            omega
          · obtain ⟨ad2, hA2⟩ : ∃ ad2 : Addr, ad2 = ⟨g, 0, none⟩ := ⟨_, rfl⟩
            have hadd : ad2.add (j * 2) = ⟨g, j * 2, none⟩ := by rw [hA2, add0]
            have HKB := Lib.hid (show Blk wr (ad2.add (j * 2)).block 39 cur2 by rw [hadd]; exact hkb)
            have HKO := Lib.hid (show (ad2.add (j * 2)).off < cur2.size by
              rw [hadd, hks]
              show j * 2 < cap * 2
              have := HQ.out
              omega)
            rw [hYA, ← hA2] at d2
            have HSP := Lib.hid (show ad2.add (j * 2) = ⟨(ad2.add (j * 2)).block, (ad2.add (j * 2)).off, none⟩ by rw [hadd])
            have HFN := Lib.hid (show ∀ u, Blk u (ad2.add (j * 2)).block 39 (cur2.setIfInBounds (ad2.add (j * 2)).off (.string ⟨#[120]⟩)) → Wrote (ad2.add (j * 2)).block wr u → WL u w3.heap.size (some ad) c4 xs ∧ Below w3.heap.size w3 u from fun u hb hw =>
              ⟨HWJ.out.key HKB.out hw hb, hw.below HBJ.out (by rw [hadd]; exact hKg) HBJ.out.size⟩)
            have HJQ := Lib.hid hjq
            clear hwl hbw hcell hxi hi2 hadd hkb hks hkc hKg hjq hYA hA2
            go_wp2_with (refine wpList_put_cell (i := (ad2.add (j * 2)).off) HKB.out rfl rfl (by first | rfl | exact congrArg (fun p => Value.pointer (some p)) HSP.out) rfl (by kernel_rfl) HKO.out rfl ?_; intro w6 hb6 hw6)
            obtain ⟨hwl6, hbw6⟩ := HFN.out _ hb6 hw6
            have HW6 := Lib.hid hwl6
            have HB6 := Lib.hid hbw6
            clear hb6 hw6 hwl6 hbw6
            go_roundw
            case rel => exact ⟨j + 1, HJQ.out, by go_num, HW6.out, HB6.out⟩
            case measure => have := HJQ.out; simp [intOf]; omega
        · obtain rfl : j = q := by omega
          clear hwl hbw hcell hxi hi2 hjq
          go_wp2_with fail
          go_roundw
          case rel => exact ⟨i + 1, xs, HLT.out, by go_num, HY1.out.1, HY1.out.2.1, HWJ.out, HBJ.out⟩
          case measure => have := HLT.out; simp [intOf]; omega
    · obtain rfl : i = ny := by omega
      have HSA := Lib.hid (show ∀ u, Below w3.heap.size w3 u → Calls Tryz.prog 9 #[.slice A1 m c1, .slice A2 mg c2] u fun e w' => e = .returned (.bool true) ∧ Below u.heap.size u w' from fun u hu => by
        have h := same23_any hs gs A1 A2 c1 c2 w3.heap.size u (HH3.out.below hu) (HG3.out.below hu) hu.size (by have := HGD.out.len; omega) (by have := HGG.out.len; omega) (fun x hx => by have := (HGD.out.small x hx).2.1; omega) (fun x hx => by have := (HGG.out.small x hx).2.1; omega)
        rw [decide_eq_true HGB.out, ← HM.out, ← HMG.out] at h
        exact h)
      clear hlt
      go_wp2_with fail
      refine calls_then (HSA.out _ HBW.out) ?_
      rintro e w6 ⟨rfl, hb6⟩
      have HB6 := Lib.hid (HBW.out.trans (hb6.mono HBW.out.size))
      clear hb6
      go_wp2_with fail
      refine calls_then (HLV.out _) ?_
      rintro e w7 ⟨rfl, hb7⟩
      have HB7 := Lib.hid (HB3.out.trans ((HB6.out.trans (hb7.mono HB6.out.size)).mono HB3.out.size))
      clear hb7
      go_wp2_with fail
      go_ret
      exact ⟨rfl, HB7.out⟩
end Go.Proofs.YtoihgnkhalhocaaGreatDoor.Js
namespace Go.Proofs.YtoihgnkhalhocaaGreatDoor.fedOwns
set_option linter.unusedSimpArgs false
set_option linter.unusedVariables false
open Go.ChangeShapes Go.WideShapes Go.ChangeAt Go.RowKit Go.Joins Sh Js

set_option maxRecDepth 100000 in
theorem lifted (os : Os) (started : os.Started) (H : Type) (enc : TypeId × Value → H) :
    ReturnsInHanded {} Tryz.checked os 4 .any (fun w args => (Rows.fedOwnsSpec.pre enc Tryz.prog Tryz.f4 [] false w args ∧ laidMetH Tryz.prog laidL3 w) ∧ sizedMet enc Tryz.prog Tryz.f4 (OpenSpec.ofChange Rows.fedOwnsSpec) false w args)
      (Rows.fedOwnsSpec.post enc Tryz.prog Tryz.f4 false true false false) := by
  refine returnsInHanded_of_change_and (C := Tryz.checked) (X := fun w _ => laidMetH Tryz.prog laidL3 w) (fun _ _ _ hh h => h.of_heap hh) own started (by kernel_rfl) Tryz.func4
    (ChangeSpec.witness_shaped (enc := enc) (C := Tryz.checked) (os := os) (X := fun w _ => laidMetH Tryz.prog laidL3 w) false (World.laidAll Tryz.prog os laidL3) #[.slice none 0 0, .agg #[.string ⟨#[]⟩, .int .i64 0, .slice none 0 0]] 8 (World.laidAll_os _ _ _) (World.shaped_of_ZipB (by kernel_rfl) (by kernel_rfl)) (by kernel_rfl) (by kernel_rfl) (by kernel_rfl) (door_met3 os _)) ?_
  intro W base args ds gs before hval0 hW _ _ hL _
  have hval : ∀ (j : Nat) t v, Tryz.f4.params[j]? = some t → args[j]? = some v → Value.okWide Tryz.prog W .any base t v := hval0
  have hW' := hW
  obtain ⟨p, q, hA0, hV, rfl, hfz, hnd⟩ := hW
  have hA : DataW.TrodAll enc Tryz.prog W 0 (fun _ => true) true Tryz.f4.params.toList args.toList ds p := hA0
  rw [Tryz.params4] at hA hval
  have hG := tab_of_laid3 hL
  obtain ⟨v0, v1, y0, y1, p0, p1, rfl, rfl, rfl, h0, h1⟩ := trodAll_two hA
  obtain ⟨rfl, rfl⟩ := trodVars_none hV
  have h0k := h0
  have h1k := h1
  obtain ⟨A, c, l, rfl, hr, hlen, hfit⟩ := open_buns_arg (hval 0 22 v0 rfl rfl) h0
  obtain ⟨D, num, ks, A2, c2, rfl, hr2, hfit2, hD2⟩ := open_bundle_arg (hval 1 25 v1 rfl rfl) h1
  clear hA0 hval0
  try simp only [List.append_nil, List.nil_append] at hW'
  have hc := fedOwns_any l ⟨D, num, A2, c2, ks⟩ A c W hr hr2 (by unfold maxLen at hlen; omega) (fun x hx => by have := (hfit x hx).1.1; unfold maxLen at this; omega) (by have := hfit2.1; unfold maxLen at this; show (ks.length : Int) ≤ _; omega) hG
  refine (show Calls _ _ #[.slice A l.length c, .agg #[.string (bs D), .int .i64 num, .slice A2 ks.length c2]] W _ from hc).mono fun e W' ⟨he, hb⟩ => ?_
  subst he
  have hlt : ∀ x ∈ (p0 ++ p1 : List MemPlace), x.block < W.heap.size := fun x hx => hW'.lt x (by first | (simp at hx; done) | simpa using hx)
  exact ⟨_, rfl, post_of_below (pa := p0 ++ p1) (pv := []) (by simpa using hW') (fun _ _ _ => trodAll_mk1 (shut_bool Tryz.underlying4 _))
    (fun sp hsp => by
      have h := trodAll_mk2 (stays laidOut (by kernel_rfl) (of_decide_eq_true (by kernel_rfl)) h0k hb (fun x hx => hlt x (by simp [hx])) (fun x hx => hsp x (by simp [hx])))
        (stays laidOut (by kernel_rfl) (of_decide_eq_true (by kernel_rfl)) h1k hb (fun x hx => hlt x (by simp [hx])) (fun x hx => hsp x (by simp [hx])))
      try simp only [List.append_nil] at h
      exact h)
    (fun _ _ => by rfl) (by simp) hb (ok_one (by kernel_rfl) rfl (okWide_bool_mk Tryz.underlying4 _))⟩

theorem row_holds : Rows.FedOwnsSaid :=
  OpenClaim.holds_of_wide 4 Tryz.f4 rfl rfl rfl rfl rfl rfl rfl ⟨rfl, rfl, rfl, rfl, rfl⟩ rfl rfl rfl rfl rfl (by kernel_rfl) Tryz.func4 (by kernel_rfl)
    (of_decide_eq_true (by kernel_rfl)) (by unfold Func.isWrapper; first | (rw [if_pos (by decide +kernel)]; kernel_rfl) | (rw [if_neg (by decide +kernel)]; exact ⟨rfl, rfl⟩))
    (fun os started H enc _ => lifted os started H enc)

theorem holds : Rows.FedOwnsCardSaid :=
  Claim7.holds_tied_plain_at .later [] [.data, .data, .pinned] true (true, "8b861fe5ebc826a81b8bd184bdb3eae60495d583403ec6ad09d182f9c633ce99") false
    row_holds (fun _ h => by cases h) (by kernel_rfl) (fun _ h => by cases h) fedOwns_row_tie rfl ⟨rfl, rfl⟩ (by kernel_rfl) rfl
    (fun f fn hf hfn => by
      obtain rfl : f = 4 := Option.some.inj ((show Tryz.prog.funcNamed "brevet/brevetlaw23.FedOwns" = some 4 by kernel_rfl).symm.trans hf) |>.symm
      obtain rfl : fn = Tryz.f4 := (Option.some.inj (Tryz.func4.symm.trans hfn)).symm
      exact ⟨by kernel_rfl, fun j t ht => by
        rw [Tryz.params4] at ht
        have hm : t ∈ [22, 25] := by simpa using Array.mem_of_getElem? ht
        have hall : ([22, 25].all fun u => !Tryz.prog.wantsStandIn u) = true := by kernel_rfl
        exact (show Tryz.prog.wantsStandIn t = false by simpa using List.all_eq_true.1 hall t hm)⟩)
    (by kernel_rfl)
#print axioms holds
end Go.Proofs.YtoihgnkhalhocaaGreatDoor.fedOwns
