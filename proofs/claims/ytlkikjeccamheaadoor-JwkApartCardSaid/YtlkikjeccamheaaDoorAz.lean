/-
  PROVED: 'brevetlaw11.JwkApart': two bundles that may be have one text just if they are the same. The listed variables are tied to the program's text by the card.
-/
import Derived.Laws.StructEq
import Derived.Deep.Slices
import Derived.Test.YtlkikjeccamheaaDoorCards
import Derived.Test.YtlkikjeccamheaaDoorTie
import Derived.SevenTiedAt
import Derived.Lay
import Derived.ProofKit
import Derived.OpenShut
import Derived.Test.YtlkikjeccamheaaDoorA6
import Derived.Test.YtlkikjeccamheaaDoorA2
import Derived.Test.YtlkikjeccamheaaDoorA1
/-
  Walk: jwk.Write, at any bundle.
-/
namespace Go.Proofs.YtlkikjeccamheaaDoor.Js
set_option linter.unusedSimpArgs false
set_option linter.unusedVariables false
open Go.RowKit
theorem grown_of_below4 {w w1 : World} (h : Below w.heap.size w w1) (r : Option Nat) : w.grownBy w1 r := ⟨h.os, h.tape, h.output, h.size, fun k hk _ => h.block k hk⟩
def KQ (K : Nat) (V : Value) (b : Nat) : Prop := K + 1 ≤ b ∧ V.ownBlock ≠ some b
structure Kb (w0 : World) (L K : Nat) (T : JV) (A2 : Option Addr) (c2 : Nat) (ks : List JT) (u : World) : Prop where
  low : Below L w0 u
  hL : L ≤ K
  tree : Blk u K 45 (jvCells T)
  kids : ∃ kv : List JV, kv.length = ks.length ∧ OwnR u (K + 1) 45 5 A2 c2 ks.length (rowsV jvCells kv) ∧
    ∀ i (h : i < ks.length) (h' : i < kv.length), JRep u (KQ K (.slice A2 ks.length c2)) ks[i] kv[i]
section
variable {w0 : World} {L K : Nat} {T : JV} {A2 : Option Addr} {c2 : Nat} {ks : List JT} {u u' : World}
theorem Kb.size (h : Kb w0 L K T A2 c2 ks u) : K + 1 ≤ u.heap.size := h.tree.lt
theorem Kb.new (h : Kb w0 L K T A2 c2 ks u) (hb : Below u.heap.size u u') : Kb w0 L K T A2 c2 ks u' := by
  obtain ⟨kv, h1, h2, h3⟩ := h.kids
  have := h.size
  have := h.hL
  exact ⟨h.low.trans (hb.mono (by omega)), h.hL, h.tree.below hb h.tree.lt, kv, h1, h2.below hb, fun i hi hi' => (h3 i hi hi').heap fun b hlt _ => hb.block b hlt⟩
theorem Kb.put {T' : JV} (h : Kb w0 L K T A2 c2 ks u) (hw : Wrote K u u') (ht : Blk u' K 45 (jvCells T')) : Kb w0 L K T' A2 c2 ks u' := by
  obtain ⟨kv, h1, h2, h3⟩ := h.kids
  have hk : ∀ b, b < u.heap.size → K + 1 ≤ b → u'.heap[b]? = u.heap[b]? := fun b hb hl => hw.grown.block b hb (by intro h; injection h with h; omega)
  have hlt : ∀ {k cs t}, u.heap[k]? = some (.cells cs t (0, 0)) → k < u.heap.size := fun hq => (Array.getElem?_eq_some_iff.1 hq).1
  exact ⟨hw.below h.low h.hL (by have := h.size; have := h.hL; omega), h.hL, ht, kv, h1, h2.heap fun k cs hq hl => (hk k (hlt hq) hl).trans hq, fun i hi hi' => (h3 i hi hi').heap fun b hb hs => hk b hb hs.1⟩
theorem Kb.kid {k : JT} {v : JV} {A' : Option Addr} {c' : Nat} (h : Kb w0 L K T A2 c2 ks u) (hv : JRep u (KQ K (.slice A2 ks.length c2)) k v)
    {kv : List JV} (h1 : kv.length = ks.length) (h2 : OwnR u (K + 1) 45 5 A2 c2 ks.length (rowsV jvCells kv)) (h3 : ∀ i (h : i < ks.length) (h' : i < kv.length), JRep u (KQ K (.slice A2 ks.length c2)) ks[i] kv[i])
    (ho : OwnR u' (K + 1) 45 5 A' c' (ks.length + 1) (rowsV jvCells kv ++ (jvCells v).toList)) (hg : u.grownBy u' (Value.slice A2 ks.length c2).ownBlock)
    (hn : Next u (.slice A2 ks.length c2) (.slice A' (ks.length + 1) c')) : Kb w0 L K T A' c' (ks ++ [k]) u' := by
  have hs := h.size
  have hl := h.hL
  have hS : ∀ b, b < u.heap.size → KQ K (.slice A2 ks.length c2) b → KQ K (.slice A2 ks.length c2) b ∧ KQ K (.slice A' (ks ++ [k]).length c') b := fun b hb hs => ⟨hs, hs.1, fun he => by
      rw [List.length_append] at he
      rcases hn with hn | hn
      · exact hs.2 (hn.symm.trans he)
      · have := hn b he
        omega⟩
  have hstep : ∀ j x, JRep u (KQ K (.slice A2 ks.length c2)) j x → JRep u' (KQ K (.slice A' (ks ++ [k]).length c')) j x := fun j x hj =>
    ((hj.imp hS).grown hg (fun b hb he => hb.1.2 he.symm)).imp fun b _ hs => hs.2
  refine ⟨h.low.grown hg (by omega) (fun k hk => by have := (h2.lt k hk).1; omega), h.hL, h.tree.grown hg (fun he => by have := (h2.lt K he.symm).1; omega), kv ++ [v], by simp [h1], by rw [rowsV_append, rowsV_one, List.length_append]; exact ho, fun i hi hi' => ?_⟩
  by_cases hl : i < ks.length
  · rw [List.getElem_append_left hl, List.getElem_append_left (by omega)]
    exact hstep _ _ (h3 i hl (by omega))
  · have e1 : i = ks.length := by simp at hi; omega
    subst e1
    rw [List.getElem_append_right (Nat.le_refl _), List.getElem_append_right (by omega)]
    simp only [Nat.sub_self, h1, List.getElem_cons_zero]
    exact hstep _ _ hv
theorem Kb.rep (h : Kb w0 L K T A2 c2 ks u) : JRep u (fun b => K + 1 ≤ b) (.mk 4 0 [] [] ks) ⟨4, 0, [], none, 0, 0, A2, ks.length, c2⟩ := by
  obtain ⟨kv, h1, h2, h3⟩ := h.kids
  exact .mk ⟨4, 0, [], none, 0, 0, A2, ks.length, c2⟩ [] ks kv rfl (Nat.le_refl _) (RdS.nil _ _ _) rfl h2.cap h1 (ownR_rds2 h2)
    (fun i hi hi' => (h3 i hi hi').imp fun b _ hs => hs.1)
end
def kidsV (A2 : Option Addr) (n c2 : Nat) : JV := ⟨4, 0, [], none, 0, 0, A2, n, c2⟩
theorem sl_jsons4 : SlT Tryd.prog 43 45 5 80 := SlT.mk1 (z := .agg #[.int .i64 0, .int .i64 0, .string ⟨#[]⟩, .slice none 0 0, .slice none 0 0]) Tryd.underlying43 (by kernel_rfl) rfl (by decide)
def wrB (D : Bs) (num : Int) (ks : List (Bs × Bs)) : Bs × Int := if mayB D num ks then (writeV (bundleJ ⟨D, num, ks⟩), 0) else ([], 1)
set_option maxRecDepth 100000 in
set_option maxHeartbeats 8000000 in
theorem jwkwrite_any (D : Bs) (num : Int) (ks : List (Bs × Bs)) (A : Option Addr) (c B : Nat) (w : World) (hr : Rd w B A (rowsV kCell ks)) (hB : B ≤ w.heap.size) (hD : ((bs D).size : Int) ≤ 100000000) (hl : (ks.length : Int) ≤ 9223372036854775807)
    (hk : ∀ k ∈ ks, (k.2.length : Int) ≤ 9223372036854775807) (hG : Sh.TabG w) :
    Calls Tryd.prog 10 #[.agg (bC D num A ks.length c)] w fun e w' => e = .returned (.tuple #[.string (bs (wrB D num ks).1), .int .i64 (wrB D num ks).2]) ∧ Below w.heap.size w w' := by
  have hu := Tryd.underlying45
  have hub := Tryd.underlying28
  have huj := Tryd.underlying37
  obtain ⟨W0, hW0⟩ : ∃ W0, W0 = w.alloc (.cells (bC D num A ks.length c) 28) := ⟨_, rfl⟩
  have hb0 : Below w.heap.size w W0 := by rw [hW0]; exact (Below.refl _ w).alloc (Nat.le_refl _) _
  have HB0 := Lib.hid hb0
  have HK := Lib.hid (show Blk W0 w.heap.size 28 (bC D num A ks.length c) by rw [hW0]; exact Blk.new _ _ _)
  have HS0 := Lib.hid (show W0.heap.size = w.heap.size + 1 by rw [hW0]; simp)
  have HW0 := Lib.hid hW0
  have C := Lib.hid (may_any D num ks A c B W0 (hr.below (hb0.mono hB)) (Nat.le_trans hB hb0.size) hD hl hk (hG.below hb0 hG.size))
  have HR := Lib.hid (hr.below (hb0.mono hB))
  have HBB := Lib.hid hB
  have HMB := Lib.hid (fun (h : mayB D num ks = true) => mayB_parts (b := ⟨D, num, ks⟩) h)
  have HWR := Lib.hid (show wrB D num ks = if mayB D num ks then (writeV (bundleJ ⟨D, num, ks⟩), 0) else ([], 1) from rfl)
  obtain ⟨m, hm⟩ : ∃ m, m = mayB D num ks := ⟨_, rfl⟩
  obtain ⟨R, hR⟩ : ∃ R, R = wrB D num ks := ⟨_, rfl⟩
  rw [← hm] at C HMB HWR
  rw [← hR] at HWR ⊢
  obtain ⟨n, hn⟩ : ∃ n, n = ks.length := ⟨_, rfl⟩
  rw [← hn] at hl C HK HW0 ⊢
  have HN := Lib.hid hn
  clear hW0 hb0 hr hB hD hk hG hm hR hn
  go_enter Tryd.func10, Tryd.ntmps10
  go_upto_region 1 with (fail)
  rw [show w.alloc (.cells (bC D num A n c) 28) = W0 from HW0.out.symm]
  generalize hAV : Value.agg (bC D num A n c) = AV
  rw [hAV] at C
  go_wp2_with (refine wpList_get_box (x := .tmp 1) (cs := bC D num A n c) HK.out rfl rfl rfl hub rfl jb_size ?_)
  refine calls_then C.out ?_
  rintro e u1 ⟨rfl, hb1⟩
  have HK1 := Lib.hid (HK.out.below hb1 HK.out.lt)
  have HB1 := Lib.hid hb1
  clear hb1 hAV C
  cases m with
  | false =>
    have HRE := Lib.hid (show R = ([], 1) from HWR.out)
    go_wp2_with fail
    go_ret2
    exact ⟨by rw [HRE.out]; rfl, HB0.out.trans (HB1.out.mono HB0.out.size)⟩
  | true =>
    obtain ⟨hpb, hkx⟩ := HMB.out rfl
    have HPB := Lib.hid hpb
    have HKX := Lib.hid hkx
    have HRE := Lib.hid (show R = (writeV (bundleJ ⟨D, num, ks⟩), 0) from HWR.out)
    have hn8 : (n : Int) ≤ 8 := by have h8 : ks.length ≤ 8 := hpb.kn; have := HN.out; omega
    clear hpb hkx hl HMB HWR
    go_upto_region 4 with (first | (refine wpList_put_box (cells := jvCells (flatV 4 0 [])) (Blk.new _ _ _) rfl rfl rfl rfl jT_size4 rfl (jvCells_one _) ?_; intro w9 hb9 hw9))
    obtain ⟨K, hK⟩ : ∃ K, K = u1.heap.size := ⟨_, rfl⟩
    rw [← hK] at hb9 hw9 ⊢
    have hKb : Kb W0 (w.heap.size + 1) K (kidsV none 0 0) none 0 [] w9 :=
      ⟨HS0.out ▸ HB1.out.trans ((box_low9 (hK ▸ hw9)).mono (Nat.le_trans HB1.out.size (Nat.le_refl _))), by rw [hK, ← HS0.out]; exact HB1.out.size, hb9, [], rfl, OwnR.nil _ _ _ _, fun i h _ => by simp at h⟩
    have HKB := Lib.hid hKb
    have HLK := Lib.hid (show w.heap.size < K by rw [hK]; exact HK1.out.lt)
    have HKL := Lib.hid (fun (u : World) (h : Below (w.heap.size + 1) W0 u) => show Blk u w.heap.size 28 (bC D num A n c) from HK.out.below h (Nat.lt_succ_self _))
    have b2 : w9.cell? ⟨w.heap.size, 2, none⟩ = some (.slice A n c) := (HKL.out _ hKb.low).cell 2
    clear hb9 hw9 hK hKb
    go_wp2_with fail
    go_loopw [14] (fun x wr => ∃ (i : Nat) (A2 : Option Addr) (c2 : Nat), i ≤ n ∧ x = .int .i64 (i : Int) ∧ Kb W0 (w.heap.size + 1) K (kidsV A2 ((ks.take i).map keyJ).length c2) A2 c2 ((ks.take i).map keyJ) wr) (fun x _ => n - (intOf x).toNat)
    case atStart => exact ⟨0, none, 0, Nat.zero_le _, rfl, HKB.out⟩
    case round =>
      obtain ⟨i, A2, c2, hi, rfl, hkb⟩ := hrel
      have HKI := Lib.hid hkb
      by_cases hlt : i < n
      · have hil : i < ks.length := by rw [← HN.out]; exact hlt
        have hlt' : (i : Int) < (n : Int) := by omega
        obtain ⟨ad, hA, hadb, hcell⟩ := rd_rows (f := kCell) (m := 2) (fun _ => rfl) (by decide) (HR.out.below (hkb.low.mono (Nat.le_succ_of_le HBB.out))) hil
        subst hA
        obtain ⟨X, hX⟩ : ∃ X, X = ks[i] := ⟨_, rfl⟩
        rw [← hX] at hcell
        have HCL := Lib.hid (show ∀ j u, (kCell X).toList[j]? = some u → wr.cell? ((ad.add (i * 2)).add j) = some u from fun j u hu => hcell j u (by simpa using hu))
        have HX3 := Lib.hid (show X.2.length = 32 from (HKX.out X (by rw [hX]; exact List.getElem_mem hil)).1)
        have HLT := Lib.hid hlt
        have HXS := Lib.hid (show (ks.take (i + 1)).map keyJ = (ks.take i).map keyJ ++ [keyJ X] by rw [List.take_succ_eq_append_getElem hil, List.map_append, hX]; rfl)
        have HJL := Lib.hid (show ((ks.take i).map keyJ).length ≤ 8 by simp; omega)
        obtain ⟨J, hJ⟩ : ∃ J, J = (ks.take i).map keyJ := ⟨_, rfl⟩
        rw [← hJ] at HKI HXS HJL
        clear hkb hX hcell hadb hil hlt hJ
        go_upto_region 7 with (first
          | refine wpList_get_rd (r := (kCell X).toList) HCL.out rfl rfl rfl huj rfl jk_size ?_
          | (refine wpList_put_box (cells := kCell X) (Blk.new _ _ _) rfl rfl rfl rfl jk_size rfl (kCell_one X) ?_; intro w5 hb5 hw5))
        have hbw5 : Below wr.heap.size wr w5 := box_low9 hw5
        obtain ⟨H, hH⟩ : ∃ H, H = wr.heap.size := ⟨_, rfl⟩
        rw [← hH] at hb5 ⊢
        have HNE := Lib.hid (show ∀ k, (Value.slice A2 J.length c2).ownBlock = some k → K + 1 ≤ k ∧ k ≠ H from fun k hk => by
          obtain ⟨kv, _, h2, _⟩ := HKI.out.kids
          have := h2.lt k hk
          exact ⟨this.1, by omega⟩)
        have HKH := Lib.hid (show K + 1 ≤ H by rw [hH]; exact HKI.out.size)
        have HK5 := Lib.hid (HKI.out.new hbw5)
        have HX5 := Lib.hid hb5
        have CK := Lib.hid (fun (u : World) => key_any X.1 X.2 HX3.out u)
        clear hbw5 hw5 hb5 hH
        go_wp2_with fail
        have HI0 : w5.drew.cell? ⟨K, 4, none⟩ = some (.slice A2 J.length c2) ∧ Blk w5.drew H 37 (kCell X) := ⟨HK5.out.tree.cell 4, HX5.out⟩
        have HJ0 : Kb W0 (w.heap.size + 1) K (kidsV A2 J.length c2) A2 c2 J w5.drew := HK5.out.new (Below.refl _ _).drew
        refine wp_region_list (fun _ => True) (fun | false => (fun u => u.cell? ⟨K, 4, none⟩ = some (.slice A2 J.length c2) ∧ Blk u H 37 (kCell X)) | true => (fun u => Kb W0 (w.heap.size + 1) K (kidsV A2 J.length c2) A2 c2 J u)) (fun | false, i => i == 7 | true, i => i == 5 || i == 7)
          [fun z _ => z 0 = .pointer (some ⟨K, 4, none⟩),
           fun z _ => z 1 = .slice A2 J.length c2,
           fun z _ => z 2 = .agg (kCell X),
           fun z u => ∃ v, z 3 = .agg (jvCells v) ∧ JRep u (KQ K (.slice A2 J.length c2)) (keyJ X) v,
           fun z u => ∃ (v : JV) (ad : Nat), z 4 = .slice (some ⟨ad, 0, none⟩) 1 1 ∧ Blk u ad 45 (jvCells v) ∧ JRep u (KQ K (.slice A2 J.length c2)) (keyJ X) v,
           fun z u => ∃ (A' : Option Addr) (c' : Nat), z 5 = .slice A' (J.length + 1) c' ∧ Kb W0 (w.heap.size + 1) K (kidsV A2 J.length c2) A' c' (J ++ [keyJ X]) u,
           fun z _ => z 6 = .pointer (some ⟨K, 4, none⟩),
           fun z u => ∃ (A' : Option Addr) (c' : Nat), Kb W0 (w.heap.size + 1) K (kidsV A' (J ++ [keyJ X]).length c') A' c' (J ++ [keyJ X]) u]
          [Eq, Eq, Eq, fun u u' => Below u.heap.size u u', fun u u' => Below u.heap.size u u', fun u u' => ∃ g : Option Nat, u.grownBy u' g ∧ ∀ k, g = some k → K + 1 ≤ k ∧ k ≠ H, Eq, fun _ _ => True]
          (fun i k => (i == 4 && k == 3) || (i == 5 && k == 3) || (i == 5 && k == 4) || (i == 7 && k == 3) || (i == 7 && k == 4) || (i == 7 && k == 5)) [(0, some 18), (1, some 19), (2, some 20), (3, some 21), (4, some 22), (5, some 23), (6, some 24), (7, none)] (by kernel_rfl) (by kernel_rfl) rfl (fun _ => rfl) ?_ ?_ ?_ ?_ ?_ ?_
        · exact (by first | trivial | assumption)
        · intro m; cases m; exact HI0; exact HJ0
        · intro m; cases m
          · exact ⟨.inr (fun _ _ h h0 => h ▸ h0), .inr (fun _ _ h h0 => h ▸ h0), .inr (fun _ _ h h0 => h ▸ h0), .inr (fun _ _ h h0 => ⟨(grown_of_below4 h none).cell h0.1 (by simp), h0.2.below h h0.2.lt⟩), .inr (fun _ _ h h0 => ⟨(grown_of_below4 h none).cell h0.1 (by simp), h0.2.below h h0.2.lt⟩), .inr (fun _ _ h h0 => by obtain ⟨g, hg, hk⟩ := h; exact ⟨hg.cell h0.1 (by intro e; have : K + 1 ≤ K := (hk _ e.symm).1; omega), h0.2.grown hg (by intro e; exact (hk _ e.symm).2 rfl)⟩), .inr (fun _ _ h h0 => h ▸ h0), .inl rfl, trivial⟩
          · exact ⟨.inr (fun _ _ h h0 => h ▸ h0), .inr (fun _ _ h h0 => h ▸ h0), .inr (fun _ _ h h0 => h ▸ h0), .inr (fun _ _ h h0 => h0.new h), .inr (fun _ _ h h0 => h0.new h), .inl rfl, .inr (fun _ _ h h0 => h ▸ h0), .inl rfl, trivial⟩
        · exact ⟨⟨.inl rfl, .inr (.inr (.inl rfl)), .inr (.inr (.inr (fun _ _ _ _ _ h => h))), .inr (.inr (.inr (fun _ _ _ _ h h0 => by cases h; exact h0))), .inr (.inr (.inr (fun _ _ _ _ h h0 => by cases h; exact h0))), .inr (.inr (.inl rfl)), .inr (.inr (.inl rfl)), .inr (.inr (.inl rfl)), trivial⟩,
            ⟨.inr (.inr (.inr (fun _ _ _ _ _ h => h))), .inl rfl, .inr (.inr (.inr (fun _ _ _ _ _ h => h))), .inr (.inr (.inr (fun _ _ _ _ h h0 => by cases h; exact h0))), .inr (.inr (.inr (fun _ _ _ _ h h0 => by cases h; exact h0))), .inr (.inr (.inl rfl)), .inr (.inr (.inl rfl)), .inr (.inr (.inl rfl)), trivial⟩,
            ⟨.inr (.inr (.inr (fun _ _ _ _ _ h => h))), .inr (.inr (.inr (fun _ _ _ _ _ h => h))), .inl rfl, .inr (.inr (.inl rfl)), .inr (.inr (.inl rfl)), .inr (.inr (.inl rfl)), .inr (.inr (.inl rfl)), .inr (.inr (.inl rfl)), trivial⟩,
            ⟨.inr (.inr (.inr (fun _ _ _ _ _ h => h))), .inr (.inr (.inr (fun _ _ _ _ _ h => h))), .inr (.inr (.inr (fun _ _ _ _ _ h => h))), .inl rfl, .inr (.inr (.inl rfl)), .inr (.inr (.inl rfl)), .inr (.inr (.inl rfl)), .inr (.inr (.inl rfl)), trivial⟩,
            ⟨.inr (.inr (.inr (fun _ _ _ _ _ h => h))), .inr (.inr (.inr (fun _ _ _ _ _ h => h))), .inr (.inr (.inr (fun _ _ _ _ _ h => h))), .inr (.inl rfl), .inl rfl, .inr (.inr (.inl rfl)), .inr (.inr (.inl rfl)), .inr (.inr (.inl rfl)), trivial⟩,
            ⟨.inr (.inr (.inr (fun _ _ _ _ _ h => h))), .inr (.inr (.inr (fun _ _ _ _ _ h => h))), .inr (.inr (.inr (fun _ _ _ _ _ h => h))), .inr (.inl rfl), .inr (.inl rfl), .inl rfl, .inr (.inr (.inl rfl)), .inr (.inr (.inl rfl)), trivial⟩,
            ⟨.inr (.inr (.inr (fun _ _ _ _ _ h => h))), .inr (.inr (.inr (fun _ _ _ _ _ h => h))), .inr (.inr (.inr (fun _ _ _ _ _ h => h))), .inr (.inr (.inr (fun _ _ _ _ h h0 => by cases h; exact h0))), .inr (.inr (.inr (fun _ _ _ _ h h0 => by cases h; exact h0))), .inr (.inr (.inr (fun _ _ _ _ h h0 => by cases h; exact h0))), .inl rfl, .inr (.inr (.inl rfl)), trivial⟩,
            ⟨.inr (.inr (.inr (fun _ _ _ _ _ h => h))), .inr (.inr (.inr (fun _ _ _ _ _ h => h))), .inr (.inr (.inr (fun _ _ _ _ _ h => h))), .inr (.inl rfl), .inr (.inl rfl), .inr (.inl rfl), .inr (.inr (.inr (fun _ _ _ _ _ h => h))), .inl rfl, trivial⟩, trivial⟩
        · refine ⟨?_, ?_, ?_, ?_, ?_, ?_, ?_, ?_, trivial⟩
          · -- 0: Op.fieldAddr 45 (Operand.tmp 4) 4
            refine step_plain [] (fun _ => rfl) rfl ?_
            intro w1 vals hC1 hi0 hf E hE
            have hI1 : (fun u => u.cell? ⟨K, 4, none⟩ = some (.slice A2 J.length c2) ∧ Blk u H 37 (kCell X)) w1 := hi0 false rfl
            try dsimp only at hI1
            have hJ1 : (fun u => Kb W0 (w.heap.size + 1) K (kidsV A2 J.length c2) A2 c2 J u) w1 := hi0 true rfl
            try dsimp only at hJ1
            clear hi0
            clear hf
            simp only [puts, act_put, act_put_none, List.setIfInBounds_toArray, List.set_cons_zero, List.set_cons_succ] at hE ⊢
            go_wp2
            exact .mk (hE _ _ rfl hC1 rfl)
          · -- 1: Op.load 43 (Operand.tmp 18)
            refine step_plain [(0, some 18)] (fun _ => rfl) rfl ?_
            intro w1 vals hC1 hi0 hf E hE
            have hI1 : (fun u => u.cell? ⟨K, 4, none⟩ = some (.slice A2 J.length c2) ∧ Blk u H 37 (kCell X)) w1 := hi0 false rfl
            try dsimp only at hI1
            have hJ1 : (fun u => Kb W0 (w.heap.size + 1) K (kidsV A2 J.length c2) A2 c2 J u) w1 := hi0 true rfl
            try dsimp only at hJ1
            clear hi0
            have f0 : vals 0 = .pointer (some ⟨K, 4, none⟩) := hf 0 rfl
            try dsimp only at f0
            clear hf
            obtain ⟨d0, d1⟩ := hI1
            clear d1
            simp only [puts, act_put, act_put_none, List.setIfInBounds_toArray, List.set_cons_zero, List.set_cons_succ, f0] at hE ⊢
            clear f0
            go_wp2
            exact .mk (hE _ _ rfl hC1 rfl)
          · -- 2: Op.load 37 (Operand.tmp 6)
            refine step_plain [] (fun _ => rfl) rfl ?_
            intro w1 vals hC1 hi0 hf E hE
            have hI1 : (fun u => u.cell? ⟨K, 4, none⟩ = some (.slice A2 J.length c2) ∧ Blk u H 37 (kCell X)) w1 := hi0 false rfl
            try dsimp only at hI1
            have hJ1 : (fun u => Kb W0 (w.heap.size + 1) K (kidsV A2 J.length c2) A2 c2 J u) w1 := hi0 true rfl
            try dsimp only at hJ1
            clear hi0
            clear hf
            obtain ⟨d0, d1⟩ := hI1
            clear d0
            have D1 := Lib.hid d1
            clear d1
            simp only [puts, act_put, act_put_none, List.setIfInBounds_toArray, List.set_cons_zero, List.set_cons_succ] at hE ⊢
            refine wpList_get_box (cs := kCell X) D1.out rfl rfl rfl huj rfl jk_size ?_
            go_wp2_with fail
            exact .mk (hE _ _ rfl hC1 rfl)
          · -- 3: Op.call { callee := Callee.value (Operand.func 17), args := #[Operand.tmp 20], argTypes := #[37] }
            refine step_plain [(2, some 20)] (fun _ => rfl) rfl ?_
            intro w1 vals hC1 hi0 hf E hE
            have hI1 : (fun u => u.cell? ⟨K, 4, none⟩ = some (.slice A2 J.length c2) ∧ Blk u H 37 (kCell X)) w1 := hi0 false rfl
            try dsimp only at hI1
            have hJ1 : (fun u => Kb W0 (w.heap.size + 1) K (kidsV A2 J.length c2) A2 c2 J u) w1 := hi0 true rfl
            try dsimp only at hJ1
            clear hi0
            have f2 : vals 2 = .agg (kCell X) := hf 2 rfl
            try dsimp only at f2
            clear hf
            have HJ1 := Lib.hid hJ1
            clear hJ1
            simp only [puts, act_put, act_put_none, List.setIfInBounds_toArray, List.set_cons_zero, List.set_cons_succ, f2] at hE ⊢
            clear f2
            go_wp2_with fail
            refine calls_then (CK.out _) ?_
            rintro y w6 ⟨v, rfl, hj, hb⟩
            have HJ := Lib.hid hj
            have HG := Lib.hid hb
            clear hj hb
            go_wp2_with fail
            exact .mk (hE _ _ ⟨v, rfl, HJ.out.imp fun b _ hb => ⟨by have := HJ1.out.size; omega, fun he => by obtain ⟨kv, _, h2, _⟩ := HJ1.out.kids; have := (h2.lt b he).2; omega⟩⟩ hC1 HG.out)
          · -- 4: Op.buildSlice 43 1 #[(0, Operand.tmp 21)]
            refine step_plain [(3, some 21)] (fun _ => rfl) rfl ?_
            intro w1 vals hC1 hi0 hf E hE
            have hI1 : (fun u => u.cell? ⟨K, 4, none⟩ = some (.slice A2 J.length c2) ∧ Blk u H 37 (kCell X)) w1 := hi0 false rfl
            try dsimp only at hI1
            have hJ1 : (fun u => Kb W0 (w.heap.size + 1) K (kidsV A2 J.length c2) A2 c2 J u) w1 := hi0 true rfl
            try dsimp only at hJ1
            clear hi0
            have f3 : (fun z u => ∃ v, z 3 = .agg (jvCells v) ∧ JRep u (KQ K (.slice A2 J.length c2)) (keyJ X) v) vals w1 := hf 3 rfl
            try dsimp only at f3
            clear hf
            obtain ⟨v, hx, hj⟩ := f3
            have HJ := Lib.hid hj
            clear hj
            simp only [puts, act_put, act_put_none, List.setIfInBounds_toArray, List.set_cons_zero, List.set_cons_succ, hx] at hE ⊢
            clear hx
            unfold jvCells
            go_wp2
            exact .mk (hE _ _ ⟨v, _, rfl, Blk.new _ _ _, HJ.out.heap fun b hb _ => Below.heap_alloc _ _ _ hb⟩ hC1 ((Below.refl _ _).alloc (Nat.le_refl _) _))
          · -- 5: Op.call { callee := Callee.builtin Builtin.append, args := #[Operand.tmp 19, Operand.tmp 22], argTypes := #[43
            refine step_plain [(1, some 19), (4, some 22), (3, some 21)] (fun _ => rfl) rfl ?_
            intro w1 vals hC1 hi0 hf E hE
            have hI1 : (fun u => u.cell? ⟨K, 4, none⟩ = some (.slice A2 J.length c2) ∧ Blk u H 37 (kCell X)) w1 := hi0 false rfl
            try dsimp only at hI1
            have hJ1 : (fun u => Kb W0 (w.heap.size + 1) K (kidsV A2 J.length c2) A2 c2 J u) w1 := hi0 true rfl
            try dsimp only at hJ1
            clear hi0
            have f1 : vals 1 = .slice A2 J.length c2 := hf 1 rfl
            have f4 : (fun z u => ∃ (v : JV) (ad : Nat), z 4 = .slice (some ⟨ad, 0, none⟩) 1 1 ∧ Blk u ad 45 (jvCells v) ∧ JRep u (KQ K (.slice A2 J.length c2)) (keyJ X) v) vals w1 := hf 4 rfl
            try dsimp only at f1 f4
            clear hf
            obtain ⟨v, ad, hx, hk, hj⟩ := f4
            have HL := Lib.hid hJ1
            have HK := Lib.hid hk
            have HJ := Lib.hid hj
            obtain ⟨kv, hv1, hv2, hv3⟩ := HL.out.kids
            have HO := Lib.hid hv2
            have HV1 := Lib.hid hv1
            have HV3 := Lib.hid hv3
            have hjl := HJL.out
            clear hJ1 hk hj hv1 hv2 hv3
            simp only [puts, act_put, act_put_none, List.setIfInBounds_toArray, List.set_cons_zero, List.set_cons_succ, f1, hx] at hE ⊢
            clear f1
            clear hx
            go_wp2_with (refine wpList_append_r (news := (jvCells v).toList) (m := 1) sl_jsons4 rfl rfl HO.out rfl rfl rfl (Rd.of_blk (l := (jvCells v).toList) HK.out (HK.out.lt)) (by simp [jvCells, Value.oneCell']) (by unfold maxLen; omega) (by omega) (HL.out.size) ?_; intro A' c' w5 ho hg hn)
            exact .mk (hE _ _ ⟨A', c', rfl, HL.out.kid HJ.out HV1.out HO.out HV3.out ho hg hn⟩ hC1 ⟨_, hg, HNE.out⟩)
          · -- 6: Op.fieldAddr 45 (Operand.tmp 4) 4
            refine step_plain [(0, some 18), (1, some 19), (2, some 20), (3, some 21), (4, some 22), (5, some 23)] (fun _ => rfl) rfl ?_
            intro w1 vals hC1 hi0 hf E hE
            have hI1 : (fun u => u.cell? ⟨K, 4, none⟩ = some (.slice A2 J.length c2) ∧ Blk u H 37 (kCell X)) w1 := hi0 false rfl
            try dsimp only at hI1
            clear hi0
            have f0 : vals 0 = .pointer (some ⟨K, 4, none⟩) := hf 0 rfl
            have f1 : vals 1 = .slice A2 J.length c2 := hf 1 rfl
            have f2 : vals 2 = .agg (kCell X) := hf 2 rfl
            have f5 : (fun z u => ∃ (A' : Option Addr) (c' : Nat), z 5 = .slice A' (J.length + 1) c' ∧ Kb W0 (w.heap.size + 1) K (kidsV A2 J.length c2) A' c' (J ++ [keyJ X]) u) vals w1 := hf 5 rfl
            try dsimp only at f0 f1 f2 f5
            clear hf
            simp only [puts, act_put, act_put_none, List.setIfInBounds_toArray, List.set_cons_zero, List.set_cons_succ, f0, f1, f2] at hE ⊢
            clear f0 f1 f2
            go_wp2
            exact .mk (hE _ _ rfl hC1 rfl)
          · -- 7: Op.store 43 (Operand.tmp 24) (Operand.tmp 23)
            refine step_plain [(6, some 24), (5, some 23), (5, some 23), (0, some 18), (1, some 19), (2, some 20), (3, some 21), (4, some 22), (5, some 23)] (fun _ => rfl) rfl ?_
            intro w1 vals hC1 hi0 hf E hE
            have hI1 : (fun u => u.cell? ⟨K, 4, none⟩ = some (.slice A2 J.length c2) ∧ Blk u H 37 (kCell X)) w1 := hi0 false rfl
            try dsimp only at hI1
            clear hi0
            have f0 : vals 0 = .pointer (some ⟨K, 4, none⟩) := hf 0 rfl
            have f1 : vals 1 = .slice A2 J.length c2 := hf 1 rfl
            have f2 : vals 2 = .agg (kCell X) := hf 2 rfl
            have f5 : (fun z u => ∃ (A' : Option Addr) (c' : Nat), z 5 = .slice A' (J.length + 1) c' ∧ Kb W0 (w.heap.size + 1) K (kidsV A2 J.length c2) A' c' (J ++ [keyJ X]) u) vals w1 := hf 5 rfl
            have f6 : vals 6 = .pointer (some ⟨K, 4, none⟩) := hf 6 rfl
            try dsimp only at f0 f1 f2 f5 f6
            clear hf
            obtain ⟨A', c', hx, hl⟩ := f5
            have HL := Lib.hid hl
            clear hl
            simp only [puts, act_put, act_put_none, List.setIfInBounds_toArray, List.set_cons_zero, List.set_cons_succ, f0, f1, f2, f6, hx] at hE ⊢
            clear f0 f1 f2 f6
            clear hx
            go_wp2_with (refine wpList_put_cell (x := .tmp 24) (i := 4) HL.out.tree rfl rfl rfl rfl (by kernel_rfl) (by simp [jvCells]) rfl ?_; intro w5 hb5 hw5)
            exact .mk (hE undef _ ⟨A', c', HL.out.put hw5 (by rw [List.length_append]; exact hb5)⟩ hC1 trivial)
        intro w1 vals hC1 hf
        have f0 : vals 0 = .pointer (some ⟨K, 4, none⟩) := hf 0 (by decide) rfl
        have f1 : vals 1 = .slice A2 J.length c2 := hf 1 (by decide) rfl
        have f2 : vals 2 = .agg (kCell X) := hf 2 (by decide) rfl
        have f6 : vals 6 = .pointer (some ⟨K, 4, none⟩) := hf 6 (by decide) rfl
        have f7 : (fun z u => ∃ (A' : Option Addr) (c' : Nat), Kb W0 (w.heap.size + 1) K (kidsV A' (J ++ [keyJ X]).length c') A' c' (J ++ [keyJ X]) u) vals w1 := hf 7 (by decide) rfl
        try dsimp only at f0 f1 f2 f6 f7
        clear hf
        simp only [puts, act_put, act_put_none, List.setIfInBounds_toArray, List.set_cons_zero, List.set_cons_succ, f0, f1, f2, f6]
        clear f0 f1 f2 f6
        generalize vals 3 = x3 at *
        generalize vals 4 = x4 at *
        generalize vals 5 = x5 at *
        obtain ⟨A', c', hkb7⟩ := f7
        have HKB7 := Lib.hid hkb7
        clear hkb7 HI0 HJ0 hC1 CK
        go_wp2_with fail
        go_roundw
        case rel => exact ⟨i + 1, A', c', HLT.out, by go_num, by rw [HXS.out]; exact HKB7.out⟩
        case measure => have := HLT.out; simp [intOf]; omega
      · obtain rfl : i = n := by omega
        have htk : ks.take i = ks := List.take_of_length_le (by rw [← HN.out]; exact Nat.le_refl _)
        rw [htk] at hkb
        obtain ⟨KV, hKV⟩ : ∃ KV, KV = kidsV A2 (ks.map keyJ).length c2 := ⟨_, rfl⟩
        have hrp : JRep wr (fun x => x < wr.heap.size) (.mk 4 0 [] [] (ks.map keyJ)) KV := by rw [hKV]; exact hkb.rep.imp fun b hb _ => hb
        rw [← hKV] at hkb
        have HKJ := Lib.hid hkb.tree
        have HRP := Lib.hid hrp
        have HBX := Lib.hid (show Blk wr w.heap.size 28 (bC D num A i c) from HKL.out _ hkb.low)
        have HF9 := Lib.hid (show Below w.heap.size w wr from HB0.out.trans (hkb.low.mono (Nat.le_succ _)))
        obtain ⟨T, hT⟩ : ∃ T, T = writeV (bundleJ ⟨D, num, ks⟩) := ⟨_, rfl⟩
        have HRT := Lib.hid (show R = (T, 0) by rw [hT]; exact HRE.out)
        have HTX := Lib.hid (jtext_any D)
        have HWR := Lib.hid (fun (u : World) (v : JV) (h : JRep u (fun b => b < u.heap.size) (bundleJ ⟨D, num, ks⟩) v) => show Calls Tryd.prog 18 #[.agg (jvCells v)] u (fun e w' => e = .returned (.tuple #[.string (bs T), .int .i64 0]) ∧ Below u.heap.size u w') by
          have h2 := jwrite_any (bundleJ ⟨D, num, ks⟩) v u.heap.size u (bundleJ_small HPB.out) h (Nat.le_refl _) (by have := bundle_len HPB.out; omega)
          rw [wrE_may HPB.out, ← hT] at h2
          exact h2)
        clear hkb hrp htk hT hKV HKI HKB HKL HRE
        go_wp2_with fail
        have HC0 : Below wr.heap.size wr wr.drew := (Below.refl _ _).drew
        refine wp_region_list (fun u => Below wr.heap.size wr u) (fun | false => (fun _ => True) | true => (fun _ => True)) (fun | false, _ => false | true, _ => false)
          [fun z u => (fun v u => RowAt u 9 3 [.string (bs [100, 111, 109, 97, 105, 110]), .string (bs [107, 101, 121, 115]), .string (bs [110, 117, 109, 98, 101, 114])] v) (z 0) u,
           fun z _ => z 1 = .pointer (some ⟨w.heap.size, 0, none⟩),
           fun z _ => z 2 = .string (bs D),
           fun z _ => z 3 = .agg (jvCells (flatV 3 0 D)),
           fun z _ => z 4 = .agg (jvCells KV),
           fun z _ => z 5 = .pointer (some ⟨w.heap.size, 1, none⟩),
           fun z _ => z 6 = .int .i64 num,
           fun z _ => z 7 = .agg (jvCells (flatV 2 num [])),
           fun z u => (fun v u => RowAt u 45 3 (rowsV jvCells [flatV 3 0 D, KV, flatV 2 num []]) v) (z 8) u,
           fun z u => (fun v u => ∃ jv, v = .agg (jvCells jv) ∧ JRep u (fun b => b < u.heap.size) (bundleJ ⟨D, num, ks⟩) jv) (z 9) u,
           fun z _ => z 10 = .tuple #[.string (bs T), .int .i64 0],
           fun z _ => z 11 = .string (bs T),
           fun z _ => z 12 = .int .i64 0,
           fun z _ => z 13 = .string (bs T),
           fun z _ => z 14 = .int .i64 0]
          [fun u u' => Below u.heap.size u u', Eq, Eq, fun u u' => Below u.heap.size u u', Eq, Eq, Eq, Eq, fun u u' => Below u.heap.size u u', Eq, fun u u' => Below u.heap.size u u', Eq, Eq, Eq, Eq]
          (fun _ _ => false) [(0, some 26), (1, some 27), (2, some 28), (3, some 29), (4, some 30), (5, some 31), (6, some 32), (7, some 33), (8, some 34), (9, some 35), (10, some 36), (11, some 37), (12, some 38), (13, some 2), (14, some 3)] (by kernel_rfl) (by kernel_rfl) rfl (fun _ => rfl) ?_ ?_ ?_ ?_ ?_ ?_
        · exact HC0
        · intro m; cases m; exact trivial; exact trivial
        · intro m; cases m
          · exact ⟨.inr (fun _ _ _ h => h), .inr (fun _ _ h h0 => h ▸ h0), .inr (fun _ _ h h0 => h ▸ h0), .inr (fun _ _ _ h => h), .inr (fun _ _ h h0 => h ▸ h0), .inr (fun _ _ h h0 => h ▸ h0), .inr (fun _ _ h h0 => h ▸ h0), .inr (fun _ _ h h0 => h ▸ h0), .inr (fun _ _ _ h => h), .inr (fun _ _ h h0 => h ▸ h0), .inr (fun _ _ _ h => h), .inr (fun _ _ h h0 => h ▸ h0), .inr (fun _ _ h h0 => h ▸ h0), .inr (fun _ _ h h0 => h ▸ h0), .inr (fun _ _ h h0 => h ▸ h0), trivial⟩
          · exact ⟨.inr (fun _ _ _ h => h), .inr (fun _ _ h h0 => h ▸ h0), .inr (fun _ _ h h0 => h ▸ h0), .inr (fun _ _ _ h => h), .inr (fun _ _ h h0 => h ▸ h0), .inr (fun _ _ h h0 => h ▸ h0), .inr (fun _ _ h h0 => h ▸ h0), .inr (fun _ _ h h0 => h ▸ h0), .inr (fun _ _ _ h => h), .inr (fun _ _ h h0 => h ▸ h0), .inr (fun _ _ _ h => h), .inr (fun _ _ h h0 => h ▸ h0), .inr (fun _ _ h h0 => h ▸ h0), .inr (fun _ _ h h0 => h ▸ h0), .inr (fun _ _ h h0 => h ▸ h0), trivial⟩
        · exact ⟨⟨.inl rfl, .inr (.inr (.inr (fun _ _ _ _ _ h => h))), .inr (.inr (.inr (fun _ _ _ _ _ h => h))), .inr (.inr (.inr (fun _ _ _ _ _ h => h))), .inr (.inr (.inr (fun _ _ _ _ _ h => h))), .inr (.inr (.inr (fun _ _ _ _ _ h => h))), .inr (.inr (.inr (fun _ _ _ _ _ h => h))), .inr (.inr (.inr (fun _ _ _ _ _ h => h))), .inr (.inr (.inr (fun _ _ _ _ h h0 => h0.step h))), .inr (.inr (.inl rfl)), .inr (.inr (.inl rfl)), .inr (.inr (.inl rfl)), .inr (.inr (.inl rfl)), .inr (.inr (.inl rfl)), .inr (.inr (.inl rfl)), trivial⟩,
            ⟨.inr (.inr (.inr (fun _ _ _ _ h h0 => by cases h; exact h0))), .inl rfl, .inr (.inr (.inl rfl)), .inr (.inr (.inl rfl)), .inr (.inr (.inr (fun _ _ _ _ _ h => h))), .inr (.inr (.inr (fun _ _ _ _ _ h => h))), .inr (.inr (.inr (fun _ _ _ _ _ h => h))), .inr (.inr (.inr (fun _ _ _ _ _ h => h))), .inr (.inr (.inl rfl)), .inr (.inr (.inr (fun _ _ _ _ h h0 => by cases h; exact h0))), .inr (.inr (.inl rfl)), .inr (.inr (.inr (fun _ _ _ _ _ h => h))), .inr (.inr (.inr (fun _ _ _ _ _ h => h))), .inr (.inr (.inl rfl)), .inr (.inr (.inl rfl)), trivial⟩,
            ⟨.inr (.inr (.inr (fun _ _ _ _ h h0 => by cases h; exact h0))), .inr (.inr (.inr (fun _ _ _ _ _ h => h))), .inl rfl, .inr (.inr (.inl rfl)), .inr (.inr (.inr (fun _ _ _ _ _ h => h))), .inr (.inr (.inr (fun _ _ _ _ _ h => h))), .inr (.inr (.inr (fun _ _ _ _ _ h => h))), .inr (.inr (.inr (fun _ _ _ _ _ h => h))), .inr (.inr (.inl rfl)), .inr (.inr (.inl rfl)), .inr (.inr (.inl rfl)), .inr (.inr (.inl rfl)), .inr (.inr (.inl rfl)), .inr (.inr (.inl rfl)), .inr (.inr (.inl rfl)), trivial⟩,
            ⟨.inr (.inr (.inr (fun _ _ _ _ h h0 => h0.step h))), .inr (.inr (.inr (fun _ _ _ _ _ h => h))), .inr (.inr (.inr (fun _ _ _ _ _ h => h))), .inl rfl, .inr (.inr (.inr (fun _ _ _ _ _ h => h))), .inr (.inr (.inr (fun _ _ _ _ _ h => h))), .inr (.inr (.inr (fun _ _ _ _ _ h => h))), .inr (.inr (.inr (fun _ _ _ _ _ h => h))), .inr (.inr (.inl rfl)), .inr (.inr (.inl rfl)), .inr (.inr (.inl rfl)), .inr (.inr (.inl rfl)), .inr (.inr (.inl rfl)), .inr (.inr (.inl rfl)), .inr (.inr (.inl rfl)), trivial⟩,
            ⟨.inr (.inr (.inr (fun _ _ _ _ h h0 => by cases h; exact h0))), .inr (.inr (.inr (fun _ _ _ _ _ h => h))), .inr (.inr (.inr (fun _ _ _ _ _ h => h))), .inr (.inr (.inr (fun _ _ _ _ _ h => h))), .inl rfl, .inr (.inr (.inr (fun _ _ _ _ _ h => h))), .inr (.inr (.inr (fun _ _ _ _ _ h => h))), .inr (.inr (.inr (fun _ _ _ _ _ h => h))), .inr (.inr (.inl rfl)), .inr (.inr (.inl rfl)), .inr (.inr (.inl rfl)), .inr (.inr (.inr (fun _ _ _ _ _ h => h))), .inr (.inr (.inr (fun _ _ _ _ _ h => h))), .inr (.inr (.inl rfl)), .inr (.inr (.inl rfl)), trivial⟩,
            ⟨.inr (.inr (.inr (fun _ _ _ _ h h0 => by cases h; exact h0))), .inr (.inr (.inr (fun _ _ _ _ _ h => h))), .inr (.inr (.inr (fun _ _ _ _ _ h => h))), .inr (.inr (.inr (fun _ _ _ _ _ h => h))), .inr (.inr (.inr (fun _ _ _ _ _ h => h))), .inl rfl, .inr (.inr (.inl rfl)), .inr (.inr (.inl rfl)), .inr (.inr (.inl rfl)), .inr (.inr (.inr (fun _ _ _ _ h h0 => by cases h; exact h0))), .inr (.inr (.inr (fun _ _ _ _ _ h => h))), .inr (.inr (.inr (fun _ _ _ _ _ h => h))), .inr (.inr (.inr (fun _ _ _ _ _ h => h))), .inr (.inr (.inl rfl)), .inr (.inr (.inl rfl)), trivial⟩,
            ⟨.inr (.inr (.inr (fun _ _ _ _ h h0 => by cases h; exact h0))), .inr (.inr (.inr (fun _ _ _ _ _ h => h))), .inr (.inr (.inr (fun _ _ _ _ _ h => h))), .inr (.inr (.inr (fun _ _ _ _ _ h => h))), .inr (.inr (.inr (fun _ _ _ _ _ h => h))), .inr (.inr (.inr (fun _ _ _ _ _ h => h))), .inl rfl, .inr (.inr (.inl rfl)), .inr (.inr (.inl rfl)), .inr (.inr (.inl rfl)), .inr (.inr (.inr (fun _ _ _ _ _ h => h))), .inr (.inr (.inr (fun _ _ _ _ _ h => h))), .inr (.inr (.inr (fun _ _ _ _ _ h => h))), .inr (.inr (.inl rfl)), .inr (.inr (.inl rfl)), trivial⟩,
            ⟨.inr (.inr (.inr (fun _ _ _ _ h h0 => by cases h; exact h0))), .inr (.inr (.inr (fun _ _ _ _ _ h => h))), .inr (.inr (.inr (fun _ _ _ _ _ h => h))), .inr (.inr (.inr (fun _ _ _ _ _ h => h))), .inr (.inr (.inr (fun _ _ _ _ _ h => h))), .inr (.inr (.inr (fun _ _ _ _ _ h => h))), .inr (.inr (.inr (fun _ _ _ _ _ h => h))), .inl rfl, .inr (.inr (.inl rfl)), .inr (.inr (.inl rfl)), .inr (.inr (.inl rfl)), .inr (.inr (.inr (fun _ _ _ _ _ h => h))), .inr (.inr (.inr (fun _ _ _ _ _ h => h))), .inr (.inr (.inl rfl)), .inr (.inr (.inl rfl)), trivial⟩,
            ⟨.inr (.inr (.inr (fun _ _ _ _ h h0 => h0.step h))), .inr (.inr (.inr (fun _ _ _ _ _ h => h))), .inr (.inr (.inr (fun _ _ _ _ _ h => h))), .inr (.inr (.inr (fun _ _ _ _ _ h => h))), .inr (.inr (.inr (fun _ _ _ _ _ h => h))), .inr (.inr (.inr (fun _ _ _ _ _ h => h))), .inr (.inr (.inr (fun _ _ _ _ _ h => h))), .inr (.inr (.inr (fun _ _ _ _ _ h => h))), .inl rfl, .inr (.inr (.inl rfl)), .inr (.inr (.inl rfl)), .inr (.inr (.inl rfl)), .inr (.inr (.inl rfl)), .inr (.inr (.inl rfl)), .inr (.inr (.inl rfl)), trivial⟩,
            ⟨.inr (.inr (.inr (fun _ _ _ _ h h0 => by cases h; exact h0))), .inr (.inr (.inr (fun _ _ _ _ _ h => h))), .inr (.inr (.inr (fun _ _ _ _ _ h => h))), .inr (.inr (.inr (fun _ _ _ _ _ h => h))), .inr (.inr (.inr (fun _ _ _ _ _ h => h))), .inr (.inr (.inr (fun _ _ _ _ _ h => h))), .inr (.inr (.inr (fun _ _ _ _ _ h => h))), .inr (.inr (.inr (fun _ _ _ _ _ h => h))), .inr (.inr (.inr (fun _ _ _ _ h h0 => by cases h; exact h0))), .inl rfl, .inr (.inr (.inl rfl)), .inr (.inr (.inl rfl)), .inr (.inr (.inl rfl)), .inr (.inr (.inl rfl)), .inr (.inr (.inl rfl)), trivial⟩,
            ⟨.inr (.inr (.inr (fun _ _ _ _ h h0 => h0.step h))), .inr (.inr (.inr (fun _ _ _ _ _ h => h))), .inr (.inr (.inr (fun _ _ _ _ _ h => h))), .inr (.inr (.inr (fun _ _ _ _ _ h => h))), .inr (.inr (.inr (fun _ _ _ _ _ h => h))), .inr (.inr (.inr (fun _ _ _ _ _ h => h))), .inr (.inr (.inr (fun _ _ _ _ _ h => h))), .inr (.inr (.inr (fun _ _ _ _ _ h => h))), .inr (.inr (.inr (fun _ _ _ _ h h0 => h0.step h))), .inr (.inr (.inr (fun _ _ _ _ h h0 => rep_step h0 h))), .inl rfl, .inr (.inr (.inl rfl)), .inr (.inr (.inl rfl)), .inr (.inr (.inl rfl)), .inr (.inr (.inl rfl)), trivial⟩,
            ⟨.inr (.inr (.inr (fun _ _ _ _ h h0 => by cases h; exact h0))), .inr (.inr (.inr (fun _ _ _ _ _ h => h))), .inr (.inr (.inr (fun _ _ _ _ _ h => h))), .inr (.inr (.inr (fun _ _ _ _ _ h => h))), .inr (.inr (.inr (fun _ _ _ _ _ h => h))), .inr (.inr (.inr (fun _ _ _ _ _ h => h))), .inr (.inr (.inr (fun _ _ _ _ _ h => h))), .inr (.inr (.inr (fun _ _ _ _ _ h => h))), .inr (.inr (.inr (fun _ _ _ _ h h0 => by cases h; exact h0))), .inr (.inr (.inr (fun _ _ _ _ h h0 => by cases h; exact h0))), .inr (.inr (.inr (fun _ _ _ _ _ h => h))), .inl rfl, .inr (.inr (.inr (fun _ _ _ _ _ h => h))), .inr (.inr (.inl rfl)), .inr (.inr (.inl rfl)), trivial⟩,
            ⟨.inr (.inr (.inr (fun _ _ _ _ h h0 => by cases h; exact h0))), .inr (.inr (.inr (fun _ _ _ _ _ h => h))), .inr (.inr (.inr (fun _ _ _ _ _ h => h))), .inr (.inr (.inr (fun _ _ _ _ _ h => h))), .inr (.inr (.inr (fun _ _ _ _ _ h => h))), .inr (.inr (.inr (fun _ _ _ _ _ h => h))), .inr (.inr (.inr (fun _ _ _ _ _ h => h))), .inr (.inr (.inr (fun _ _ _ _ _ h => h))), .inr (.inr (.inr (fun _ _ _ _ h h0 => by cases h; exact h0))), .inr (.inr (.inr (fun _ _ _ _ h h0 => by cases h; exact h0))), .inr (.inr (.inr (fun _ _ _ _ _ h => h))), .inr (.inr (.inr (fun _ _ _ _ _ h => h))), .inl rfl, .inr (.inr (.inl rfl)), .inr (.inr (.inl rfl)), trivial⟩,
            ⟨.inr (.inr (.inr (fun _ _ _ _ h h0 => by cases h; exact h0))), .inr (.inr (.inr (fun _ _ _ _ _ h => h))), .inr (.inr (.inr (fun _ _ _ _ _ h => h))), .inr (.inr (.inr (fun _ _ _ _ _ h => h))), .inr (.inr (.inr (fun _ _ _ _ _ h => h))), .inr (.inr (.inr (fun _ _ _ _ _ h => h))), .inr (.inr (.inr (fun _ _ _ _ _ h => h))), .inr (.inr (.inr (fun _ _ _ _ _ h => h))), .inr (.inr (.inr (fun _ _ _ _ h h0 => by cases h; exact h0))), .inr (.inr (.inr (fun _ _ _ _ h h0 => by cases h; exact h0))), .inr (.inr (.inr (fun _ _ _ _ _ h => h))), .inr (.inr (.inr (fun _ _ _ _ _ h => h))), .inr (.inr (.inr (fun _ _ _ _ _ h => h))), .inl rfl, .inr (.inr (.inl rfl)), trivial⟩,
            ⟨.inr (.inr (.inr (fun _ _ _ _ h h0 => by cases h; exact h0))), .inr (.inr (.inr (fun _ _ _ _ _ h => h))), .inr (.inr (.inr (fun _ _ _ _ _ h => h))), .inr (.inr (.inr (fun _ _ _ _ _ h => h))), .inr (.inr (.inr (fun _ _ _ _ _ h => h))), .inr (.inr (.inr (fun _ _ _ _ _ h => h))), .inr (.inr (.inr (fun _ _ _ _ _ h => h))), .inr (.inr (.inr (fun _ _ _ _ _ h => h))), .inr (.inr (.inr (fun _ _ _ _ h h0 => by cases h; exact h0))), .inr (.inr (.inr (fun _ _ _ _ h h0 => by cases h; exact h0))), .inr (.inr (.inr (fun _ _ _ _ _ h => h))), .inr (.inr (.inr (fun _ _ _ _ _ h => h))), .inr (.inr (.inr (fun _ _ _ _ _ h => h))), .inr (.inr (.inr (fun _ _ _ _ _ h => h))), .inl rfl, trivial⟩, trivial⟩
        · refine ⟨?_, ?_, ?_, ?_, ?_, ?_, ?_, ?_, ?_, ?_, ?_, ?_, ?_, ?_, ?_, trivial⟩
          · -- 0: Op.buildSlice 42 3 #[(0, Operand.const (Value.string { data := #[100, 111, 109, 97, 105, 110] })), (1, Operand
            refine step_plain [] (fun _ => rfl) rfl ?_
            intro w1 vals hC1 hi0 hf E hE
            clear hi0
            clear hf
            simp only [puts, act_put, act_put_none, List.setIfInBounds_toArray, List.set_cons_zero, List.set_cons_succ] at hE ⊢
            go_wp2
            exact .mk (hE _ _ ⟨_, rfl, Blk.new _ _ _⟩ (hC1.alloc hC1.size _) ((Below.refl _ _).alloc (Nat.le_refl _) _))
          · -- 1: Op.fieldAddr 28 (Operand.tmp 1) 0
            refine step_plain [] (fun _ => rfl) rfl ?_
            intro w1 vals hC1 hi0 hf E hE
            clear hi0
            clear hf
            simp only [puts, act_put, act_put_none, List.setIfInBounds_toArray, List.set_cons_zero, List.set_cons_succ] at hE ⊢
            go_wp2
            exact .mk (hE _ _ rfl hC1 rfl)
          · -- 2: Op.load 9 (Operand.tmp 27)
            refine step_plain [(1, some 27)] (fun _ => rfl) rfl ?_
            intro w1 vals hC1 hi0 hf E hE
            clear hi0
            have f1 : vals 1 = .pointer (some ⟨w.heap.size, 0, none⟩) := hf 1 rfl
            try dsimp only at f1
            clear hf
            simp only [puts, act_put, act_put_none, List.setIfInBounds_toArray, List.set_cons_zero, List.set_cons_succ, f1] at hE ⊢
            clear f1
            have d0 := (HBX.out.below hC1 HBX.out.lt).cell 0
            simp only [bC, List.getElem?_toArray, List.getElem?_cons_zero] at d0
            go_wp2
            exact .mk (hE _ _ rfl hC1 rfl)
          · -- 3: Op.call { callee := Callee.value (Operand.func 19), args := #[Operand.tmp 28], argTypes := #[9] }
            refine step_plain [(2, some 28)] (fun _ => rfl) rfl ?_
            intro w1 vals hC1 hi0 hf E hE
            clear hi0
            have f2 : vals 2 = .string (bs D) := hf 2 rfl
            try dsimp only at f2
            clear hf
            simp only [puts, act_put, act_put_none, List.setIfInBounds_toArray, List.set_cons_zero, List.set_cons_succ, f2] at hE ⊢
            clear f2
            go_wp2_with fail
            refine calls_then (HTX.out _) ?_
            rintro e w2 ⟨rfl, hb2⟩
            go_wp2_with fail
            exact .mk (hE _ _ rfl (hC1.trans (hb2.mono hC1.size)) hb2)
          · -- 4: Op.load 45 (Operand.tmp 4)
            refine step_plain [] (fun _ => rfl) rfl ?_
            intro w1 vals hC1 hi0 hf E hE
            clear hi0
            clear hf
            simp only [puts, act_put, act_put_none, List.setIfInBounds_toArray, List.set_cons_zero, List.set_cons_succ] at hE ⊢
            refine wpList_get_box (cs := jvCells KV) (HKJ.out.below hC1 HKJ.out.lt) rfl rfl rfl hu rfl jT_size4 ?_
            go_wp2_with fail
            exact .mk (hE _ _ rfl hC1 rfl)
          · -- 5: Op.fieldAddr 28 (Operand.tmp 1) 1
            refine step_plain [] (fun _ => rfl) rfl ?_
            intro w1 vals hC1 hi0 hf E hE
            clear hi0
            clear hf
            simp only [puts, act_put, act_put_none, List.setIfInBounds_toArray, List.set_cons_zero, List.set_cons_succ] at hE ⊢
            go_wp2
            exact .mk (hE _ _ rfl hC1 rfl)
          · -- 6: Op.load 3 (Operand.tmp 31)
            refine step_plain [(5, some 31)] (fun _ => rfl) rfl ?_
            intro w1 vals hC1 hi0 hf E hE
            clear hi0
            have f5 : vals 5 = .pointer (some ⟨w.heap.size, 1, none⟩) := hf 5 rfl
            try dsimp only at f5
            clear hf
            simp only [puts, act_put, act_put_none, List.setIfInBounds_toArray, List.set_cons_zero, List.set_cons_succ, f5] at hE ⊢
            clear f5
            have d0 := (HBX.out.below hC1 HBX.out.lt).cell 1
            simp only [bC, List.getElem?_toArray, List.getElem?_cons_zero, List.getElem?_cons_succ] at d0
            go_wp2
            exact .mk (hE _ _ rfl hC1 rfl)
          · -- 7: Op.build 45 #[(0, Operand.const (Value.int IntKind.i64 2)), (1, Operand.tmp 32)]
            refine step_plain [(6, some 32)] (fun _ => rfl) rfl ?_
            intro w1 vals hC1 hi0 hf E hE
            clear hi0
            have f6 : vals 6 = .int .i64 num := hf 6 rfl
            try dsimp only at f6
            clear hf
            simp only [puts, act_put, act_put_none, List.setIfInBounds_toArray, List.set_cons_zero, List.set_cons_succ, f6] at hE ⊢
            clear f6
            go_wp2
            exact .mk (hE _ _ rfl hC1 rfl)
          · -- 8: Op.buildSlice 43 3 #[(0, Operand.tmp 29), (1, Operand.tmp 30), (2, Operand.tmp 33)]
            refine step_plain [(3, some 29), (4, some 30), (7, some 33)] (fun _ => rfl) rfl ?_
            intro w1 vals hC1 hi0 hf E hE
            clear hi0
            have f3 : vals 3 = .agg (jvCells (flatV 3 0 D)) := hf 3 rfl
            have f4 : vals 4 = .agg (jvCells KV) := hf 4 rfl
            have f7 : vals 7 = .agg (jvCells (flatV 2 num [])) := hf 7 rfl
            try dsimp only at f3 f4 f7
            clear hf
            simp only [puts, act_put, act_put_none, List.setIfInBounds_toArray, List.set_cons_zero, List.set_cons_succ, f3, f4, f7] at hE ⊢
            clear f3 f4 f7
            unfold jvCells flatV
            go_wp2
            exact .mk (hE _ _ ⟨_, rfl, Blk.new _ _ _⟩ (hC1.alloc hC1.size _) ((Below.refl _ _).alloc (Nat.le_refl _) _))
          · -- 9: Op.build 45 #[(0, Operand.const (Value.int IntKind.i64 5)), (3, Operand.tmp 26), (4, Operand.tmp 34)]
            refine step_plain [(0, some 26), (8, some 34)] (fun _ => rfl) rfl ?_
            intro w1 vals hC1 hi0 hf E hE
            clear hi0
            have f0 : (fun v u => RowAt u 9 3 [.string (bs [100, 111, 109, 97, 105, 110]), .string (bs [107, 101, 121, 115]), .string (bs [110, 117, 109, 98, 101, 114])] v) (vals 0) w1 := hf 0 rfl
            have f8 : (fun v u => RowAt u 45 3 (rowsV jvCells [flatV 3 0 D, KV, flatV 2 num []]) v) (vals 8) w1 := hf 8 rfl
            try dsimp only at f0 f8
            clear hf
            obtain ⟨g0, hx0, hg0⟩ := f0
            obtain ⟨g8, hx8, hg8⟩ := f8
            simp only [puts, act_put, act_put_none, List.setIfInBounds_toArray, List.set_cons_zero, List.set_cons_succ, hx0, hx8] at hE ⊢
            clear hx0 hx8
            go_wp2
            exact .mk (hE _ _ ⟨_, rfl, bundle_rep ⟨D, num, ks⟩ KV hg0 hg8 ((HRP.out.under hC1).imp fun b _ h => Nat.lt_of_lt_of_le h hC1.size)⟩ hC1 rfl)
          · -- 10: Op.call { callee := Callee.value (Operand.func 18), args := #[Operand.tmp 35], argTypes := #[45] }
            refine step_plain [(9, some 35), (3, some 29)] (fun _ => rfl) rfl ?_
            intro w1 vals hC1 hi0 hf E hE
            clear hi0
            have f3 : vals 3 = .agg (jvCells (flatV 3 0 D)) := hf 3 rfl
            have f9 : (fun v u => ∃ jv, v = .agg (jvCells jv) ∧ JRep u (fun b => b < u.heap.size) (bundleJ ⟨D, num, ks⟩) jv) (vals 9) w1 := hf 9 rfl
            try dsimp only at f3 f9
            clear hf
            obtain ⟨jv, hx9, hj9⟩ := f9
            simp only [puts, act_put, act_put_none, List.setIfInBounds_toArray, List.set_cons_zero, List.set_cons_succ, f3, hx9] at hE ⊢
            clear f3
            clear hx9
            go_wp2_with fail
            refine calls_then (HWR.out _ _ hj9) ?_
            rintro e w2 ⟨rfl, hb2⟩
            go_wp2_with fail
            exact .mk (hE _ _ rfl (hC1.trans (hb2.mono hC1.size)) hb2)
          · -- 11: Op.extract (Operand.tmp 36) 0
            refine step_plain [(10, some 36)] (fun _ => rfl) rfl ?_
            intro w1 vals hC1 hi0 hf E hE
            clear hi0
            have f10 : vals 10 = .tuple #[.string (bs T), .int .i64 0] := hf 10 rfl
            try dsimp only at f10
            clear hf
            simp only [puts, act_put, act_put_none, List.setIfInBounds_toArray, List.set_cons_zero, List.set_cons_succ, f10] at hE ⊢
            clear f10
            go_wp2
            exact .mk (hE _ _ rfl hC1 rfl)
          · -- 12: Op.extract (Operand.tmp 36) 1
            refine step_plain [(10, some 36)] (fun _ => rfl) rfl ?_
            intro w1 vals hC1 hi0 hf E hE
            clear hi0
            have f10 : vals 10 = .tuple #[.string (bs T), .int .i64 0] := hf 10 rfl
            try dsimp only at f10
            clear hf
            simp only [puts, act_put, act_put_none, List.setIfInBounds_toArray, List.set_cons_zero, List.set_cons_succ, f10] at hE ⊢
            clear f10
            go_wp2
            exact .mk (hE _ _ rfl hC1 rfl)
          · -- 13: Op.assign (Operand.tmp 37)
            refine step_plain [(11, some 37), (10, some 36), (0, some 26), (1, some 27), (2, some 28), (3, some 29), (4, some 30), (5, some 31), (6, some 32), (7, some 33), (8, some 34), (9, some 35), (10, some 36), (11, some 37), (12, some 38)] (fun _ => rfl) rfl ?_
            intro w1 vals hC1 hi0 hf E hE
            clear hi0
            have f0 : (fun v u => RowAt u 9 3 [.string (bs [100, 111, 109, 97, 105, 110]), .string (bs [107, 101, 121, 115]), .string (bs [110, 117, 109, 98, 101, 114])] v) (vals 0) w1 := hf 0 rfl
            have f1 : vals 1 = .pointer (some ⟨w.heap.size, 0, none⟩) := hf 1 rfl
            have f2 : vals 2 = .string (bs D) := hf 2 rfl
            have f3 : vals 3 = .agg (jvCells (flatV 3 0 D)) := hf 3 rfl
            have f4 : vals 4 = .agg (jvCells KV) := hf 4 rfl
            have f5 : vals 5 = .pointer (some ⟨w.heap.size, 1, none⟩) := hf 5 rfl
            have f6 : vals 6 = .int .i64 num := hf 6 rfl
            have f7 : vals 7 = .agg (jvCells (flatV 2 num [])) := hf 7 rfl
            have f8 : (fun v u => RowAt u 45 3 (rowsV jvCells [flatV 3 0 D, KV, flatV 2 num []]) v) (vals 8) w1 := hf 8 rfl
            have f9 : (fun v u => ∃ jv, v = .agg (jvCells jv) ∧ JRep u (fun b => b < u.heap.size) (bundleJ ⟨D, num, ks⟩) jv) (vals 9) w1 := hf 9 rfl
            have f10 : vals 10 = .tuple #[.string (bs T), .int .i64 0] := hf 10 rfl
            have f11 : vals 11 = .string (bs T) := hf 11 rfl
            have f12 : vals 12 = .int .i64 0 := hf 12 rfl
            try dsimp only at f0 f1 f2 f3 f4 f5 f6 f7 f8 f9 f10 f11 f12
            clear hf
            simp only [puts, act_put, act_put_none, List.setIfInBounds_toArray, List.set_cons_zero, List.set_cons_succ, f1, f2, f3, f4, f5, f6, f7, f10, f11, f12] at hE ⊢
            clear f1 f2 f3 f4 f5 f6 f7 f10 f11 f12
            go_wp2
            exact .mk (hE _ _ rfl hC1 rfl)
          · -- 14: Op.assign (Operand.tmp 38)
            refine step_plain [(12, some 38), (13, some 2), (0, some 26), (1, some 27), (2, some 28), (3, some 29), (4, some 30), (5, some 31), (6, some 32), (7, some 33), (8, some 34), (9, some 35), (10, some 36), (11, some 37), (12, some 38), (13, some 2)] (fun _ => rfl) rfl ?_
            intro w1 vals hC1 hi0 hf E hE
            clear hi0
            have f0 : (fun v u => RowAt u 9 3 [.string (bs [100, 111, 109, 97, 105, 110]), .string (bs [107, 101, 121, 115]), .string (bs [110, 117, 109, 98, 101, 114])] v) (vals 0) w1 := hf 0 rfl
            have f1 : vals 1 = .pointer (some ⟨w.heap.size, 0, none⟩) := hf 1 rfl
            have f2 : vals 2 = .string (bs D) := hf 2 rfl
            have f3 : vals 3 = .agg (jvCells (flatV 3 0 D)) := hf 3 rfl
            have f4 : vals 4 = .agg (jvCells KV) := hf 4 rfl
            have f5 : vals 5 = .pointer (some ⟨w.heap.size, 1, none⟩) := hf 5 rfl
            have f6 : vals 6 = .int .i64 num := hf 6 rfl
            have f7 : vals 7 = .agg (jvCells (flatV 2 num [])) := hf 7 rfl
            have f8 : (fun v u => RowAt u 45 3 (rowsV jvCells [flatV 3 0 D, KV, flatV 2 num []]) v) (vals 8) w1 := hf 8 rfl
            have f9 : (fun v u => ∃ jv, v = .agg (jvCells jv) ∧ JRep u (fun b => b < u.heap.size) (bundleJ ⟨D, num, ks⟩) jv) (vals 9) w1 := hf 9 rfl
            have f10 : vals 10 = .tuple #[.string (bs T), .int .i64 0] := hf 10 rfl
            have f11 : vals 11 = .string (bs T) := hf 11 rfl
            have f12 : vals 12 = .int .i64 0 := hf 12 rfl
            have f13 : vals 13 = .string (bs T) := hf 13 rfl
            try dsimp only at f0 f1 f2 f3 f4 f5 f6 f7 f8 f9 f10 f11 f12 f13
            clear hf
            simp only [puts, act_put, act_put_none, List.setIfInBounds_toArray, List.set_cons_zero, List.set_cons_succ, f1, f2, f3, f4, f5, f6, f7, f10, f11, f12, f13] at hE ⊢
            clear f1 f2 f3 f4 f5 f6 f7 f10 f11 f12 f13
            go_wp2
            exact .mk (hE _ _ rfl hC1 rfl)
        intro w1 vals hC1 hf
        have f0 : (fun v u => RowAt u 9 3 [.string (bs [100, 111, 109, 97, 105, 110]), .string (bs [107, 101, 121, 115]), .string (bs [110, 117, 109, 98, 101, 114])] v) (vals 0) w1 := hf 0 (by decide) rfl
        have f1 : vals 1 = .pointer (some ⟨w.heap.size, 0, none⟩) := hf 1 (by decide) rfl
        have f2 : vals 2 = .string (bs D) := hf 2 (by decide) rfl
        have f3 : vals 3 = .agg (jvCells (flatV 3 0 D)) := hf 3 (by decide) rfl
        have f4 : vals 4 = .agg (jvCells KV) := hf 4 (by decide) rfl
        have f5 : vals 5 = .pointer (some ⟨w.heap.size, 1, none⟩) := hf 5 (by decide) rfl
        have f6 : vals 6 = .int .i64 num := hf 6 (by decide) rfl
        have f7 : vals 7 = .agg (jvCells (flatV 2 num [])) := hf 7 (by decide) rfl
        have f8 : (fun v u => RowAt u 45 3 (rowsV jvCells [flatV 3 0 D, KV, flatV 2 num []]) v) (vals 8) w1 := hf 8 (by decide) rfl
        have f9 : (fun v u => ∃ jv, v = .agg (jvCells jv) ∧ JRep u (fun b => b < u.heap.size) (bundleJ ⟨D, num, ks⟩) jv) (vals 9) w1 := hf 9 (by decide) rfl
        have f10 : vals 10 = .tuple #[.string (bs T), .int .i64 0] := hf 10 (by decide) rfl
        have f11 : vals 11 = .string (bs T) := hf 11 (by decide) rfl
        have f12 : vals 12 = .int .i64 0 := hf 12 (by decide) rfl
        have f13 : vals 13 = .string (bs T) := hf 13 (by decide) rfl
        have f14 : vals 14 = .int .i64 0 := hf 14 (by decide) rfl
        try dsimp only at f0 f1 f2 f3 f4 f5 f6 f7 f8 f9 f10 f11 f12 f13 f14
        clear hf
        simp only [puts, act_put, act_put_none, List.setIfInBounds_toArray, List.set_cons_zero, List.set_cons_succ, f1, f2, f3, f4, f5, f6, f7, f10, f11, f12, f13, f14]
        clear f1 f2 f3 f4 f5 f6 f7 f10 f11 f12 f13 f14
        generalize vals 0 = x0 at *
        generalize vals 8 = x8 at *
        generalize vals 9 = x9 at *
        have HC9 := Lib.hid hC1
        clear hC1 HC0
        go_wp2_with fail
        go_ret2
        exact ⟨by rw [HRT.out]; rfl, HF9.out.trans (HC9.out.mono HF9.out.size)⟩
end Go.Proofs.YtlkikjeccamheaaDoor.Js
/-
  Walk: the reference's Same of two bundles.
-/
namespace Go.Proofs.YtlkikjeccamheaaDoor.Js
set_option linter.unusedSimpArgs false
set_option linter.unusedVariables false
open Go.RowKit
theorem neq_jwk (x y : Bs × Bs) (w : World) : (binOp .neq 37 (.agg (kCell x)) (.agg (kCell y))).run Tryd.prog w = .ok (.bool (!decide (x = y))) w := by
  have p0 : ∀ (z : Bs × Bs) (u : World), (part 9 (kCell z) 0).run Tryd.prog u = .ok (.string (bs z.1)) u := fun z u => by kernel_rfl
  have p1 : ∀ (z : Bs × Bs) (u : World), (part 9 (kCell z) 1).run Tryd.prog u = .ok (.string (bs z.2)) u := fun z u => by kernel_rfl
  have hs := Tryd.underlying9
  have hf : Tryd.prog.fieldsOf 37 = #[{ name := "Kid", type := 9, offset := 0, embedded := false, tag := "", pkgPath := "", byteOffset := 0 }, { name := "X", type := 9, offset := 1, embedded := false, tag := "", pkgPath := "", byteOffset := 16 }] := by kernel_rfl
  rw [run_neq_struct, run_equalIn_struct w 9999 _ _ _ (by kernel_rfl) (by kernel_rfl), hf]
  have s1 : ∀ (d : Nat) (s t : Bs), (Op.equalIn (d + 1) 9 (.string (bs s)) (.string (bs t))).run Tryd.prog w = .ok (decide (s = t)) w := fun d s t => by
    have e : ((bs s).toList == (bs t).toList) = decide (s = t) := by rw [bs_toList, bs_toList]; by_cases h : s = t <;> simp [h]
    rw [run_equalIn_string w d _ _ _ hs, e]
  have e1 := fun s t => s1 9998 s t
  simp only [Nat.reduceAdd] at e1
  obtain ⟨x1, x2⟩ := x
  obtain ⟨y1, y2⟩ := y
  by_cases h1 : x1 = y1 <;> by_cases h2 : x2 = y2 <;> simp [Op.eqFields, Sem.run_bind, p0, p1, Result.andThen, e1, h1, h2]
theorem wpList_binop {P : Program} {w : World} {ops : Array Oper} {rest : List Oper} {o : Oper} {a : Act} {Q : Exit → Act → World → Prop} {op : BinOp} {t y' : TypeId} {x y : Operand} {u v r : Value}
    (hgd : o.guard = none) (ho : o.op = .binOp op t x y y') (hx : a.eval x = u) (hy : a.eval y = v) (hg : (eqGuard op t x y u v).run P w = .ok () w) (hr : (binOp op t u v).run P w = .ok r w) (h : wpList P ops Q rest (a.put o.dst r) w) : wpList P ops Q (o :: rest) a w := by
  refine wpList_plain hgd fun K hK => ?_
  unfold Oper.wp execOp
  simp only [ho, hx, hy, Sem.run_bind, Sem.run_pure, Result.andThen_ok, hg, hr]
  exact hK _ _ h
def sameB (D1 : Bs) (n1 : Int) (k1 : List (Bs × Bs)) (D2 : Bs) (n2 : Int) (k2 : List (Bs × Bs)) : Bool := decide (D1 = D2) && decide (n1 = n2) && decide (k1 = k2)
theorem take_same {k1 k2 : List (Bs × Bs)} {i : Nat} (h : k1.take i = k2.take i) (h1 : i < k1.length) (h2 : i < k2.length) (he : k1[i] = k2[i]) : k1.take (i + 1) = k2.take (i + 1) := by
  rw [List.take_succ_eq_append_getElem h1, List.take_succ_eq_append_getElem h2, h, he]
set_option maxRecDepth 100000 in
set_option maxHeartbeats 4000000 in
theorem same11_any (D1 D2 : Bs) (n1 n2 : Int) (k1 k2 : List (Bs × Bs)) (A1 A2 : Option Addr) (c1 c2 Bo1 Bo2 : Nat) (w : World) (hr1 : Rd w Bo1 A1 (rowsV kCell k1)) (hr2 : Rd w Bo2 A2 (rowsV kCell k2)) (hB1 : Bo1 ≤ w.heap.size) (hB2 : Bo2 ≤ w.heap.size)
    (hl1 : (k1.length : Int) ≤ 9223372036854775807) (hl2 : (k2.length : Int) ≤ 9223372036854775807) :
    Calls Tryd.prog 11 #[.agg (bC D1 n1 A1 k1.length c1), .agg (bC D2 n2 A2 k2.length c2)] w fun e w' => e = .returned (.bool (sameB D1 n1 k1 D2 n2 k2)) ∧ Below w.heap.size w w' := by
  obtain ⟨r, hrr⟩ : ∃ r, r = sameB D1 n1 k1 D2 n2 k2 := ⟨_, rfl⟩
  rw [← hrr]
  have HRR := Lib.hid hrr
  obtain ⟨m1, hm1⟩ : ∃ m, m = k1.length := ⟨_, rfl⟩
  obtain ⟨m2, hm2⟩ : ∃ m, m = k2.length := ⟨_, rfl⟩
  rw [← hm1] at hl1 ⊢
  rw [← hm2] at hl2 ⊢
  have HM1 := Lib.hid hm1
  have HM2 := Lib.hid hm2
  obtain ⟨W0, hW0⟩ : ∃ W0, W0 = (w.alloc (.cells (bC D1 n1 A1 m1 c1) 28)).alloc (.cells (bC D2 n2 A2 m2 c2) 28) := ⟨_, rfl⟩
  have hb0 : Below w.heap.size w W0 := by rw [hW0]; exact ((Below.refl _ w).alloc (Nat.le_refl _) _).alloc (by simp) _
  have HB0 := Lib.hid hb0
  have HK1 := Lib.hid (show Blk W0 w.heap.size 28 (bC D1 n1 A1 m1 c1) by rw [hW0]; exact (Blk.new _ _ _).alloc _)
  have HK2 := Lib.hid (show Blk W0 (w.heap.size + 1) 28 (bC D2 n2 A2 m2 c2) by rw [hW0]; have := Blk.new (w.alloc (.cells (bC D1 n1 A1 m1 c1) 28)) 28 (bC D2 n2 A2 m2 c2); simpa using this)
  have HR1 := Lib.hid (hr1.below (hb0.mono hB1))
  have HR2 := Lib.hid (hr2.below (hb0.mono hB2))
  have HW0 := Lib.hid hW0
  have a0 : W0.cell? ⟨w.heap.size, 0, none⟩ = some (.string (bs D1)) := HK1.out.cell 0
  have a1 : W0.cell? ⟨w.heap.size, 1, none⟩ = some (.int .i64 n1) := HK1.out.cell 1
  have a2 : W0.cell? ⟨w.heap.size, 2, none⟩ = some (.slice A1 m1 c1) := HK1.out.cell 2
  have b0 : W0.cell? ⟨w.heap.size + 1, 0, none⟩ = some (.string (bs D2)) := HK2.out.cell 0
  have b1 : W0.cell? ⟨w.heap.size + 1, 1, none⟩ = some (.int .i64 n2) := HK2.out.cell 1
  have b2 : W0.cell? ⟨w.heap.size + 1, 2, none⟩ = some (.slice A2 m2 c2) := HK2.out.cell 2
  clear hW0 hb0 hr1 hr2 hrr hm1 hm2 hB1 hB2
  go_enter Tryd.func11, Tryd.ntmps11
  go_upto_region 1 with (fail)
  rw [show (w.alloc (.cells (bC D1 n1 A1 m1 c1) 28)).alloc (.cells (bC D2 n2 A2 m2 c2) 28) = W0 from HW0.out.symm]
  generalize Value.agg (bC D1 n1 A1 m1 c1) = AV1
  generalize Value.agg (bC D2 n2 A2 m2 c2) = AV2
  by_cases hD : D1 = D2
  · have hq : ((bs D1).toList == (bs D2).toList) = true := by rw [bs_toList, bs_toList]; simpa using hD
    by_cases hn : n1 = n2
    · have hn' : (n1 == n2) = true := by simpa using hn
      by_cases hm : m1 = m2
      · have HRE := Lib.hid (show r = decide (k1 = k2) by rw [HRR.out, sameB, decide_eq_true hD, decide_eq_true hn]; rfl)
        have HL2 := Lib.hid (show m1 = k2.length by rw [hm]; exact HM2.out)
        subst hm hn
        clear hD hn' hl2
        go_wp2_with fail
        go_loopw [5] (fun x wr => ∃ i : Nat, i ≤ m1 ∧ x = .int .i64 (i : Int) ∧ k1.take i = k2.take i ∧ Below W0.heap.size W0 wr) (fun x _ => m1 - (intOf x).toNat)
        case atStart => exact ⟨0, Nat.zero_le _, rfl, by simp, (Below.refl _ _)⟩
        case round =>
          obtain ⟨i, hi, rfl, htk, hbw⟩ := hrel
          have HTK := Lib.hid htk
          have HBW := Lib.hid hbw
          have HX1 := Lib.hid (HK1.out.below hbw HK1.out.lt)
          have HX2 := Lib.hid (HK2.out.below hbw HK2.out.lt)
          have a2 : wr.cell? ⟨w.heap.size, 2, none⟩ = some (.slice A1 m1 c1) := HX1.out.cell 2
          clear htk hbw
          by_cases hlt : i < m1
          · have huj := Tryd.underlying37
            have hil1 : i < k1.length := by rw [← HM1.out]; exact hlt
            have hil2 : i < k2.length := by rw [← HL2.out]; exact hlt
            have hlt' : (i : Int) < (m1 : Int) := by omega
            obtain ⟨ad1, hA1, -, hcell1⟩ := rd_rows (f := kCell) (m := 2) (fun _ => rfl) (by decide) (HR1.out) hil1
            obtain ⟨ad2, hA2, -, hcell2⟩ := rd_rows (f := kCell) (m := 2) (fun _ => rfl) (by decide) (HR2.out) hil2
            subst hA1 hA2
            obtain ⟨X, hX⟩ : ∃ X, X = k1[i] := ⟨_, rfl⟩
            obtain ⟨Y, hY⟩ : ∃ Y, Y = k2[i] := ⟨_, rfl⟩
            rw [← hX] at hcell1
            rw [← hY] at hcell2
            have HC1 := Lib.hid (show ∀ u, Below W0.heap.size W0 u → ∀ j v, (kCell X).toList[j]? = some v → u.cell? ((ad1.add (i * 2)).add j) = some v from fun u hu j v hv => by
              have h := hcell1 j v (by simpa using hv)
              exact (hu.cell (World.block_lt_of_cell? W0 _ h)).trans h)
            have HC2 := Lib.hid (show ∀ u, Below W0.heap.size W0 u → ∀ j v, (kCell Y).toList[j]? = some v → u.cell? ((ad2.add (i * 2)).add j) = some v from fun u hu j v hv => by
              have h := hcell2 j v (by simpa using hv)
              exact (hu.cell (World.block_lt_of_cell? W0 _ h)).trans h)
            have HNQ := Lib.hid (neq_jwk X Y)
            obtain ⟨q, hqq⟩ : ∃ q, q = decide (X = Y) := ⟨_, rfl⟩
            rw [← hqq] at HNQ
            have HLT := Lib.hid hlt
            have HXI := Lib.hid (show ∃ (h1 : i < k1.length) (h2 : i < k2.length), X = k1[i] ∧ Y = k2[i] from ⟨hil1, hil2, hX, hY⟩)
            have HQQ := Lib.hid hqq
            clear hX hY hcell1 hcell2 hil1 hil2 hlt hqq
            go_wp2_with fail
            have HC0 : Below wr.heap.size wr wr.drew := (Below.refl _ _).drew
            refine wp_region_list (fun u => Below wr.heap.size wr u) (fun | false => (fun _ => True) | true => (fun _ => True)) (fun | false, _ => false | true, _ => false)
              [fun z _ => z 0 = .pointer (some ⟨w.heap.size, 2, none⟩),
               fun z _ => z 1 = .slice (some ad1) m1 c1,
               fun z _ => z 2 = .int .i64 (i : Int),
               fun z _ => z 3 = .pointer (some (ad1.add (i * 2))),
               fun z _ => z 4 = .agg (kCell X),
               fun z _ => z 5 = .pointer (some ⟨w.heap.size + 1, 2, none⟩),
               fun z _ => z 6 = .slice (some ad2) m1 c2,
               fun z _ => z 7 = .int .i64 (i : Int),
               fun z _ => z 8 = .pointer (some (ad2.add (i * 2))),
               fun z _ => z 9 = .agg (kCell Y),
               fun z _ => z 10 = .bool (!q)]
              [Eq, Eq, Eq, Eq, Eq, Eq, Eq, Eq, Eq, Eq, Eq]
              (fun _ _ => false) [(0, some 34), (1, some 35), (2, some 36), (3, some 37), (4, some 38), (5, some 39), (6, some 40), (7, some 41), (8, some 42), (9, some 43), (10, some 44)] (by kernel_rfl) (by kernel_rfl) rfl (fun _ => rfl) ?_ ?_ ?_ ?_ ?_ ?_
            · exact HC0
            · intro m; cases m; exact trivial; exact trivial
            · intro m; cases m
              · exact ⟨.inr (fun _ _ h h0 => h ▸ h0), .inr (fun _ _ h h0 => h ▸ h0), .inr (fun _ _ h h0 => h ▸ h0), .inr (fun _ _ h h0 => h ▸ h0), .inr (fun _ _ h h0 => h ▸ h0), .inr (fun _ _ h h0 => h ▸ h0), .inr (fun _ _ h h0 => h ▸ h0), .inr (fun _ _ h h0 => h ▸ h0), .inr (fun _ _ h h0 => h ▸ h0), .inr (fun _ _ h h0 => h ▸ h0), .inr (fun _ _ h h0 => h ▸ h0), trivial⟩
              · exact ⟨.inr (fun _ _ h h0 => h ▸ h0), .inr (fun _ _ h h0 => h ▸ h0), .inr (fun _ _ h h0 => h ▸ h0), .inr (fun _ _ h h0 => h ▸ h0), .inr (fun _ _ h h0 => h ▸ h0), .inr (fun _ _ h h0 => h ▸ h0), .inr (fun _ _ h h0 => h ▸ h0), .inr (fun _ _ h h0 => h ▸ h0), .inr (fun _ _ h h0 => h ▸ h0), .inr (fun _ _ h h0 => h ▸ h0), .inr (fun _ _ h h0 => h ▸ h0), trivial⟩
            · exact ⟨⟨.inl rfl, .inr (.inr (.inl rfl)), .inr (.inr (.inr (fun _ _ _ _ _ h => h))), .inr (.inr (.inl rfl)), .inr (.inr (.inl rfl)), .inr (.inr (.inr (fun _ _ _ _ _ h => h))), .inr (.inr (.inr (fun _ _ _ _ _ h => h))), .inr (.inr (.inr (fun _ _ _ _ _ h => h))), .inr (.inr (.inr (fun _ _ _ _ _ h => h))), .inr (.inr (.inr (fun _ _ _ _ _ h => h))), .inr (.inr (.inr (fun _ _ _ _ _ h => h))), trivial⟩,
                ⟨.inr (.inr (.inr (fun _ _ _ _ _ h => h))), .inl rfl, .inr (.inr (.inr (fun _ _ _ _ _ h => h))), .inr (.inr (.inl rfl)), .inr (.inr (.inl rfl)), .inr (.inr (.inr (fun _ _ _ _ _ h => h))), .inr (.inr (.inr (fun _ _ _ _ _ h => h))), .inr (.inr (.inr (fun _ _ _ _ _ h => h))), .inr (.inr (.inr (fun _ _ _ _ _ h => h))), .inr (.inr (.inr (fun _ _ _ _ _ h => h))), .inr (.inr (.inl rfl)), trivial⟩,
                ⟨.inr (.inr (.inr (fun _ _ _ _ _ h => h))), .inr (.inr (.inr (fun _ _ _ _ _ h => h))), .inl rfl, .inr (.inr (.inl rfl)), .inr (.inr (.inl rfl)), .inr (.inr (.inr (fun _ _ _ _ _ h => h))), .inr (.inr (.inr (fun _ _ _ _ _ h => h))), .inr (.inr (.inr (fun _ _ _ _ _ h => h))), .inr (.inr (.inr (fun _ _ _ _ _ h => h))), .inr (.inr (.inr (fun _ _ _ _ _ h => h))), .inr (.inr (.inl rfl)), trivial⟩,
                ⟨.inr (.inr (.inr (fun _ _ _ _ _ h => h))), .inr (.inr (.inr (fun _ _ _ _ _ h => h))), .inr (.inr (.inr (fun _ _ _ _ _ h => h))), .inl rfl, .inr (.inr (.inl rfl)), .inr (.inr (.inr (fun _ _ _ _ _ h => h))), .inr (.inr (.inr (fun _ _ _ _ _ h => h))), .inr (.inr (.inr (fun _ _ _ _ _ h => h))), .inr (.inr (.inr (fun _ _ _ _ _ h => h))), .inr (.inr (.inr (fun _ _ _ _ _ h => h))), .inr (.inr (.inl rfl)), trivial⟩,
                ⟨.inr (.inr (.inr (fun _ _ _ _ _ h => h))), .inr (.inr (.inr (fun _ _ _ _ _ h => h))), .inr (.inr (.inr (fun _ _ _ _ _ h => h))), .inr (.inr (.inr (fun _ _ _ _ _ h => h))), .inl rfl, .inr (.inr (.inr (fun _ _ _ _ _ h => h))), .inr (.inr (.inr (fun _ _ _ _ _ h => h))), .inr (.inr (.inr (fun _ _ _ _ _ h => h))), .inr (.inr (.inr (fun _ _ _ _ _ h => h))), .inr (.inr (.inr (fun _ _ _ _ _ h => h))), .inr (.inr (.inl rfl)), trivial⟩,
                ⟨.inr (.inr (.inr (fun _ _ _ _ _ h => h))), .inr (.inr (.inr (fun _ _ _ _ _ h => h))), .inr (.inr (.inr (fun _ _ _ _ _ h => h))), .inr (.inr (.inr (fun _ _ _ _ _ h => h))), .inr (.inr (.inr (fun _ _ _ _ _ h => h))), .inl rfl, .inr (.inr (.inl rfl)), .inr (.inr (.inr (fun _ _ _ _ _ h => h))), .inr (.inr (.inl rfl)), .inr (.inr (.inl rfl)), .inr (.inr (.inr (fun _ _ _ _ _ h => h))), trivial⟩,
                ⟨.inr (.inr (.inr (fun _ _ _ _ _ h => h))), .inr (.inr (.inr (fun _ _ _ _ _ h => h))), .inr (.inr (.inr (fun _ _ _ _ _ h => h))), .inr (.inr (.inr (fun _ _ _ _ _ h => h))), .inr (.inr (.inr (fun _ _ _ _ _ h => h))), .inr (.inr (.inr (fun _ _ _ _ _ h => h))), .inl rfl, .inr (.inr (.inr (fun _ _ _ _ _ h => h))), .inr (.inr (.inl rfl)), .inr (.inr (.inl rfl)), .inr (.inr (.inl rfl)), trivial⟩,
                ⟨.inr (.inr (.inr (fun _ _ _ _ _ h => h))), .inr (.inr (.inr (fun _ _ _ _ _ h => h))), .inr (.inr (.inr (fun _ _ _ _ _ h => h))), .inr (.inr (.inr (fun _ _ _ _ _ h => h))), .inr (.inr (.inr (fun _ _ _ _ _ h => h))), .inr (.inr (.inr (fun _ _ _ _ _ h => h))), .inr (.inr (.inr (fun _ _ _ _ _ h => h))), .inl rfl, .inr (.inr (.inl rfl)), .inr (.inr (.inl rfl)), .inr (.inr (.inl rfl)), trivial⟩,
                ⟨.inr (.inr (.inr (fun _ _ _ _ _ h => h))), .inr (.inr (.inr (fun _ _ _ _ _ h => h))), .inr (.inr (.inr (fun _ _ _ _ _ h => h))), .inr (.inr (.inr (fun _ _ _ _ _ h => h))), .inr (.inr (.inr (fun _ _ _ _ _ h => h))), .inr (.inr (.inr (fun _ _ _ _ _ h => h))), .inr (.inr (.inr (fun _ _ _ _ _ h => h))), .inr (.inr (.inr (fun _ _ _ _ _ h => h))), .inl rfl, .inr (.inr (.inl rfl)), .inr (.inr (.inl rfl)), trivial⟩,
                ⟨.inr (.inr (.inr (fun _ _ _ _ _ h => h))), .inr (.inr (.inr (fun _ _ _ _ _ h => h))), .inr (.inr (.inr (fun _ _ _ _ _ h => h))), .inr (.inr (.inr (fun _ _ _ _ _ h => h))), .inr (.inr (.inr (fun _ _ _ _ _ h => h))), .inr (.inr (.inr (fun _ _ _ _ _ h => h))), .inr (.inr (.inr (fun _ _ _ _ _ h => h))), .inr (.inr (.inr (fun _ _ _ _ _ h => h))), .inr (.inr (.inr (fun _ _ _ _ _ h => h))), .inl rfl, .inr (.inr (.inl rfl)), trivial⟩,
                ⟨.inr (.inr (.inr (fun _ _ _ _ _ h => h))), .inr (.inr (.inr (fun _ _ _ _ _ h => h))), .inr (.inr (.inr (fun _ _ _ _ _ h => h))), .inr (.inr (.inr (fun _ _ _ _ _ h => h))), .inr (.inr (.inr (fun _ _ _ _ _ h => h))), .inr (.inr (.inr (fun _ _ _ _ _ h => h))), .inr (.inr (.inr (fun _ _ _ _ _ h => h))), .inr (.inr (.inr (fun _ _ _ _ _ h => h))), .inr (.inr (.inr (fun _ _ _ _ _ h => h))), .inr (.inr (.inr (fun _ _ _ _ _ h => h))), .inl rfl, trivial⟩, trivial⟩
            · refine ⟨?_, ?_, ?_, ?_, ?_, ?_, ?_, ?_, ?_, ?_, ?_, trivial⟩
              · -- 0: Op.fieldAddr 28 (Operand.tmp 2) 2
                refine step_plain [] (fun _ => rfl) rfl ?_
                intro w1 vals hC1 hi0 hf E hE
                clear hi0
                clear hf
                simp only [puts, act_put, act_put_none, List.setIfInBounds_toArray, List.set_cons_zero, List.set_cons_succ] at hE ⊢
                go_wp2
                exact .mk (hE _ _ rfl hC1 rfl)
              · -- 1: Op.load 26 (Operand.tmp 34)
                refine step_plain [(0, some 34)] (fun _ => rfl) rfl ?_
                intro w1 vals hC1 hi0 hf E hE
                clear hi0
                have f0 : vals 0 = .pointer (some ⟨w.heap.size, 2, none⟩) := hf 0 rfl
                try dsimp only at f0
                clear hf
                simp only [puts, act_put, act_put_none, List.setIfInBounds_toArray, List.set_cons_zero, List.set_cons_succ, f0] at hE ⊢
                clear f0
                have d0 := (HX1.out.below hC1 HX1.out.lt).cell 2
                simp only [bC, List.getElem?_toArray, List.getElem?_cons_zero, List.getElem?_cons_succ] at d0
                go_wp2
                exact .mk (hE _ _ rfl hC1 rfl)
              · -- 2: Op.move (Operand.tmp 5)
                refine step_plain [] (fun _ => rfl) rfl ?_
                intro w1 vals hC1 hi0 hf E hE
                clear hi0
                clear hf
                simp only [puts, act_put, act_put_none, List.setIfInBounds_toArray, List.set_cons_zero, List.set_cons_succ] at hE ⊢
                go_wp2
                exact .mk (hE _ _ rfl hC1 rfl)
              · -- 3: Op.indexAddr 26 (Operand.tmp 35) (Operand.tmp 36)
                refine step_plain [(1, some 35), (2, some 36)] (fun _ => rfl) rfl ?_
                intro w1 vals hC1 hi0 hf E hE
                clear hi0
                have f1 : vals 1 = .slice (some ad1) m1 c1 := hf 1 rfl
                have f2 : vals 2 = .int .i64 (i : Int) := hf 2 rfl
                try dsimp only at f1 f2
                clear hf
                simp only [puts, act_put, act_put_none, List.setIfInBounds_toArray, List.set_cons_zero, List.set_cons_succ, f1, f2] at hE ⊢
                clear f1 f2
                go_wp2
                exact .mk (hE _ _ rfl hC1 rfl)
              · -- 4: Op.load 37 (Operand.tmp 37)
                refine step_plain [(3, some 37)] (fun _ => rfl) rfl ?_
                intro w1 vals hC1 hi0 hf E hE
                clear hi0
                have f3 : vals 3 = .pointer (some (ad1.add (i * 2))) := hf 3 rfl
                try dsimp only at f3
                clear hf
                simp only [puts, act_put, act_put_none, List.setIfInBounds_toArray, List.set_cons_zero, List.set_cons_succ, f3] at hE ⊢
                clear f3
                refine wpList_get_rd (r := (kCell X).toList) (HC1.out _ (HBW.out.trans (hC1.mono HBW.out.size))) rfl rfl rfl huj rfl jk_size ?_
                go_wp2_with fail
                exact .mk (hE _ _ rfl hC1 rfl)
              · -- 5: Op.fieldAddr 28 (Operand.tmp 3) 2
                refine step_plain [] (fun _ => rfl) rfl ?_
                intro w1 vals hC1 hi0 hf E hE
                clear hi0
                clear hf
                simp only [puts, act_put, act_put_none, List.setIfInBounds_toArray, List.set_cons_zero, List.set_cons_succ] at hE ⊢
                go_wp2
                exact .mk (hE _ _ rfl hC1 rfl)
              · -- 6: Op.load 26 (Operand.tmp 39)
                refine step_plain [(5, some 39)] (fun _ => rfl) rfl ?_
                intro w1 vals hC1 hi0 hf E hE
                clear hi0
                have f5 : vals 5 = .pointer (some ⟨w.heap.size + 1, 2, none⟩) := hf 5 rfl
                try dsimp only at f5
                clear hf
                simp only [puts, act_put, act_put_none, List.setIfInBounds_toArray, List.set_cons_zero, List.set_cons_succ, f5] at hE ⊢
                clear f5
                have d0 := (HX2.out.below hC1 HX2.out.lt).cell 2
                simp only [bC, List.getElem?_toArray, List.getElem?_cons_zero, List.getElem?_cons_succ] at d0
                go_wp2
                exact .mk (hE _ _ rfl hC1 rfl)
              · -- 7: Op.move (Operand.tmp 5)
                refine step_plain [] (fun _ => rfl) rfl ?_
                intro w1 vals hC1 hi0 hf E hE
                clear hi0
                clear hf
                simp only [puts, act_put, act_put_none, List.setIfInBounds_toArray, List.set_cons_zero, List.set_cons_succ] at hE ⊢
                go_wp2
                exact .mk (hE _ _ rfl hC1 rfl)
              · -- 8: Op.indexAddr 26 (Operand.tmp 40) (Operand.tmp 41)
                refine step_plain [(6, some 40), (7, some 41)] (fun _ => rfl) rfl ?_
                intro w1 vals hC1 hi0 hf E hE
                clear hi0
                have f6 : vals 6 = .slice (some ad2) m1 c2 := hf 6 rfl
                have f7 : vals 7 = .int .i64 (i : Int) := hf 7 rfl
                try dsimp only at f6 f7
                clear hf
                simp only [puts, act_put, act_put_none, List.setIfInBounds_toArray, List.set_cons_zero, List.set_cons_succ, f6, f7] at hE ⊢
                clear f6 f7
                go_wp2
                exact .mk (hE _ _ rfl hC1 rfl)
              · -- 9: Op.load 37 (Operand.tmp 42)
                refine step_plain [(8, some 42)] (fun _ => rfl) rfl ?_
                intro w1 vals hC1 hi0 hf E hE
                clear hi0
                have f8 : vals 8 = .pointer (some (ad2.add (i * 2))) := hf 8 rfl
                try dsimp only at f8
                clear hf
                simp only [puts, act_put, act_put_none, List.setIfInBounds_toArray, List.set_cons_zero, List.set_cons_succ, f8] at hE ⊢
                clear f8
                refine wpList_get_rd (r := (kCell Y).toList) (HC2.out _ (HBW.out.trans (hC1.mono HBW.out.size))) rfl rfl rfl huj rfl jk_size ?_
                go_wp2_with fail
                exact .mk (hE _ _ rfl hC1 rfl)
              · -- 10: Op.binOp BinOp.neq 37 (Operand.tmp 38) (Operand.tmp 43) 37
                refine step_plain [(4, some 38), (9, some 43)] (fun _ => rfl) rfl ?_
                intro w1 vals hC1 hi0 hf E hE
                clear hi0
                have f4 : vals 4 = .agg (kCell X) := hf 4 rfl
                have f9 : vals 9 = .agg (kCell Y) := hf 9 rfl
                try dsimp only at f4 f9
                clear hf
                simp only [puts, act_put, act_put_none, List.setIfInBounds_toArray, List.set_cons_zero, List.set_cons_succ, f4, f9] at hE ⊢
                clear f4 f9
                refine wpList_binop rfl rfl rfl rfl (run_eqGuard_agg w1 _ _ _ _ _ _ (by kernel_rfl)) (HNQ.out w1) ?_
                go_wp2_with fail
                exact .mk (hE _ _ rfl hC1 rfl)
            intro w1 vals hC1 hf
            have f0 : vals 0 = .pointer (some ⟨w.heap.size, 2, none⟩) := hf 0 (by decide) rfl
            have f1 : vals 1 = .slice (some ad1) m1 c1 := hf 1 (by decide) rfl
            have f2 : vals 2 = .int .i64 (i : Int) := hf 2 (by decide) rfl
            have f3 : vals 3 = .pointer (some (ad1.add (i * 2))) := hf 3 (by decide) rfl
            have f4 : vals 4 = .agg (kCell X) := hf 4 (by decide) rfl
            have f5 : vals 5 = .pointer (some ⟨w.heap.size + 1, 2, none⟩) := hf 5 (by decide) rfl
            have f6 : vals 6 = .slice (some ad2) m1 c2 := hf 6 (by decide) rfl
            have f7 : vals 7 = .int .i64 (i : Int) := hf 7 (by decide) rfl
            have f8 : vals 8 = .pointer (some (ad2.add (i * 2))) := hf 8 (by decide) rfl
            have f9 : vals 9 = .agg (kCell Y) := hf 9 (by decide) rfl
            have f10 : vals 10 = .bool (!q) := hf 10 (by decide) rfl
            try dsimp only at f0 f1 f2 f3 f4 f5 f6 f7 f8 f9 f10
            clear hf
            simp only [puts, act_put, act_put_none, List.setIfInBounds_toArray, List.set_cons_zero, List.set_cons_succ, f0, f1, f2, f3, f4, f5, f6, f7, f8, f9, f10]
            clear f0 f1 f2 f3 f4 f5 f6 f7 f8 f9 f10
            have HB6 := Lib.hid (HBW.out.trans (hC1.mono HBW.out.size))
            clear hC1 HC0
            cases q with
            | true =>
              have HT2 := Lib.hid (show k1.take (i + 1) = k2.take (i + 1) by
                obtain ⟨h1, h2, hx, hy⟩ := HXI.out
                exact take_same HTK.out h1 h2 (by rw [← hx, ← hy]; exact of_decide_eq_true HQQ.out.symm))
              go_wp2_with fail
              go_roundw
              case rel => exact ⟨i + 1, HLT.out, by go_num, HT2.out, HB6.out⟩
              case measure => have := HLT.out; simp [intOf]; omega
            | false =>
              have HRF := Lib.hid (show r = false by
                obtain ⟨h1, h2, hx, hy⟩ := HXI.out
                rw [HRE.out, decide_eq_false]
                intro h
                subst h
                exact of_decide_eq_false HQQ.out.symm (hx.trans hy.symm))
              go_wp2_with fail
              go_ret
              exact ⟨by rw [HRF.out]; rfl, HB0.out.trans (HB6.out.mono HB0.out.size)⟩
          · obtain rfl : i = m1 := by omega
            have HRT := Lib.hid (show r = true by
              rw [HRE.out, decide_eq_true]
              have h := HTK.out
              rwa [List.take_of_length_le (by rw [← HM1.out]; exact Nat.le_refl _), List.take_of_length_le (by rw [← HL2.out]; exact Nat.le_refl _)] at h)
            go_wp2_with fail
            go_ret
            exact ⟨by rw [HRT.out]; rfl, HB0.out.trans (HBW.out.mono HB0.out.size)⟩
      · have hm' : ((m1 : Int) == (m2 : Int)) = false := by simp; omega
        have HRF := Lib.hid (show r = false by rw [HRR.out, sameB, decide_eq_false (show ¬ k1 = k2 from fun h => hm (by rw [HM1.out, HM2.out, h]))]; simp)
        go_wp2_with fail
        go_ret
        exact ⟨by rw [HRF.out]; rfl, HB0.out⟩
    · have hn' : (n1 == n2) = false := by simpa using hn
      have HRF := Lib.hid (show r = false by rw [HRR.out, sameB, decide_eq_false hn]; simp)
      go_wp2_with fail
      go_ret
      exact ⟨by rw [HRF.out]; rfl, HB0.out⟩
  · have hq : ((bs D1).toList == (bs D2).toList) = false := by rw [bs_toList, bs_toList]; simpa using hD
    have HRF := Lib.hid (show r = false by rw [HRR.out, sameB, decide_eq_false hD]; rfl)
    go_wp2_with fail
    go_ret
    exact ⟨by rw [HRF.out]; rfl, HB0.out⟩
end Go.Proofs.YtlkikjeccamheaaDoor.Js
/-
  The law JwkApart.
-/
namespace Go.Proofs.YtlkikjeccamheaaDoor.Js
set_option linter.unusedSimpArgs false
set_option linter.unusedVariables false
open Go.RowKit
theorem cutK_len (ks : List (Bs × Bs)) : ∀ k ∈ (ks.take 10).map cutK, (k.2.length : Int) ≤ 9223372036854775807 := fun k hk => by
  obtain ⟨x, _, rfl⟩ := List.mem_map.1 hk
  simp [cutK]
  omega
theorem apart_eq {D1 D2 : Bs} {n1 n2 : Int} {k1 k2 : List (Bs × Bs)} (h1 : mayB D1 n1 k1 = true) (h2 : mayB D2 n2 k2 = true) : sameB D1 n1 k1 D2 n2 k2 = decide (writeV (bundleJ ⟨D1, n1, k1⟩) = writeV (bundleJ ⟨D2, n2, k2⟩)) := by
  by_cases h : writeV (bundleJ ⟨D1, n1, k1⟩) = writeV (bundleJ ⟨D2, n2, k2⟩)
  · have e := bundle_inj (a := ⟨D1, n1, k1⟩) (b := ⟨D2, n2, k2⟩) h1 h2 h
    injection e with e1 e2 e3
    rw [decide_eq_true h, sameB, decide_eq_true e1, decide_eq_true e2, decide_eq_true e3]
    rfl
  · rw [decide_eq_false h]
    cases hq : sameB D1 n1 k1 D2 n2 k2 with
    | false => rfl
    | true =>
      unfold sameB at hq
      simp only [Bool.and_eq_true, decide_eq_true_eq] at hq
      obtain ⟨⟨rfl, rfl⟩, rfl⟩ := hq
      exact absurd rfl h
def wrC (D : Bs) (num : Int) (ks : List (Bs × Bs)) : Bs × Int := wrB (D.take 30) num ((ks.take 10).map cutK)
set_option maxRecDepth 100000 in
set_option maxHeartbeats 4000000 in
theorem jwkApart_any (D1 D2 : Bs) (n1 n2 : Int) (k1 k2 : List (Bs × Bs)) (A1 A2 : Option Addr) (c1 c2 : Nat) (w : World) (hr1 : Rd w w.heap.size A1 (rowsV kCell k1)) (hr2 : Rd w w.heap.size A2 (rowsV kCell k2)) (hD1 : (D1.length : Int) ≤ 9223372036854775807) (hD2 : (D2.length : Int) ≤ 9223372036854775807)
    (hl1 : (k1.length : Int) ≤ 9223372036854775807) (hl2 : (k2.length : Int) ≤ 9223372036854775807) (hk1 : ∀ k ∈ k1, (k.1.length : Int) ≤ 9223372036854775807 ∧ (k.2.length : Int) ≤ 9223372036854775807) (hk2 : ∀ k ∈ k2, (k.1.length : Int) ≤ 9223372036854775807 ∧ (k.2.length : Int) ≤ 9223372036854775807) (hG : Sh.TabG w) :
    Calls Tryd.prog 4 #[.agg (bC D1 n1 A1 k1.length c1), .agg (bC D2 n2 A2 k2.length c2)] w fun e w' => e = .returned (.bool true) ∧ Below w.heap.size w w' := by
  have hub := Tryd.underlying28
  obtain ⟨m1, hm1⟩ : ∃ m, m = k1.length := ⟨_, rfl⟩
  obtain ⟨m2, hm2⟩ : ∃ m, m = k2.length := ⟨_, rfl⟩
  obtain ⟨W0, hW0⟩ : ∃ W0, W0 = (w.alloc (.cells (bC D1 n1 A1 k1.length c1) 28)).alloc (.cells (bC D2 n2 A2 k2.length c2) 28) := ⟨_, rfl⟩
  have hb0 : Below w.heap.size w W0 := by rw [hW0]; exact ((Below.refl _ w).alloc (Nat.le_refl _) _).alloc (by simp) _
  have HB0 := Lib.hid hb0
  have HK1 := Lib.hid (show Blk W0 w.heap.size 28 (bC D1 n1 A1 k1.length c1) by rw [hW0]; exact (Blk.new _ _ _).alloc _)
  have HK2 := Lib.hid (show Blk W0 (w.heap.size + 1) 28 (bC D2 n2 A2 k2.length c2) by rw [hW0]; have := Blk.new (w.alloc (.cells (bC D1 n1 A1 k1.length c1) 28)) 28 (bC D2 n2 A2 k2.length c2); simpa using this)
  have HS0 := Lib.hid (show W0.heap.size = w.heap.size + 2 by rw [hW0]; simp)
  have HW0 := Lib.hid hW0
  have HC1 := Lib.hid (fun (u : World) (h : Below w.heap.size w u) => show Calls Tryd.prog 9 #[.agg (bC D1 n1 A1 k1.length c1)] u (CutPost D1 n1 k1 u) from jcut_any D1 n1 k1 A1 c1 w.heap.size u (hr1.below h) h.size hD1 hl1 hk1)
  have HC2 := Lib.hid (fun (u : World) (h : Below w.heap.size w u) => show Calls Tryd.prog 9 #[.agg (bC D2 n2 A2 k2.length c2)] u (CutPost D2 n2 k2 u) from jcut_any D2 n2 k2 A2 c2 w.heap.size u (hr2.below h) h.size hD2 hl2 hk2)
  have HG := Lib.hid hG
  have HLV := Lib.hid jlives_any
  rw [← hm1] at HK1 HC1 HW0 ⊢
  rw [← hm2] at HK2 HC2 HW0 ⊢
  clear hW0 hb0 hr1 hr2 hD1 hD2 hl1 hl2 hk1 hk2 hG hm1 hm2
  go_enter Tryd.func4, Tryd.ntmps4
  go_upto_region 1 with (fail)
  rw [show (w.alloc (.cells (bC D1 n1 A1 m1 c1) 28)).alloc (.cells (bC D2 n2 A2 m2 c2) 28) = W0 from HW0.out.symm]
  generalize hAV1 : Value.agg (bC D1 n1 A1 m1 c1) = AV1
  generalize hAV2 : Value.agg (bC D2 n2 A2 m2 c2) = AV2
  rw [hAV1] at HC1
  rw [hAV2] at HC2
  -- the first is cut
  go_wp2_with (refine wpList_get_box (x := .tmp 2) (cs := bC D1 n1 A1 m1 c1) HK1.out rfl rfl rfl hub rfl jb_size ?_)
  refine calls_then (HC1.out _ HB0.out) ?_
  intro e u1 hp
  unfold CutPost at hp
  obtain ⟨A3, c3, rfl, hb1, hr3⟩ := hp
  have HMX1 := Lib.hid (cutK_len k1)
  generalize hKa : (k1.take 10).map cutK = Ka at hr3 hb1 HMX1 ⊢
  generalize hDa : D1.take 30 = Da
  have hKL1 : Ka.length ≤ 10 := by rw [← hKa]; simp; omega
  have hDL1 : Da.length ≤ 30 := by rw [← hDa]; simp; omega
  obtain ⟨na, hna⟩ : ∃ n, n = Ka.length := ⟨_, rfl⟩
  rw [← hna]
  have HNA := Lib.hid hna
  have HDL1 := Lib.hid hDL1
  have HKL1 := Lib.hid hKL1
  have HR3 := Lib.hid hr3
  have HB1 := Lib.hid hb1
  have HK11 := Lib.hid (HK1.out.below hb1 HK1.out.lt)
  have HK21 := Lib.hid (HK2.out.below hb1 HK2.out.lt)
  clear hKa hDa hna hKL1 hDL1 hr3 hb1 hAV1 HC1
  go_upto_region 2 with (refine wpList_put_box (x := .tmp 2) (cells := bC Da n1 A3 na c3) HK11.out rfl rfl rfl rfl jb_size rfl (by simp [bC, Value.oneCell']) ?_; intro w2 hb2 hw2)
  have HK12 := Lib.hid hb2
  have HK22 := Lib.hid (hw2.blk HK21.out (by omega))
  have HB2 := Lib.hid (hw2.below (HB0.out.trans (HB1.out.mono HB0.out.size)) (Nat.le_refl _) (HB0.out.trans (HB1.out.mono HB0.out.size)).size)
  have HR4 := Lib.hid (show Rd w2 w2.heap.size A3 (rowsV kCell Ka) from (HR3.out.heap fun b hb hs => hw2.grown.block b hb (by intro h; injection h with h; have := HS0.out; omega)).rd fun b hb _ => hb)
  clear hb2 hw2
  -- the second is cut
  go_wp2_with (refine wpList_get_box (x := .tmp 3) (cs := bC D2 n2 A2 m2 c2) HK22.out rfl rfl rfl hub rfl jb_size ?_)
  refine calls_then (HC2.out _ HB2.out) ?_
  intro e u3 hp
  unfold CutPost at hp
  obtain ⟨A4, c4, rfl, hb3, hr5⟩ := hp
  have HMX2 := Lib.hid (cutK_len k2)
  generalize hKb : (k2.take 10).map cutK = Kb' at hr5 hb3 HMX2 ⊢
  generalize hDb : D2.take 30 = Db
  have hKL2 : Kb'.length ≤ 10 := by rw [← hKb]; simp; omega
  have hDL2 : Db.length ≤ 30 := by rw [← hDb]; simp; omega
  obtain ⟨nb, hnb⟩ : ∃ n, n = Kb'.length := ⟨_, rfl⟩
  rw [← hnb]
  have HNB := Lib.hid hnb
  have HDL2 := Lib.hid hDL2
  have HKL2 := Lib.hid hKL2
  have HR5 := Lib.hid hr5
  have HB3 := Lib.hid (HB2.out.trans (hb3.mono HB2.out.size))
  have HK13 := Lib.hid (HK12.out.below hb3 HK12.out.lt)
  have HK23 := Lib.hid (HK22.out.below hb3 HK22.out.lt)
  have HR43 := Lib.hid (HR4.out.below hb3)
  have HSZ := Lib.hid (show w2.heap.size ≤ u3.heap.size from hb3.size)
  have HSW := Lib.hid (show w.heap.size + 1 < w2.heap.size from HK22.out.lt)
  clear hKb hDb hnb hKL2 hDL2 hr5 hb3 hAV2 HC2
  go_upto_region 3 with (refine wpList_put_box (x := .tmp 3) (cells := bC Db n2 A4 nb c4) HK23.out rfl rfl rfl rfl jb_size rfl (by simp [bC, Value.oneCell']) ?_; intro w4 hb4 hw4)
  have HK24 := Lib.hid hb4
  have HK14 := Lib.hid (hw4.blk HK13.out (by omega))
  have HB4 := Lib.hid (hw4.below HB3.out (by omega) HB3.out.size)
  have HR44 := Lib.hid (show Rd w4 w4.heap.size A3 (rowsV kCell Ka) from fun i u hu => by
    obtain ⟨ad, e1, e2, e3⟩ := HR43.out i u hu
    obtain ⟨ad', e1', e2', e3'⟩ := HR3.out i u hu
    rw [e1] at e1'
    injection e1' with e1'
    subst e1'
    refine ⟨ad, e1, Nat.lt_of_lt_of_le e2 (Nat.le_trans HSZ.out hw4.grown.size), ?_⟩
    rw [← e3]
    exact World.cell?_of_block (w := u3) (w' := w4) (by rw [block_of_add]; exact hw4.grown.block _ (Nat.lt_of_lt_of_le e2 HSZ.out) (by intro h; injection h with h; have := HS0.out; omega)))
  have HR54 := Lib.hid (show Rd w4 w4.heap.size A4 (rowsV kCell Kb') from (HR5.out.heap fun b hb hs => hw4.grown.block b hb (by intro h; injection h with h; have := HSW.out; omega)).rd fun b hb _ => hb)
  have HGG := Lib.hid (fun (u : World) (h : Below w4.heap.size w4 u) => show Sh.TabG u from HG.out.below (HB4.out.trans (h.mono HB4.out.size)) HG.out.size)
  have HWA := Lib.hid (fun (u : World) (h : Below w4.heap.size w4 u) => jwkwrite_any Da n1 Ka A3 c3 w4.heap.size u (HR44.out.below h) h.size (by rw [bs_size]; have := HDL1.out; omega) (by have := HKL1.out; omega) HMX1.out (HGG.out u h))
  have HWB := Lib.hid (fun (u : World) (h : Below w4.heap.size w4 u) => jwkwrite_any Db n2 Kb' A4 c4 w4.heap.size u (HR54.out.below h) h.size (by rw [bs_size]; have := HDL2.out; omega) (by have := HKL2.out; omega) HMX2.out (HGG.out u h))
  have HSM := Lib.hid (fun (u : World) (h : Below w4.heap.size w4 u) => same11_any Da Db n1 n2 Ka Kb' A3 A4 c3 c4 w4.heap.size w4.heap.size u (HR44.out.below h) (HR54.out.below h) h.size h.size (by have := HKL1.out; omega) (by have := HKL2.out; omega))
  have HAE := Lib.hid (@apart_eq Da Db n1 n2 Ka Kb')
  have HRA := Lib.hid (show wrB Da n1 Ka = if mayB Da n1 Ka then (writeV (bundleJ ⟨Da, n1, Ka⟩), 0) else ([], 1) from rfl)
  have HRB := Lib.hid (show wrB Db n2 Kb' = if mayB Db n2 Kb' then (writeV (bundleJ ⟨Db, n2, Kb'⟩), 0) else ([], 1) from rfl)
  obtain ⟨ma, hma⟩ : ∃ m, m = mayB Da n1 Ka := ⟨_, rfl⟩
  obtain ⟨mb, hmb⟩ : ∃ m, m = mayB Db n2 Kb' := ⟨_, rfl⟩
  obtain ⟨ra, hra⟩ : ∃ r, r = wrB Da n1 Ka := ⟨_, rfl⟩
  obtain ⟨rb, hrb⟩ : ∃ r, r = wrB Db n2 Kb' := ⟨_, rfl⟩
  obtain ⟨sm, hsm⟩ : ∃ s, s = sameB Da n1 Ka Db n2 Kb' := ⟨_, rfl⟩
  obtain ⟨Ta, hTa⟩ : ∃ T, T = writeV (bundleJ ⟨Da, n1, Ka⟩) := ⟨_, rfl⟩
  obtain ⟨Tb, hTb⟩ : ∃ T, T = writeV (bundleJ ⟨Db, n2, Kb'⟩) := ⟨_, rfl⟩
  rw [← hma] at HAE HRA
  rw [← hmb] at HAE HRB
  rw [← hra] at HWA HRA
  rw [← hrb] at HWB HRB
  rw [← hsm] at HSM HAE
  rw [← hTa, ← hTb] at HAE
  rw [← hTa] at HRA
  rw [← hTb] at HRB
  rw [← HNA.out] at HWA HSM
  rw [← HNB.out] at HWB HSM
  have HU0 := Lib.hid (Below.refl w4.heap.size w4)
  clear hb4 hw4 hma hmb hra hrb hsm hTa hTb
  -- the texts
  go_wp2_with (refine wpList_get_box (x := .tmp 2) (cs := bC Da n1 A3 na c3) HK14.out rfl rfl rfl hub rfl jb_size ?_)
  refine calls_then (HWA.out _ HU0.out) ?_
  rintro e u5 ⟨rfl, hb5⟩
  have HU5 := Lib.hid hb5
  have HK25 := Lib.hid (HK24.out.below hb5 HK24.out.lt)
  have HK15 := Lib.hid (HK14.out.below hb5 HK14.out.lt)
  clear hb5
  go_wp2_with (refine wpList_get_box (x := .tmp 3) (cs := bC Db n2 A4 nb c4) HK25.out rfl rfl rfl hub rfl jb_size ?_)
  refine calls_then (HWB.out _ HU5.out) ?_
  rintro e u6 ⟨rfl, hb6⟩
  have HU6 := Lib.hid (HU5.out.trans (hb6.mono HU5.out.size))
  have HK26 := Lib.hid (HK25.out.below hb6 HK25.out.lt)
  have HK16 := Lib.hid (HK15.out.below hb6 HK15.out.lt)
  clear hb6
  have HF := Lib.hid (HB4.out.trans (HU6.out.mono HB4.out.size))
  cases ma with
  | false =>
    obtain rfl : ra = ([], 1) := HRA.out
    go_wp2_with (go_at_call 8; refine calls_then (HLV.out _) ?_; rintro e W' ⟨rfl, hb'⟩; have HB' := Lib.hid (HF.out.trans (hb'.mono HF.out.size)); clear hb')
    go_ret
    exact ⟨rfl, HB'.out⟩
  | true =>
    obtain rfl : ra = (Ta, 0) := HRA.out
    cases mb with
    | false =>
      obtain rfl : rb = ([], 1) := HRB.out
      go_wp2_with (go_at_call 8; refine calls_then (HLV.out _) ?_; rintro e W' ⟨rfl, hb'⟩; have HB' := Lib.hid (HF.out.trans (hb'.mono HF.out.size)); clear hb')
      go_ret
      exact ⟨rfl, HB'.out⟩
    | true =>
      obtain rfl : rb = (Tb, 0) := HRB.out
      have hae : sm = decide (Ta = Tb) := HAE.out rfl rfl
      have hq : ((bs Ta).toList == (bs Tb).toList) = sm := by rw [bs_toList, bs_toList, hae]; by_cases h : Ta = Tb <;> simp [h]
      have hqq : (sm == sm) = true := by simp
      clear hae
      go_wp2_with (first
        | (refine wpList_get_box (x := .tmp 2) (cs := bC Da n1 A3 na c3) HK16.out rfl rfl rfl hub rfl jb_size ?_)
        | (refine wpList_get_box (x := .tmp 3) (cs := bC Db n2 A4 nb c4) HK26.out rfl rfl rfl hub rfl jb_size ?_)
        | (go_at_call 11; refine calls_then (HSM.out _ HU6.out) ?_; rintro e W8 ⟨rfl, hb8⟩; have HB8 := Lib.hid (HF.out.trans (hb8.mono HF.out.size)); clear hb8)
        | (go_at_call 8; refine calls_then (HLV.out _) ?_; rintro e W' ⟨rfl, hb'⟩; have HB' := Lib.hid (HB8.out.trans (hb'.mono HB8.out.size)); clear hb'))
      go_ret
      exact ⟨rfl, HB'.out⟩
end Go.Proofs.YtlkikjeccamheaaDoor.Js
/-
  Opening an argument that is a bundle of keys.
-/
namespace Go.Proofs.YtlkikjeccamheaaDoor.Js
set_option linter.unusedSimpArgs false
set_option linter.unusedVariables false
open Go.ChangeShapes Go.WideShapes Go.ChangeAt Go.RowKit Go.Joins
def FitK (ks : List (Bs × Bs)) : Prop := ks.length ≤ maxLen ∧ ∀ k ∈ ks, k.1.length ≤ maxLen ∧ k.2.length ≤ maxLen
section
variable {H : Type} {enc : TypeId × Value → H} {w : World} {base : Nat} {spare : Nat → Bool} {held : Bool}
set_option maxRecDepth 100000 in
theorem open_jwk {fuel : Nat} {cs : List Value} {x : DataW H × List MemPlace} (h : DataW.trod enc Tryd.prog w base spare held fuel 37 cs = some x) (hl : cs.length = 2) :
    ∃ k : Bs × Bs, cs = (kCell k).toList ∧ k.1.length ≤ maxLen ∧ k.2.length ≤ maxLen := by
  obtain ⟨xs, n, _, hx, _, hlen, hf⟩ := DataW.trod_struct Tryd.underlying37 h
  match xs, hlen, cs, hl with
  | [y0, y1], _, [v0, v1], _ =>
    have c0 : Tryd.prog.cellsOf 9 = 1 := by kernel_rfl
    have g0 := hf 0 _ rfl
    have g1 := hf 1 _ rfl
    simp [c0] at g0 g1
    obtain ⟨s0, e0, -, w0⟩ := DataW.trod_string Tryd.underlying9 g0
    obtain ⟨s1, e1, -, w1⟩ := DataW.trod_string Tryd.underlying9 g1
    injection e0 with e0
    injection e1 with e1
    subst e0 e1
    exact ⟨(s0.data.toList, s1.data.toList), by simp [kCell, bs_self], by simpa using w0, by simpa using w1⟩
set_option maxRecDepth 100000 in
theorem open_jwks {fuel : Nat} {cs : List Value} {x : DataW H × List MemPlace} (h : DataW.trod enc Tryd.prog w base spare held fuel 26 cs = some x) :
    ∃ (A : Option Addr) (c : Nat) (l : List (Bs × Bs)), cs = [.slice A l.length c] ∧ Rd w w.heap.size A (rowsV kCell l) ∧ FitK l := by
  have c4 : Tryd.prog.cellsOf 37 = 2 := by kernel_rfl
  rcases Deep.open_slice Tryd.underlying26 h with ⟨rfl, _⟩ | ⟨a, len, cap, m, n, D, Pl, rfl, hb, hl, hm, hmm, rfl, hx⟩
  · exact ⟨none, 0, [], rfl, Rd.nil _ _ _, Nat.zero_le _, fun k hk => by cases hk⟩
  · have hlm : len ≤ m := by rw [hmm]; split <;> omega
    rw [c4] at hx
    obtain ⟨f, hf⟩ := Deep.choose_lt (α := Bs × Bs) (n := m) (p := fun i q => w.cells? base (a.add (i * 2)) 2 = some (kCell q).toList ∧ q.1.length ≤ maxLen ∧ q.2.length ≤ maxLen) (fun i hi => by
      obtain ⟨cs', h1, h2⟩ := hx i hi
      obtain ⟨_, hlen, _⟩ := World.cells?_some h1
      obtain ⟨k, rfl, hk, hk2⟩ := open_jwk h2 hlen
      exact ⟨k, h1, hk, hk2⟩)
    refine ⟨some a, cap, (List.range len).map f, by simp, fun i u hu => ?_, by simp; omega, fun k hk => ?_⟩
    · have hl5 : (rowsV kCell ((List.range len).map f)).length = len * 2 := by rw [rowsV_len (m := 2) (fun _ => rfl)]; simp
      have hi : i < len * 2 := by
        have := (List.getElem?_eq_some_iff.1 hu).1
        rwa [hl5] at this
      have hq : i / 2 < len := by omega
      obtain ⟨_, hlen, hcell⟩ := World.cells?_some (hf (i / 2) (by omega)).1
      have hc := hcell (i % 2) (by omega)
      obtain ⟨v, hv⟩ : ∃ v, (kCell (f (i / 2)))[i % 2]? = some v := ⟨_, Array.getElem?_eq_getElem (by rw [show (kCell (f (i / 2))).size = 2 from rfl]; omega)⟩
      have hkv := rowsV_at (f := kCell) (m := 2) (fun _ => rfl) ((List.range len).map f) (i / 2) (by simpa using hq) (i % 2) v (by rw [List.getElem_map, List.getElem_range]; exact hv)
      rw [show i / 2 * 2 + i % 2 = i by omega] at hkv
      rw [hkv] at hu
      injection hu with hu
      subst hu
      rw [Deep.add_add, show i / 2 * 2 + i % 2 = i by omega] at hc
      have hc' : w.cell? (a.add i) = some v := by
        rw [hc, Array.getElem?_toList]
        exact hv
      refine ⟨a, rfl, ?_, hc'⟩
      have := World.block_lt_of_cell? w _ hc'
      rwa [block_of_add] at this
    · obtain ⟨i, hi, rfl⟩ := List.mem_map.1 hk
      exact (hf i (by have := List.mem_range.1 hi; omega)).2
set_option maxRecDepth 100000 in
theorem open_bundle_arg {r : Reach} {b0 : Nat} {v : Value} {d : DataW H} {p : List MemPlace} (hv : Value.okWide Tryd.prog w r b0 28 v) (h : DataW.Trod enc Tryd.prog w base spare held 28 v d p) :
    ∃ (D : Bs) (num : Int) (ks : List (Bs × Bs)) (A : Option Addr) (c : Nat), v = .agg #[.string (bs D), .int .i64 num, .slice A ks.length c] ∧ Rd w w.heap.size A (rowsV kCell ks) ∧ FitK ks ∧ D.length ≤ maxLen := by
  have c5 : Tryd.prog.cellsOf 28 = 3 := by kernel_rfl
  obtain ⟨cs, rfl, hsz⟩ := okWide_struct Tryd.underlying28 hv
  obtain ⟨fuel, hf⟩ := h
  have hl : cs.toList.length = 3 := by rw [← c5]; exact hsz
  obtain ⟨xs, n, _, hx, _, hlen, hf⟩ := DataW.trod_struct Tryd.underlying28 (show DataW.trod enc Tryd.prog w base spare held fuel 28 cs.toList = some (d, p) from hf)
  generalize hcs : cs.toList = l at hl hf
  match xs, hlen, l, hl with
  | [y0, y1, y2], _, [v0, v1, v2], _ =>
    have c0 : Tryd.prog.cellsOf 9 = 1 := by kernel_rfl
    have c1 : Tryd.prog.cellsOf 3 = 1 := by kernel_rfl
    have c2 : Tryd.prog.cellsOf 26 = 1 := by kernel_rfl
    have g0 := hf 0 _ rfl
    have g1 := hf 1 _ rfl
    have g2 := hf 2 _ rfl
    simp [c0, c1, c2] at g0 g1 g2
    obtain ⟨s0, e0, -, w0⟩ := DataW.trod_string Tryd.underlying9 g0
    obtain ⟨n1, e1, -, w1⟩ := DataW.trod_int Tryd.underlying3 g1
    obtain ⟨A, c, l, e2, hr, hfit⟩ := open_jwks g2
    injection e0 with e0
    injection e1 with e1
    injection e2 with e2
    subst e0 e1 e2
    have e' : cs = #[.string s0, .int .i64 n1, .slice A l.length c] := Array.ext' hcs
    subst e'
    exact ⟨s0.data.toList, n1, l, A, c, by rw [bs_self], hr, hfit, by simpa using w0⟩
end
end Go.Proofs.YtlkikjeccamheaaDoor.Js
namespace Go.Proofs.YtlkikjeccamheaaDoor.jwkApart
set_option linter.unusedSimpArgs false
set_option linter.unusedVariables false
open Go.ChangeShapes Go.WideShapes Go.ChangeAt Go.RowKit Go.Joins Sh Js

set_option maxRecDepth 100000 in
theorem lifted (os : Os) (started : os.Started) (H : Type) (enc : TypeId × Value → H) :
    ReturnsInHanded {} Tryd.checked os 4 .any (fun w args => (Rows.jwkApartSpec.pre enc Tryd.prog Tryd.f4 [] false w args ∧ laidMetH Tryd.prog laidL3 w) ∧ sizedMet enc Tryd.prog Tryd.f4 (OpenSpec.ofChange Rows.jwkApartSpec) false w args)
      (Rows.jwkApartSpec.post enc Tryd.prog Tryd.f4 false true false false) := by
  refine returnsInHanded_of_change_and (C := Tryd.checked) (X := fun w _ => laidMetH Tryd.prog laidL3 w) (fun _ _ _ hh h => h.of_heap hh) own started (by kernel_rfl) Tryd.func4
    (ChangeSpec.witness_shaped (enc := enc) (C := Tryd.checked) (os := os) (X := fun w _ => laidMetH Tryd.prog laidL3 w) false (World.laidAll Tryd.prog os laidL3) #[.agg #[.string ⟨#[]⟩, .int .i64 0, .slice none 0 0], .agg #[.string ⟨#[]⟩, .int .i64 0, .slice none 0 0]] 8 (World.laidAll_os _ _ _) (World.shaped_of_ZipB (by kernel_rfl) (by kernel_rfl)) (by kernel_rfl) (by kernel_rfl) (by kernel_rfl) (door_met3 os _)) ?_
  intro W base args ds gs before hval0 hW _ _ hL _
  have hval : ∀ (j : Nat) t v, Tryd.f4.params[j]? = some t → args[j]? = some v → Value.okWide Tryd.prog W .any base t v := hval0
  have hW' := hW
  obtain ⟨p, q, hA0, hV, rfl, hfz, hnd⟩ := hW
  have hA : DataW.TrodAll enc Tryd.prog W 0 (fun _ => true) true Tryd.f4.params.toList args.toList ds p := hA0
  rw [Tryd.params4] at hA hval
  have hG := tab_of_laid3 hL
  obtain ⟨v0, v1, y0, y1, p0, p1, rfl, rfl, rfl, h0, h1⟩ := trodAll_two hA
  obtain ⟨rfl, rfl⟩ := trodVars_none hV
  have h0k := h0
  have h1k := h1
  obtain ⟨D, num, ks, A, c, rfl, hr, hfit, hD⟩ := open_bundle_arg (hval 0 28 v0 rfl rfl) h0
  obtain ⟨D2, num2, ks2, A2, c2, rfl, hr2, hfit2, hD2⟩ := open_bundle_arg (hval 1 28 v1 rfl rfl) h1
  clear hA0 hval0
  try simp only [List.append_nil, List.nil_append] at hW'
  have hc := jwkApart_any D D2 num num2 ks ks2 A A2 c c2 W hr hr2 (by unfold maxLen at hD; omega) (by unfold maxLen at hD2; omega) (by have := hfit.1; unfold maxLen at this; omega) (by have := hfit2.1; unfold maxLen at this; omega)
    (fun k hk => by have := hfit.2 k hk; unfold maxLen at this; omega) (fun k hk => by have := hfit2.2 k hk; unfold maxLen at this; omega) hG
  refine (show Calls _ _ #[.agg #[.string (bs D), .int .i64 num, .slice A ks.length c], .agg #[.string (bs D2), .int .i64 num2, .slice A2 ks2.length c2]] W _ from hc).mono fun e W' ⟨he, hb⟩ => ?_
  subst he
  have hlt : ∀ x ∈ (p0 ++ p1 : List MemPlace), x.block < W.heap.size := fun x hx => hW'.lt x (by first | (simp at hx; done) | simpa using hx)
  exact ⟨_, rfl, post_of_below (pa := p0 ++ p1) (pv := []) (by simpa using hW') (fun _ _ _ => trodAll_mk1 (shut_bool Tryd.underlying4 _))
    (fun sp hsp => by
      have h := trodAll_mk2 (stays laidOut (by kernel_rfl) (of_decide_eq_true (by kernel_rfl)) h0k hb (fun x hx => hlt x (by simp [hx])) (fun x hx => hsp x (by simp [hx])))
        (stays laidOut (by kernel_rfl) (of_decide_eq_true (by kernel_rfl)) h1k hb (fun x hx => hlt x (by simp [hx])) (fun x hx => hsp x (by simp [hx])))
      try simp only [List.append_nil] at h
      exact h)
    (fun _ _ => by rfl) (by simp) hb (ok_one (by kernel_rfl) rfl (okWide_bool_mk Tryd.underlying4 _))⟩

theorem row_holds : Rows.JwkApartSaid :=
  OpenClaim.holds_of_wide 4 Tryd.f4 rfl rfl rfl rfl rfl rfl rfl ⟨rfl, rfl, rfl, rfl, rfl⟩ rfl rfl rfl rfl rfl (by kernel_rfl) Tryd.func4 (by kernel_rfl)
    (of_decide_eq_true (by kernel_rfl)) (by unfold Func.isWrapper; first | (rw [if_pos (by decide +kernel)]; kernel_rfl) | (rw [if_neg (by decide +kernel)]; exact ⟨rfl, rfl⟩))
    (fun os started H enc _ => lifted os started H enc)

theorem holds : Rows.JwkApartCardSaid :=
  Claim7.holds_tied_plain_at .later [] [.data, .data, .pinned] true (true, "3cb4439a1eac194b7635d0755f5ac32a19826cfc4084b41c9075a3c4c6c73b8c") false
    row_holds (fun _ h => by cases h) (by kernel_rfl) (fun _ h => by cases h) jwkApart_row_tie rfl ⟨rfl, rfl⟩ (by kernel_rfl) rfl
    (fun f fn hf hfn => by
      obtain rfl : f = 4 := Option.some.inj ((show Tryd.prog.funcNamed "brevet/brevetlaw11.JwkApart" = some 4 by kernel_rfl).symm.trans hf) |>.symm
      obtain rfl : fn = Tryd.f4 := (Option.some.inj (Tryd.func4.symm.trans hfn)).symm
      exact ⟨by kernel_rfl, fun j t ht => by
        rw [Tryd.params4] at ht
        have hm : t ∈ [28, 28] := by simpa using Array.mem_of_getElem? ht
        have hall : ([28, 28].all fun u => !Tryd.prog.wantsStandIn u) = true := by kernel_rfl
        exact (show Tryd.prog.wantsStandIn t = false by simpa using List.all_eq_true.1 hall t hm)⟩)
    (by kernel_rfl)
#print axioms holds
end Go.Proofs.YtlkikjeccamheaaDoor.jwkApart
