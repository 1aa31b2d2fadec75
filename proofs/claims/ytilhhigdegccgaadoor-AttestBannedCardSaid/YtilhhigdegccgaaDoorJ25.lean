/-
  Joined texts: OfC Of32 Top2r.
-/
import Derived.Test.YtilhhigdegccgaaDoorJ21
import Derived.Test.YtilhhigdegccgaaDoorJ23
import Derived.Test.YtilhhigdegccgaaDoorJ24
import Derived.Test.YtilhhigdegccgaaDoorJ14
/-
  Plain: what the reference's Of of both kinds share.
-/
namespace Go.Proofs.YtilhhigdegccgaaDoor.Sh
set_option linter.unusedSimpArgs false
set_option linter.unusedVariables false
open Go.RowKit
theorem Blk.newAt {w : World} {n : Nat} {t : TypeId} {cs : Array Value} (h : w.heap.size = n) : Blk (w.alloc (.cells cs t)) n t cs := h ▸ Blk.new w t cs
def zH : Array Value := #[.int .i64 0, .int .i64 0, .slice none 0 0, .slice none 0 0, .slice none 0 0, .slice none 0 0, .slice none 0 0, .slice none 0 0]
theorem kL_take (F : ShaF) (n : Nat) (h : n < F.many) : (kL F).take (n + 1) = (kL F).take n ++ [stepsN.getD n 0 / 2 ^ (64 - F.bits) % 2 ^ F.bits] := by
  have hl : n < (kL F).length := by rw [kL_length]; exact h
  rw [List.take_succ_eq_append_getElem hl]
  have := kL_get F n h
  rw [List.getElem?_eq_getElem hl] at this
  rw [Option.some.inj this]
  rfl
theorem start_take (F : ShaF) (n : Nat) (h : n < 8) : (s8L (startS F)).take (n + 1) = (s8L (startS F)).take n ++ [firstN.getD n 0 / 2 ^ (64 - F.bits) % 2 ^ F.bits] := by
  rw [s8_take _ _ h, startS_at _ _ h]
def csV (bits many ga gb gc gd : Nat) (vK vF : Value) : Array Value := hC bits many (.slice (some ⟨ga, 0, none⟩) 3 3) (.slice (some ⟨gb, 0, none⟩) 3 3) (.slice (some ⟨gc, 0, none⟩) 3 3) (.slice (some ⟨gd, 0, none⟩) 3 3) vK vF
end Go.Proofs.YtilhhigdegccgaaDoor.Sh
/-
  Walk: the reference's Of, of 32 bits.
-/
namespace Go.Proofs.YtilhhigdegccgaaDoor.Sh
set_option linter.unusedSimpArgs false
set_option linter.unusedVariables false
open Go.RowKit
set_option maxRecDepth 100000 in
set_option maxHeartbeats 4000000 in
theorem of32_any (w : World) : Calls Tryd.prog 65 #[.int .i64 32] w (OfPost F32 w) := by
  have hu := Tryd.underlying108
  obtain ⟨g0, hg0⟩ : ∃ x, x = w.heap.size := ⟨_, rfl⟩
  go_enter Tryd.func65, Tryd.ntmps65
  go_wp2_with fail
  obtain ⟨gh, hgh⟩ : ∃ x, x = w.heap.size + 1 + 1 + 1 + 1 + 1 := ⟨_, rfl⟩
  obtain ⟨ga, hga⟩ : ∃ x, x = w.heap.size + 1 + 1 + 1 + 1 + 1 + 1 := ⟨_, rfl⟩
  obtain ⟨gb, hgb⟩ : ∃ x, x = w.heap.size + 1 + 1 + 1 + 1 + 1 + 1 + 1 := ⟨_, rfl⟩
  obtain ⟨gc, hgc⟩ : ∃ x, x = w.heap.size + 1 + 1 + 1 + 1 + 1 + 1 + 1 + 1 := ⟨_, rfl⟩
  obtain ⟨gd, hgd⟩ : ∃ x, x = w.heap.size + 1 + 1 + 1 + 1 + 1 + 1 + 1 + 1 + 1 := ⟨_, rfl⟩
  have hd : ga ≠ gh ∧ gb ≠ gh ∧ gc ≠ gh ∧ gd ≠ gh := by omega
  have hlt : g0 < gh ∧ g0 < ga ∧ g0 < gb ∧ g0 < gc ∧ g0 < gd := by omega
  refine calls_then (primes_any _) ?_
  rintro e wp ⟨P, pc, rfl, hown, hbel⟩
  have B0 := (((((((((((Blk.newAt (n := w.heap.size) (t := 108) (cs := zH) (by simp)).alloc _).alloc _).alloc _).alloc _).alloc _).alloc _).alloc _).alloc _).alloc _)).below hbel (by simp <;> omega)
  have Bh := ((((((Blk.newAt (n := w.heap.size + 1 + 1 + 1 + 1 + 1) (t := 108) (cs := #[.int .i64 32, .int .i64 64, .slice (some ⟨w.heap.size + 1 + 1 + 1 + 1 + 1 + 1, 0, none⟩) 3 3, .slice (some ⟨w.heap.size + 1 + 1 + 1 + 1 + 1 + 1 + 1, 0, none⟩) 3 3, .slice (some ⟨w.heap.size + 1 + 1 + 1 + 1 + 1 + 1 + 1 + 1, 0, none⟩) 3 3, .slice (some ⟨w.heap.size + 1 + 1 + 1 + 1 + 1 + 1 + 1 + 1 + 1, 0, none⟩) 3 3, .slice none 0 0, .slice none 0 0]) (by simp)).alloc _).alloc _).alloc _).alloc _)).below hbel (by simp <;> omega)
  have Ba := (((((Blk.newAt (n := w.heap.size + 1 + 1 + 1 + 1 + 1 + 1) (t := 3) (cs := (tri F32.s0).toArray) (by simp)).alloc _).alloc _).alloc _)).below hbel (by simp <;> omega)
  have Bb := ((((Blk.newAt (n := w.heap.size + 1 + 1 + 1 + 1 + 1 + 1 + 1) (t := 3) (cs := (tri F32.s1).toArray) (by simp)).alloc _).alloc _)).below hbel (by simp <;> omega)
  have Bc := (((Blk.newAt (n := w.heap.size + 1 + 1 + 1 + 1 + 1 + 1 + 1 + 1) (t := 3) (cs := (tri F32.t0).toArray) (by simp)).alloc _)).below hbel (by simp <;> omega)
  have Bd := ((Blk.newAt (n := w.heap.size + 1 + 1 + 1 + 1 + 1 + 1 + 1 + 1 + 1) (t := 3) (cs := (tri F32.t1).toArray) (by simp))).below hbel (by simp <;> omega)
  have hbl := (((((((((((below_new w _).alloc (by simp; try omega) _).alloc (by simp; try omega) _).alloc (by simp; try omega) _).alloc (by simp; try omega) _).alloc (by simp; try omega) _).alloc (by simp; try omega) _).alloc (by simp; try omega) _).alloc (by simp; try omega) _).alloc (by simp; try omega) _) : Below w.heap.size w _).trans (hbel.mono (by simp <;> omega))
  have hown' := hown.mono (show w.heap.size ≤ _ by simp <;> omega)
  rw [← hgd, ← hgc, ← hgb, ← hga, ← hgh] at Bh ⊢
  rw [← hg0] at B0 hbl hown' ⊢
  rw [← hga] at Ba
  rw [← hgb] at Bb
  rw [← hgc] at Bc
  rw [← hgd] at Bd
  obtain ⟨gp, rfl, hgp1, hgp2⟩ := hown'.ptr (by decide)
  have hpc := hown'.le_cap
  have hst0 : OfSt w ⟨g0, gh, ga, gb, gc, gd⟩ F32 zH (.slice (some ⟨gp, 0, none⟩) 80 pc) (csV 32 64 ga gb gc gd (.slice none 0 0) (.slice none 0 0)) (.slice none 0 0) ((kL F32).take 0) (.slice none 0 0) [] wp :=
    ⟨hbl, B0, Bh, Ba, Bb, Bc, Bd, hown', OwnX.nil _ _ _ _, OwnX.nil _ _ _ _, .inl rfl, hlt.1⟩
  have HD := Lib.hid hd
  have HLT := Lib.hid hlt
  have HG0 := Lib.hid hg0
  have HST0 := Lib.hid hst0
  clear B0 Bh Ba Bb Bc Bd hbl hown' hown hbel hd hlt hgp1 hgp2 hgh hga hgb hgc hgd hg0 hst0
  go_wp2_with fail
  go_loopw [5] (fun i wr => ∃ (n : Nat) (A : Option Addr) (c : Nat), n ≤ 64 ∧ i = .int .i64 n ∧ OfSt w ⟨g0, gh, ga, gb, gc, gd⟩ F32 zH (.slice (some ⟨gp, 0, none⟩) 80 pc) (csV 32 64 ga gb gc gd (.slice A n c) (.slice none 0 0)) (.slice A n c) ((kL F32).take n) (.slice none 0 0) [] wr) (fun i _ => 64 - (intOf i).toNat)
  case atStart => exact ⟨0, none, 0, by omega, rfl, HST0.out⟩
  case round =>
    clear HST0
    obtain ⟨n, A, c, hn, rfl, hst⟩ := hrel
    have d1 := hst.h.cell 1
    simp [csV, hC] at d1
    by_cases hnl : n < 64
    · have hnl' : (n : Int) < 64 := by omega
      obtain ⟨L, hL⟩ : ∃ L, L = (kL F32).take n := ⟨_, rfl⟩
      have hLl : L.length = n := by rw [hL, List.length_take, kL_length, show F32.many = 64 from rfl]; omega
      obtain ⟨pn, hpn⟩ : ∃ x, x = primes80.getD n 0 := ⟨_, rfl⟩
      have hpl : pn < 65536 := by rw [hpn]; exact prime_lt n (by omega)
      have hrt : rootN pn 3 = stepsN.getD n 0 := by rw [hpn]; exact rootN3 n (by omega)
      obtain ⟨rt, hrt2⟩ : ∃ x, x = rootN pn 3 := ⟨_, rfl⟩
      have hrl : rt < 18446744073709551616 := by rw [hrt2, rootN]; exact Nat.mod_lt _ (by decide)
      obtain ⟨kn, hkn⟩ : ∃ x, x = rt / 2 ^ (64 - 32) % 2 ^ 32 := ⟨_, rfl⟩
      have hnx : (kL F32).take (n + 1) = L ++ [kn] := by
        rw [hkn, hrt2, hrt, hL]
        exact kL_take F32 n hnl
      have ep : (wordsV .i64 primes80)[n]? = some (.int .i64 (pn : Int)) := by rw [hpn]; exact wordsV_at (show n < 80 by omega)
      rw [← hL] at hst
      have HL := Lib.hid hLl
      have HPL := Lib.hid hpl
      have HRT := Lib.hid hrt2
      have HRL := Lib.hid hrl
      have HKN := Lib.hid hkn
      have HNX := Lib.hid hnx
      have EP := Lib.hid ep
      have hn80 : n < 80 := by omega
      have HC0 := hst.drew
      have HST1 := Lib.hid hst
      clear hL hLl hpn hpl hrt hrt2 hrl hkn hnx ep hst
      go_wp2_with fail
      clear HST1 d1
      apply wp_region_seqp (fun u => OfSt w ⟨g0, gh, ga, gb, gc, gd⟩ F32 zH (.slice (some ⟨gp, 0, none⟩) 80 pc) (csV 32 64 ga gb gc gd (.slice A n c) (.slice none 0 0)) (.slice A n c) L (.slice none 0 0) [] u) (fun i => i == 0) (fun u u' => Below u.heap.size u u') [_, _, _, _, _, _, _, _, _, undef] (gOf [(9, fun v u => ∃ g9, v = .slice (some ⟨g9, 0, none⟩) 1 1 ∧ Blk u g9 114 [.int .u64 (kn : Int)].toArray)]) 10 (by kernel_rfl) (by kernel_rfl) (by decide) (by kernel_rfl) (fun i h => by simp only [beq_iff_eq] at h; subst h; rfl) (stabL_of _ ⟨(fun _ _ _ h h0 => by obtain ⟨g, e, hb⟩ := h0; exact ⟨g, e, hb.below h hb.lt⟩), trivial⟩) HC0
      simp only [List.take_succ_cons, List.take_zero, List.drop_succ_cons, List.drop_zero]
      iterate 1
        first
        | (apply SeqH.pure; rfl; rfl; rfl; rfl; (simp only [act_put, act_put_none, List.setIfInBounds_toArray, List.set_cons_zero, List.set_cons_succ]; rfl); (intro w1 E hE; go_wp2; exact .mk hE))
        | (apply SeqH.step; rfl; (first | (apply SeqG.next; rfl; rfl; rfl)); (simp only [act_put, act_put_none, List.setIfInBounds_toArray, List.set_cons_zero, List.set_cons_succ]; rfl); (intro w1 hC1 hf E hE; go_wp2; exact .mk (hE _ hC1 (Below.refl _ _))); refine SeqG.nil ?_)
      apply SeqH.step
      · rfl
      apply SeqG.next
      · rfl
      · rfl
      · rfl
      · simp only [act_put, act_put_none, List.setIfInBounds_toArray, List.set_cons_zero, List.set_cons_succ]
        rfl
      · intro w1 hC1 hf E hE
        have d0 := hC1.h.cell 6
        simp [csV, hC] at d0
        go_wp2
        exact .mk (hE _ hC1 (Below.refl _ _))
      refine SeqG.nil ?_
      apply SeqH.step
      · rfl
      apply SeqG.next
      · rfl
      · rfl
      · rfl
      · simp only [act_put, act_put_none, List.setIfInBounds_toArray, List.set_cons_zero, List.set_cons_succ]
        rfl
      · intro w1 hC1 hf E hE
        refine wpList_get_box hC1.h rfl rfl rfl hu rfl h_size ?_
        go_wp2_with fail
        exact .mk (hE _ hC1 (Below.refl _ _))
      refine SeqG.nil ?_
      iterate 3
        (apply SeqH.step; rfl; (first | (apply SeqG.next; rfl; rfl; rfl)); (simp only [act_put, act_put_none, List.setIfInBounds_toArray, List.set_cons_zero, List.set_cons_succ]; rfl); (intro w1 hC1 hf E hE; go_wp2; exact .mk (hE _ hC1 (Below.refl _ _))); refine SeqG.nil ?_)
      apply SeqH.step
      · rfl
      apply SeqG.next
      · rfl
      · rfl
      · rfl
      · simp only [act_put, act_put_none, List.setIfInBounds_toArray, List.set_cons_zero, List.set_cons_succ]
        rfl
      · intro w1 hC1 hf E hE
        have d0 := hC1.p.atN EP.out
        go_wp2
        exact .mk (hE _ hC1 (Below.refl _ _))
      refine SeqG.nil ?_
      apply SeqH.step
      · rfl
      apply SeqG.next
      · rfl
      · rfl
      · rfl
      · simp only [act_put, act_put_none, List.setIfInBounds_toArray, List.set_cons_zero, List.set_cons_succ]
        rfl
      · intro w1 hC1 hf E hE
        go_wp2_with fail
        refine calls_then (root3_any pn _ HPL.out) ?_
        rintro e w2 ⟨rfl, hb2⟩
        rw [← HRT.out]
        go_wp2_with fail
        exact .mk (hE _ (hC1.next hb2) hb2)
      refine SeqG.nil ?_
      apply SeqH.step
      · rfl
      apply SeqG.next
      · rfl
      · rfl
      · rfl
      · simp only [act_put, act_put_none, List.setIfInBounds_toArray, List.set_cons_zero, List.set_cons_succ]
        rfl
      · intro w1 hC1 hf E hE
        go_wp2_with fail
        refine calls_then (top_any 32 64 _ _ _ _ _ _ _ (.inl rfl) rt HRL.out) ?_
        rintro e w2 ⟨rfl, hb2⟩
        rw [← HKN.out]
        go_wp2_with fail
        exact .mk (hE _ (hC1.next hb2) hb2)
      refine SeqG.nil ?_
      apply SeqH.step
      · rfl
      apply SeqG.some
      · rfl
      · rfl
      · intro w1 hC1 hf E hE
        simp only [act_put, act_put_none, List.setIfInBounds_toArray, List.set_cons_zero, List.set_cons_succ] at hE
        go_wp2
        exact .mk (hE _ _ ⟨_, rfl, Blk.new _ _ _⟩ (hC1.next (below_new _ _)) (below_new _ _))
      intro x9
      simp only [act_put, act_put_none, List.setIfInBounds_toArray, List.set_cons_zero, List.set_cons_succ]
      refine SeqG.nil ?_
      refine SeqH.nil ?_
      intro w1 hC1 hf
      have f9 := (hf 9 (of_decide_eq_true (by kernel_rfl))).1 rfl
      clear hf
      refine SeqT.step rfl ?_
      intro E hE
      simp only [act_put, act_put_none, List.setIfInBounds_toArray, List.set_cons_zero, List.set_cons_succ] at hE
      obtain ⟨g9, hx9, hb9⟩ := f9
      simp only [hx9] at hE ⊢
      refine wpList_append_rd (m := 1) sl_u64 rfl rfl (show OwnX w1 g0 114 1 (.slice A n c) n (wordsV .u64 L) by have := hC1.k; rwa [HL.out] at this) rfl rfl rfl (Rd.of_blk hb9 hb9.lt) (by intro u hu; simp at hu; subst hu; rfl) (by unfold maxLen; omega) (by omega) (by have := hC1.res.lt; dsimp only at this; omega) ?_
      intro A6 c6 w6 hown6 hg6 hn6
      have hap := hC1.appK (v' := .slice A6 (n + 1) c6) (x := kn) (by rw [HL.out]; exact hown6) hg6 (rfl)
      have HAP := Lib.hid hap
      clear hap hown6 hg6 hn6
      go_wp2_with fail
      refine .mk (hE _ _ ?_)
      clear hE E
      refine SeqT.step rfl ?_
      intro E hE
      simp only [act_put, act_put_none, List.setIfInBounds_toArray, List.set_cons_zero, List.set_cons_succ] at hE
      go_wp2
      refine .mk (hE _ _ ?_)
      clear hE E
      refine SeqT.step rfl ?_
      intro E hE
      simp only [act_put, act_put_none, List.setIfInBounds_toArray, List.set_cons_zero, List.set_cons_succ] at hE
      refine wpList_put_cell (i := 6) (v := .slice A6 (n + 1) c6) HAP.out.h rfl rfl rfl rfl slu_size (show 6 < 8 by decide) rfl ?_
      intro w7 hb7 hw7
      have HFIN := Lib.hid (HAP.out.put hw7 hb7 HD.out)
      clear hb7 hw7
      go_wp2_with fail
      refine .mk (hE undef _ ?_)
      clear hE E
      refine SeqT.nil ?_
      clear HC0 HAP hC1
      go_wp2_with fail
      refine ⟨⟨n + 1, A6, c6, by omega, by go_num, ?_⟩, by simp [intOf]; omega⟩
      rw [HNX.out]
      exact HFIN.out
    · obtain rfl : n = 64 := by omega
      rw [List.take_of_length_le (by rw [kL_length]; exact Nat.le_refl _)] at hst
      obtain ⟨gk, rfl, hk1, hk2⟩ := (show OwnX wr g0 114 1 (.slice A 64 c) 64 (wordsV .u64 (kL F32)) by have := hst.k; rwa [kL_length] at this).ptr (by decide)
      have hck : 64 ≤ c := by
        have ho : OwnX wr g0 114 1 (.slice (some ⟨gk, 0, none⟩) 64 c) 64 (wordsV .u64 (kL F32)) := by have := hst.k; rwa [kL_length] at this
        exact ho.le_cap
      have hst1 : OfSt w ⟨g0, gh, ga, gb, gc, gd⟩ F32 zH (.slice (some ⟨gp, 0, none⟩) 80 pc) (csV 32 64 ga gb gc gd (.slice (some ⟨gk, 0, none⟩) 64 c) (.slice none 0 0)) (.slice (some ⟨gk, 0, none⟩) 64 c) (kL F32) (.slice none 0 0) ((s8L (startS F32)).take 0) wr := hst
      have HST0 := Lib.hid hst1
      have HK1 := Lib.hid hk1
      clear hst hst1 hk1 hk2
      obtain ⟨ck, rfl⟩ : ∃ ck, ck = c := ⟨_, rfl⟩
      go_wp2_with fail
      clear d1
      obtain ⟨wo, rfl⟩ : ∃ wo : World, wo = wr := ⟨_, rfl⟩
      go_loopw [6] (fun i wr => ∃ (n : Nat) (A : Option Addr) (c : Nat), n ≤ 8 ∧ i = .int .i64 n ∧ OfSt w ⟨g0, gh, ga, gb, gc, gd⟩ F32 zH (.slice (some ⟨gp, 0, none⟩) 80 pc) (csV 32 64 ga gb gc gd (.slice (some ⟨gk, 0, none⟩) 64 ck) (.slice A n c)) (.slice (some ⟨gk, 0, none⟩) 64 ck) (kL F32) (.slice A n c) ((s8L (startS F32)).take n) wr) (fun i _ => 8 - (intOf i).toNat)
      case atStart => exact ⟨0, none, 0, by omega, rfl, HST0.out⟩
      case round =>
        clear HST0
        obtain ⟨n, A, c, hn, rfl, hst⟩ := hrel
        by_cases hnl : n < 8
        · have hnl' : (n : Int) < 8 := by omega
          obtain ⟨L, hL⟩ : ∃ L, L = (s8L (startS F32)).take n := ⟨_, rfl⟩
          have hLl : L.length = n := by rw [hL, List.length_take, show (s8L (startS F32)).length = 8 from rfl]; omega
          obtain ⟨pn, hpn⟩ : ∃ x, x = primes80.getD n 0 := ⟨_, rfl⟩
          have hpl : pn < 65536 := by rw [hpn]; exact prime_lt n (by omega)
          have hrt : rootN pn 2 = firstN.getD n 0 := by rw [hpn]; exact rootN2 n hnl
          obtain ⟨rt, hrt2⟩ : ∃ x, x = rootN pn 2 := ⟨_, rfl⟩
          have hrl : rt < 18446744073709551616 := by rw [hrt2, rootN]; exact Nat.mod_lt _ (by decide)
          obtain ⟨kn, hkn⟩ : ∃ x, x = rt / 2 ^ (64 - 32) % 2 ^ 32 := ⟨_, rfl⟩
          have hnx : (s8L (startS F32)).take (n + 1) = L ++ [kn] := by
            rw [hkn, hrt2, hrt, hL]
            exact start_take F32 n hnl
          have ep : (wordsV .i64 primes80)[n]? = some (.int .i64 (pn : Int)) := by rw [hpn]; exact wordsV_at (show n < 80 by omega)
          rw [← hL] at hst
          have HL := Lib.hid hLl
          have HPL := Lib.hid hpl
          have HRT := Lib.hid hrt2
          have HRL := Lib.hid hrl
          have HKN := Lib.hid hkn
          have HNX := Lib.hid hnx
          have EP := Lib.hid ep
          have hn80 : n < 80 := by omega
          have HC0 := hst.drew
          have HST1 := Lib.hid hst
          clear hL hLl hpn hpl hrt hrt2 hrl hkn hnx ep hst
          go_wp2_with fail
          clear HST1
          apply wp_region_seqp (fun u => OfSt w ⟨g0, gh, ga, gb, gc, gd⟩ F32 zH (.slice (some ⟨gp, 0, none⟩) 80 pc) (csV 32 64 ga gb gc gd (.slice (some ⟨gk, 0, none⟩) 64 ck) (.slice A n c)) (.slice (some ⟨gk, 0, none⟩) 64 ck) (kL F32) (.slice A n c) L u) (fun i => i == 0) (fun u u' => Below u.heap.size u u') [_, _, _, _, _, _, _, _, _, undef] (gOf [(9, fun v u => ∃ g9, v = .slice (some ⟨g9, 0, none⟩) 1 1 ∧ Blk u g9 114 [.int .u64 (kn : Int)].toArray)]) 10 (by kernel_rfl) (by kernel_rfl) (by decide) (by kernel_rfl) (fun i h => by simp only [beq_iff_eq] at h; subst h; rfl) (stabL_of _ ⟨(fun _ _ _ h h0 => by obtain ⟨g, e, hb⟩ := h0; exact ⟨g, e, hb.below h hb.lt⟩), trivial⟩) HC0
          simp only [List.take_succ_cons, List.take_zero, List.drop_succ_cons, List.drop_zero]
          iterate 1
            first
            | (apply SeqH.pure; rfl; rfl; rfl; rfl; (simp only [act_put, act_put_none, List.setIfInBounds_toArray, List.set_cons_zero, List.set_cons_succ]; rfl); (intro w1 E hE; go_wp2; exact .mk hE))
            | (apply SeqH.step; rfl; (first | (apply SeqG.next; rfl; rfl; rfl)); (simp only [act_put, act_put_none, List.setIfInBounds_toArray, List.set_cons_zero, List.set_cons_succ]; rfl); (intro w1 hC1 hf E hE; go_wp2; exact .mk (hE _ hC1 (Below.refl _ _))); refine SeqG.nil ?_)
          apply SeqH.step
          · rfl
          apply SeqG.next
          · rfl
          · rfl
          · rfl
          · simp only [act_put, act_put_none, List.setIfInBounds_toArray, List.set_cons_zero, List.set_cons_succ]
            rfl
          · intro w1 hC1 hf E hE
            have d0 := hC1.h.cell 7
            simp [csV, hC] at d0
            go_wp2
            exact .mk (hE _ hC1 (Below.refl _ _))
          refine SeqG.nil ?_
          apply SeqH.step
          · rfl
          apply SeqG.next
          · rfl
          · rfl
          · rfl
          · simp only [act_put, act_put_none, List.setIfInBounds_toArray, List.set_cons_zero, List.set_cons_succ]
            rfl
          · intro w1 hC1 hf E hE
            refine wpList_get_box hC1.h rfl rfl rfl hu rfl h_size ?_
            go_wp2_with fail
            exact .mk (hE _ hC1 (Below.refl _ _))
          refine SeqG.nil ?_
          iterate 3
            (apply SeqH.step; rfl; (first | (apply SeqG.next; rfl; rfl; rfl)); (simp only [act_put, act_put_none, List.setIfInBounds_toArray, List.set_cons_zero, List.set_cons_succ]; rfl); (intro w1 hC1 hf E hE; go_wp2; exact .mk (hE _ hC1 (Below.refl _ _))); refine SeqG.nil ?_)
          apply SeqH.step
          · rfl
          apply SeqG.next
          · rfl
          · rfl
          · rfl
          · simp only [act_put, act_put_none, List.setIfInBounds_toArray, List.set_cons_zero, List.set_cons_succ]
            rfl
          · intro w1 hC1 hf E hE
            have d0 := hC1.p.atN EP.out
            go_wp2
            exact .mk (hE _ hC1 (Below.refl _ _))
          refine SeqG.nil ?_
          apply SeqH.step
          · rfl
          apply SeqG.next
          · rfl
          · rfl
          · rfl
          · simp only [act_put, act_put_none, List.setIfInBounds_toArray, List.set_cons_zero, List.set_cons_succ]
            rfl
          · intro w1 hC1 hf E hE
            go_wp2_with fail
            refine calls_then (root2_any pn _ HPL.out) ?_
            rintro e w2 ⟨rfl, hb2⟩
            rw [← HRT.out]
            go_wp2_with fail
            exact .mk (hE _ (hC1.next hb2) hb2)
          refine SeqG.nil ?_
          apply SeqH.step
          · rfl
          apply SeqG.next
          · rfl
          · rfl
          · rfl
          · simp only [act_put, act_put_none, List.setIfInBounds_toArray, List.set_cons_zero, List.set_cons_succ]
            rfl
          · intro w1 hC1 hf E hE
            go_wp2_with fail
            refine calls_then (top_any 32 64 _ _ _ _ _ _ _ (.inl rfl) rt HRL.out) ?_
            rintro e w2 ⟨rfl, hb2⟩
            rw [← HKN.out]
            go_wp2_with fail
            exact .mk (hE _ (hC1.next hb2) hb2)
          refine SeqG.nil ?_
          apply SeqH.step
          · rfl
          apply SeqG.some
          · rfl
          · rfl
          · intro w1 hC1 hf E hE
            simp only [act_put, act_put_none, List.setIfInBounds_toArray, List.set_cons_zero, List.set_cons_succ] at hE
            go_wp2
            exact .mk (hE _ _ ⟨_, rfl, Blk.new _ _ _⟩ (hC1.next (below_new _ _)) (below_new _ _))
          intro x9
          simp only [act_put, act_put_none, List.setIfInBounds_toArray, List.set_cons_zero, List.set_cons_succ]
          refine SeqG.nil ?_
          refine SeqH.nil ?_
          intro w1 hC1 hf
          have f9 := (hf 9 (of_decide_eq_true (by kernel_rfl))).1 rfl
          clear hf
          refine SeqT.step rfl ?_
          intro E hE
          simp only [act_put, act_put_none, List.setIfInBounds_toArray, List.set_cons_zero, List.set_cons_succ] at hE
          obtain ⟨g9, hx9, hb9⟩ := f9
          simp only [hx9] at hE ⊢
          refine wpList_append_rd (m := 1) sl_u64 rfl rfl (show OwnX w1 g0 114 1 (.slice A n c) n (wordsV .u64 L) by have := hC1.f; rwa [HL.out] at this) rfl rfl rfl (Rd.of_blk hb9 hb9.lt) (by intro u hu; simp at hu; subst hu; rfl) (by unfold maxLen; omega) (by omega) (by have := hC1.res.lt; dsimp only at this; omega) ?_
          intro A6 c6 w6 hown6 hg6 hn6
          have hap := hC1.appF (v' := .slice A6 (n + 1) c6) (x := kn) (by rw [HL.out]; exact hown6) hg6 (hn6)
          have HAP := Lib.hid hap
          clear hap hown6 hg6 hn6
          go_wp2_with fail
          refine .mk (hE _ _ ?_)
          clear hE E
          refine SeqT.step rfl ?_
          intro E hE
          simp only [act_put, act_put_none, List.setIfInBounds_toArray, List.set_cons_zero, List.set_cons_succ] at hE
          go_wp2
          refine .mk (hE _ _ ?_)
          clear hE E
          refine SeqT.step rfl ?_
          intro E hE
          simp only [act_put, act_put_none, List.setIfInBounds_toArray, List.set_cons_zero, List.set_cons_succ] at hE
          refine wpList_put_cell (i := 7) (v := .slice A6 (n + 1) c6) HAP.out.h rfl rfl rfl rfl slu_size (show 7 < 8 by decide) rfl ?_
          intro w7 hb7 hw7
          have HFIN := Lib.hid (HAP.out.put hw7 hb7 HD.out)
          clear hb7 hw7
          go_wp2_with fail
          refine .mk (hE undef _ ?_)
          clear hE E
          refine SeqT.nil ?_
          clear HC0 HAP hC1
          go_wp2_with fail
          refine ⟨⟨n + 1, A6, c6, by omega, by go_num, ?_⟩, by simp [intOf]; omega⟩
          rw [HNX.out]
          exact HFIN.out
        · obtain rfl : n = 8 := by omega
          rw [show (s8L (startS F32)).take 8 = s8L (startS F32) from rfl] at hst
          obtain ⟨gz, rfl, hz1, hz2⟩ := (show OwnX wr g0 114 1 (.slice A 8 c) 8 (wordsV .u64 (s8L (startS F32))) from hst.f).ptr (by decide)
          have hcz : 8 ≤ c := (show OwnX wr g0 114 1 (.slice (some ⟨gz, 0, none⟩) 8 c) 8 (wordsV .u64 (s8L (startS F32))) from hst.f).le_cap
          have HST2 := Lib.hid hst
          clear hz1 hz2 hst
          go_wp2_with (first
            | (refine wpList_get_box (x := .tmp 3) HST2.out.h rfl rfl rfl hu rfl h_size ?_)
            | (refine wpList_put_box (x := .tmp 2) (cells := csV 32 64 ga gb gc gd (.slice (some ⟨gk, 0, none⟩) 64 ck) (.slice (some ⟨gz, 0, none⟩) 8 c)) HST2.out.res rfl rfl rfl rfl h_size rfl (by simp [csV, hC, Value.oneCell']) ?_; intro w5 hb5 hw5))
          refine bodyPost_ret (results_box (P := Tryd.prog) rfl rfl hb5 hu rfl h_size) rfl ?_
          have h2 := HST2.out
          have hdl := HLT.out
          refine ⟨⟨⟨ga, 0, none⟩, ⟨gb, 0, none⟩, ⟨gc, 0, none⟩, ⟨gd, 0, none⟩, ⟨gk, 0, none⟩, ⟨gz, 0, none⟩, 3, 3, 3, 3, ck, c⟩, rfl, ?_, ?_⟩
          · have k1 := hw5.blk h2.a (by dsimp only; omega)
            have k2 := hw5.blk h2.b (by dsimp only; omega)
            have k3 := hw5.blk h2.c (by dsimp only; omega)
            have k4 := hw5.blk h2.d (by dsimp only; omega)
            have k5 := hw5.own h2.k (own_ne_blk h2.k h2.res (by decide))
            have k6 := hw5.own h2.f (own_ne_blk h2.f h2.res (by decide))
            exact ⟨Rd.of_blk k1 k1.lt, Rd.of_blk k2 k2.lt, Rd.of_blk k3 k3.lt, Rd.of_blk k4 k4.lt, Rd.of_own (n := 64) (by rw [kL_length] at k5; exact k5) (Nat.le_refl _), Rd.of_own (n := 8) k6 (Nat.le_refl _), Nat.le_refl _, Nat.le_refl _, Nat.le_refl _, Nat.le_refl _, hck, hcz⟩
          · rw [← HG0.out]
            exact hw5.below h2.bel (Nat.le_refl _) (by have := h2.res.lt; dsimp only at this; omega)
end Go.Proofs.YtilhhigdegccgaaDoor.Sh
/-
  Walk: the reference's digest of 32 bytes as it is called.
-/
namespace Go.Proofs.YtilhhigdegccgaaDoor.Sh
set_option linter.unusedSimpArgs false
set_option linter.unusedVariables false
open Go.RowKit
set_option maxRecDepth 100000 in
theorem r256_any (data : List UInt8) (A : Option Addr) (c B : Nat) (w : World) (hr : Rd w B A (bytesV data)) (hB : B ≤ w.heap.size) (hl : data.length ≤ 1000) (hc : data.length ≤ c) :
    Calls Tryd.prog 44 #[.slice A data.length c] w (HSumPost F32 32 data w) := by
  have HR := Lib.hid hr
  have hu := Tryd.underlying108
  clear hr
  go_enter Tryd.func44, Tryd.ntmps44
  go_wp2_with fail
  refine calls_then (of32_any w) ?_
  rintro e w1 ⟨p, rfl, hok, hb1⟩
  have HOK := Lib.hid hok
  have HB1 := Lib.hid hb1
  clear hok hb1
  go_wp2_with (first
    | (refine wpList_put_box (x := .tmp 3) (cells := hv F32 p) (Blk.new w1 108 zH) rfl rfl rfl rfl h_size rfl (by simp [hv, hC, Value.oneCell']) ?_; intro w2 hb2 hw2; have HB2 := Lib.hid hb2; have HW2 := Lib.hid hw2; clear hb2 hw2)
    | (refine wpList_get_box (x := .tmp 3) HB2.out rfl rfl rfl hu rfl h_size ?_))
  have hbel : Below w1.heap.size w1 w2 := HW2.out.below (below_new _ _) (Nat.le_refl _) (by simp)
  have hsz : w1.heap.size + 1 = w2.heap.size := by rw [HW2.out.size]; simp
  refine calls_then (hsum32_any p data A c w1.heap.size w2 (HOK.out.below hbel) (((HR.out.mono hB).below HB1.out).mono HB1.out.size |>.below hbel) (by omega) hl hc) ?_
  rintro e w3 ⟨A3, c3, rfl, ho3, hb3⟩
  have HO3 := Lib.hid ho3
  have HB3 := Lib.hid hb3
  have HBEL := Lib.hid hbel
  have HSZ := Lib.hid hsz
  clear ho3 hb3 hbel hsz
  go_wp2_with fail
  go_ret
  exact ⟨A3, c3, rfl, HO3.out.mono (by have := HB1.out.size; have := HSZ.out; omega), HB1.out.trans ((HBEL.out.mono HB1.out.size).trans (HB3.out.mono (by have := HB1.out.size; have := HSZ.out; omega)))⟩
end Go.Proofs.YtilhhigdegccgaaDoor.Sh
