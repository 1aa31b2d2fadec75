/-
  Joined texts: HSum32.
-/
import Derived.Test.YtilhhigdegccgaaDoorJ14
import Derived.Test.YtilhhigdegccgaaDoorJ21
import Derived.Test.YtilhhigdegccgaaDoorJ22
import Derived.Test.YtilhhigdegccgaaDoorJ10
import Derived.Test.YtilhhigdegccgaaDoorJ23
/-
  Walk: the reference's Sum, words of 32 bits.
-/
namespace Go.Proofs.YtilhhigdegccgaaDoor.Sh
set_option linter.unusedSimpArgs false
set_option linter.unusedVariables false
open Go.RowKit
theorem zeroR32_ne (n k : Nat) (h : k < zeroR F32 n) : ((((n + 1 + k : Nat) : Int) + 8) % 64 != 0) = true := by
  simp only [zeroR, F32] at h
  rw [bne_iff_ne]
  omega
theorem zeroR32_eq (n : Nat) : ((((n + 1 + zeroR F32 n : Nat) : Int) + 8) % 64 != 0) = false := by
  have h : zeroR F32 n = (2 * 32 - (n + 1 + 32 / 4) % (2 * 32)) % (2 * 32) := rfl
  rw [bne_eq_false_iff_eq]
  omega
set_option maxRecDepth 100000 in
set_option maxHeartbeats 4000000 in
theorem hsum32_any (p : HP) (data : List UInt8) (A : Option Addr) (c B : Nat) (w : World) (hok : HOk F32 p w B) (hr : Rd w B A (bytesV data)) (hB : B ≤ w.heap.size) (hl : data.length ≤ 1000) (hc : data.length ≤ c) :
    Calls Tryd.prog 66 #[.agg (hv F32 p), .slice A data.length c] w (HSumPost F32 32 data w) := by
  have hu := Tryd.underlying108
  obtain ⟨gf, hgf⟩ : ∃ x, x = w.heap.size := ⟨_, rfl⟩
  have hst0 : HsA w gf F32 p A data (.slice none 0 0) [] (w.alloc (.cells (hv F32 p) 108)) := by
    have hb := below_new w (.cells (hv F32 p) 108)
    rw [hgf]
    exact ⟨⟨hb, Blk.new _ _ _, (hok.mono hB).below hb, (hr.mono hB).below hb⟩, OwnX.nil _ _ _ _⟩
  have d0 := hst0.st.h.cell 0
  simp [hv, hC, F32] at d0
  have HST0 := Lib.hid hst0
  have HGF := Lib.hid hgf
  have hl' : (data.length : Int) ≤ 1000 := by omega
  clear hst0 hok hr hB hgf
  go_enter Tryd.func66, Tryd.ntmps66
  have HOWN0 : Hid (OwnX (w.alloc (.cells (hv F32 p) 108)) (gf + 1) 5 1 (.slice none 0 0) 0 []) := Lib.hid HST0.out.own
  go_wp2_with (first
    | (refine wpList_append_rd (o := ⟨some 17, _, _, _, _, _⟩) sl_bytes rfl rfl HOWN0.out rfl rfl (by simp [bytesV]) HST0.out.st.rd (by intro u hu; simp [bytesV, byteV] at hu; obtain ⟨_, _, rfl⟩ := hu; rfl) (by unfold maxLen; omega) (by omega) (by have := HST0.out.st.h.lt; omega) ?_; intro A1 c1 w1 hown1 hg1 hn1; have HOWN1 : Hid (OwnX w1 (gf + 1) 5 1 (.slice A1 data.length c1) data.length (bytesV data)) := Lib.hid (by simpa using hown1); have H641 : Hid (gf + 1 ≤ w1.heap.size) := Lib.hid (by have := hg1.size; have := HGF.out; simp at *; omega); have HG1 := Lib.hid hg1; clear hown1 hg1 hn1)
    | (refine wpList_append_one (o := ⟨some 20, _, _, _, _, _⟩) sl_bytes rfl rfl HOWN1.out rfl rfl rfl rfl (by unfold maxLen; omega) (by omega) H641.out ?_; intro A2 c2 w2 hown2 hg2 hn2; have hs2 : HsA w gf F32 p A data (.slice A2 (data.length + 1) c2) (oneZ data 0) w2 := (HST0.out.app (ys := data) HG1.out HOWN1.out).app hg2 (by rw [oneZ_length, oneZ_zero, bytesV_snoc]; exact hown2); have d2 := hs2.st.h.cell 0; simp [hv, hC, F32] at d2; rw [HGF.out] at d2; have HST2 := Lib.hid hs2; clear hs2 hown2 hg2 hn2))
  rw [show w.heap.size = gf from HGF.out.symm] at d2 ⊢
  have hzl : zeroR F32 data.length < 64 := Nat.mod_lt _ (by decide)
  clear HST0 HOWN0 HG1 HOWN1 H641 d0 d2
  go_loopw [5] (fun v wr => ∃ (k n : Nat) (A3 : Option Addr) (c3 : Nat), k ≤ zeroR F32 data.length ∧ n = data.length + 1 + k ∧ v = .slice A3 n c3 ∧ HsA w gf F32 p A data (.slice A3 n c3) (oneZ data k) wr) (fun v _ => data.length + 1 + zeroR F32 data.length - lenOf v)
  case atStart => exact ⟨0, data.length + 1, A2, c2, Nat.zero_le _, rfl, rfl, HST2.out⟩
  case round =>
    clear HST2
    obtain ⟨k, n, A3, c3, hk, hn, rfl, hst⟩ := hrel
    have hn2 : n ≤ 2000 := by omega
    have d0 := hst.st.h.cell 0
    simp [hv, hC, F32] at d0
    by_cases hlt : k < zeroR F32 data.length
    · have hne : ((((n : Nat) : Int) + 8) % 64 != 0) = true := by rw [hn]; exact zeroR32_ne _ _ hlt
      have HO : Hid (OwnX wr (gf + 1) 5 1 (.slice A3 n c3) n (bytesV (oneZ data k))) := Lib.hid (by have := hst.own; rwa [oneZ_length, ← hn] at this)
      have HN := Lib.hid hn
      have HST := Lib.hid hst
      clear hn hst
      go_wp2_with (refine wpList_append_one (o := ⟨some 35, _, _, _, _, _⟩) sl_bytes rfl rfl HO.out rfl rfl rfl rfl (by unfold maxLen; omega) (by omega) (by have := HST.out.st.h.lt; omega) ?_; intro A4 c4 w4 hown4 hg4 hn4; have HOWN4 := Lib.hid hown4; have HG4 := Lib.hid hg4; clear hown4 hg4 hn4)
      exact ⟨⟨k + 1, n + 1, A4, c4, hlt, by rw [HN.out]; omega, rfl, HST.out.app HG4.out (by rw [oneZ_length, oneZ_succ, bytesV_snoc, ← Nat.add_assoc, ← HN.out]; exact HOWN4.out)⟩, by simp only [lenOf]; have := HN.out; omega⟩
    · obtain rfl : k = zeroR F32 data.length := by omega
      have hne : ((((n : Nat) : Int) + 8) % 64 != 0) = false := by rw [hn]; exact zeroR32_eq _
      have HN := Lib.hid hn
      have HST := Lib.hid hst
      clear hn hst
      go_wp2_with fail
      clear hne
      obtain ⟨W1, rfl⟩ : ∃ x : World, x = wr := ⟨_, rfl⟩
      obtain ⟨gl0, hgl0⟩ : ∃ x, x = W1.heap.size := ⟨_, rfl⟩
      have HGL := Lib.hid hgl0
      clear hgl0
      go_loopw [8, 9] (fun v i wr => ∃ (k : Nat) (A4 : Option Addr) (c4 : Nat), k ≤ 8 ∧ i = .int .i64 k ∧ v = .slice A4 k c4 ∧ Below gl0 W1 wr ∧ wr.ownsRow gl0 5 1 (.slice A4 k c4) k (bytesV (List.replicate k 0)) ∧ gl0 ≤ wr.heap.size) (fun _ i _ => 8 - (intOf i).toNat)
      case atStart => exact ⟨0, none, 0, by omega, rfl, rfl, Below.refl _ _, World.ownsRow_nil _ _ _ _, by rw [HGL.out]; exact Nat.le_refl _⟩
      case round =>
        obtain ⟨k, A4, c4, hk, rfl, rfl, hb4, ho4, hl4⟩ := hrel
        by_cases hk8 : k < 8
        · have hk8' : (k : Int) < 8 := by omega
          have HB4 := Lib.hid hb4
          have HO4 := Lib.hid ho4
          clear hb4 ho4
          go_wp2_with (refine wpList_append_own1 sl_bytes rfl rfl HO4.out rfl rfl rfl rfl (by unfold maxLen; omega) (by omega) hl4 ?_; intro A5 c5 w5 hown5 hg5; have HOWN5 := Lib.hid hown5; have HG5 := Lib.hid hg5; clear hown5 hg5)
          refine ⟨⟨k + 1, A5, c5, hk8, by go_num, rfl, HB4.out.grown HG5.out hl4 (fun k hk => (own_lt HO4.out k hk).1), ?_, by have := HG5.out.size; omega⟩, by simp [intOf]; omega⟩
          rw [List.replicate_succ', bytesV_snoc]
          exact HOWN5.out
        · obtain rfl : k = 8 := by omega
          obtain ⟨gl, R, rfl, hgl, hcl, hbk⟩ := own_blk ho4 (by decide)
          obtain ⟨ws, hws⟩ : ∃ ws, ws = lenB F32 data.length := ⟨_, rfl⟩
          have hwl : ws.length = 8 := by rw [hws, lenB, List.length_append, List.length_replicate, be8_length]; rfl
          have hbk0 : Blk wr gl 5 (backC 8 ws 0 ++ R) := by
            rw [backC_zero _ _ hwl]
            have e : bytesV (List.replicate 8 (0 : UInt8)) = List.replicate 8 (.int .u8 0) := by simp [bytesV, byteV]
            rw [e] at hbk
            exact hbk
          have hget : ∀ i j, i + j + 1 = 8 → (bytesV ws)[i]? = some (.int .u8 ((data.length * 8 / 256 ^ j % 256 : Nat) : Int)) := fun i j h => by rw [hws]; exact lenB32_get _ _ _ h
          have HWS := Lib.hid hws
          have HWL := Lib.hid hwl
          have HB4 := Lib.hid hb4
          have HBK0 := Lib.hid hbk0
          have HGET := Lib.hid hget
          clear hws hwl hb4 hbk hbk0 hget ho4
          go_wp2_with fail
          obtain ⟨wo2, rfl⟩ : ∃ x : World, x = wr := ⟨_, rfl⟩
          go_loopw [7, 10] (fun v i wr => ∃ (j y : Nat), j ≤ 8 ∧ y = data.length * 8 / 256 ^ j ∧ v = .int .i64 y ∧ i = .int .i64 ((8 : Int) - 1 - (j : Int)) ∧ Below gl0 W1 wr ∧ Blk wr gl 5 (backC 8 ws j ++ R)) (fun _ i _ => (intOf i + 1).toNat)
          case atStart => exact ⟨0, data.length * 8, by omega, by simp, by exact congrArg (Value.int .i64) (by omega), rfl, HB4.out, HBK0.out⟩
          case round =>
            clear HBK0
            obtain ⟨j, y, hj, hy, rfl, rfl, hb5, hk5⟩ := hrel
            have hyx : y ≤ data.length * 8 := by rw [hy]; exact Nat.div_le_self _ _
            have hy64 : (y : Int) ≤ 8000 := by omega
            by_cases hlt2 : j < 8
            · obtain ⟨ix, hix⟩ : ∃ ix : Nat, (8 : Int) - 1 - (j : Int) = (ix : Int) := ⟨8 - 1 - j, by omega⟩
              have hix2 : ix + j + 1 = 8 := by omega
              have hval := HGET.out ix j hix2
              rw [← hy] at hval
              have hset := backC_set_app 8 ws j ix _ R HWL.out hix2 hval
              obtain ⟨ov, hov⟩ := backC_app_get 8 ws j ix R HWL.out hix2
              have hnx : data.length * 8 / 256 ^ (j + 1) = y / 256 := by rw [hy, Nat.pow_succ, ← Nat.div_div_eq_div_mul]
              rw [hix]
              have dcell := hk5.cell ix
              rw [hov] at dcell
              have dfree := hk5.free ix
              have hixl : (ix : Int) < 8 := by omega
              have HSET := Lib.hid hset
              have HNX := Lib.hid hnx
              have HB5 := Lib.hid hb5
              have HK5 := Lib.hid hk5
              have HIX := Lib.hid hix
              clear hset hnx hb5 hk5 hix hix2 hval hy hov
              go_wp2_with fail
              refine ⟨⟨j + 1, y / 256, by omega, by rw [HNX.out], by go_num, by have := HIX.out; exact congrArg (Value.int .i64) (by omega), (wrote_setCell_at _ _ _ _).below HB5.out hgl (by have := HB5.out.size; rw [HGL.out]; omega), ?_⟩, by simp [intOf]⟩
              have h := blk_setCell_at (i := ix) HK5.out (.int .u8 ((y % 256 : Nat) : Int))
              rw [HSET.out] at h
              exact h
            · obtain rfl : j = 8 := by omega
              rw [backC_end] at hk5
              have hall : HsA w gf F32 p A data (.slice A3 n c3) (oneZ data (zeroR F32 data.length)) wr := HST.out.next (by rw [← HGL.out]; exact hb5)
              have HO5 : Hid (OwnX wr (gf + 1) 5 1 (.slice A3 n c3) n (bytesV (oneZ data (zeroR F32 data.length)))) := Lib.hid (by have := hall.own; rwa [oneZ_length, ← HN.out] at this)
              have hrl : Rd wr wr.heap.size (some ⟨gl, 0, none⟩) (bytesV ws) := Rd.of_blk_app hk5 hk5.lt
              have HRL := Lib.hid hrl
              have HALL0 := Lib.hid hall
              clear hrl hall hk5 hb5 hy HST
              go_wp2_with (first
                | (refine wpList_append_rd (o := ⟨some 63, _, _, _, _, _⟩) (m := 8) sl_bytes rfl rfl HO5.out rfl rfl (by rw [bytesV_length, HWL.out]) HRL.out (by intro u hu; simp [bytesV, byteV] at hu; obtain ⟨_, _, rfl⟩ := hu; rfl) (by unfold maxLen; omega) (by omega) (by have := HALL0.out.st.h.lt; omega) ?_; intro A5 c5 w5 hown5 hg5 hn5; have hall5 : HsA w gf F32 p A data (.slice A5 (n + 8) c5) (oneZ data (zeroR F32 data.length) ++ ws) w5 := HALL0.out.app hg5 (by rw [List.length_append, oneZ_length, HWL.out, ← HN.out, bytesV_append]; exact hown5); have d7 := hall5.st.h.cell 7; simp [hv, hC, F32] at d7; have HALL5 := Lib.hid hall5; clear hall5 hown5 hg5 hn5)
                | (refine wpList_append_rd (o := ⟨some 67, _, _, _, _, _⟩) (base := gf + 1) (n := 0) (m := 8) (v := .slice none 0 0) (xs := []) sl_u64 rfl rfl (OwnX.nil _ _ _ _) rfl rfl rfl HALL5.out.st.ok.f (by intro u hu; simp [wordsV] at hu; obtain ⟨_, _, rfl⟩ := hu; rfl) (by unfold maxLen; omega) (by omega) (by have := HALL5.out.st.h.lt; omega) ?_; intro A6 c6 w6 hown6 hg6 hn6; have HOWN6 := Lib.hid hown6; have HG6 := Lib.hid hg6; clear hown6 hg6 hn6))
              obtain ⟨ALL, hALL⟩ : ∃ x, x = padS F32 data := ⟨_, rfl⟩
              obtain ⟨m, hm⟩ : ∃ x, x = n + 8 := ⟨_, rfl⟩
              rw [← hm]
              have hall : ALL = oneZ data (zeroR F32 data.length) ++ ws := by rw [hALL, HWS.out]; exact (padR32 data hl).symm
              have hal : ALL.length = m := by rw [hall, List.length_append, oneZ_length, HWL.out, ← HN.out, hm]
              have hm4 : m ≤ 4000 := by omega
              have hsb : HsB w gf F32 p A data (.slice A5 m c5) ALL A6 c6 (runS F32 ALL 0) w6 := by
                have h5 := HALL5.out
                rw [← hm, ← hall] at h5
                have hg6 := HG6.out
                refine ⟨⟨h5.st.keep (below_of_grown hg6 (by have := h5.st.h.lt; omega) (by intro k hk; simp [Value.ownBlock] at hk)), h5.own.kept hg6 ?_⟩, ?_⟩
                · cases h9 : (Value.slice A5 m c5).ownBlock with
                  | none => exact .inl rfl
                  | some k => exact .inr (by simp [Value.ownBlock])
                · show OwnX w6 (gf + 1) 114 1 (.slice A6 8 c6) 8 (wordsV .u64 (s8L (startS F32)))
                  simpa using HOWN6.out
              obtain ⟨nb, hnb⟩ : ∃ nb, m = nb * 64 := ⟨m / 64, by have := pad32_blocks data; rw [← hALL, hal] at this; omega⟩
              have hcap : m ≤ c5 ∧ c5 ≤ 9223372036854775807 := own_cap (show OwnX w6 (gf + 1) 5 1 (.slice A5 m c5) m (bytesV ALL) by have := hsb.a.own; rwa [hal] at this)
              obtain ⟨hcap1, hcap2⟩ := hcap
              have HALL := Lib.hid hALL
              have HAL := Lib.hid hal
              have HSB := Lib.hid hsb
              have HNB := Lib.hid hnb
              clear hALL hm hall hal hsb hnb HALL5 HOWN6 HG6 HALL0 HO5 HRL d7 d0
              go_loopw [11, 12] (fun v i wr => ∃ (j a : Nat) (A7 : Option Addr) (c7 : Nat), j ≤ nb ∧ a = j * 64 ∧ i = .int .i64 (a : Int) ∧ v = .slice A7 8 c7 ∧ HsB w gf F32 p A data (.slice A5 m c5) ALL A7 c7 (runS F32 ALL j) wr) (fun _ i _ => m - (intOf i).toNat)
              case atStart => exact ⟨0, 0, A6, c6, by omega, rfl, rfl, rfl, HSB.out⟩
              case round =>
                clear HSB
                obtain ⟨j, a, A7, c7, hj, ha, rfl, rfl, hsj⟩ := hrel
                by_cases hjn : j < nb
                · have ham : a + 64 ≤ m := by rw [HNB.out, ha]; omega
                  have hlt3 : a < m := by omega
                  have hle1 : a + 64 ≤ c5 := by omega
                  have hla : OwnX wr (gf + 1) 5 1 (.slice A5 m c5) m (bytesV ALL) := by have := hsj.a.own; rwa [HAL.out] at this
                  obtain ⟨g5, hg5, _, _⟩ := hla.ptr (by omega)
                  subst hg5
                  obtain ⟨bk, hbk⟩ : ∃ x, x = (ALL.drop a).take 64 := ⟨_, rfl⟩
                  have hbl : bk.length = 64 := by rw [hbk]; simp; rw [HAL.out]; omega
                  obtain ⟨sj, hsj2⟩ : ∃ x, x = runS F32 ALL j := ⟨_, rfl⟩
                  have hsl : sj.Lt (2 ^ 32) := by rw [hsj2]; exact runS_lt F32 ALL j
                  have hs1 : runS F32 ALL (j + 1) = mixS F32 sj bk := by rw [hsj2, hbk, ha]; rfl
                  rw [← hsj2] at hsj
                  have HRB : Hid (∀ u, HsB w gf F32 p A data (.slice (some ⟨g5, 0, none⟩) m c5) ALL A7 c7 sj u → Rd u u.heap.size (some ⟨g5, a, none⟩) (bytesV bk)) := Lib.hid fun u hu => by
                    have h1 : OwnX u (gf + 1) 5 1 (.slice (some ⟨g5, 0, none⟩) m c5) m (bytesV ALL) := by have := hu.a.own; rwa [HAL.out] at this
                    have h2 := rd_take (rd_drop (Rd.of_own h1 (Nat.le_refl _)) a) 64
                    rw [Addr.add_lit, Nat.zero_add] at h2
                    rw [hbk, bytesV, List.map_take, List.map_drop]
                    exact h2
                  have HBL := Lib.hid hbl
                  have HSL := Lib.hid hsl
                  have HS1 := Lib.hid hs1
                  have HA := Lib.hid ha
                  have d0 := hsj.a.st.h.cell 0
                  simp [hv, hC, F32] at d0
                  have HC0 := hsj.drew
                  have D0 := Lib.hid d0
                  have HSJ := Lib.hid hsj
                  clear hbl hsl hs1 hbk hsj2 ha hla hsj d0
                  go_wp2_with fail
                  clear HSJ
                  refine wp_region_seqt (fun u => HsB w gf F32 p A data (.slice (some ⟨g5, 0, none⟩) m c5) ALL A7 c7 sj u) (fun _ => false) 10 (by kernel_rfl) (by kernel_rfl) (by decide) (by kernel_rfl) HC0 ?_
                  simp only [List.take_succ_cons, List.take_zero, List.drop_succ_cons, List.drop_zero]
                  apply SeqL.next
                  · rfl
                  · rfl
                  · simp only [act_put, act_put_none, List.setIfInBounds_toArray, List.set_cons_zero, List.set_cons_succ]
                    rfl
                  · intro w1 hC1 E hE
                    refine wpList_get_box hC1.a.st.h rfl rfl rfl hu rfl h_size ?_
                    go_wp2_with fail
                    exact .mk (hE _ hC1)
                  iterate 5
                    ((first | (apply SeqL.next; rfl; rfl)); (simp only [act_put, act_put_none, List.setIfInBounds_toArray, List.set_cons_zero, List.set_cons_succ]; rfl); (intro w1 hC1 E hE; go_wp2; exact .mk (hE _ hC1)))
                  apply SeqL.next
                  · rfl
                  · rfl
                  · simp only [act_put, act_put_none, List.setIfInBounds_toArray, List.set_cons_zero, List.set_cons_succ]
                    rfl
                  · intro w1 hC1 E hE
                    have d0 := hC1.a.st.h.cell 0
                    simp [hv, hC, F32] at d0
                    go_wp2
                    exact .mk (hE _ hC1)
                  iterate 2
                    ((first | (apply SeqL.next; rfl; rfl)); (simp only [act_put, act_put_none, List.setIfInBounds_toArray, List.set_cons_zero, List.set_cons_succ]; rfl); (intro w1 hC1 E hE; go_wp2; exact .mk (hE _ hC1)))
                  apply SeqL.next
                  · rfl
                  · rfl
                  · simp only [act_put, act_put_none, List.setIfInBounds_toArray, List.set_cons_zero, List.set_cons_succ]
                    rfl
                  · intro w1 hC1 E hE
                    go_wp2
                    rw [show a + 64 - a = 64 by omega]
                    exact .mk (hE _ hC1)
                  refine SeqL.nil ?_
                  intro w1 hC1
                  refine SeqT.step rfl ?_
                  intro E hE
                  simp only [act_put, act_put_none, List.setIfInBounds_toArray, List.set_cons_zero, List.set_cons_succ] at hE
                  go_wp2_with fail
                  have hmx := block32_any p sj bk (some ⟨g5, a, none⟩) A7 (c5 - a) c7 w1.heap.size w1 (hC1.a.st.ok.mono (by have := hC1.a.st.h.lt; omega)) (Nat.le_refl _) (HRB.out _ hC1) (Rd.of_own hC1.s (Nat.le_refl _)) HBL.out (by rw [HBL.out]; omega) hC1.s.le_cap HSL.out
                  rw [HBL.out] at hmx
                  refine calls_then hmx ?_
                  rintro e w2 ⟨A8, c8, rfl, hown8, hb8⟩
                  go_wp2_with fail
                  refine .mk (hE _ _ ?_)
                  clear hE E
                  refine SeqT.step rfl ?_
                  intro E hE
                  simp only [act_put, act_put_none, List.setIfInBounds_toArray, List.set_cons_zero, List.set_cons_succ] at hE
                  go_wp2
                  refine .mk (hE _ _ ?_)
                  clear hE E
                  refine SeqT.nil ?_
                  have hfin : HsB w gf F32 p A data (.slice (some ⟨g5, 0, none⟩) m c5) ALL A8 c8 (runS F32 ALL (j + 1)) w2 := by
                    rw [HS1.out]
                    exact ⟨hC1.a.next hb8, hown8.mono (by have := hC1.a.st.h.lt; omega)⟩
                  have d0 := hfin.a.st.h.cell 0
                  simp [hv, hC, F32] at d0
                  have HFIN := Lib.hid hfin
                  clear hfin hC1 HC0 hown8 hb8
                  go_wp2_with fail
                  exact ⟨⟨j + 1, a + 64, A8, c8, hjn, by rw [HA.out]; omega, by go_num, rfl, HFIN.out⟩, by simp [intOf]; omega⟩
                · obtain rfl : j = nb := by omega
                  have hge : ¬ a < m := by rw [HNB.out, ha]; omega
                  obtain ⟨sv, hsv⟩ : ∃ x, x = runS F32 ALL j := ⟨_, rfl⟩
                  have hsl : sv.Lt (2 ^ 32) := by rw [hsv]; exact runS_lt F32 ALL j
                  rw [← hsv] at hsj
                  obtain ⟨g7, rfl, _, _⟩ := hsj.s.ptr (by decide)
                  have hc7 := hsj.s.le_cap
                  have hso : HsB w gf F32 p A data (.slice none 0 0) (outW 32 4 sv 0) (some ⟨g7, 0, none⟩) c7 sv wr := ⟨⟨hsj.a.st, OwnX.nil _ _ _ _⟩, hsj.s⟩
                  have HSV := Lib.hid hsv
                  have HSL := Lib.hid hsl
                  have HSO := Lib.hid hso
                  have HA := Lib.hid ha
                  clear hsv hsl hso hsj ha
                  go_wp2_with fail
                  obtain ⟨wo5, rfl⟩ : ∃ x : World, x = wr := ⟨_, rfl⟩
                  go_loopw [13, 14] (fun v i wr => ∃ (k q : Nat) (A8 : Option Addr) (c8 : Nat), k ≤ 8 ∧ q = k * 4 ∧ i = .int .i64 k ∧ v = .slice A8 q c8 ∧ HsB w gf F32 p A data (.slice A8 q c8) (outW 32 4 sv k) (some ⟨g7, 0, none⟩) c7 sv wr) (fun _ i _ => 8 - (intOf i).toNat)
                  case atStart => exact ⟨0, 0, none, 0, by omega, by omega, rfl, rfl, HSO.out⟩
                  case round =>
                    clear HSO
                    obtain ⟨k, q, A8, c8, hk, hq, rfl, rfl, hso⟩ := hrel
                    by_cases hk8 : k < 8
                    · have hk8' : (k : Int) < 8 := by omega
                      obtain ⟨x, hx⟩ : ∃ x, x = (s8L sv).getD k 0 := ⟨_, rfl⟩
                      have hxl : x < 2 ^ 32 := by rw [hx]; exact s8L_lt HSL.out (by decide) k
                      have ex : (wordsV .u64 (s8L sv))[k]? = some (.int .u64 (x : Int)) := by rw [hx]; exact wordsV_get _ _ _ (show k < 8 from hk8)
                      have hol : (outW 32 4 sv k).length = q := by rw [outW_length _ _ _ _ hk, hq]
                      have hnx : outW 32 4 sv (k + 1) = outW 32 4 sv k ++ wordB 32 x 4 := by rw [outW_succ _ _ _ _ hk8, hx]
                      obtain ⟨XS, hXS⟩ : ∃ x, x = outW 32 4 sv k := ⟨_, rfl⟩
                      rw [← hXS] at hol hnx hso
                      have HXL := Lib.hid hxl
                      have EX := Lib.hid ex
                      have HOL := Lib.hid hol
                      have HNX := Lib.hid hnx
                      have HQ := Lib.hid hq
                      have hq9 : q ≤ 64 := by omega
                      have HC0 := hso.drew
                      clear hx hxl ex hol hnx hXS hq hso
                      go_wp2_with fail
                      apply wp_region_seqp (fun u => HsB w gf F32 p A data (.slice A8 q c8) XS (some ⟨g7, 0, none⟩) c7 sv u) (fun i => i == 0) (fun u u' => Below u.heap.size u u') [_, _, _, _, _, _, undef] (gOf [(6, fun v u => ∃ g9, v = .slice (some ⟨g9, 0, none⟩) 4 4 ∧ Blk u g9 5 (bytesV (wordB 32 x 4)).toArray)]) 7 (by kernel_rfl) (by kernel_rfl) (by decide) (by kernel_rfl) (fun i h => by simp only [beq_iff_eq] at h; subst h; rfl) (stabL_of _ ⟨(fun _ _ _ h h0 => by obtain ⟨g, e, hb⟩ := h0; exact ⟨g, e, hb.below h hb.lt⟩), trivial⟩) HC0
                      simp only [List.take_succ_cons, List.take_zero, List.drop_succ_cons, List.drop_zero]
                      iterate 1
                        first
                        | (apply SeqH.pure; rfl; rfl; rfl; rfl; (simp only [act_put, act_put_none, List.setIfInBounds_toArray, List.set_cons_zero, List.set_cons_succ]; rfl); (intro w1 E hE; go_wp2; exact .mk hE))
                        | (apply SeqH.step; rfl; (first | (apply SeqG.next; rfl; rfl; rfl)); (simp only [act_put, act_put_none, List.setIfInBounds_toArray, List.set_cons_zero, List.set_cons_succ]; rfl); (intro w1 hC1 hf E hE; go_wp2; exact .mk (hE _ hC1 (Below.refl _ _))); refine SeqG.nil ?_)
                      apply SeqH.step
                      · rfl
                      apply SeqG.next
                      · rfl
                      · rfl
                      · rfl
                      · simp only [act_put, act_put_none, List.setIfInBounds_toArray, List.set_cons_zero, List.set_cons_succ]
                        rfl
                      · intro w1 hC1 hf E hE
                        refine wpList_get_box hC1.a.st.h rfl rfl rfl hu rfl h_size ?_
                        go_wp2_with fail
                        exact .mk (hE _ hC1 (Below.refl _ _))
                      refine SeqG.nil ?_
                      iterate 3
                        (apply SeqH.step; rfl; (first | (apply SeqG.next; rfl; rfl; rfl)); (simp only [act_put, act_put_none, List.setIfInBounds_toArray, List.set_cons_zero, List.set_cons_succ]; rfl); (intro w1 hC1 hf E hE; go_wp2; exact .mk (hE _ hC1 (Below.refl _ _))); refine SeqG.nil ?_)
                      apply SeqH.step
                      · rfl
                      apply SeqG.next
                      · rfl
                      · rfl
                      · rfl
                      · simp only [act_put, act_put_none, List.setIfInBounds_toArray, List.set_cons_zero, List.set_cons_succ]
                        rfl
                      · intro w1 hC1 hf E hE
                        have d0 := hC1.s.atN EX.out
                        go_wp2
                        exact .mk (hE _ hC1 (Below.refl _ _))
                      refine SeqG.nil ?_
                      apply SeqH.step
                      · rfl
                      apply SeqG.some
                      · rfl
                      · rfl
                      · intro w1 hC1 hf E hE
                        simp only [act_put, act_put_none, List.setIfInBounds_toArray, List.set_cons_zero, List.set_cons_succ] at hE
                        go_wp2_with fail
                        have hct := bytes_any 32 64 (.slice (some p.a) 3 p.ca) (.slice (some p.b) 3 p.cb) (.slice (some p.c) 3 p.cc) (.slice (some p.d) 3 p.cd) (.slice (some p.k) 64 p.ck) (.slice (some p.f) 8 p.cf) w1 (.inl rfl) x HXL.out
                        refine calls_then hct ?_
                        rintro e w2 ⟨g9, he9, hg9, hb9, hbel9⟩
                        have he9' : e = .returned (.slice (some ⟨g9, 0, none⟩) 4 4) := he9
                        clear he9
                        subst he9'
                        have hb9' : Blk w2 g9 5 (bytesV (wordB 32 x 4)).toArray := hb9
                        clear hb9
                        go_wp2_with fail
                        exact .mk (hE _ _ ⟨g9, rfl, hb9'⟩ (hC1.next hbel9) hbel9)
                      intro x6
                      simp only [act_put, act_put_none, List.setIfInBounds_toArray, List.set_cons_zero, List.set_cons_succ]
                      refine SeqG.nil ?_
                      refine SeqH.nil ?_
                      intro w1 hC1 hf
                      have f6 := (hf 6 (of_decide_eq_true (by kernel_rfl))).1 rfl
                      clear hf
                      refine SeqT.step rfl ?_
                      intro E hE
                      simp only [act_put, act_put_none, List.setIfInBounds_toArray, List.set_cons_zero, List.set_cons_succ] at hE
                      obtain ⟨g9, hx9, hb9'⟩ := f6
                      simp only [hx9] at hE ⊢
                      refine wpList_append_rd (m := 4) sl_bytes rfl rfl (show OwnX w1 (gf + 1) 5 1 (.slice A8 q c8) q (bytesV XS) by have := hC1.a.own; rwa [HOL.out] at this) rfl rfl (by rw [bytesV_length, wordB_length]) (Rd.of_blk hb9' hb9'.lt) (by intro u hu; simp [bytesV, byteV] at hu; obtain ⟨_, _, rfl⟩ := hu; rfl) (by unfold maxLen; omega) (by omega) (by have := hC1.a.st.h.lt; omega) ?_
                      intro A9 c9 w9 hown9 hg9' hn9
                      have hap := hC1.app (ys := XS ++ wordB 32 x 4) hg9' (by rw [List.length_append, HOL.out, wordB_length, bytesV_append]; exact hown9)
                      have HAP := Lib.hid hap
                      clear hap hown9 hg9' hn9 hb9'
                      go_wp2_with fail
                      refine .mk (hE _ _ ?_)
                      clear hE E
                      refine SeqT.step rfl ?_
                      intro E hE
                      simp only [act_put, act_put_none, List.setIfInBounds_toArray, List.set_cons_zero, List.set_cons_succ] at hE
                      go_wp2
                      refine .mk (hE _ _ ?_)
                      clear hE E
                      refine SeqT.nil ?_
                      clear HC0 hC1
                      go_wp2_with fail
                      refine ⟨⟨k + 1, q + 4, A9, c9, by omega, by rw [HQ.out]; omega, by go_num, rfl, ?_⟩, by simp [intOf]; omega⟩
                      rw [HNX.out]
                      exact HAP.out
                    · obtain rfl : k = 8 := by omega
                      obtain rfl : q = 8 * 4 := hq
                      have HSO := Lib.hid hso
                      clear hso
                      go_wp2_with fail
                      go_ret
                      refine ⟨A8, c8, rfl, ?_, by rw [← HGF.out]; exact HSO.out.a.st.bel⟩
                      have h := HSO.out.a.own
                      rw [outW_length _ _ _ _ (by omega)] at h
                      have hd : outW 32 4 sv 8 = digS F32 data := by
                        rw [HSV.out, digS, ← HALL.out, HAL.out, HNB.out]
                        show _ = (s8L (runS F32 ALL (j * 64 / 64))).flatMap _
                        rw [Nat.mul_div_cancel _ (by decide)]
                        rfl
                      rw [← hd, ← HGF.out]
                      exact h.mono (by omega)
end Go.Proofs.YtilhhigdegccgaaDoor.Sh
