/-
  Joined texts: HSum32 OfC Of32 Top2r Rnm Jnm Bys Jct Jsa Jen Mps Jmy Jky Jpl Jww Fd0 Fd1.
-/
import Derived.Deep.QuietTactic
import Derived.Laws.IdiomStrings
import Derived.Deep.CutBlock
import Derived.Laws.StructEq
import Derived.Test.YtoihgnkhalhocaaGreatDoorProg
import Derived.MapKept
import Derived.Test.YtoihgnkhalhocaaGreatDoorH3
import Derived.Test.YtoihgnkhalhocaaGreatDoorH4
import Derived.Test.YtoihgnkhalhocaaGreatDoorH2
import Derived.Test.YtoihgnkhalhocaaGreatDoorH1
/-
  Walk: the reference's Sum, words of 32 bits.
-/
namespace Go.Proofs.YtoihgnkhalhocaaGreatDoor.Sh
set_option linter.unusedSimpArgs false
set_option linter.unusedVariables false
open Go.RowKit
theorem zeroR32_ne (n k : Nat) (h : k < zeroR F32 n) : ((((n + 1 + k : Nat) : Int) + 8) % 64 != 0) = true := by
  simp only [zeroR, F32] at h
  rw [bne_iff_ne]
  omega
theorem zeroR32_eq (n : Nat) : ((((n + 1 + zeroR F32 n : Nat) : Int) + 8) % 64 != 0) = false := by
  have h : zeroR F32 n = (2 * 32 - (n + 1 + 32 / 4) % (2 * 32)) % (2 * 32) := rfl
  rw [bne_eq_false_iff_eq]
  omega
set_option maxRecDepth 100000 in
set_option maxHeartbeats 4000000 in
theorem hsum32_any (p : HP) (data : List UInt8) (A : Option Addr) (c B : Nat) (w : World) (hok : HOk F32 p w B) (hr : Rd w B A (bytesV data)) (hB : B ≤ w.heap.size) (hl : data.length ≤ 1000) (hc : data.length ≤ c) :
    Calls Tryz.prog 32 #[.agg (hv F32 p), .slice A data.length c] w (HSumPost F32 32 data w) := by
  have hu := Tryz.underlying65
  obtain ⟨gf, hgf⟩ : ∃ x, x = w.heap.size := ⟨_, rfl⟩
  have hst0 : HsA w gf F32 p A data (.slice none 0 0) [] (w.alloc (.cells (hv F32 p) 65)) := by
    have hb := below_new w (.cells (hv F32 p) 65)
    rw [hgf]
    exact ⟨⟨hb, Blk.new _ _ _, (hok.mono hB).below hb, (hr.mono hB).below hb⟩, OwnX.nil _ _ _ _⟩
  have d0 := hst0.st.h.cell 0
  simp [hv, hC, F32] at d0
  have HST0 := Lib.hid hst0
  have HGF := Lib.hid hgf
  have hl' : (data.length : Int) ≤ 1000 := by omega
  clear hst0 hok hr hB hgf
  go_enter Tryz.func32, Tryz.ntmps32
  have HOWN0 : Hid (OwnX (w.alloc (.cells (hv F32 p) 65)) (gf + 1) 5 1 (.slice none 0 0) 0 []) := Lib.hid HST0.out.own
  go_wp2_with (first
    | (refine wpList_append_rd (o := ⟨some 17, _, _, _, _, _⟩) sl_bytes rfl rfl HOWN0.out rfl rfl (by simp [bytesV]) HST0.out.st.rd (by intro u hu; simp [bytesV, byteV] at hu; obtain ⟨_, _, rfl⟩ := hu; rfl) (by unfold maxLen; omega) (by omega) (by have := HST0.out.st.h.lt; omega) ?_; intro A1 c1 w1 hown1 hg1 hn1; have HOWN1 : Hid (OwnX w1 (gf + 1) 5 1 (.slice A1 data.length c1) data.length (bytesV data)) := Lib.hid (by simpa using hown1); have H641 : Hid (gf + 1 ≤ w1.heap.size) := Lib.hid (by have := hg1.size; have := HGF.out; simp at *; omega); have HG1 := Lib.hid hg1; clear hown1 hg1 hn1)
    | (refine wpList_append_one (o := ⟨some 20, _, _, _, _, _⟩) sl_bytes rfl rfl HOWN1.out rfl rfl rfl rfl (by unfold maxLen; omega) (by omega) H641.out ?_; intro A2 c2 w2 hown2 hg2 hn2; have hs2 : HsA w gf F32 p A data (.slice A2 (data.length + 1) c2) (oneZ data 0) w2 := (HST0.out.app (ys := data) HG1.out HOWN1.out).app hg2 (by rw [oneZ_length, oneZ_zero, bytesV_snoc]; exact hown2); have d2 := hs2.st.h.cell 0; simp [hv, hC, F32] at d2; rw [HGF.out] at d2; have HST2 := Lib.hid hs2; clear hs2 hown2 hg2 hn2))
  rw [show w.heap.size = gf from HGF.out.symm] at d2 ⊢
  have hzl : zeroR F32 data.length < 64 := Nat.mod_lt _ (by decide)
  clear HST0 HOWN0 HG1 HOWN1 H641 d0 d2
  go_loopw [5] (fun v wr => ∃ (k n : Nat) (A3 : Option Addr) (c3 : Nat), k ≤ zeroR F32 data.length ∧ n = data.length + 1 + k ∧ v = .slice A3 n c3 ∧ HsA w gf F32 p A data (.slice A3 n c3) (oneZ data k) wr) (fun v _ => data.length + 1 + zeroR F32 data.length - lenOf v)
  case atStart => exact ⟨0, data.length + 1, A2, c2, Nat.zero_le _, rfl, rfl, HST2.out⟩
  case round =>
    clear HST2
    obtain ⟨k, n, A3, c3, hk, hn, rfl, hst⟩ := hrel
    have hn2 : n ≤ 2000 := by omega
    have d0 := hst.st.h.cell 0
    simp [hv, hC, F32] at d0
    by_cases hlt : k < zeroR F32 data.length
    · have hne : ((((n : Nat) : Int) + 8) % 64 != 0) = true := by rw [hn]; exact zeroR32_ne _ _ hlt
      have HO : Hid (OwnX wr (gf + 1) 5 1 (.slice A3 n c3) n (bytesV (oneZ data k))) := Lib.hid (by have := hst.own; rwa [oneZ_length, ← hn] at this)
      have HN := Lib.hid hn
      have HST := Lib.hid hst
      clear hn hst
      go_wp2_with (refine wpList_append_one (o := ⟨some 35, _, _, _, _, _⟩) sl_bytes rfl rfl HO.out rfl rfl rfl rfl (by unfold maxLen; omega) (by omega) (by have := HST.out.st.h.lt; omega) ?_; intro A4 c4 w4 hown4 hg4 hn4; have HOWN4 := Lib.hid hown4; have HG4 := Lib.hid hg4; clear hown4 hg4 hn4)
      exact ⟨⟨k + 1, n + 1, A4, c4, hlt, by rw [HN.out]; omega, rfl, HST.out.app HG4.out (by rw [oneZ_length, oneZ_succ, bytesV_snoc, ← Nat.add_assoc, ← HN.out]; exact HOWN4.out)⟩, by simp only [lenOf]; have := HN.out; omega⟩
    · obtain rfl : k = zeroR F32 data.length := by omega
      have hne : ((((n : Nat) : Int) + 8) % 64 != 0) = false := by rw [hn]; exact zeroR32_eq _
      have HN := Lib.hid hn
      have HST := Lib.hid hst
      clear hn hst
      go_wp2_with fail
      clear hne
      obtain ⟨W1, rfl⟩ : ∃ x : World, x = wr := ⟨_, rfl⟩
      obtain ⟨gl0, hgl0⟩ : ∃ x, x = W1.heap.size := ⟨_, rfl⟩
      have HGL := Lib.hid hgl0
      clear hgl0
      go_loopw [8, 9] (fun v i wr => ∃ (k : Nat) (A4 : Option Addr) (c4 : Nat), k ≤ 8 ∧ i = .int .i64 k ∧ v = .slice A4 k c4 ∧ Below gl0 W1 wr ∧ wr.ownsRow gl0 5 1 (.slice A4 k c4) k (bytesV (List.replicate k 0)) ∧ gl0 ≤ wr.heap.size) (fun _ i _ => 8 - (intOf i).toNat)
      case atStart => exact ⟨0, none, 0, by omega, rfl, rfl, Below.refl _ _, World.ownsRow_nil _ _ _ _, by rw [HGL.out]; exact Nat.le_refl _⟩
      case round =>
        obtain ⟨k, A4, c4, hk, rfl, rfl, hb4, ho4, hl4⟩ := hrel
        by_cases hk8 : k < 8
        · have hk8' : (k : Int) < 8 := by omega
          have HB4 := Lib.hid hb4
          have HO4 := Lib.hid ho4
          clear hb4 ho4
          go_wp2_with (refine wpList_append_own1 sl_bytes rfl rfl HO4.out rfl rfl rfl rfl (by unfold maxLen; omega) (by omega) hl4 ?_; intro A5 c5 w5 hown5 hg5; have HOWN5 := Lib.hid hown5; have HG5 := Lib.hid hg5; clear hown5 hg5)
          refine ⟨⟨k + 1, A5, c5, hk8, by go_num, rfl, HB4.out.grown HG5.out hl4 (fun k hk => (own_lt HO4.out k hk).1), ?_, by have := HG5.out.size; omega⟩, by simp [intOf]; omega⟩
          rw [List.replicate_succ', bytesV_snoc]
          exact HOWN5.out
        · obtain rfl : k = 8 := by omega
          obtain ⟨gl, R, rfl, hgl, hcl, hbk⟩ := own_blk ho4 (by decide)
          obtain ⟨ws, hws⟩ : ∃ ws, ws = lenB F32 data.length := ⟨_, rfl⟩
          have hwl : ws.length = 8 := by rw [hws, lenB, List.length_append, List.length_replicate, be8_length]; rfl
          have hbk0 : Blk wr gl 5 (backC 8 ws 0 ++ R) := by
            rw [backC_zero _ _ hwl]
            have e : bytesV (List.replicate 8 (0 : UInt8)) = List.replicate 8 (.int .u8 0) := by simp [bytesV, byteV]
            rw [e] at hbk
            exact hbk
          have hget : ∀ i j, i + j + 1 = 8 → (bytesV ws)[i]? = some (.int .u8 ((data.length * 8 / 256 ^ j % 256 : Nat) : Int)) := fun i j h => by rw [hws]; exact lenB32_get _ _ _ h
          have HWS := Lib.hid hws
          have HWL := Lib.hid hwl
          have HB4 := Lib.hid hb4
          have HBK0 := Lib.hid hbk0
          have HGET := Lib.hid hget
          clear hws hwl hb4 hbk hbk0 hget ho4
          go_wp2_with fail
          obtain ⟨wo2, rfl⟩ : ∃ x : World, x = wr := ⟨_, rfl⟩
          go_loopw [7, 10] (fun v i wr => ∃ (j y : Nat), j ≤ 8 ∧ y = data.length * 8 / 256 ^ j ∧ v = .int .i64 y ∧ i = .int .i64 ((8 : Int) - 1 - (j : Int)) ∧ Below gl0 W1 wr ∧ Blk wr gl 5 (backC 8 ws j ++ R)) (fun _ i _ => (intOf i + 1).toNat)
          case atStart => exact ⟨0, data.length * 8, by omega, by simp, by exact congrArg (Value.int .i64) (by omega), rfl, HB4.out, HBK0.out⟩
          case round =>
            clear HBK0
            obtain ⟨j, y, hj, hy, rfl, rfl, hb5, hk5⟩ := hrel
            have hyx : y ≤ data.length * 8 := by rw [hy]; exact Nat.div_le_self _ _
            have hy64 : (y : Int) ≤ 8000 := by omega
            by_cases hlt2 : j < 8
            · obtain ⟨ix, hix⟩ : ∃ ix : Nat, (8 : Int) - 1 - (j : Int) = (ix : Int) := ⟨8 - 1 - j, by omega⟩
              have hix2 : ix + j + 1 = 8 := by omega
              have hval := HGET.out ix j hix2
              rw [← hy] at hval
              have hset := backC_set_app 8 ws j ix _ R HWL.out hix2 hval
              obtain ⟨ov, hov⟩ := backC_app_get 8 ws j ix R HWL.out hix2
              have hnx : data.length * 8 / 256 ^ (j + 1) = y / 256 := by rw [hy, Nat.pow_succ, ← Nat.div_div_eq_div_mul]
              rw [hix]
              have dcell := hk5.cell ix
              rw [hov] at dcell
              have dfree := hk5.free ix
              have hixl : (ix : Int) < 8 := by omega
              have HSET := Lib.hid hset
              have HNX := Lib.hid hnx
              have HB5 := Lib.hid hb5
              have HK5 := Lib.hid hk5
              have HIX := Lib.hid hix
              clear hset hnx hb5 hk5 hix hix2 hval hy hov
              go_wp2_with fail
              refine ⟨⟨j + 1, y / 256, by omega, by rw [HNX.out], by go_num, by have := HIX.out; exact congrArg (Value.int .i64) (by omega), (wrote_setCell_at _ _ _ _).below HB5.out hgl (by have := HB5.out.size; rw [HGL.out]; omega), ?_⟩, by simp [intOf]⟩
              have h := blk_setCell_at (i := ix) HK5.out (.int .u8 ((y % 256 : Nat) : Int))
              rw [HSET.out] at h
              exact h
            · obtain rfl : j = 8 := by omega
              rw [backC_end] at hk5
              have hall : HsA w gf F32 p A data (.slice A3 n c3) (oneZ data (zeroR F32 data.length)) wr := HST.out.next (by rw [← HGL.out]; exact hb5)
              have HO5 : Hid (OwnX wr (gf + 1) 5 1 (.slice A3 n c3) n (bytesV (oneZ data (zeroR F32 data.length)))) := Lib.hid (by have := hall.own; rwa [oneZ_length, ← HN.out] at this)
              have hrl : Rd wr wr.heap.size (some ⟨gl, 0, none⟩) (bytesV ws) := Rd.of_blk_app hk5 hk5.lt
              have HRL := Lib.hid hrl
              have HALL0 := Lib.hid hall
              clear hrl hall hk5 hb5 hy HST
              go_wp2_with (first
                | (refine wpList_append_rd (o := ⟨some 63, _, _, _, _, _⟩) (m := 8) sl_bytes rfl rfl HO5.out rfl rfl (by rw [bytesV_length, HWL.out]) HRL.out (by intro u hu; simp [bytesV, byteV] at hu; obtain ⟨_, _, rfl⟩ := hu; rfl) (by unfold maxLen; omega) (by omega) (by have := HALL0.out.st.h.lt; omega) ?_; intro A5 c5 w5 hown5 hg5 hn5; have hall5 : HsA w gf F32 p A data (.slice A5 (n + 8) c5) (oneZ data (zeroR F32 data.length) ++ ws) w5 := HALL0.out.app hg5 (by rw [List.length_append, oneZ_length, HWL.out, ← HN.out, bytesV_append]; exact hown5); have d7 := hall5.st.h.cell 7; simp [hv, hC, F32] at d7; have HALL5 := Lib.hid hall5; clear hall5 hown5 hg5 hn5)
                | (refine wpList_append_rd (o := ⟨some 67, _, _, _, _, _⟩) (base := gf + 1) (n := 0) (m := 8) (v := .slice none 0 0) (xs := []) sl_u64 rfl rfl (OwnX.nil _ _ _ _) rfl rfl rfl HALL5.out.st.ok.f (by intro u hu; simp [wordsV] at hu; obtain ⟨_, _, rfl⟩ := hu; rfl) (by unfold maxLen; omega) (by omega) (by have := HALL5.out.st.h.lt; omega) ?_; intro A6 c6 w6 hown6 hg6 hn6; have HOWN6 := Lib.hid hown6; have HG6 := Lib.hid hg6; clear hown6 hg6 hn6))
              obtain ⟨ALL, hALL⟩ : ∃ x, x = padS F32 data := ⟨_, rfl⟩
              obtain ⟨m, hm⟩ : ∃ x, x = n + 8 := ⟨_, rfl⟩
              rw [← hm]
              have hall : ALL = oneZ data (zeroR F32 data.length) ++ ws := by rw [hALL, HWS.out]; exact (padR32 data hl).symm
              have hal : ALL.length = m := by rw [hall, List.length_append, oneZ_length, HWL.out, ← HN.out, hm]
              have hm4 : m ≤ 4000 := by omega
              have hsb : HsB w gf F32 p A data (.slice A5 m c5) ALL A6 c6 (runS F32 ALL 0) w6 := by
                have h5 := HALL5.out
                rw [← hm, ← hall] at h5
                have hg6 := HG6.out
                refine ⟨⟨h5.st.keep (below_of_grown hg6 (by have := h5.st.h.lt; omega) (by intro k hk; simp [Value.ownBlock] at hk)), h5.own.kept hg6 ?_⟩, ?_⟩
                · cases h9 : (Value.slice A5 m c5).ownBlock with
                  | none => exact .inl rfl
                  | some k => exact .inr (by simp [Value.ownBlock])
                · show OwnX w6 (gf + 1) 86 1 (.slice A6 8 c6) 8 (wordsV .u64 (s8L (startS F32)))
                  simpa using HOWN6.out
              obtain ⟨nb, hnb⟩ : ∃ nb, m = nb * 64 := ⟨m / 64, by have := pad32_blocks data; rw [← hALL, hal] at this; omega⟩
              have hcap : m ≤ c5 ∧ c5 ≤ 9223372036854775807 := own_cap (show OwnX w6 (gf + 1) 5 1 (.slice A5 m c5) m (bytesV ALL) by have := hsb.a.own; rwa [hal] at this)
              obtain ⟨hcap1, hcap2⟩ := hcap
              have HALL := Lib.hid hALL
              have HAL := Lib.hid hal
              have HSB := Lib.hid hsb
              have HNB := Lib.hid hnb
              clear hALL hm hall hal hsb hnb HALL5 HOWN6 HG6 HALL0 HO5 HRL d7 d0
              go_loopw [11, 12] (fun v i wr => ∃ (j a : Nat) (A7 : Option Addr) (c7 : Nat), j ≤ nb ∧ a = j * 64 ∧ i = .int .i64 (a : Int) ∧ v = .slice A7 8 c7 ∧ HsB w gf F32 p A data (.slice A5 m c5) ALL A7 c7 (runS F32 ALL j) wr) (fun _ i _ => m - (intOf i).toNat)
              case atStart => exact ⟨0, 0, A6, c6, by omega, rfl, rfl, rfl, HSB.out⟩
              case round =>
                clear HSB
                obtain ⟨j, a, A7, c7, hj, ha, rfl, rfl, hsj⟩ := hrel
                by_cases hjn : j < nb
                · have ham : a + 64 ≤ m := by rw [HNB.out, ha]; omega
                  have hlt3 : a < m := by omega
                  have hle1 : a + 64 ≤ c5 := by omega
                  have hla : OwnX wr (gf + 1) 5 1 (.slice A5 m c5) m (bytesV ALL) := by have := hsj.a.own; rwa [HAL.out] at this
                  obtain ⟨g5, hg5, _, _⟩ := hla.ptr (by omega)
                  subst hg5
                  obtain ⟨bk, hbk⟩ : ∃ x, x = (ALL.drop a).take 64 := ⟨_, rfl⟩
                  have hbl : bk.length = 64 := by rw [hbk]; simp; rw [HAL.out]; omega
                  obtain ⟨sj, hsj2⟩ : ∃ x, x = runS F32 ALL j := ⟨_, rfl⟩
                  have hsl : sj.Lt (2 ^ 32) := by rw [hsj2]; exact runS_lt F32 ALL j
                  have hs1 : runS F32 ALL (j + 1) = mixS F32 sj bk := by rw [hsj2, hbk, ha]; rfl
                  rw [← hsj2] at hsj
                  have HRB : Hid (∀ u, HsB w gf F32 p A data (.slice (some ⟨g5, 0, none⟩) m c5) ALL A7 c7 sj u → Rd u u.heap.size (some ⟨g5, a, none⟩) (bytesV bk)) := Lib.hid fun u hu => by
                    have h1 : OwnX u (gf + 1) 5 1 (.slice (some ⟨g5, 0, none⟩) m c5) m (bytesV ALL) := by have := hu.a.own; rwa [HAL.out] at this
                    have h2 := rd_take (rd_drop (Rd.of_own h1 (Nat.le_refl _)) a) 64
                    rw [Addr.add_lit, Nat.zero_add] at h2
                    rw [hbk, bytesV, List.map_take, List.map_drop]
                    exact h2
                  have HBL := Lib.hid hbl
                  have HSL := Lib.hid hsl
                  have HS1 := Lib.hid hs1
                  have HA := Lib.hid ha
                  have d0 := hsj.a.st.h.cell 0
                  simp [hv, hC, F32] at d0
                  have HC0 := hsj.drew
                  have D0 := Lib.hid d0
                  have HSJ := Lib.hid hsj
                  clear hbl hsl hs1 hbk hsj2 ha hla hsj d0
                  go_wp2_with fail
                  clear HSJ
                  refine wp_region_seqt (fun u => HsB w gf F32 p A data (.slice (some ⟨g5, 0, none⟩) m c5) ALL A7 c7 sj u) (fun _ => false) 10 (by kernel_rfl) (by kernel_rfl) (by decide) (by kernel_rfl) HC0 ?_
                  simp only [List.take_succ_cons, List.take_zero, List.drop_succ_cons, List.drop_zero]
                  apply SeqL.next
                  · rfl
                  · rfl
                  · simp only [act_put, act_put_none, List.setIfInBounds_toArray, List.set_cons_zero, List.set_cons_succ]
                    rfl
                  · intro w1 hC1 E hE
                    refine wpList_get_box hC1.a.st.h rfl rfl rfl hu rfl h_size ?_
                    go_wp2_with fail
                    exact .mk (hE _ hC1)
                  iterate 5
                    ((first | (apply SeqL.next; rfl; rfl)); (simp only [act_put, act_put_none, List.setIfInBounds_toArray, List.set_cons_zero, List.set_cons_succ]; rfl); (intro w1 hC1 E hE; go_wp2; exact .mk (hE _ hC1)))
                  apply SeqL.next
                  · rfl
                  · rfl
                  · simp only [act_put, act_put_none, List.setIfInBounds_toArray, List.set_cons_zero, List.set_cons_succ]
                    rfl
                  · intro w1 hC1 E hE
                    have d0 := hC1.a.st.h.cell 0
                    simp [hv, hC, F32] at d0
                    go_wp2
                    exact .mk (hE _ hC1)
                  iterate 2
                    ((first | (apply SeqL.next; rfl; rfl)); (simp only [act_put, act_put_none, List.setIfInBounds_toArray, List.set_cons_zero, List.set_cons_succ]; rfl); (intro w1 hC1 E hE; go_wp2; exact .mk (hE _ hC1)))
                  apply SeqL.next
                  · rfl
                  · rfl
                  · simp only [act_put, act_put_none, List.setIfInBounds_toArray, List.set_cons_zero, List.set_cons_succ]
                    rfl
                  · intro w1 hC1 E hE
                    go_wp2
                    rw [show a + 64 - a = 64 by omega]
                    exact .mk (hE _ hC1)
                  refine SeqL.nil ?_
                  intro w1 hC1
                  refine SeqT.step rfl ?_
                  intro E hE
                  simp only [act_put, act_put_none, List.setIfInBounds_toArray, List.set_cons_zero, List.set_cons_succ] at hE
                  go_wp2_with fail
                  have hmx := block32_any p sj bk (some ⟨g5, a, none⟩) A7 (c5 - a) c7 w1.heap.size w1 (hC1.a.st.ok.mono (by have := hC1.a.st.h.lt; omega)) (Nat.le_refl _) (HRB.out _ hC1) (Rd.of_own hC1.s (Nat.le_refl _)) HBL.out (by rw [HBL.out]; omega) hC1.s.le_cap HSL.out
                  rw [HBL.out] at hmx
                  refine calls_then hmx ?_
                  rintro e w2 ⟨A8, c8, rfl, hown8, hb8⟩
                  go_wp2_with fail
                  refine .mk (hE _ _ ?_)
                  clear hE E
                  refine SeqT.step rfl ?_
                  intro E hE
                  simp only [act_put, act_put_none, List.setIfInBounds_toArray, List.set_cons_zero, List.set_cons_succ] at hE
                  go_wp2
                  refine .mk (hE _ _ ?_)
                  clear hE E
                  refine SeqT.nil ?_
                  have hfin : HsB w gf F32 p A data (.slice (some ⟨g5, 0, none⟩) m c5) ALL A8 c8 (runS F32 ALL (j + 1)) w2 := by
                    rw [HS1.out]
                    exact ⟨hC1.a.next hb8, hown8.mono (by have := hC1.a.st.h.lt; omega)⟩
                  have d0 := hfin.a.st.h.cell 0
                  simp [hv, hC, F32] at d0
                  have HFIN := Lib.hid hfin
                  clear hfin hC1 HC0 hown8 hb8
                  go_wp2_with fail
                  exact ⟨⟨j + 1, a + 64, A8, c8, hjn, by rw [HA.out]; omega, by go_num, rfl, HFIN.out⟩, by simp [intOf]; omega⟩
                · obtain rfl : j = nb := by omega
                  have hge : ¬ a < m := by rw [HNB.out, ha]; omega
                  obtain ⟨sv, hsv⟩ : ∃ x, x = runS F32 ALL j := ⟨_, rfl⟩
                  have hsl : sv.Lt (2 ^ 32) := by rw [hsv]; exact runS_lt F32 ALL j
                  rw [← hsv] at hsj
                  obtain ⟨g7, rfl, _, _⟩ := hsj.s.ptr (by decide)
                  have hc7 := hsj.s.le_cap
                  have hso : HsB w gf F32 p A data (.slice none 0 0) (outW 32 4 sv 0) (some ⟨g7, 0, none⟩) c7 sv wr := ⟨⟨hsj.a.st, OwnX.nil _ _ _ _⟩, hsj.s⟩
                  have HSV := Lib.hid hsv
                  have HSL := Lib.hid hsl
                  have HSO := Lib.hid hso
                  have HA := Lib.hid ha
                  clear hsv hsl hso hsj ha
                  go_wp2_with fail
                  obtain ⟨wo5, rfl⟩ : ∃ x : World, x = wr := ⟨_, rfl⟩
                  go_loopw [13, 14] (fun v i wr => ∃ (k q : Nat) (A8 : Option Addr) (c8 : Nat), k ≤ 8 ∧ q = k * 4 ∧ i = .int .i64 k ∧ v = .slice A8 q c8 ∧ HsB w gf F32 p A data (.slice A8 q c8) (outW 32 4 sv k) (some ⟨g7, 0, none⟩) c7 sv wr) (fun _ i _ => 8 - (intOf i).toNat)
                  case atStart => exact ⟨0, 0, none, 0, by omega, by omega, rfl, rfl, HSO.out⟩
                  case round =>
                    clear HSO
                    obtain ⟨k, q, A8, c8, hk, hq, rfl, rfl, hso⟩ := hrel
                    by_cases hk8 : k < 8
                    · have hk8' : (k : Int) < 8 := by omega
                      obtain ⟨x, hx⟩ : ∃ x, x = (s8L sv).getD k 0 := ⟨_, rfl⟩
                      have hxl : x < 2 ^ 32 := by rw [hx]; exact s8L_lt HSL.out (by decide) k
                      have ex : (wordsV .u64 (s8L sv))[k]? = some (.int .u64 (x : Int)) := by rw [hx]; exact wordsV_get _ _ _ (show k < 8 from hk8)
                      have hol : (outW 32 4 sv k).length = q := by rw [outW_length _ _ _ _ hk, hq]
                      have hnx : outW 32 4 sv (k + 1) = outW 32 4 sv k ++ wordB 32 x 4 := by rw [outW_succ _ _ _ _ hk8, hx]
                      obtain ⟨XS, hXS⟩ : ∃ x, x = outW 32 4 sv k := ⟨_, rfl⟩
                      rw [← hXS] at hol hnx hso
                      have HXL := Lib.hid hxl
                      have EX := Lib.hid ex
                      have HOL := Lib.hid hol
                      have HNX := Lib.hid hnx
                      have HQ := Lib.hid hq
                      have hq9 : q ≤ 64 := by omega
                      have HC0 := hso.drew
                      clear hx hxl ex hol hnx hXS hq hso
                      go_wp2_with fail
                      apply wp_region_seqp (fun u => HsB w gf F32 p A data (.slice A8 q c8) XS (some ⟨g7, 0, none⟩) c7 sv u) (fun i => i == 0) (fun u u' => Below u.heap.size u u') [_, _, _, _, _, _, undef] (gOf [(6, fun v u => ∃ g9, v = .slice (some ⟨g9, 0, none⟩) 4 4 ∧ Blk u g9 5 (bytesV (wordB 32 x 4)).toArray)]) 7 (by kernel_rfl) (by kernel_rfl) (by decide) (by kernel_rfl) (fun i h => by simp only [beq_iff_eq] at h; subst h; rfl) (stabL_of _ ⟨(fun _ _ _ h h0 => by obtain ⟨g, e, hb⟩ := h0; exact ⟨g, e, hb.below h hb.lt⟩), trivial⟩) HC0
                      simp only [List.take_succ_cons, List.take_zero, List.drop_succ_cons, List.drop_zero]
                      iterate 1
                        first
                        | (apply SeqH.pure; rfl; rfl; rfl; rfl; (simp only [act_put, act_put_none, List.setIfInBounds_toArray, List.set_cons_zero, List.set_cons_succ]; rfl); (intro w1 E hE; go_wp2; exact .mk hE))
                        | (apply SeqH.step; rfl; (first | (apply SeqG.next; rfl; rfl; rfl)); (simp only [act_put, act_put_none, List.setIfInBounds_toArray, List.set_cons_zero, List.set_cons_succ]; rfl); (intro w1 hC1 hf E hE; go_wp2; exact .mk (hE _ hC1 (Below.refl _ _))); refine SeqG.nil ?_)
                      apply SeqH.step
                      · rfl
                      apply SeqG.next
                      · rfl
                      · rfl
                      · rfl
                      · simp only [act_put, act_put_none, List.setIfInBounds_toArray, List.set_cons_zero, List.set_cons_succ]
                        rfl
                      · intro w1 hC1 hf E hE
                        refine wpList_get_box hC1.a.st.h rfl rfl rfl hu rfl h_size ?_
                        go_wp2_with fail
                        exact .mk (hE _ hC1 (Below.refl _ _))
                      refine SeqG.nil ?_
                      iterate 3
                        (apply SeqH.step; rfl; (first | (apply SeqG.next; rfl; rfl; rfl)); (simp only [act_put, act_put_none, List.setIfInBounds_toArray, List.set_cons_zero, List.set_cons_succ]; rfl); (intro w1 hC1 hf E hE; go_wp2; exact .mk (hE _ hC1 (Below.refl _ _))); refine SeqG.nil ?_)
                      apply SeqH.step
                      · rfl
                      apply SeqG.next
                      · rfl
                      · rfl
                      · rfl
                      · simp only [act_put, act_put_none, List.setIfInBounds_toArray, List.set_cons_zero, List.set_cons_succ]
                        rfl
                      · intro w1 hC1 hf E hE
                        have d0 := hC1.s.atN EX.out
                        go_wp2
                        exact .mk (hE _ hC1 (Below.refl _ _))
                      refine SeqG.nil ?_
                      apply SeqH.step
                      · rfl
                      apply SeqG.some
                      · rfl
                      · rfl
                      · intro w1 hC1 hf E hE
                        simp only [act_put, act_put_none, List.setIfInBounds_toArray, List.set_cons_zero, List.set_cons_succ] at hE
                        go_wp2_with fail
                        have hct := bytes_any 32 64 (.slice (some p.a) 3 p.ca) (.slice (some p.b) 3 p.cb) (.slice (some p.c) 3 p.cc) (.slice (some p.d) 3 p.cd) (.slice (some p.k) 64 p.ck) (.slice (some p.f) 8 p.cf) w1 (.inl rfl) x HXL.out
                        refine calls_then hct ?_
                        rintro e w2 ⟨g9, he9, hg9, hb9, hbel9⟩
                        have he9' : e = .returned (.slice (some ⟨g9, 0, none⟩) 4 4) := he9
                        clear he9
                        subst he9'
                        have hb9' : Blk w2 g9 5 (bytesV (wordB 32 x 4)).toArray := hb9
                        clear hb9
                        go_wp2_with fail
                        exact .mk (hE _ _ ⟨g9, rfl, hb9'⟩ (hC1.next hbel9) hbel9)
                      intro x6
                      simp only [act_put, act_put_none, List.setIfInBounds_toArray, List.set_cons_zero, List.set_cons_succ]
                      refine SeqG.nil ?_
                      refine SeqH.nil ?_
                      intro w1 hC1 hf
                      have f6 := (hf 6 (of_decide_eq_true (by kernel_rfl))).1 rfl
                      clear hf
                      refine SeqT.step rfl ?_
                      intro E hE
                      simp only [act_put, act_put_none, List.setIfInBounds_toArray, List.set_cons_zero, List.set_cons_succ] at hE
                      obtain ⟨g9, hx9, hb9'⟩ := f6
                      simp only [hx9] at hE ⊢
                      refine wpList_append_rd (m := 4) sl_bytes rfl rfl (show OwnX w1 (gf + 1) 5 1 (.slice A8 q c8) q (bytesV XS) by have := hC1.a.own; rwa [HOL.out] at this) rfl rfl (by rw [bytesV_length, wordB_length]) (Rd.of_blk hb9' hb9'.lt) (by intro u hu; simp [bytesV, byteV] at hu; obtain ⟨_, _, rfl⟩ := hu; rfl) (by unfold maxLen; omega) (by omega) (by have := hC1.a.st.h.lt; omega) ?_
                      intro A9 c9 w9 hown9 hg9' hn9
                      have hap := hC1.app (ys := XS ++ wordB 32 x 4) hg9' (by rw [List.length_append, HOL.out, wordB_length, bytesV_append]; exact hown9)
                      have HAP := Lib.hid hap
                      clear hap hown9 hg9' hn9 hb9'
                      go_wp2_with fail
                      refine .mk (hE _ _ ?_)
                      clear hE E
                      refine SeqT.step rfl ?_
                      intro E hE
                      simp only [act_put, act_put_none, List.setIfInBounds_toArray, List.set_cons_zero, List.set_cons_succ] at hE
                      go_wp2
                      refine .mk (hE _ _ ?_)
                      clear hE E
                      refine SeqT.nil ?_
                      clear HC0 hC1
                      go_wp2_with fail
                      refine ⟨⟨k + 1, q + 4, A9, c9, by omega, by rw [HQ.out]; omega, by go_num, rfl, ?_⟩, by simp [intOf]; omega⟩
                      rw [HNX.out]
                      exact HAP.out
                    · obtain rfl : k = 8 := by omega
                      obtain rfl : q = 8 * 4 := hq
                      have HSO := Lib.hid hso
                      clear hso
                      go_wp2_with fail
                      go_ret
                      refine ⟨A8, c8, rfl, ?_, by rw [← HGF.out]; exact HSO.out.a.st.bel⟩
                      have h := HSO.out.a.own
                      rw [outW_length _ _ _ _ (by omega)] at h
                      have hd : outW 32 4 sv 8 = digS F32 data := by
                        rw [HSV.out, digS, ← HALL.out, HAL.out, HNB.out]
                        show _ = (s8L (runS F32 ALL (j * 64 / 64))).flatMap _
                        rw [Nat.mul_div_cancel _ (by decide)]
                        rfl
                      rw [← hd, ← HGF.out]
                      exact h.mono (by omega)
end Go.Proofs.YtoihgnkhalhocaaGreatDoor.Sh
/-
  Plain: what the reference's Of of both kinds share.
-/
namespace Go.Proofs.YtoihgnkhalhocaaGreatDoor.Sh
set_option linter.unusedSimpArgs false
set_option linter.unusedVariables false
open Go.RowKit
theorem Blk.newAt {w : World} {n : Nat} {t : TypeId} {cs : Array Value} (h : w.heap.size = n) : Blk (w.alloc (.cells cs t)) n t cs := h ▸ Blk.new w t cs
def zH : Array Value := #[.int .i64 0, .int .i64 0, .slice none 0 0, .slice none 0 0, .slice none 0 0, .slice none 0 0, .slice none 0 0, .slice none 0 0]
theorem kL_take (F : ShaF) (n : Nat) (h : n < F.many) : (kL F).take (n + 1) = (kL F).take n ++ [stepsN.getD n 0 / 2 ^ (64 - F.bits) % 2 ^ F.bits] := by
  have hl : n < (kL F).length := by rw [kL_length]; exact h
  rw [List.take_succ_eq_append_getElem hl]
  have := kL_get F n h
  rw [List.getElem?_eq_getElem hl] at this
  rw [Option.some.inj this]
  rfl
theorem start_take (F : ShaF) (n : Nat) (h : n < 8) : (s8L (startS F)).take (n + 1) = (s8L (startS F)).take n ++ [firstN.getD n 0 / 2 ^ (64 - F.bits) % 2 ^ F.bits] := by
  rw [s8_take _ _ h, startS_at _ _ h]
def csV (bits many ga gb gc gd : Nat) (vK vF : Value) : Array Value := hC bits many (.slice (some ⟨ga, 0, none⟩) 3 3) (.slice (some ⟨gb, 0, none⟩) 3 3) (.slice (some ⟨gc, 0, none⟩) 3 3) (.slice (some ⟨gd, 0, none⟩) 3 3) vK vF
end Go.Proofs.YtoihgnkhalhocaaGreatDoor.Sh
/-
  Walk: the reference's Of, of 32 bits.
-/
namespace Go.Proofs.YtoihgnkhalhocaaGreatDoor.Sh
set_option linter.unusedSimpArgs false
set_option linter.unusedVariables false
open Go.RowKit
set_option maxRecDepth 100000 in
set_option maxHeartbeats 4000000 in
theorem of32_any (w : World) : Calls Tryz.prog 31 #[.int .i64 32] w (OfPost F32 w) := by
  have hu := Tryz.underlying65
  obtain ⟨g0, hg0⟩ : ∃ x, x = w.heap.size := ⟨_, rfl⟩
  go_enter Tryz.func31, Tryz.ntmps31
  go_wp2_with fail
  obtain ⟨gh, hgh⟩ : ∃ x, x = w.heap.size + 1 + 1 + 1 + 1 + 1 := ⟨_, rfl⟩
  obtain ⟨ga, hga⟩ : ∃ x, x = w.heap.size + 1 + 1 + 1 + 1 + 1 + 1 := ⟨_, rfl⟩
  obtain ⟨gb, hgb⟩ : ∃ x, x = w.heap.size + 1 + 1 + 1 + 1 + 1 + 1 + 1 := ⟨_, rfl⟩
  obtain ⟨gc, hgc⟩ : ∃ x, x = w.heap.size + 1 + 1 + 1 + 1 + 1 + 1 + 1 + 1 := ⟨_, rfl⟩
  obtain ⟨gd, hgd⟩ : ∃ x, x = w.heap.size + 1 + 1 + 1 + 1 + 1 + 1 + 1 + 1 + 1 := ⟨_, rfl⟩
  have hd : ga ≠ gh ∧ gb ≠ gh ∧ gc ≠ gh ∧ gd ≠ gh := by omega
  have hlt : g0 < gh ∧ g0 < ga ∧ g0 < gb ∧ g0 < gc ∧ g0 < gd := by omega
  refine calls_then (primes_any _) ?_
  rintro e wp ⟨P, pc, rfl, hown, hbel⟩
  have B0 := (((((((((((Blk.newAt (n := w.heap.size) (t := 65) (cs := zH) (by simp)).alloc _).alloc _).alloc _).alloc _).alloc _).alloc _).alloc _).alloc _).alloc _)).below hbel (by simp <;> omega)
  have Bh := ((((((Blk.newAt (n := w.heap.size + 1 + 1 + 1 + 1 + 1) (t := 65) (cs := #[.int .i64 32, .int .i64 64, .slice (some ⟨w.heap.size + 1 + 1 + 1 + 1 + 1 + 1, 0, none⟩) 3 3, .slice (some ⟨w.heap.size + 1 + 1 + 1 + 1 + 1 + 1 + 1, 0, none⟩) 3 3, .slice (some ⟨w.heap.size + 1 + 1 + 1 + 1 + 1 + 1 + 1 + 1, 0, none⟩) 3 3, .slice (some ⟨w.heap.size + 1 + 1 + 1 + 1 + 1 + 1 + 1 + 1 + 1, 0, none⟩) 3 3, .slice none 0 0, .slice none 0 0]) (by simp)).alloc _).alloc _).alloc _).alloc _)).below hbel (by simp <;> omega)
  have Ba := (((((Blk.newAt (n := w.heap.size + 1 + 1 + 1 + 1 + 1 + 1) (t := 3) (cs := (tri F32.s0).toArray) (by simp)).alloc _).alloc _).alloc _)).below hbel (by simp <;> omega)
  have Bb := ((((Blk.newAt (n := w.heap.size + 1 + 1 + 1 + 1 + 1 + 1 + 1) (t := 3) (cs := (tri F32.s1).toArray) (by simp)).alloc _).alloc _)).below hbel (by simp <;> omega)
  have Bc := (((Blk.newAt (n := w.heap.size + 1 + 1 + 1 + 1 + 1 + 1 + 1 + 1) (t := 3) (cs := (tri F32.t0).toArray) (by simp)).alloc _)).below hbel (by simp <;> omega)
  have Bd := ((Blk.newAt (n := w.heap.size + 1 + 1 + 1 + 1 + 1 + 1 + 1 + 1 + 1) (t := 3) (cs := (tri F32.t1).toArray) (by simp))).below hbel (by simp <;> omega)
  have hbl := (((((((((((below_new w _).alloc (by simp; try omega) _).alloc (by simp; try omega) _).alloc (by simp; try omega) _).alloc (by simp; try omega) _).alloc (by simp; try omega) _).alloc (by simp; try omega) _).alloc (by simp; try omega) _).alloc (by simp; try omega) _).alloc (by simp; try omega) _) : Below w.heap.size w _).trans (hbel.mono (by simp <;> omega))
  have hown' := hown.mono (show w.heap.size ≤ _ by simp <;> omega)
  rw [← hgd, ← hgc, ← hgb, ← hga, ← hgh] at Bh ⊢
  rw [← hg0] at B0 hbl hown' ⊢
  rw [← hga] at Ba
  rw [← hgb] at Bb
  rw [← hgc] at Bc
  rw [← hgd] at Bd
  obtain ⟨gp, rfl, hgp1, hgp2⟩ := hown'.ptr (by decide)
  have hpc := hown'.le_cap
  have hst0 : OfSt w ⟨g0, gh, ga, gb, gc, gd⟩ F32 zH (.slice (some ⟨gp, 0, none⟩) 80 pc) (csV 32 64 ga gb gc gd (.slice none 0 0) (.slice none 0 0)) (.slice none 0 0) ((kL F32).take 0) (.slice none 0 0) [] wp :=
    ⟨hbl, B0, Bh, Ba, Bb, Bc, Bd, hown', OwnX.nil _ _ _ _, OwnX.nil _ _ _ _, .inl rfl, hlt.1⟩
  have HD := Lib.hid hd
  have HLT := Lib.hid hlt
  have HG0 := Lib.hid hg0
  have HST0 := Lib.hid hst0
  clear B0 Bh Ba Bb Bc Bd hbl hown' hown hbel hd hlt hgp1 hgp2 hgh hga hgb hgc hgd hg0 hst0
  go_wp2_with fail
  go_loopw [5] (fun i wr => ∃ (n : Nat) (A : Option Addr) (c : Nat), n ≤ 64 ∧ i = .int .i64 n ∧ OfSt w ⟨g0, gh, ga, gb, gc, gd⟩ F32 zH (.slice (some ⟨gp, 0, none⟩) 80 pc) (csV 32 64 ga gb gc gd (.slice A n c) (.slice none 0 0)) (.slice A n c) ((kL F32).take n) (.slice none 0 0) [] wr) (fun i _ => 64 - (intOf i).toNat)
  case atStart => exact ⟨0, none, 0, by omega, rfl, HST0.out⟩
  case round =>
    clear HST0
    obtain ⟨n, A, c, hn, rfl, hst⟩ := hrel
    have d1 := hst.h.cell 1
    simp [csV, hC] at d1
    by_cases hnl : n < 64
    · have hnl' : (n : Int) < 64 := by omega
      obtain ⟨L, hL⟩ : ∃ L, L = (kL F32).take n := ⟨_, rfl⟩
      have hLl : L.length = n := by rw [hL, List.length_take, kL_length, show F32.many = 64 from rfl]; omega
      obtain ⟨pn, hpn⟩ : ∃ x, x = primes80.getD n 0 := ⟨_, rfl⟩
      have hpl : pn < 65536 := by rw [hpn]; exact prime_lt n (by omega)
      have hrt : rootN pn 3 = stepsN.getD n 0 := by rw [hpn]; exact rootN3 n (by omega)
      obtain ⟨rt, hrt2⟩ : ∃ x, x = rootN pn 3 := ⟨_, rfl⟩
      have hrl : rt < 18446744073709551616 := by rw [hrt2, rootN]; exact Nat.mod_lt _ (by decide)
      obtain ⟨kn, hkn⟩ : ∃ x, x = rt / 2 ^ (64 - 32) % 2 ^ 32 := ⟨_, rfl⟩
      have hnx : (kL F32).take (n + 1) = L ++ [kn] := by
        rw [hkn, hrt2, hrt, hL]
        exact kL_take F32 n hnl
      have ep : (wordsV .i64 primes80)[n]? = some (.int .i64 (pn : Int)) := by rw [hpn]; exact wordsV_at (show n < 80 by omega)
      rw [← hL] at hst
      have HL := Lib.hid hLl
      have HPL := Lib.hid hpl
      have HRT := Lib.hid hrt2
      have HRL := Lib.hid hrl
      have HKN := Lib.hid hkn
      have HNX := Lib.hid hnx
      have EP := Lib.hid ep
      have hn80 : n < 80 := by omega
      have HC0 := hst.drew
      have HST1 := Lib.hid hst
      clear hL hLl hpn hpl hrt hrt2 hrl hkn hnx ep hst
      go_wp2_with fail
      clear HST1 d1
      apply wp_region_seqp (fun u => OfSt w ⟨g0, gh, ga, gb, gc, gd⟩ F32 zH (.slice (some ⟨gp, 0, none⟩) 80 pc) (csV 32 64 ga gb gc gd (.slice A n c) (.slice none 0 0)) (.slice A n c) L (.slice none 0 0) [] u) (fun i => i == 0) (fun u u' => Below u.heap.size u u') [_, _, _, _, _, _, _, _, _, undef] (gOf [(9, fun v u => ∃ g9, v = .slice (some ⟨g9, 0, none⟩) 1 1 ∧ Blk u g9 86 [.int .u64 (kn : Int)].toArray)]) 10 (by kernel_rfl) (by kernel_rfl) (by decide) (by kernel_rfl) (fun i h => by simp only [beq_iff_eq] at h; subst h; rfl) (stabL_of _ ⟨(fun _ _ _ h h0 => by obtain ⟨g, e, hb⟩ := h0; exact ⟨g, e, hb.below h hb.lt⟩), trivial⟩) HC0
      simp only [List.take_succ_cons, List.take_zero, List.drop_succ_cons, List.drop_zero]
      iterate 1
        first
        | (apply SeqH.pure; rfl; rfl; rfl; rfl; (simp only [act_put, act_put_none, List.setIfInBounds_toArray, List.set_cons_zero, List.set_cons_succ]; rfl); (intro w1 E hE; go_wp2; exact .mk hE))
        | (apply SeqH.step; rfl; (first | (apply SeqG.next; rfl; rfl; rfl)); (simp only [act_put, act_put_none, List.setIfInBounds_toArray, List.set_cons_zero, List.set_cons_succ]; rfl); (intro w1 hC1 hf E hE; go_wp2; exact .mk (hE _ hC1 (Below.refl _ _))); refine SeqG.nil ?_)
      apply SeqH.step
      · rfl
      apply SeqG.next
      · rfl
      · rfl
      · rfl
      · simp only [act_put, act_put_none, List.setIfInBounds_toArray, List.set_cons_zero, List.set_cons_succ]
        rfl
      · intro w1 hC1 hf E hE
        have d0 := hC1.h.cell 6
        simp [csV, hC] at d0
        go_wp2
        exact .mk (hE _ hC1 (Below.refl _ _))
      refine SeqG.nil ?_
      apply SeqH.step
      · rfl
      apply SeqG.next
      · rfl
      · rfl
      · rfl
      · simp only [act_put, act_put_none, List.setIfInBounds_toArray, List.set_cons_zero, List.set_cons_succ]
        rfl
      · intro w1 hC1 hf E hE
        refine wpList_get_box hC1.h rfl rfl rfl hu rfl h_size ?_
        go_wp2_with fail
        exact .mk (hE _ hC1 (Below.refl _ _))
      refine SeqG.nil ?_
      iterate 3
        (apply SeqH.step; rfl; (first | (apply SeqG.next; rfl; rfl; rfl)); (simp only [act_put, act_put_none, List.setIfInBounds_toArray, List.set_cons_zero, List.set_cons_succ]; rfl); (intro w1 hC1 hf E hE; go_wp2; exact .mk (hE _ hC1 (Below.refl _ _))); refine SeqG.nil ?_)
      apply SeqH.step
      · rfl
      apply SeqG.next
      · rfl
      · rfl
      · rfl
      · simp only [act_put, act_put_none, List.setIfInBounds_toArray, List.set_cons_zero, List.set_cons_succ]
        rfl
      · intro w1 hC1 hf E hE
        have d0 := hC1.p.atN EP.out
        go_wp2
        exact .mk (hE _ hC1 (Below.refl _ _))
      refine SeqG.nil ?_
      apply SeqH.step
      · rfl
      apply SeqG.next
      · rfl
      · rfl
      · rfl
      · simp only [act_put, act_put_none, List.setIfInBounds_toArray, List.set_cons_zero, List.set_cons_succ]
        rfl
      · intro w1 hC1 hf E hE
        go_wp2_with fail
        refine calls_then (root3_any pn _ HPL.out) ?_
        rintro e w2 ⟨rfl, hb2⟩
        rw [← HRT.out]
        go_wp2_with fail
        exact .mk (hE _ (hC1.next hb2) hb2)
      refine SeqG.nil ?_
      apply SeqH.step
      · rfl
      apply SeqG.next
      · rfl
      · rfl
      · rfl
      · simp only [act_put, act_put_none, List.setIfInBounds_toArray, List.set_cons_zero, List.set_cons_succ]
        rfl
      · intro w1 hC1 hf E hE
        go_wp2_with fail
        refine calls_then (top_any 32 64 _ _ _ _ _ _ _ (.inl rfl) rt HRL.out) ?_
        rintro e w2 ⟨rfl, hb2⟩
        rw [← HKN.out]
        go_wp2_with fail
        exact .mk (hE _ (hC1.next hb2) hb2)
      refine SeqG.nil ?_
      apply SeqH.step
      · rfl
      apply SeqG.some
      · rfl
      · rfl
      · intro w1 hC1 hf E hE
        simp only [act_put, act_put_none, List.setIfInBounds_toArray, List.set_cons_zero, List.set_cons_succ] at hE
        go_wp2
        exact .mk (hE _ _ ⟨_, rfl, Blk.new _ _ _⟩ (hC1.next (below_new _ _)) (below_new _ _))
      intro x9
      simp only [act_put, act_put_none, List.setIfInBounds_toArray, List.set_cons_zero, List.set_cons_succ]
      refine SeqG.nil ?_
      refine SeqH.nil ?_
      intro w1 hC1 hf
      have f9 := (hf 9 (of_decide_eq_true (by kernel_rfl))).1 rfl
      clear hf
      refine SeqT.step rfl ?_
      intro E hE
      simp only [act_put, act_put_none, List.setIfInBounds_toArray, List.set_cons_zero, List.set_cons_succ] at hE
      obtain ⟨g9, hx9, hb9⟩ := f9
      simp only [hx9] at hE ⊢
      refine wpList_append_rd (m := 1) sl_u64 rfl rfl (show OwnX w1 g0 86 1 (.slice A n c) n (wordsV .u64 L) by have := hC1.k; rwa [HL.out] at this) rfl rfl rfl (Rd.of_blk hb9 hb9.lt) (by intro u hu; simp at hu; subst hu; rfl) (by unfold maxLen; omega) (by omega) (by have := hC1.res.lt; dsimp only at this; omega) ?_
      intro A6 c6 w6 hown6 hg6 hn6
      have hap := hC1.appK (v' := .slice A6 (n + 1) c6) (x := kn) (by rw [HL.out]; exact hown6) hg6 (rfl)
      have HAP := Lib.hid hap
      clear hap hown6 hg6 hn6
      go_wp2_with fail
      refine .mk (hE _ _ ?_)
      clear hE E
      refine SeqT.step rfl ?_
      intro E hE
      simp only [act_put, act_put_none, List.setIfInBounds_toArray, List.set_cons_zero, List.set_cons_succ] at hE
      go_wp2
      refine .mk (hE _ _ ?_)
      clear hE E
      refine SeqT.step rfl ?_
      intro E hE
      simp only [act_put, act_put_none, List.setIfInBounds_toArray, List.set_cons_zero, List.set_cons_succ] at hE
      refine wpList_put_cell (i := 6) (v := .slice A6 (n + 1) c6) HAP.out.h rfl rfl rfl rfl slu_size (show 6 < 8 by decide) rfl ?_
      intro w7 hb7 hw7
      have HFIN := Lib.hid (HAP.out.put hw7 hb7 HD.out)
      clear hb7 hw7
      go_wp2_with fail
      refine .mk (hE undef _ ?_)
      clear hE E
      refine SeqT.nil ?_
      clear HC0 HAP hC1
      go_wp2_with fail
      refine ⟨⟨n + 1, A6, c6, by omega, by go_num, ?_⟩, by simp [intOf]; omega⟩
      rw [HNX.out]
      exact HFIN.out
    · obtain rfl : n = 64 := by omega
      rw [List.take_of_length_le (by rw [kL_length]; exact Nat.le_refl _)] at hst
      obtain ⟨gk, rfl, hk1, hk2⟩ := (show OwnX wr g0 86 1 (.slice A 64 c) 64 (wordsV .u64 (kL F32)) by have := hst.k; rwa [kL_length] at this).ptr (by decide)
      have hck : 64 ≤ c := by
        have ho : OwnX wr g0 86 1 (.slice (some ⟨gk, 0, none⟩) 64 c) 64 (wordsV .u64 (kL F32)) := by have := hst.k; rwa [kL_length] at this
        exact ho.le_cap
      have hst1 : OfSt w ⟨g0, gh, ga, gb, gc, gd⟩ F32 zH (.slice (some ⟨gp, 0, none⟩) 80 pc) (csV 32 64 ga gb gc gd (.slice (some ⟨gk, 0, none⟩) 64 c) (.slice none 0 0)) (.slice (some ⟨gk, 0, none⟩) 64 c) (kL F32) (.slice none 0 0) ((s8L (startS F32)).take 0) wr := hst
      have HST0 := Lib.hid hst1
      have HK1 := Lib.hid hk1
      clear hst hst1 hk1 hk2
      obtain ⟨ck, rfl⟩ : ∃ ck, ck = c := ⟨_, rfl⟩
      go_wp2_with fail
      clear d1
      obtain ⟨wo, rfl⟩ : ∃ wo : World, wo = wr := ⟨_, rfl⟩
      go_loopw [6] (fun i wr => ∃ (n : Nat) (A : Option Addr) (c : Nat), n ≤ 8 ∧ i = .int .i64 n ∧ OfSt w ⟨g0, gh, ga, gb, gc, gd⟩ F32 zH (.slice (some ⟨gp, 0, none⟩) 80 pc) (csV 32 64 ga gb gc gd (.slice (some ⟨gk, 0, none⟩) 64 ck) (.slice A n c)) (.slice (some ⟨gk, 0, none⟩) 64 ck) (kL F32) (.slice A n c) ((s8L (startS F32)).take n) wr) (fun i _ => 8 - (intOf i).toNat)
      case atStart => exact ⟨0, none, 0, by omega, rfl, HST0.out⟩
      case round =>
        clear HST0
        obtain ⟨n, A, c, hn, rfl, hst⟩ := hrel
        by_cases hnl : n < 8
        · have hnl' : (n : Int) < 8 := by omega
          obtain ⟨L, hL⟩ : ∃ L, L = (s8L (startS F32)).take n := ⟨_, rfl⟩
          have hLl : L.length = n := by rw [hL, List.length_take, show (s8L (startS F32)).length = 8 from rfl]; omega
          obtain ⟨pn, hpn⟩ : ∃ x, x = primes80.getD n 0 := ⟨_, rfl⟩
          have hpl : pn < 65536 := by rw [hpn]; exact prime_lt n (by omega)
          have hrt : rootN pn 2 = firstN.getD n 0 := by rw [hpn]; exact rootN2 n hnl
          obtain ⟨rt, hrt2⟩ : ∃ x, x = rootN pn 2 := ⟨_, rfl⟩
          have hrl : rt < 18446744073709551616 := by rw [hrt2, rootN]; exact Nat.mod_lt _ (by decide)
          obtain ⟨kn, hkn⟩ : ∃ x, x = rt / 2 ^ (64 - 32) % 2 ^ 32 := ⟨_, rfl⟩
          have hnx : (s8L (startS F32)).take (n + 1) = L ++ [kn] := by
            rw [hkn, hrt2, hrt, hL]
            exact start_take F32 n hnl
          have ep : (wordsV .i64 primes80)[n]? = some (.int .i64 (pn : Int)) := by rw [hpn]; exact wordsV_at (show n < 80 by omega)
          rw [← hL] at hst
          have HL := Lib.hid hLl
          have HPL := Lib.hid hpl
          have HRT := Lib.hid hrt2
          have HRL := Lib.hid hrl
          have HKN := Lib.hid hkn
          have HNX := Lib.hid hnx
          have EP := Lib.hid ep
          have hn80 : n < 80 := by omega
          have HC0 := hst.drew
          have HST1 := Lib.hid hst
          clear hL hLl hpn hpl hrt hrt2 hrl hkn hnx ep hst
          go_wp2_with fail
          clear HST1
          apply wp_region_seqp (fun u => OfSt w ⟨g0, gh, ga, gb, gc, gd⟩ F32 zH (.slice (some ⟨gp, 0, none⟩) 80 pc) (csV 32 64 ga gb gc gd (.slice (some ⟨gk, 0, none⟩) 64 ck) (.slice A n c)) (.slice (some ⟨gk, 0, none⟩) 64 ck) (kL F32) (.slice A n c) L u) (fun i => i == 0) (fun u u' => Below u.heap.size u u') [_, _, _, _, _, _, _, _, _, undef] (gOf [(9, fun v u => ∃ g9, v = .slice (some ⟨g9, 0, none⟩) 1 1 ∧ Blk u g9 86 [.int .u64 (kn : Int)].toArray)]) 10 (by kernel_rfl) (by kernel_rfl) (by decide) (by kernel_rfl) (fun i h => by simp only [beq_iff_eq] at h; subst h; rfl) (stabL_of _ ⟨(fun _ _ _ h h0 => by obtain ⟨g, e, hb⟩ := h0; exact ⟨g, e, hb.below h hb.lt⟩), trivial⟩) HC0
          simp only [List.take_succ_cons, List.take_zero, List.drop_succ_cons, List.drop_zero]
          iterate 1
            first
            | (apply SeqH.pure; rfl; rfl; rfl; rfl; (simp only [act_put, act_put_none, List.setIfInBounds_toArray, List.set_cons_zero, List.set_cons_succ]; rfl); (intro w1 E hE; go_wp2; exact .mk hE))
            | (apply SeqH.step; rfl; (first | (apply SeqG.next; rfl; rfl; rfl)); (simp only [act_put, act_put_none, List.setIfInBounds_toArray, List.set_cons_zero, List.set_cons_succ]; rfl); (intro w1 hC1 hf E hE; go_wp2; exact .mk (hE _ hC1 (Below.refl _ _))); refine SeqG.nil ?_)
          apply SeqH.step
          · rfl
          apply SeqG.next
          · rfl
          · rfl
          · rfl
          · simp only [act_put, act_put_none, List.setIfInBounds_toArray, List.set_cons_zero, List.set_cons_succ]
            rfl
          · intro w1 hC1 hf E hE
            have d0 := hC1.h.cell 7
            simp [csV, hC] at d0
            go_wp2
            exact .mk (hE _ hC1 (Below.refl _ _))
          refine SeqG.nil ?_
          apply SeqH.step
          · rfl
          apply SeqG.next
          · rfl
          · rfl
          · rfl
          · simp only [act_put, act_put_none, List.setIfInBounds_toArray, List.set_cons_zero, List.set_cons_succ]
            rfl
          · intro w1 hC1 hf E hE
            refine wpList_get_box hC1.h rfl rfl rfl hu rfl h_size ?_
            go_wp2_with fail
            exact .mk (hE _ hC1 (Below.refl _ _))
          refine SeqG.nil ?_
          iterate 3
            (apply SeqH.step; rfl; (first | (apply SeqG.next; rfl; rfl; rfl)); (simp only [act_put, act_put_none, List.setIfInBounds_toArray, List.set_cons_zero, List.set_cons_succ]; rfl); (intro w1 hC1 hf E hE; go_wp2; exact .mk (hE _ hC1 (Below.refl _ _))); refine SeqG.nil ?_)
          apply SeqH.step
          · rfl
          apply SeqG.next
          · rfl
          · rfl
          · rfl
          · simp only [act_put, act_put_none, List.setIfInBounds_toArray, List.set_cons_zero, List.set_cons_succ]
            rfl
          · intro w1 hC1 hf E hE
            have d0 := hC1.p.atN EP.out
            go_wp2
            exact .mk (hE _ hC1 (Below.refl _ _))
          refine SeqG.nil ?_
          apply SeqH.step
          · rfl
          apply SeqG.next
          · rfl
          · rfl
          · rfl
          · simp only [act_put, act_put_none, List.setIfInBounds_toArray, List.set_cons_zero, List.set_cons_succ]
            rfl
          · intro w1 hC1 hf E hE
            go_wp2_with fail
            refine calls_then (root2_any pn _ HPL.out) ?_
            rintro e w2 ⟨rfl, hb2⟩
            rw [← HRT.out]
            go_wp2_with fail
            exact .mk (hE _ (hC1.next hb2) hb2)
          refine SeqG.nil ?_
          apply SeqH.step
          · rfl
          apply SeqG.next
          · rfl
          · rfl
          · rfl
          · simp only [act_put, act_put_none, List.setIfInBounds_toArray, List.set_cons_zero, List.set_cons_succ]
            rfl
          · intro w1 hC1 hf E hE
            go_wp2_with fail
            refine calls_then (top_any 32 64 _ _ _ _ _ _ _ (.inl rfl) rt HRL.out) ?_
            rintro e w2 ⟨rfl, hb2⟩
            rw [← HKN.out]
            go_wp2_with fail
            exact .mk (hE _ (hC1.next hb2) hb2)
          refine SeqG.nil ?_
          apply SeqH.step
          · rfl
          apply SeqG.some
          · rfl
          · rfl
          · intro w1 hC1 hf E hE
            simp only [act_put, act_put_none, List.setIfInBounds_toArray, List.set_cons_zero, List.set_cons_succ] at hE
            go_wp2
            exact .mk (hE _ _ ⟨_, rfl, Blk.new _ _ _⟩ (hC1.next (below_new _ _)) (below_new _ _))
          intro x9
          simp only [act_put, act_put_none, List.setIfInBounds_toArray, List.set_cons_zero, List.set_cons_succ]
          refine SeqG.nil ?_
          refine SeqH.nil ?_
          intro w1 hC1 hf
          have f9 := (hf 9 (of_decide_eq_true (by kernel_rfl))).1 rfl
          clear hf
          refine SeqT.step rfl ?_
          intro E hE
          simp only [act_put, act_put_none, List.setIfInBounds_toArray, List.set_cons_zero, List.set_cons_succ] at hE
          obtain ⟨g9, hx9, hb9⟩ := f9
          simp only [hx9] at hE ⊢
          refine wpList_append_rd (m := 1) sl_u64 rfl rfl (show OwnX w1 g0 86 1 (.slice A n c) n (wordsV .u64 L) by have := hC1.f; rwa [HL.out] at this) rfl rfl rfl (Rd.of_blk hb9 hb9.lt) (by intro u hu; simp at hu; subst hu; rfl) (by unfold maxLen; omega) (by omega) (by have := hC1.res.lt; dsimp only at this; omega) ?_
          intro A6 c6 w6 hown6 hg6 hn6
          have hap := hC1.appF (v' := .slice A6 (n + 1) c6) (x := kn) (by rw [HL.out]; exact hown6) hg6 (hn6)
          have HAP := Lib.hid hap
          clear hap hown6 hg6 hn6
          go_wp2_with fail
          refine .mk (hE _ _ ?_)
          clear hE E
          refine SeqT.step rfl ?_
          intro E hE
          simp only [act_put, act_put_none, List.setIfInBounds_toArray, List.set_cons_zero, List.set_cons_succ] at hE
          go_wp2
          refine .mk (hE _ _ ?_)
          clear hE E
          refine SeqT.step rfl ?_
          intro E hE
          simp only [act_put, act_put_none, List.setIfInBounds_toArray, List.set_cons_zero, List.set_cons_succ] at hE
          refine wpList_put_cell (i := 7) (v := .slice A6 (n + 1) c6) HAP.out.h rfl rfl rfl rfl slu_size (show 7 < 8 by decide) rfl ?_
          intro w7 hb7 hw7
          have HFIN := Lib.hid (HAP.out.put hw7 hb7 HD.out)
          clear hb7 hw7
          go_wp2_with fail
          refine .mk (hE undef _ ?_)
          clear hE E
          refine SeqT.nil ?_
          clear HC0 HAP hC1
          go_wp2_with fail
          refine ⟨⟨n + 1, A6, c6, by omega, by go_num, ?_⟩, by simp [intOf]; omega⟩
          rw [HNX.out]
          exact HFIN.out
        · obtain rfl : n = 8 := by omega
          rw [show (s8L (startS F32)).take 8 = s8L (startS F32) from rfl] at hst
          obtain ⟨gz, rfl, hz1, hz2⟩ := (show OwnX wr g0 86 1 (.slice A 8 c) 8 (wordsV .u64 (s8L (startS F32))) from hst.f).ptr (by decide)
          have hcz : 8 ≤ c := (show OwnX wr g0 86 1 (.slice (some ⟨gz, 0, none⟩) 8 c) 8 (wordsV .u64 (s8L (startS F32))) from hst.f).le_cap
          have HST2 := Lib.hid hst
          clear hz1 hz2 hst
          go_wp2_with (first
            | (refine wpList_get_box (x := .tmp 3) HST2.out.h rfl rfl rfl hu rfl h_size ?_)
            | (refine wpList_put_box (x := .tmp 2) (cells := csV 32 64 ga gb gc gd (.slice (some ⟨gk, 0, none⟩) 64 ck) (.slice (some ⟨gz, 0, none⟩) 8 c)) HST2.out.res rfl rfl rfl rfl h_size rfl (by simp [csV, hC, Value.oneCell']) ?_; intro w5 hb5 hw5))
          refine bodyPost_ret (results_box (P := Tryz.prog) rfl rfl hb5 hu rfl h_size) rfl ?_
          have h2 := HST2.out
          have hdl := HLT.out
          refine ⟨⟨⟨ga, 0, none⟩, ⟨gb, 0, none⟩, ⟨gc, 0, none⟩, ⟨gd, 0, none⟩, ⟨gk, 0, none⟩, ⟨gz, 0, none⟩, 3, 3, 3, 3, ck, c⟩, rfl, ?_, ?_⟩
          · have k1 := hw5.blk h2.a (by dsimp only; omega)
            have k2 := hw5.blk h2.b (by dsimp only; omega)
            have k3 := hw5.blk h2.c (by dsimp only; omega)
            have k4 := hw5.blk h2.d (by dsimp only; omega)
            have k5 := hw5.own h2.k (own_ne_blk h2.k h2.res (by decide))
            have k6 := hw5.own h2.f (own_ne_blk h2.f h2.res (by decide))
            exact ⟨Rd.of_blk k1 k1.lt, Rd.of_blk k2 k2.lt, Rd.of_blk k3 k3.lt, Rd.of_blk k4 k4.lt, Rd.of_own (n := 64) (by rw [kL_length] at k5; exact k5) (Nat.le_refl _), Rd.of_own (n := 8) k6 (Nat.le_refl _), Nat.le_refl _, Nat.le_refl _, Nat.le_refl _, Nat.le_refl _, hck, hcz⟩
          · rw [← HG0.out]
            exact hw5.below h2.bel (Nat.le_refl _) (by have := h2.res.lt; dsimp only at this; omega)
end Go.Proofs.YtoihgnkhalhocaaGreatDoor.Sh
/-
  Walk: the reference's digest of 32 bytes as it is called.
-/
namespace Go.Proofs.YtoihgnkhalhocaaGreatDoor.Sh
set_option linter.unusedSimpArgs false
set_option linter.unusedVariables false
open Go.RowKit
set_option maxRecDepth 100000 in
theorem r256_any (data : List UInt8) (A : Option Addr) (c B : Nat) (w : World) (hr : Rd w B A (bytesV data)) (hB : B ≤ w.heap.size) (hl : data.length ≤ 1000) (hc : data.length ≤ c) :
    Calls Tryz.prog 22 #[.slice A data.length c] w (HSumPost F32 32 data w) := by
  have HR := Lib.hid hr
  have hu := Tryz.underlying65
  clear hr
  go_enter Tryz.func22, Tryz.ntmps22
  go_wp2_with fail
  refine calls_then (of32_any w) ?_
  rintro e w1 ⟨p, rfl, hok, hb1⟩
  have HOK := Lib.hid hok
  have HB1 := Lib.hid hb1
  clear hok hb1
  go_wp2_with (first
    | (refine wpList_put_box (x := .tmp 3) (cells := hv F32 p) (Blk.new w1 65 zH) rfl rfl rfl rfl h_size rfl (by simp [hv, hC, Value.oneCell']) ?_; intro w2 hb2 hw2; have HB2 := Lib.hid hb2; have HW2 := Lib.hid hw2; clear hb2 hw2)
    | (refine wpList_get_box (x := .tmp 3) HB2.out rfl rfl rfl hu rfl h_size ?_))
  have hbel : Below w1.heap.size w1 w2 := HW2.out.below (below_new _ _) (Nat.le_refl _) (by simp)
  have hsz : w1.heap.size + 1 = w2.heap.size := by rw [HW2.out.size]; simp
  refine calls_then (hsum32_any p data A c w1.heap.size w2 (HOK.out.below hbel) (((HR.out.mono hB).below HB1.out).mono HB1.out.size |>.below hbel) (by omega) hl hc) ?_
  rintro e w3 ⟨A3, c3, rfl, ho3, hb3⟩
  have HO3 := Lib.hid ho3
  have HB3 := Lib.hid hb3
  have HBEL := Lib.hid hbel
  have HSZ := Lib.hid hsz
  clear ho3 hb3 hbel hsz
  go_wp2_with fail
  go_ret
  exact ⟨A3, c3, rfl, HO3.out.mono (by have := HB1.out.size; have := HSZ.out; omega), HB1.out.trans ((HBEL.out.mono HB1.out.size).trans (HB3.out.mono (by have := HB1.out.size; have := HSZ.out; omega)))⟩
end Go.Proofs.YtoihgnkhalhocaaGreatDoor.Sh
/-
  Walk: the reference's Name.
-/
namespace Go.Proofs.YtoihgnkhalhocaaGreatDoor
set_option linter.unusedSimpArgs false
set_option linter.unusedVariables false
open Go.RowKit
theorem hexA_cut (n : Nat) (h : n < 16) : (⟨#[48, 49, 50, 51, 52, 53, 54, 55, 56, 57, 97, 98, 99, 100, 101, 102]⟩ : ByteArray).extract n (n + 1) = ⟨#[UInt8.ofNat (hexD n)]⟩ := by
  have : n = 0 ∨ n = 1 ∨ n = 2 ∨ n = 3 ∨ n = 4 ∨ n = 5 ∨ n = 6 ∨ n = 7 ∨ n = 8 ∨ n = 9 ∨ n = 10 ∨ n = 11 ∨ n = 12 ∨ n = 13 ∨ n = 14 ∨ n = 15 := by omega
  rcases this with h | h | h | h | h | h | h | h | h | h | h | h | h | h | h | h <;> subst h <;> decide
theorem name_snoc (L : List UInt8) (a b : UInt8) : (⟨L.toArray⟩ : ByteArray) ++ ⟨#[a]⟩ ++ ⟨#[b]⟩ = ⟨(L ++ [a, b]).toArray⟩ := by
  apply ByteArray.ext
  rw [ByteArray.data_append, ByteArray.data_append]
  simp
set_option maxRecDepth 100000 in
set_option maxHeartbeats 4000000 in
theorem rname_any (data : List UInt8) (hl : data.length ≤ 1000) (A : Option Addr) (c : Nat) (w : World) (hr : Rd w w.heap.size A (bytesV data)) (hc : data.length ≤ c) (hH32 : (Sh.digS Sh.F32 data).length = 32) :
    Calls Tryz.prog 14 #[.slice A data.length c] w (fun e w' => e = .returned (.string (nameS data)) ∧ Below w.heap.size w w') := by
  have HS := Lib.hid (Sh.r256_any data A c w.heap.size w hr (Nat.le_refl _) hl hc)
  obtain ⟨n, hn⟩ : ∃ n, n = data.length := ⟨_, rfl⟩
  rw [← hn] at HS ⊢
  clear hr hl hc hn
  obtain ⟨H, hH⟩ : ∃ H, H = Sh.digS Sh.F32 data := ⟨_, rfl⟩
  rw [← hH] at hH32
  have HH := Lib.hid hH
  have HLH := Lib.hid hH32
  clear hH32
  go_enter Tryz.func14, Tryz.ntmps14
  go_wp2_with fail
  refine calls_then HS.out ?_
  rintro e u1 ⟨A1, c1, rfl, ho, hb1⟩
  rw [← hH] at ho
  have HRD := Lib.hid (Rd.of_own ho (Nat.le_refl _))
  obtain ⟨ad0, hA1, -, -⟩ := HRD.out.at_ (k := 0) (by rw [bytesV_length, HLH.out]; decide)
  have HB1 := Lib.hid hb1
  subst hA1
  clear hb1 ho hH HS
  go_wp2_with fail
  go_loopw [5, 6] (fun s i wr => ∃ (k : Nat), k ≤ 4 ∧ i = .int .i64 (k : Int) ∧ s = .string ⟨(nameK H k).toArray⟩ ∧ Below u1.heap.size u1 wr) (fun _ i _ => 4 - (intOf i).toNat)
  case atStart => exact ⟨0, by omega, rfl, rfl, Below.refl _ _⟩
  case round =>
    obtain ⟨k, hk, rfl, rfl, hbel⟩ := hrel
    by_cases hlt : k < 4
    · have hlt' : (k : Int) < 4 := by omega
      have hkH : k < H.length := by rw [HLH.out]; omega
      obtain ⟨ad', hA', -, hcell⟩ := (HRD.out.below hbel).at_ (k := k) (by rw [bytesV_length]; exact hkH)
      injection hA' with hA'
      subst hA'
      obtain ⟨x, hx⟩ : ∃ x, x = H[k].toNat := ⟨_, rfl⟩
      have hxl : x < 256 := by have := H[k].toNat_lt; omega
      have hbv : (bytesV H)[k]'(by rw [bytesV_length]; exact hkH) = .int .u8 (x : Int) := by
        rw [hx]; simp [bytesV, byteV]
      rw [hbv] at hcell
      obtain ⟨L, hL⟩ : ∃ L, L = nameK H k := ⟨_, rfl⟩
      have HN := Lib.hid (show nameK H (k + 1) = L ++ hexB x by rw [nameK_succ hkH, ← hx, hL])
      have hLl : L.length = 2 * k := by rw [hL]; exact nameK_length (by omega)
      rw [← hL]
      have hd4 : decide ((k : Int) < 4) = true := by simp; omega
      obtain ⟨SL, hSL⟩ : ∃ s : ByteArray, s = ⟨L.toArray⟩ := ⟨_, rfl⟩
      rw [← hSL]
      clear hx hbv hL hkH
      go_wp2_with fail
      obtain ⟨a, ha⟩ : ∃ a, a = x / 16 := ⟨_, rfl⟩
      obtain ⟨b, hb⟩ : ∃ b, b = x % 16 := ⟨_, rfl⟩
      rw [show (x : Int) / 16 = (a : Int) by omega, show (x : Int) % 16 = (b : Int) by omega]
      have ha16 : a < 16 := by omega
      have hb16 : b < 16 := by omega
      have HA := Lib.hid ha
      have HB := Lib.hid hb
      have HX := Lib.hid hxl
      clear ha hb hxl
      go_quiet (fail)
      rw [hexA_cut a ha16, hexA_cut b hb16, name_snoc]
      go_wp2_with fail
      go_roundw
      case rel => exact ⟨k + 1, by omega, by go_num, by rw [HN.out, hexB, ← HA.out, ← HB.out], by first | exact hbel | exact hbel.drew | exact below_drewN' hbel _⟩
      case measure => simp [intOf]; omega
    · obtain rfl : k = 4 := by omega
      have HF := Lib.hid (HB1.out.trans (hbel.mono HB1.out.size))
      have hd4 : decide (((4 : Nat) : Int) < 4) = false := by decide
      clear hbel
      go_wp2_with fail
      go_ret
      exact ⟨by rw [nameS, ← HH.out]; rfl, HF.out⟩
end Go.Proofs.YtoihgnkhalhocaaGreatDoor
/-
  The law JwkNames.
-/
namespace Go.Proofs.YtoihgnkhalhocaaGreatDoor.Js
set_option linter.unusedSimpArgs false
set_option linter.unusedVariables false
open Go.RowKit
theorem digS32_len2 (d : List UInt8) : (Sh.digS Sh.F32 d).length = 32 := by
  unfold Sh.digS
  generalize Sh.runS Sh.F32 (Sh.padS Sh.F32 d) ((Sh.padS Sh.F32 d).length / (2 * Sh.F32.bits)) = s
  simp [Sh.s8L, Sh.wordB_length, Sh.F32]
theorem rd_take {w : World} {B : Nat} {A : Option Addr} {l : List UInt8} (h : Rd w B A (bytesV l)) (n : Nat) : Rd w B A (bytesV (l.take n)) := fun i u hu => by
  have e : bytesV (l.take n) = (bytesV l).take n := by simp [bytesV, List.map_take]
  rw [e, List.getElem?_take] at hu
  split at hu
  · exact h i u hu
  · cases hu
theorem names_tail (l : List UInt8) (hl : l.length ≤ 100) (A : Option Addr) (c : Nat) (w : World) (hr : Rd w w.heap.size A (bytesV l)) (hc : l.length ≤ c) (hcm : c ≤ 9223372036854775807) (hG : Sh.TabG w) :
    Calls Tryz.prog 34 #[.slice A l.length c] w (fun e w' => e = .returned (.string (nameS l)) ∧ Below w.heap.size w w') ∧
    (∀ u, Below w.heap.size w u → Calls Tryz.prog 14 #[.slice A l.length c] u (fun e w' => e = .returned (.string (nameS l)) ∧ Below u.heap.size u w')) :=
  ⟨jname_any l (by omega) A c w hr hc hcm hG, fun u hu => rname_any l (by omega) A c u (rd_lift hr hu) hc (digS32_len2 l)⟩
end Go.Proofs.YtoihgnkhalhocaaGreatDoor.Js
/-
  A law of my own: '[]byte(s)', s a string.
-/
namespace Go.Proofs.YtoihgnkhalhocaaGreatDoor
set_option linter.unusedSimpArgs false
set_option linter.unusedVariables false
open Go.RowKit
section
variable {P : Program}
theorem rd_bytesRow (w : World) (s : ByteArray) (cap : Nat) (e : TypeId) (f : Nat × Nat) (u : World) (hu : u = w.alloc (.cells (bytesRow s cap) e f)) : Rd u u.heap.size (some ⟨w.heap.size, 0, none⟩) (bytesV s.data.toList) := by
  subst hu
  intro i v hv
  have hlt : i < s.data.size := by
    have := (List.getElem?_eq_some_iff.1 hv).1
    simpa [bytesV] using this
  refine ⟨_, rfl, by simp, ?_⟩
  have hadd : (⟨w.heap.size, 0, none⟩ : Addr).add i = ⟨w.heap.size, i, none⟩ := by unfold Addr.add; split <;> simp_all
  have hg : (w.alloc (.cells (bytesRow s cap) e f)).heap[w.heap.size]? = some (.cells (bytesRow s cap) e f) := by
    show (w.heap.push _)[w.heap.size]? = _
    simp
  rw [hadd, cell_of_row _ _ _ _ _ f hg, bytesRow, Array.getElem?_append_left (by simpa using hlt)]
  rw [bytesV, List.getElem?_map, Array.getElem?_toList] at hv
  rw [Array.getElem?_map]
  exact hv
theorem wpList_bytes_of {w : World} {ops : Array Oper} {rest : List Oper} {o : Oper} {a : Act} {Q : Exit → Act → World → Prop} {src dst e : TypeId} {x : Operand} {s : ByteArray}
    (hs : P.underlying src = some .string) (hd : P.underlying dst = some (.slice e)) (he : P.underlying e = some (.int .u8))
    (hgd : o.guard = none) (ho : o.op = .convert src dst x) (hx : a.eval x = .string s)
    (h : ∀ A c w', Rd w' w'.heap.size A (bytesV s.data.toList) → s.size ≤ c → Below w.heap.size w w' → wpList P ops Q rest (a.put o.dst (.slice A s.size c)) w') : wpList P ops Q (o :: rest) a w := by
  refine wpList_plain hgd fun K hK => ?_
  have hrun := run_bytes_of_string (P := P) w src dst e s hs hd he
  unfold Oper.wp execOp
  simp only [ho, hx]
  simp only [Sem.run_bind, hrun, Result.andThen_ok, Sem.run_pure]
  refine hK _ _ (h _ _ _ (rd_bytesRow w.drew s _ e _ _ rfl) (grownCap_ge w s.size 0 e) ?_)
  exact (Below.refl _ _).drew.alloc (Nat.le_refl _) _
theorem wpList_bytes_cap {w : World} {ops : Array Oper} {rest : List Oper} {o : Oper} {a : Act} {Q : Exit → Act → World → Prop} {src dst e : TypeId} {x : Operand} {s : ByteArray}
    (hs : P.underlying src = some .string) (hd : P.underlying dst = some (.slice e)) (he : P.underlying e = some (.int .u8))
    (hgd : o.guard = none) (ho : o.op = .convert src dst x) (hx : a.eval x = .string s) (hm : s.size ≤ maxLen)
    (h : ∀ c w', Rd w' w'.heap.size (some ⟨w.heap.size, 0, none⟩) (bytesV s.data.toList) → s.size ≤ c → c ≤ maxLen → Below w.heap.size w w' → wpList P ops Q rest (a.put o.dst (.slice (some ⟨w.heap.size, 0, none⟩) s.size c)) w') : wpList P ops Q (o :: rest) a w := by
  refine wpList_plain hgd fun K hK => ?_
  have hrun := run_bytes_of_string (P := P) w src dst e s hs hd he
  unfold Oper.wp execOp
  simp only [ho, hx]
  simp only [Sem.run_bind, hrun, Result.andThen_ok, Sem.run_pure]
  refine hK _ _ (h _ _ (rd_bytesRow w.drew s _ e _ _ rfl) (grownCap_ge w s.size 0 e) (grownCap_le_maxLen w s.size 0 e hm) ?_)
  exact (Below.refl _ _).drew.alloc (Nat.le_refl _) _
end
end Go.Proofs.YtoihgnkhalhocaaGreatDoor
/-
  Walks: the law's few and cut.
-/
namespace Go.Proofs.YtoihgnkhalhocaaGreatDoor.Js
set_option linter.unusedSimpArgs false
set_option linter.unusedVariables false
open Go.RowKit
theorem bs_takem (t : Bs) (m : Nat) : (bs t).extract 0 m = bs (t.take m) := by
  apply ByteArray.ext
  simp [bs, ByteArray.data_extract]
def nameL (x : Bs) : Bs := _root_.Go.Proofs.YtoihgnkhalhocaaGreatDoor.nameK (Sh.digS Sh.F32 x) 4
theorem nameS_bs (x : Bs) : nameS x = bs (nameL x) := rfl
def cutK (k : Bs × Bs) : Bs × Bs := (if k.1.take 20 = [] then nameL (k.2.take 40) else k.1.take 20, k.2.take 40)
def zB : Array Value := #[.string ⟨#[]⟩, .int .i64 0, .slice none 0 0]
def bC (d : Bs) (n : Int) (A : Option Addr) (l c : Nat) : Array Value := #[.string (bs d), .int .i64 n, .slice A l c]
structure Cb (w0 : World) (V R : Array Value) (A1 : Option Addr) (c1 : Nat) (ks : List (Bs × Bs)) (u : World) : Prop where
  low : Below w0.heap.size w0 u
  vbox : Blk u w0.heap.size 25 V
  res : Blk u (w0.heap.size + 1) 25 zB
  out : Blk u (w0.heap.size + 2) 25 R
  keys : OwnR u (w0.heap.size + 3) 39 2 A1 c1 ks.length (rowsV kCell ks)
section
variable {w0 : World} {V R : Array Value} {A1 : Option Addr} {c1 : Nat} {ks : List (Bs × Bs)} {u u' : World}
theorem Cb.size (h : Cb w0 V R A1 c1 ks u) : w0.heap.size + 3 ≤ u.heap.size := h.out.lt
theorem Cb.new (h : Cb w0 V R A1 c1 ks u) (hb : Below u.heap.size u u') : Cb w0 V R A1 c1 ks u' :=
  ⟨h.low.trans (hb.mono (by have := h.size; omega)), h.vbox.below hb h.vbox.lt, h.res.below hb h.res.lt, h.out.below hb h.out.lt, h.keys.below hb⟩
theorem Cb.put {R' : Array Value} (h : Cb w0 V R A1 c1 ks u) (hw : Wrote (w0.heap.size + 2) u u') (ht : Blk u' (w0.heap.size + 2) 25 R') : Cb w0 V R' A1 c1 ks u' := by
  have hs := h.size
  have hk : ∀ b, b < u.heap.size → w0.heap.size + 3 ≤ b → u'.heap[b]? = u.heap[b]? := fun b hb hl => hw.grown.block b hb (by intro h; injection h with h; omega)
  have hlt : ∀ {k cs t}, u.heap[k]? = some (.cells cs t (0, 0)) → k < u.heap.size := fun hq => (Array.getElem?_eq_some_iff.1 hq).1
  exact ⟨hw.below h.low (by omega) (by omega), hw.blk h.vbox (by omega), hw.blk h.res (by omega), ht, h.keys.heap fun k cs hq hl => (hk k (hlt hq) hl).trans hq⟩
theorem ownR_put {w w' : World} {base : Nat} {e : TypeId} {size : Nat} {A : Option Addr} {c n g : Nat} {xs : List Value} (h : OwnR w base e size A c n xs) (hw : Wrote g w w') (hne : ∀ k, (Value.slice A n c).ownBlock = some k → k ≠ g) : OwnR w' base e size A c n xs := by
  refine ⟨h.1, ?_⟩
  rcases h.2 with h0 | ⟨g', cap, cur, h1, h2, h3, h4⟩
  · exact .inl h0
  · have hn : g' ≠ g := hne g' (by rw [h1]; rfl)
    exact .inr ⟨g', cap, cur, h1, h2, (hw.grown.block g' (Array.getElem?_eq_some_iff.1 h3).1 (by intro he; injection he with he; exact hn he)).trans h3, h4⟩
theorem Cb.wrote {g : Nat} (h : Cb w0 V R A1 c1 ks u) (hw : Wrote g u u') (hg : w0.heap.size + 3 ≤ g) (hne : ∀ k, (Value.slice A1 ks.length c1).ownBlock = some k → k ≠ g) : Cb w0 V R A1 c1 ks u' :=
  ⟨hw.below h.low (by omega) (by have := h.size; omega), hw.blk h.vbox (by omega), hw.blk h.res (by omega), hw.blk h.out (by omega), ownR_put h.keys hw hne⟩
theorem Cb.add {k : Bs × Bs} {A' : Option Addr} {c' : Nat} (h : Cb w0 V R A1 c1 ks u) (ho : OwnR u' (w0.heap.size + 3) 39 2 A' c' (ks.length + 1) (rowsV kCell ks ++ (kCell k).toList)) (hg : u.grownBy u' (Value.slice A1 ks.length c1).ownBlock) :
    Cb w0 V R A' c' (ks ++ [k]) u' := by
  have hs := h.size
  have hne : ∀ k, k < w0.heap.size + 3 → some k ≠ (Value.slice A1 ks.length c1).ownBlock := fun k hk he => by have := (h.keys.lt k he.symm).1; omega
  exact ⟨h.low.grown hg (by omega) (fun k hk => by have := (h.keys.lt k hk).1; omega), h.vbox.grown hg (hne _ (by omega)), h.res.grown hg (hne _ (by omega)), h.out.grown hg (hne _ (by omega)), by rw [rowsV_append, rowsV_one, List.length_append]; exact ho⟩
end
theorem jb_size : (Tryz.prog.info? 25).map (·.size) = some 3 := by kernel_rfl
theorem sl_jwks : SlT Tryz.prog 23 39 2 32 := SlT.mk1 (z := .agg #[.string ⟨#[]⟩, .string ⟨#[]⟩]) Tryz.underlying23 (by kernel_rfl) rfl (by decide)
theorem ownR_rds2 {w : World} {base : Nat} {e : TypeId} {size : Nat} {A : Option Addr} {c n : Nat} {xs : List Value} (h : OwnR w base e size A c n xs) : RdS w (fun b => base ≤ b) A xs := fun i u hu => by
  obtain ⟨ad, h1, h2, h3⟩ := Rd.of_own h.x (Nat.le_refl _) i u hu
  refine ⟨ad, h1, ?_, h3⟩
  exact (h.lt ad.block (by rw [h1]; rfl)).1
def CutPost (D : Bs) (num : Int) (ks : List (Bs × Bs)) (w : World) (e : Ending) (w' : World) : Prop :=
  ∃ (A' : Option Addr) (c' : Nat), e = .returned (.agg (bC (D.take 30) num A' ((ks.take 10).map cutK).length c')) ∧ Below w.heap.size w w' ∧ RdS w' (fun b => w.heap.size ≤ b) A' (rowsV kCell ((ks.take 10).map cutK))
end Go.Proofs.YtoihgnkhalhocaaGreatDoor.Js
/-
  Walk: the reference's Same of two bundles.
-/
namespace Go.Proofs.YtoihgnkhalhocaaGreatDoor.Js
set_option linter.unusedSimpArgs false
set_option linter.unusedVariables false
open Go.RowKit
theorem neq_jwk (x y : Bs × Bs) (w : World) : (binOp .neq 39 (.agg (kCell x)) (.agg (kCell y))).run Tryz.prog w = .ok (.bool (!decide (x = y))) w := by
  have p0 : ∀ (z : Bs × Bs) (u : World), (part 9 (kCell z) 0).run Tryz.prog u = .ok (.string (bs z.1)) u := fun z u => by kernel_rfl
  have p1 : ∀ (z : Bs × Bs) (u : World), (part 9 (kCell z) 1).run Tryz.prog u = .ok (.string (bs z.2)) u := fun z u => by kernel_rfl
  have hs := Tryz.underlying9
  have hf : Tryz.prog.fieldsOf 39 = #[{ name := "Kid", type := 9, offset := 0, embedded := false, tag := "", pkgPath := "", byteOffset := 0 }, { name := "X", type := 9, offset := 1, embedded := false, tag := "", pkgPath := "", byteOffset := 16 }] := by kernel_rfl
  rw [run_neq_struct, run_equalIn_struct w 9999 _ _ _ (by kernel_rfl) (by kernel_rfl), hf]
  have s1 : ∀ (d : Nat) (s t : Bs), (Op.equalIn (d + 1) 9 (.string (bs s)) (.string (bs t))).run Tryz.prog w = .ok (decide (s = t)) w := fun d s t => by
    have e : ((bs s).toList == (bs t).toList) = decide (s = t) := by rw [bs_toList, bs_toList]; by_cases h : s = t <;> simp [h]
    rw [run_equalIn_string w d _ _ _ hs, e]
  have e1 := fun s t => s1 9998 s t
  simp only [Nat.reduceAdd] at e1
  obtain ⟨x1, x2⟩ := x
  obtain ⟨y1, y2⟩ := y
  by_cases h1 : x1 = y1 <;> by_cases h2 : x2 = y2 <;> simp [Op.eqFields, Sem.run_bind, p0, p1, Result.andThen, e1, h1, h2]
theorem wpList_binop {P : Program} {w : World} {ops : Array Oper} {rest : List Oper} {o : Oper} {a : Act} {Q : Exit → Act → World → Prop} {op : BinOp} {t y' : TypeId} {x y : Operand} {u v r : Value}
    (hgd : o.guard = none) (ho : o.op = .binOp op t x y y') (hx : a.eval x = u) (hy : a.eval y = v) (hg : (eqGuard op t x y u v).run P w = .ok () w) (hr : (binOp op t u v).run P w = .ok r w) (h : wpList P ops Q rest (a.put o.dst r) w) : wpList P ops Q (o :: rest) a w := by
  refine wpList_plain hgd fun K hK => ?_
  unfold Oper.wp execOp
  simp only [ho, hx, hy, Sem.run_bind, Sem.run_pure, Result.andThen_ok, hg, hr]
  exact hK _ _ h
def sameB (D1 : Bs) (n1 : Int) (k1 : List (Bs × Bs)) (D2 : Bs) (n2 : Int) (k2 : List (Bs × Bs)) : Bool := decide (D1 = D2) && decide (n1 = n2) && decide (k1 = k2)
theorem take_same {k1 k2 : List (Bs × Bs)} {i : Nat} (h : k1.take i = k2.take i) (h1 : i < k1.length) (h2 : i < k2.length) (he : k1[i] = k2[i]) : k1.take (i + 1) = k2.take (i + 1) := by
  rw [List.take_succ_eq_append_getElem h1, List.take_succ_eq_append_getElem h2, h, he]
set_option maxRecDepth 100000 in
set_option maxHeartbeats 4000000 in
theorem same11_any (D1 D2 : Bs) (n1 n2 : Int) (k1 k2 : List (Bs × Bs)) (A1 A2 : Option Addr) (c1 c2 Bo1 Bo2 : Nat) (w : World) (hr1 : Rd w Bo1 A1 (rowsV kCell k1)) (hr2 : Rd w Bo2 A2 (rowsV kCell k2)) (hB1 : Bo1 ≤ w.heap.size) (hB2 : Bo2 ≤ w.heap.size)
    (hl1 : (k1.length : Int) ≤ 9223372036854775807) (hl2 : (k2.length : Int) ≤ 9223372036854775807) :
    Calls Tryz.prog 13 #[.agg (bC D1 n1 A1 k1.length c1), .agg (bC D2 n2 A2 k2.length c2)] w fun e w' => e = .returned (.bool (sameB D1 n1 k1 D2 n2 k2)) ∧ Below w.heap.size w w' := by
  obtain ⟨r, hrr⟩ : ∃ r, r = sameB D1 n1 k1 D2 n2 k2 := ⟨_, rfl⟩
  rw [← hrr]
  have HRR := Lib.hid hrr
  obtain ⟨m1, hm1⟩ : ∃ m, m = k1.length := ⟨_, rfl⟩
  obtain ⟨m2, hm2⟩ : ∃ m, m = k2.length := ⟨_, rfl⟩
  rw [← hm1] at hl1 ⊢
  rw [← hm2] at hl2 ⊢
  have HM1 := Lib.hid hm1
  have HM2 := Lib.hid hm2
  obtain ⟨W0, hW0⟩ : ∃ W0, W0 = (w.alloc (.cells (bC D1 n1 A1 m1 c1) 25)).alloc (.cells (bC D2 n2 A2 m2 c2) 25) := ⟨_, rfl⟩
  have hb0 : Below w.heap.size w W0 := by rw [hW0]; exact ((Below.refl _ w).alloc (Nat.le_refl _) _).alloc (by simp) _
  have HB0 := Lib.hid hb0
  have HK1 := Lib.hid (show Blk W0 w.heap.size 25 (bC D1 n1 A1 m1 c1) by rw [hW0]; exact (Blk.new _ _ _).alloc _)
  have HK2 := Lib.hid (show Blk W0 (w.heap.size + 1) 25 (bC D2 n2 A2 m2 c2) by rw [hW0]; have := Blk.new (w.alloc (.cells (bC D1 n1 A1 m1 c1) 25)) 25 (bC D2 n2 A2 m2 c2); simpa using this)
  have HR1 := Lib.hid (hr1.below (hb0.mono hB1))
  have HR2 := Lib.hid (hr2.below (hb0.mono hB2))
  have HW0 := Lib.hid hW0
  have a0 : W0.cell? ⟨w.heap.size, 0, none⟩ = some (.string (bs D1)) := HK1.out.cell 0
  have a1 : W0.cell? ⟨w.heap.size, 1, none⟩ = some (.int .i64 n1) := HK1.out.cell 1
  have a2 : W0.cell? ⟨w.heap.size, 2, none⟩ = some (.slice A1 m1 c1) := HK1.out.cell 2
  have b0 : W0.cell? ⟨w.heap.size + 1, 0, none⟩ = some (.string (bs D2)) := HK2.out.cell 0
  have b1 : W0.cell? ⟨w.heap.size + 1, 1, none⟩ = some (.int .i64 n2) := HK2.out.cell 1
  have b2 : W0.cell? ⟨w.heap.size + 1, 2, none⟩ = some (.slice A2 m2 c2) := HK2.out.cell 2
  clear hW0 hb0 hr1 hr2 hrr hm1 hm2 hB1 hB2
  go_enter Tryz.func13, Tryz.ntmps13
  go_upto_region 1 with (fail)
  rw [show (w.alloc (.cells (bC D1 n1 A1 m1 c1) 25)).alloc (.cells (bC D2 n2 A2 m2 c2) 25) = W0 from HW0.out.symm]
  generalize Value.agg (bC D1 n1 A1 m1 c1) = AV1
  generalize Value.agg (bC D2 n2 A2 m2 c2) = AV2
  by_cases hD : D1 = D2
  · have hq : ((bs D1).toList == (bs D2).toList) = true := by rw [bs_toList, bs_toList]; simpa using hD
    by_cases hn : n1 = n2
    · have hn' : (n1 == n2) = true := by simpa using hn
      by_cases hm : m1 = m2
      · have HRE := Lib.hid (show r = decide (k1 = k2) by rw [HRR.out, sameB, decide_eq_true hD, decide_eq_true hn]; rfl)
        have HL2 := Lib.hid (show m1 = k2.length by rw [hm]; exact HM2.out)
        subst hm hn
        clear hD hn' hl2
        go_wp2_with fail
        go_loopw [5] (fun x wr => ∃ i : Nat, i ≤ m1 ∧ x = .int .i64 (i : Int) ∧ k1.take i = k2.take i ∧ Below W0.heap.size W0 wr) (fun x _ => m1 - (intOf x).toNat)
        case atStart => exact ⟨0, Nat.zero_le _, rfl, by simp, (Below.refl _ _)⟩
        case round =>
          obtain ⟨i, hi, rfl, htk, hbw⟩ := hrel
          have HTK := Lib.hid htk
          have HBW := Lib.hid hbw
          have HX1 := Lib.hid (HK1.out.below hbw HK1.out.lt)
          have HX2 := Lib.hid (HK2.out.below hbw HK2.out.lt)
          have a2 : wr.cell? ⟨w.heap.size, 2, none⟩ = some (.slice A1 m1 c1) := HX1.out.cell 2
          clear htk hbw
          by_cases hlt : i < m1
          · have huj := Tryz.underlying39
            have hil1 : i < k1.length := by rw [← HM1.out]; exact hlt
            have hil2 : i < k2.length := by rw [← HL2.out]; exact hlt
            have hlt' : (i : Int) < (m1 : Int) := by omega
            obtain ⟨ad1, hA1, -, hcell1⟩ := rd_rows (f := kCell) (m := 2) (fun _ => rfl) (by decide) (HR1.out) hil1
            obtain ⟨ad2, hA2, -, hcell2⟩ := rd_rows (f := kCell) (m := 2) (fun _ => rfl) (by decide) (HR2.out) hil2
            subst hA1 hA2
            obtain ⟨X, hX⟩ : ∃ X, X = k1[i] := ⟨_, rfl⟩
            obtain ⟨Y, hY⟩ : ∃ Y, Y = k2[i] := ⟨_, rfl⟩
            rw [← hX] at hcell1
            rw [← hY] at hcell2
            have HC1 := Lib.hid (show ∀ u, Below W0.heap.size W0 u → ∀ j v, (kCell X).toList[j]? = some v → u.cell? ((ad1.add (i * 2)).add j) = some v from fun u hu j v hv => by
              have h := hcell1 j v (by simpa using hv)
              exact (hu.cell (World.block_lt_of_cell? W0 _ h)).trans h)
            have HC2 := Lib.hid (show ∀ u, Below W0.heap.size W0 u → ∀ j v, (kCell Y).toList[j]? = some v → u.cell? ((ad2.add (i * 2)).add j) = some v from fun u hu j v hv => by
              have h := hcell2 j v (by simpa using hv)
              exact (hu.cell (World.block_lt_of_cell? W0 _ h)).trans h)
            have HNQ := Lib.hid (neq_jwk X Y)
            obtain ⟨q, hqq⟩ : ∃ q, q = decide (X = Y) := ⟨_, rfl⟩
            rw [← hqq] at HNQ
            have HLT := Lib.hid hlt
            have HXI := Lib.hid (show ∃ (h1 : i < k1.length) (h2 : i < k2.length), X = k1[i] ∧ Y = k2[i] from ⟨hil1, hil2, hX, hY⟩)
            have HQQ := Lib.hid hqq
            clear hX hY hcell1 hcell2 hil1 hil2 hlt hqq
            go_wp2_with fail
            have HC0 : Below wr.heap.size wr wr.drew := (Below.refl _ _).drew
            apply wp_region_seqg (fun u => Below wr.heap.size wr u) (fun u u' => Below u.heap.size u u') [_, _, _, _, _, _, _, _, _, _, _] (gOf []) (by kernel_rfl) (by kernel_rfl) (stabL_of _ trivial) HC0
            iterate 1
              ((first | (apply SeqG.next; rfl; rfl; rfl)); (simp only [act_put, act_put_none, List.setIfInBounds_toArray, List.set_cons_zero, List.set_cons_succ]; rfl); (intro w1 hC1 hf E hE; go_wp2; exact .mk (hE _ hC1 (Below.refl _ _))))
            apply SeqG.next
            · rfl
            · rfl
            · rfl
            · simp only [act_put, act_put_none, List.setIfInBounds_toArray, List.set_cons_zero, List.set_cons_succ]
              rfl
            · intro w1 hC1 hf E hE
              have d0 := (HX1.out.below hC1 HX1.out.lt).cell 2
              simp only [bC, List.getElem?_toArray, List.getElem?_cons_zero, List.getElem?_cons_succ] at d0
              go_wp2
              exact .mk (hE _ hC1 (Below.refl _ _))
            iterate 2
              ((first | (apply SeqG.next; rfl; rfl; rfl)); (simp only [act_put, act_put_none, List.setIfInBounds_toArray, List.set_cons_zero, List.set_cons_succ]; rfl); (intro w1 hC1 hf E hE; go_wp2; exact .mk (hE _ hC1 (Below.refl _ _))))
            apply SeqG.next
            · rfl
            · rfl
            · rfl
            · simp only [act_put, act_put_none, List.setIfInBounds_toArray, List.set_cons_zero, List.set_cons_succ]
              rfl
            · intro w1 hC1 hf E hE
              refine wpList_get_rd (r := (kCell X).toList) (HC1.out _ (HBW.out.trans (hC1.mono HBW.out.size))) rfl rfl rfl huj rfl jk_size ?_
              go_wp2_with fail
              exact .mk (hE _ hC1 (Below.refl _ _))
            iterate 1
              ((first | (apply SeqG.next; rfl; rfl; rfl)); (simp only [act_put, act_put_none, List.setIfInBounds_toArray, List.set_cons_zero, List.set_cons_succ]; rfl); (intro w1 hC1 hf E hE; go_wp2; exact .mk (hE _ hC1 (Below.refl _ _))))
            apply SeqG.next
            · rfl
            · rfl
            · rfl
            · simp only [act_put, act_put_none, List.setIfInBounds_toArray, List.set_cons_zero, List.set_cons_succ]
              rfl
            · intro w1 hC1 hf E hE
              have d0 := (HX2.out.below hC1 HX2.out.lt).cell 2
              simp only [bC, List.getElem?_toArray, List.getElem?_cons_zero, List.getElem?_cons_succ] at d0
              go_wp2
              exact .mk (hE _ hC1 (Below.refl _ _))
            iterate 2
              ((first | (apply SeqG.next; rfl; rfl; rfl)); (simp only [act_put, act_put_none, List.setIfInBounds_toArray, List.set_cons_zero, List.set_cons_succ]; rfl); (intro w1 hC1 hf E hE; go_wp2; exact .mk (hE _ hC1 (Below.refl _ _))))
            apply SeqG.next
            · rfl
            · rfl
            · rfl
            · simp only [act_put, act_put_none, List.setIfInBounds_toArray, List.set_cons_zero, List.set_cons_succ]
              rfl
            · intro w1 hC1 hf E hE
              refine wpList_get_rd (r := (kCell Y).toList) (HC2.out _ (HBW.out.trans (hC1.mono HBW.out.size))) rfl rfl rfl huj rfl jk_size ?_
              go_wp2_with fail
              exact .mk (hE _ hC1 (Below.refl _ _))
            apply SeqG.next
            · rfl
            · rfl
            · rfl
            · simp only [act_put, act_put_none, List.setIfInBounds_toArray, List.set_cons_zero, List.set_cons_succ]
              rfl
            · intro w1 hC1 hf E hE
              refine wpList_binop rfl rfl rfl rfl (run_eqGuard_agg w1 _ _ _ _ _ _ (by kernel_rfl)) (HNQ.out w1) ?_
              go_wp2_with fail
              exact .mk (hE _ hC1 (Below.refl _ _))
            refine SeqG.nil ?_
            intro w1 hC1 hf
            clear hf
            have HB6 := Lib.hid (HBW.out.trans (hC1.mono HBW.out.size))
            clear hC1 HC0
            cases q with
            | true =>
              have HT2 := Lib.hid (show k1.take (i + 1) = k2.take (i + 1) by
                obtain ⟨h1, h2, hx, hy⟩ := HXI.out
                exact take_same HTK.out h1 h2 (by rw [← hx, ← hy]; exact of_decide_eq_true HQQ.out.symm))
              go_wp2_with fail
              go_roundw
              case rel => exact ⟨i + 1, HLT.out, by go_num, HT2.out, HB6.out⟩
              case measure => have := HLT.out; simp [intOf]; omega
            | false =>
              have HRF := Lib.hid (show r = false by
                obtain ⟨h1, h2, hx, hy⟩ := HXI.out
                rw [HRE.out, decide_eq_false]
                intro h
                subst h
                exact of_decide_eq_false HQQ.out.symm (hx.trans hy.symm))
              go_wp2_with fail
              go_ret
              exact ⟨by rw [HRF.out]; rfl, HB0.out.trans (HB6.out.mono HB0.out.size)⟩
          · obtain rfl : i = m1 := by omega
            have HRT := Lib.hid (show r = true by
              rw [HRE.out, decide_eq_true]
              have h := HTK.out
              rwa [List.take_of_length_le (by rw [← HM1.out]; exact Nat.le_refl _), List.take_of_length_le (by rw [← HL2.out]; exact Nat.le_refl _)] at h)
            go_wp2_with fail
            go_ret
            exact ⟨by rw [HRT.out]; rfl, HB0.out.trans (HBW.out.mono HB0.out.size)⟩
      · have hm' : ((m1 : Int) == (m2 : Int)) = false := by simp; omega
        have HRF := Lib.hid (show r = false by rw [HRR.out, sameB, decide_eq_false (show ¬ k1 = k2 from fun h => hm (by rw [HM1.out, HM2.out, h]))]; simp)
        go_wp2_with fail
        go_ret
        exact ⟨by rw [HRF.out]; rfl, HB0.out⟩
    · have hn' : (n1 == n2) = false := by simpa using hn
      have HRF := Lib.hid (show r = false by rw [HRR.out, sameB, decide_eq_false hn]; simp)
      go_wp2_with fail
      go_ret
      exact ⟨by rw [HRF.out]; rfl, HB0.out⟩
  · have hq : ((bs D1).toList == (bs D2).toList) = false := by rw [bs_toList, bs_toList]; simpa using hD
    have HRF := Lib.hid (show r = false by rw [HRR.out, sameB, decide_eq_false hD]; rfl)
    go_wp2_with fail
    go_ret
    exact ⟨by rw [HRF.out]; rfl, HB0.out⟩
end Go.Proofs.YtoihgnkhalhocaaGreatDoor.Js
/-
  Walk: b64.Encode.
-/
namespace Go.Proofs.YtoihgnkhalhocaaGreatDoor.Js
set_option linter.unusedSimpArgs false
set_option linter.unusedVariables false
open Go.RowKit
def encT (m V : Nat) (r : Bs) : Bs :=
  if 12 ≤ m then ltr (V / 2 ^ (m - 6)) :: ltr (V % 2 ^ (m - 6) / 2 ^ (m - 12)) :: encS (m - 12) (V % 2 ^ (m - 6) % 2 ^ (m - 12)) r
  else if 6 ≤ m then ltr (V / 2 ^ (m - 6)) :: encS (m - 6) (V % 2 ^ (m - 6)) r
  else encS m V r
theorem encS_step {m w : Nat} {c : UInt8} {r : Bs} (hm : m = 0 ∨ m = 2 ∨ m = 4) : encS m w (c :: r) = encT (m + 8) (w * 256 + c.toNat) r := by
  rcases hm with rfl | rfl | rfl <;> rfl
theorem bldT_ok : BT 72 := ⟨by kernel_rfl, by decide⟩
def b64B : ByteArray := ⟨#[65, 66, 67, 68, 69, 70, 71, 72, 73, 74, 75, 76, 77, 78, 79, 80, 81, 82, 83, 84, 85, 86, 87, 88, 89, 90, 97, 98, 99, 100, 101, 102, 103, 104, 105, 106, 107, 108, 109, 110, 111, 112, 113, 114, 115, 116, 117, 118, 119, 120, 121, 122, 48, 49, 50, 51, 52, 53, 54, 55, 56, 57, 45, 95]⟩
theorem b64B_at : ∀ z : Fin 64, b64B[z.1]'(by have := z.2; exact this) = ltr z.1 := by decide +kernel
theorem ltr_at (z : Nat) (h : z < 64) : Value.int .u8 (((b64B[z]'h).toNat : Nat) : Int) = byteV (ltr z) := by
  rw [b64B_at ⟨z, h⟩]
  rfl
theorem or_low : ∀ (a : Fin 16) (x : Fin 256), bits .or .i64 ((a.1 * 256 : Nat) : Int) ((x.1 : Nat) : Int) = ((a.1 * 256 + x.1 : Nat) : Int) := by decide +kernel
theorem and_63 : ∀ (a b : Fin 64), bits .and .i64 ((a.1 * 64 + b.1 : Nat) : Int) 63 = ((b.1 : Nat) : Int) := by decide +kernel
theorem and_low2 {m V : Nat} (hm : m = 6 ∨ m = 8 ∨ m = 10 ∨ m = 12) (hV : V < 2 ^ m) : bits .and .i64 (V : Int) (((2 ^ (m - 6) : Nat) : Int) - 1) = ((V % 2 ^ (m - 6) : Nat) : Int) := by
  have k1 : ∀ a : Fin 64, bits .and .i64 ((a.1 : Nat) : Int) 0 = 0 := by decide +kernel
  have k4 : ∀ (a : Fin 64) (b : Fin 4), bits .and .i64 ((a.1 * 4 + b.1 : Nat) : Int) 3 = ((b.1 : Nat) : Int) := by decide +kernel
  have k16 : ∀ (a : Fin 64) (b : Fin 16), bits .and .i64 ((a.1 * 16 + b.1 : Nat) : Int) 15 = ((b.1 : Nat) : Int) := by decide +kernel
  rcases hm with rfl | rfl | rfl | rfl
  · have h := k1 ⟨V, by simpa using hV⟩
    simpa [Nat.mod_one] using h
  · have h := k4 ⟨V / 4, by simp at hV; omega⟩ ⟨V % 4, Nat.mod_lt _ (by omega)⟩
    rw [show V / 4 * 4 + V % 4 = V by omega] at h
    simpa using h
  · have h := k16 ⟨V / 16, by simp at hV; omega⟩ ⟨V % 16, Nat.mod_lt _ (by omega)⟩
    rw [show V / 16 * 16 + V % 16 = V by omega] at h
    simpa using h
  · have h := and_63 ⟨V / 64, by simp at hV; omega⟩ ⟨V % 64, Nat.mod_lt _ (by omega)⟩
    rw [show V / 64 * 64 + V % 64 = V by omega] at h
    simpa using h
theorem encT_step {m V : Nat} {r : Bs} (hm : m = 6 ∨ m = 8 ∨ m = 10 ∨ m = 12) : encT m V r = ltr (V / 2 ^ (m - 6)) :: encT (m - 6) (V % 2 ^ (m - 6)) r := by
  rcases hm with rfl | rfl | rfl | rfl <;> rfl
theorem encT_low {m V : Nat} {r : Bs} (hm : m < 6) : encT m V r = encS m V r := by
  unfold encT
  rw [if_neg (by omega), if_neg (by omega)]
theorem enc_ne {b : Bs} (h : 0 < b.length) : enc b ≠ [] := by
  cases b with
  | nil => simp at h
  | cons c r => unfold enc encS; simp
theorem pow_small {m : Nat} (hm : m = 6 ∨ m = 8 ∨ m = 10 ∨ m = 12) : 2 ^ (m - 6) ≤ 64 := by
  rcases hm with rfl | rfl | rfl | rfl <;> decide
set_option maxRecDepth 100000 in
set_option maxHeartbeats 4000000 in
theorem encode_any (b : Bs) (hl : b.length ≤ 1000) (hb0 : 0 < b.length) (A : Option Addr) (c : Nat) (w : World) (hr : Rd w w.heap.size A (bytesV b)) (hc : b.length ≤ c) :
    Calls Tryz.prog 35 #[.slice A b.length c] w fun e w' => e = .returned (.string (bs (enc b))) ∧ Below w.heap.size w w' := by
  obtain ⟨n, hn⟩ : ∃ n, n = b.length := ⟨_, rfl⟩
  obtain ⟨W0, hW0⟩ : ∃ W0, W0 = w.alloc (.cells #[.pointer none, .slice none 0 0] 72) := ⟨_, rfl⟩
  have HB0 := Lib.hid (show Below w.heap.size w W0 by rw [hW0]; exact (Below.refl _ w).alloc (Nat.le_refl _) _)
  have HI0 := Lib.hid (show IsB W0 w.heap.size 72 w.heap.size [] by rw [hW0]; exact IsB.new _ _ (Nat.le_refl _))
  have HK0 := Lib.hid (BK.refl w.heap.size w.heap.size W0)
  have HW0 := Lib.hid hW0
  have HR := Lib.hid (hr.below HB0.out)
  have HN := Lib.hid hn
  have hn1 : (n : Int) ≤ 1000 := by omega
  rw [← hn]
  have HNE := Lib.hid (enc_ne hb0)
  clear hW0 hr hn hl hc hb0
  go_enter Tryz.func35, Tryz.ntmps35
  go_upto_region 2 with (fail)
  rw [← HW0.out]
  go_wp2_with fail
  go_loopw [4, 5, 10] (fun x y z wr => ∃ (k wv m : Nat) (L : Bs), k ≤ n ∧ z = .int .i64 (k : Int) ∧ x = .int .i64 (wv : Int) ∧ y = .int .i64 (m : Int) ∧ (m = 0 ∨ m = 2 ∨ m = 4) ∧ wv < 2 ^ m ∧ L ++ encS m wv (b.drop k) = enc b ∧ 6 * L.length + m = 8 * k ∧
    IsB wr w.heap.size 72 w.heap.size L ∧ BK w.heap.size w.heap.size W0 wr) (fun _ _ z _ => n - (intOf z).toNat)
  case atStart => exact ⟨0, 0, 0, [], Nat.zero_le _, rfl, rfl, rfl, .inl rfl, by simp, by simp [enc], rfl, HI0.out, HK0.out⟩
  case round =>
    obtain ⟨k, wv, m, L, hk, rfl, rfl, rfl, hm, hwv, henc, hL, hib, hbk⟩ := hrel
    by_cases hlt : k < n
    · have hlt' : (k : Int) < (n : Int) := by omega
      have hkl : k < b.length := by rw [← HN.out]; exact hlt
      have HIB := Lib.hid hib
      have HBK := Lib.hid hbk
      have HEN := Lib.hid henc
      have HM := Lib.hid hm
      have HWV := Lib.hid hwv
      have HL := Lib.hid hL
      have hbw : Below w.heap.size W0 wr := hbk.below
      obtain ⟨ad, hA, had, hcell⟩ := (HR.out.below hbw).at_ (k := k) (by rw [bytesV_length]; exact hkl)
      subst hA
      obtain ⟨x, hx⟩ : ∃ x, x = (b[k]'hkl).toNat := ⟨_, rfl⟩
      have hbv : (bytesV b)[k]'(by rw [bytesV_length]; exact hkl) = .int .u8 (x : Int) := by
        rw [hx]; simp [bytesV, byteV]
      rw [hbv] at hcell
      clear hbv hib hbk henc hm hwv hbw
      have hm4 : (m : Int) ≤ 4 := by rcases HM.out with h | h | h <;> omega
      have hw16 : wv < 16 := Nat.lt_of_lt_of_le HWV.out (by rcases HM.out with h | h | h <;> subst h <;> decide)
      have hxl : x < 256 := by rw [hx]; exact UInt8.toNat_lt _
      have hor : bits .or .i64 ((wv : Int) * 256) (x : Int) = ((wv * 256 + x : Nat) : Int) := by have := or_low ⟨wv, hw16⟩ ⟨x, hxl⟩; simpa using this
      have hwz : (wv : Int) < 16 := by omega
      have hxz : (x : Int) < 256 := by omega
      obtain ⟨V, hV⟩ : ∃ V, V = wv * 256 + x := ⟨_, rfl⟩
      rw [← hV] at hor
      have HT := Lib.hid (show L ++ encT (m + 8) V (b.drop (k + 1)) = enc b by
        have h := HEN.out
        rw [List.drop_eq_getElem_cons hkl, encS_step HM.out, ← hx, ← hV] at h
        exact h)
      have HVL := Lib.hid (show V < 2 ^ (m + 8) by
        have h1 := HWV.out
        rw [hV, Nat.pow_add]
        have : (2 : Nat) ^ 8 = 256 := rfl
        rw [this]
        have : (wv + 1) * 256 ≤ 2 ^ m * 256 := Nat.mul_le_mul_right _ h1
        omega)
      clear hx hV
      have hcell' : wr.cell? (ad.add k) = some (.int .u8 (x : Int)) := hcell
      clear hcell
      go_upto_region 7 with (fail)
      go_loopw [4, 5] (fun x y wr2 => ∃ (V2 m2 : Nat) (L2 : Bs), x = .int .i64 (V2 : Int) ∧ y = .int .i64 (m2 : Int) ∧ (m2 = 0 ∨ m2 = 2 ∨ m2 = 4 ∨ m2 = 6 ∨ m2 = 8 ∨ m2 = 10 ∨ m2 = 12) ∧ V2 < 2 ^ m2 ∧ L2 ++ encT m2 V2 (b.drop (k + 1)) = enc b ∧ 6 * L2.length + m2 = 8 * (k + 1) ∧
        IsB wr2 w.heap.size 72 w.heap.size L2 ∧ BK w.heap.size w.heap.size W0 wr2) (fun _ y _ => (intOf y).toNat)
      case atStart => exact ⟨V, m + 8, L, rfl, by go_num, by rcases HM.out with h | h | h <;> omega, HVL.out, HT.out, by have := HL.out; omega, HIB.out, HBK.out⟩
      case round =>
        obtain ⟨V2, m2, L2, rfl, rfl, hm2, hV2, hT2, hL2, hib2, hbk2⟩ := hrel
        by_cases h6 : 6 ≤ m2
        · have h6' : (6 : Int) ≤ (m2 : Int) := by omega
          have hm2' : m2 = 6 ∨ m2 = 8 ∨ m2 = 10 ∨ m2 = 12 := by omega
          obtain ⟨P, hP⟩ : ∃ P, P = 2 ^ (m2 - 6) := ⟨_, rfl⟩
          have hPi : (2 : Int) ^ (m2 - 6) = (P : Int) := by rw [hP]; simp
          have hP1 : 1 ≤ P := by rw [hP]; exact Nat.pow_pos (by omega)
          have hP64 : P ≤ 64 := by rw [hP]; exact pow_small hm2'
          have hst := encT_step (V := V2) (r := b.drop (k + 1)) hm2'
          have hlow := and_low2 hm2' hV2
          obtain ⟨z, hz⟩ : ∃ z, z = V2 / 2 ^ (m2 - 6) := ⟨_, rfl⟩
          obtain ⟨y, hy⟩ : ∃ y, y = V2 % 2 ^ (m2 - 6) := ⟨_, rfl⟩
          have hyl : y < 2 ^ (m2 - 6) := by rw [hy]; exact Nat.mod_lt _ (Nat.pow_pos (by omega))
          have hz64 : z < 64 := by
            rw [hz, Nat.div_lt_iff_lt_mul (Nat.pow_pos (by omega))]
            have : (2 : Nat) ^ 6 * 2 ^ (m2 - 6) = 2 ^ m2 := by rw [← Nat.pow_add]; congr 1; omega
            have h64 : (2 : Nat) ^ 6 = 64 := rfl
            omega
          rw [← hz, ← hy] at hst
          rw [← hy, ← hP] at hlow
          have hzi : ((V2 : Int) / (P : Int)) = (z : Int) := by rw [hz, hP]; simp
          have hand : bits .and .i64 (z : Int) 63 = (z : Int) := by
            have := and_63 0 ⟨z, hz64⟩
            simpa using this
          have hz1 : (z : Int) < 64 := by omega
          have hpl : (P : Int) ≤ 64 := by omega
          have hp1 : 1 ≤ (P : Int) := by omega
          have hm12 : (m2 : Int) ≤ 12 := by omega
          have HT2 := Lib.hid (show (L2 ++ [ltr z]) ++ encT (m2 - 6) y (b.drop (k + 1)) = enc b by rw [List.append_assoc]; rw [hst] at hT2; exact hT2)
          have HYL := Lib.hid hyl
          have HM6 := Lib.hid hm2'
          have HL2 := Lib.hid hL2
          clear hst hy hyl hP hm2 hm2' hT2 hL2 hV2 hP1 hP64
          have HZ := Lib.hid hz
          clear hz
          have HIB2 := Lib.hid hib2
          have HBK2 := Lib.hid hbk2
          go_wp2_with fail
          have hls : L2.length + 1 ≤ 140737488355328 := by have := HL2.out; omega
          have hq := bld_byte bldT_ok _ _ L2 (ltr z) _ HIB2.out hls
          rw [← ltr_at z hz64] at hq
          refine calls_then hq ?_
          rintro e w3 ⟨rfl, hib3, hbk3⟩
          have HIB3 := Lib.hid hib3
          have HBK3 := Lib.hid (HBK2.out.trans hbk3)
          clear hib3 hbk3 hq
          go_upto_region 10 with (fail)
          go_wp2_with fail
          have h6n := HM6.out
          have hlen := HL2.out
          exact ⟨⟨y, m2 - 6, L2 ++ [ltr z], rfl, by rw [show ((m2 - 6 : Nat) : Int) = (m2 : Int) - 6 by omega], by omega, HYL.out, HT2.out, by rw [List.length_append]; simp; omega, HIB3.out, HBK3.out⟩, by simp only [intOf]; omega⟩
        · have h6' : ¬ (6 : Int) ≤ (m2 : Int) := by omega
          have HM6 := Lib.hid (show m2 = 0 ∨ m2 = 2 ∨ m2 = 4 by omega)
          have HT2 := Lib.hid (show L2 ++ encS m2 V2 (b.drop (k + 1)) = enc b by rw [← encT_low (by omega)]; exact hT2)
          have HL2 := Lib.hid hL2
          have HV2 := Lib.hid hV2
          have HIB2 := Lib.hid hib2
          have HBK2 := Lib.hid hbk2
          have HLT := Lib.hid hlt
          clear hm2 hV2 hT2 hL2 hib2 hbk2 h6
          go_wp2_with fail
          exact ⟨⟨k + 1, V2, m2, L2, HLT.out, by go_num, rfl, rfl, HM6.out, HV2.out, HT2.out, HL2.out, HIB2.out, HBK2.out⟩, by have := HLT.out; simp [intOf]; omega⟩
    · obtain rfl : k = n := by omega
      rw [List.drop_of_length_le (by rw [← HN.out]; exact Nat.le_refl _)] at henc
      by_cases h0 : m = 0
      · subst h0
        have HE := Lib.hid (show L = enc b by rw [← henc]; simp [encS])
        have hLne : L ≠ [] := by rw [HE.out]; exact HNE.out
        have HS := Lib.hid (bld_string _ _ L wr hib hLne)
        have HBK := Lib.hid hbk
        clear hib hbk henc hm hwv hL hLne
        go_wp2_with fail
        refine calls_then HS.out ?_
        rintro e w4 ⟨rfl, hb4⟩
        have HB4 := Lib.hid hb4
        clear hb4
        go_wp2_with fail
        go_ret
        exact ⟨by rw [HE.out]; rfl, HB0.out.trans ((HBK.out.below).trans HB4.out)⟩
      · have hm' : m = 2 ∨ m = 4 := by omega
        obtain ⟨z, hz⟩ : ∃ z, z = wv * 2 ^ (6 - m) := ⟨_, rfl⟩
        have hz64 : z < 64 := by rw [hz]; exact ltA (by omega) hwv
        have HE := Lib.hid (show L ++ [ltr z] = enc b by rw [← henc, encS, if_neg h0, hz])
        have hzi : (wv : Int) * 2 ^ (6 - m) = (z : Int) := by rw [hz]; simp
        have hz1 : (z : Int) < 64 := by omega
        have hm0 : 0 < (m : Int) := by omega
        have hm6 : (m : Int) ≤ 4 := by omega
        have HIB := Lib.hid hib
        have HBK := Lib.hid hbk
        have HL := Lib.hid hL
        clear hib hbk henc hm hm' hwv hL hz
        go_upto_region 13 with (fail)
        go_wp2_with fail
        have hq := bld_byte bldT_ok _ _ L (ltr z) _ HIB.out (by have := HL.out; omega)
        rw [← ltr_at z hz64] at hq
        refine calls_then hq ?_
        rintro e w3 ⟨rfl, hib3, hbk3⟩
        have HBK3 := Lib.hid (HBK.out.trans hbk3)
        have hLne : L ++ [ltr z] ≠ [] := by simp
        have HS := Lib.hid (bld_string _ _ (L ++ [ltr z]) w3 hib3 hLne)
        clear hib3 hbk3 hq hLne
        go_upto_region 14 with (fail)
        go_wp2_with fail
        refine calls_then HS.out ?_
        rintro e w4 ⟨rfl, hb4⟩
        have HB4 := Lib.hid hb4
        clear hb4
        go_wp2_with fail
        go_ret
        exact ⟨by rw [HE.out]; rfl, HB0.out.trans ((HBK3.out.below).trans HB4.out)⟩
end Go.Proofs.YtoihgnkhalhocaaGreatDoor.Js
/-
  Laws of my own: a map keyed by texts that is laid entry by entry, and looked up.
-/
namespace Go.Proofs.YtoihgnkhalhocaaGreatDoor
set_option linter.unusedSimpArgs false
set_option linter.unusedVariables false
open Go.RowKit
def MapS (w : World) (g : Nat) (es : Array MapEntry) : Prop := w.heap[g]? = some (.map es es.size)
theorem MapS.lt {w : World} {g : Nat} {es : Array MapEntry} (h : MapS w g es) : g < w.heap.size := (Array.getElem?_eq_some_iff.1 h).1
theorem MapS.new (w : World) : MapS (w.alloc (.map #[] 0)) w.heap.size #[] := heap_alloc_new w _
section
variable {P : Program} {w : World} {ops : Array Oper} {rest : List Oper} {o : Oper} {a : Act} {Q : Exit → Act → World → Prop}
theorem run_insertS {t k e : TypeId} {g : Nat} {es : Array MapEntry} {x : ByteArray} {v : Value} (ht : P.underlying t = some (.map k e)) (hk : P.underlying k = some .string) (hm : MapS w g es) (hf : Instr.findNow .string (.string x) es.toList 0 = some none) :
    ∃ w', (Instr.mapUpdate t (.map (some g)) (.string x) v).run P w = .ok () w' ∧ MapS w' g (es.push ⟨.string x, v, es.size⟩) ∧ w.grownBy w' (some g) := by
  unfold MapS at hm
  have hlt : g < w.heap.size := (Array.getElem?_eq_some_iff.1 hm).1
  have hc : (Instr.checkKey false 10000 k (.string x)).run P w = .ok () w := MapKept.run_checkKey (k := (.string x)) hk (by simp [MapKept.IsKey]) false 9999
  refine ⟨{ w with heap := w.heap.setIfInBounds g (.map (es.push ⟨.string x, v, es.size⟩) (es.size + 1)) }, ?_, ?_, ?_⟩
  · simp [Instr.mapUpdate, run_underlying ht, MapKept.run_getObj_map hm, hc, MapKept.run_findKey hk hf, MapKept.run_setObj_map _ hm, Result.andThen]
  · unfold MapS
    simp [hlt]
  · refine ⟨rfl, rfl, rfl, by simp, fun i hi hne => ?_⟩
    have : g ≠ i := fun h => hne (by rw [h])
    simp [this]
theorem wpList_insertS {t k e : TypeId} {g : Nat} {es : Array MapEntry} {x : ByteArray} {v : Value} {om ok ov : Operand} (ht : P.underlying t = some (.map k e)) (hk : P.underlying k = some .string) (hgd : o.guard = none) (ho : o.op = .insert t om ok ov)
    (hom : a.eval om = .map (some g)) (hok : a.eval ok = (.string x)) (hov : a.eval ov = v) (hm : MapS w g es) (hf : Instr.findNow .string (.string x) es.toList 0 = some none)
    (h : ∀ w', MapS w' g (es.push ⟨.string x, v, es.size⟩) → w.grownBy w' (some g) → wpList P ops Q rest (a.put o.dst undef) w') : wpList P ops Q (o :: rest) a w := by
  refine wpList_plain hgd fun K hK => ?_
  obtain ⟨w', hr, h1, h2⟩ := run_insertS (P := P) (v := v) ht hk hm hf
  unfold Oper.wp
  simp [execOp, ho, hom, hok, hov, hr, Result.andThen]
  exact hK _ _ (h w' h1 h2)
def foundS (z : Value) : Option (Nat × Value) → Value × Bool
  | some (_, v) => (v, true)
  | none => (z, false)
theorem run_lookupS {t k e : TypeId} {g : Nat} {es : Array MapEntry} {x : ByteArray} {z : Value} {r : Option (Nat × Value)} (c : Bool) (ht : P.underlying t = some (.map k e)) (hk : P.underlying k = some .string) (hm : MapS w g es) (hf : Instr.findNow .string (.string x) es.toList 0 = some r)
    (hz : (zeroValue e).run P w = .ok z w) : (Instr.lookup t (.map (some g)) (.string x) c).run P w = .ok (if c then .tuple #[(foundS z r).1, .bool (foundS z r).2] else (foundS z r).1) w := by
  unfold MapS at hm
  have hc : (Instr.checkKey es.isEmpty 10000 k (.string x)).run P w = .ok () w := MapKept.run_checkKey (k := (.string x)) hk (by simp [MapKept.IsKey]) _ 9999
  cases r with
  | none => cases c <;> simp [Instr.lookup, run_underlying ht, MapKept.run_getObj_map hm, hc, MapKept.run_findKey hk hf, hz, Result.andThen, foundS]
  | some p => cases c <;> simp [Instr.lookup, run_underlying ht, MapKept.run_getObj_map hm, hc, MapKept.run_findKey hk hf, Result.andThen, foundS]
end
end Go.Proofs.YtoihgnkhalhocaaGreatDoor
/-
  Walk: jwk.may, at any bundle.
-/
namespace Go.Proofs.YtoihgnkhalhocaaGreatDoor.Js
set_option linter.unusedSimpArgs false
set_option linter.unusedVariables false
open Go.RowKit
def keysOk : List Bs → List (Bs × Bs) → Bool
  | _, [] => true
  | seen, k :: r => decide (k.2.length = 32) && decide (k.1 = nameL k.2) && !(seen.contains k.1) && keysOk (seen ++ [k.1]) r
def headOk (D : Bs) (num : Int) (ks : List (Bs × Bs)) : Bool := domB D && decide (0 ≤ num) && decide (num ≤ 1099511627776) && decide (ks.length ≤ 8)
def mayB (D : Bs) (num : Int) (ks : List (Bs × Bs)) : Bool := headOk D num ks && keysOk [] ks
def keysTo (ks : List (Bs × Bs)) (i : Nat) : Prop := keysOk [] ks = keysOk ((ks.take i).map (·.1)) (ks.drop i)
theorem keysTo_zero (ks : List (Bs × Bs)) : keysTo ks 0 := rfl
theorem keysTo_step {ks : List (Bs × Bs)} {i : Nat} (h : keysTo ks i) (hi : i < ks.length) (h1 : ks[i].2.length = 32) (h2 : ks[i].1 = nameL ks[i].2) (h3 : ks[i].1 ∉ (ks.take i).map (·.1)) : keysTo ks (i + 1) := by
  unfold keysTo at h ⊢
  rw [h, List.drop_eq_getElem_cons hi, List.take_succ_eq_append_getElem hi, List.map_append]
  conv => lhs; unfold keysOk
  rw [decide_eq_true h1, decide_eq_true h2, show ((ks.take i).map (·.1)).contains ks[i].1 = false by simpa using h3]
  rfl
theorem keysTo_no {ks : List (Bs × Bs)} {i : Nat} (h : keysTo ks i) (hi : i < ks.length) (hn : ks[i].2.length = 32 → ks[i].1 = nameL ks[i].2 → ks[i].1 ∈ (ks.take i).map (·.1)) : keysOk [] ks = false := by
  unfold keysTo at h
  rw [h, List.drop_eq_getElem_cons hi]
  unfold keysOk
  by_cases h1 : ks[i].2.length = 32
  · by_cases h2 : ks[i].1 = nameL ks[i].2
    · have h3 := hn h1 h2
      rw [show ((ks.take i).map (·.1)).contains ks[i].1 = true by simpa using h3]
      simp
    · simp [h2]
  · simp [h1]
theorem keysTo_all {ks : List (Bs × Bs)} {i : Nat} (h : keysTo ks i) (hi : i = ks.length) : keysOk [] ks = true := by
  unfold keysTo at h
  rw [h, hi, List.drop_length]
  rfl
def mapE (l : List Bs) : Array MapEntry := (l.mapIdx fun i s => (⟨.string (bs s), .int .i64 1, i⟩ : MapEntry)).toArray
theorem mapE_push (l : List Bs) (s : Bs) : mapE (l ++ [s]) = (mapE l).push ⟨.string (bs s), .int .i64 1, (mapE l).size⟩ := by
  unfold mapE
  rw [List.mapIdx_concat]
  simp
theorem mapE_key (l : List Bs) : ∀ x ∈ (mapE l).toList, MapKept.IsKey .string x.key := by
  intro x hx
  simp only [mapE, List.mem_mapIdx] at hx
  obtain ⟨i, hi, rfl⟩ := hx
  trivial
theorem mapE_at {l : List Bs} {j : Nat} {e : MapEntry} (h : (mapE l).toList[j]? = some e) : ∃ s ∈ l, e.key = .string (bs s) ∧ e.val = .int .i64 1 := by
  simp only [mapE, List.getElem?_mapIdx, Option.map_eq_some_iff] at h
  obtain ⟨s, hs, rfl⟩ := h
  exact ⟨s, List.mem_of_getElem? hs, rfl, rfl⟩
theorem mapE_no {l : List Bs} {s : Bs} (h : s ∉ l) : Instr.findNow .string (.string (bs s)) (mapE l).toList 0 = some none := by
  rcases MapKept.findNow_spec (d := .string) (k := .string (bs s)) trivial (mapE l).toList 0 (mapE_key l) with ⟨h1, _⟩ | ⟨j, e, _, h2, h3⟩
  · exact h1
  · obtain ⟨t, ht, hk, _⟩ := mapE_at h2
    rw [hk] at h3
    injection h3 with h3
    exact absurd (bs_inj h3 ▸ ht) h
theorem mapE_yes {l : List Bs} {s : Bs} (h : s ∈ l) : ∃ i, Instr.findNow .string (.string (bs s)) (mapE l).toList 0 = some (some (i, .int .i64 1)) := by
  rcases MapKept.findNow_spec (d := .string) (k := .string (bs s)) trivial (mapE l).toList 0 (mapE_key l) with ⟨_, h2⟩ | ⟨j, e, h1, h2, h3⟩
  · obtain ⟨i, hi, hs⟩ := List.getElem_of_mem h
    have := h2 ⟨.string (bs s), .int .i64 1, i⟩ (by
      simp only [mapE, List.mem_mapIdx]
      exact ⟨i, hi, by rw [hs]⟩)
    exact absurd rfl this
  · obtain ⟨t, ht, hk, hv⟩ := mapE_at h2
    rw [hv] at h1
    exact ⟨_, h1⟩
theorem mapS_below {w w' : World} {g : Nat} {es : Array MapEntry} (h : MapS w g es) (hb : Below w.heap.size w w') : MapS w' g es := (hb.block g h.lt).trans h
theorem mayB_no {D : Bs} {num : Int} {ks : List (Bs × Bs)} (h : headOk D num ks = false) : mayB D num ks = false := by unfold mayB; rw [h]; rfl
set_option maxRecDepth 100000 in
set_option maxHeartbeats 8000000 in
theorem may_any (D : Bs) (num : Int) (ks : List (Bs × Bs)) (A : Option Addr) (c B : Nat) (w : World) (hr : Rd w B A (rowsV kCell ks)) (hB : B ≤ w.heap.size) (hD : ((bs D).size : Int) ≤ 100000000) (hl : (ks.length : Int) ≤ 9223372036854775807)
    (hk : ∀ k ∈ ks, (k.2.length : Int) ≤ 9223372036854775807) (hG : Sh.TabG w) :
    Calls Tryz.prog 24 #[.agg (bC D num A ks.length c)] w fun e w' => e = .returned (.bool (mayB D num ks)) ∧ Below w.heap.size w w' := by
  obtain ⟨r, hrr⟩ : ∃ r, r = mayB D num ks := ⟨_, rfl⟩
  rw [← hrr]
  have HRR := Lib.hid hrr
  clear hrr
  obtain ⟨n, hn⟩ : ∃ n, n = ks.length := ⟨_, rfl⟩
  rw [← hn] at hl ⊢
  have HN := Lib.hid hn
  obtain ⟨W0, hW0⟩ : ∃ W0, W0 = w.alloc (.cells (bC D num A n c) 25) := ⟨_, rfl⟩
  have HB0 := Lib.hid (show Below w.heap.size w W0 by rw [hW0]; exact (Below.refl _ w).alloc (Nat.le_refl _) _)
  have HK := Lib.hid (show Blk W0 w.heap.size 25 (bC D num A n c) by rw [hW0]; exact Blk.new _ _ _)
  have HW0 := Lib.hid hW0
  have HR := Lib.hid hr
  have HBB := Lib.hid hB
  have HKX := Lib.hid hk
  have HG := Lib.hid hG
  have HHD := Lib.hid (show headOk D num ks = (domB D && decide (0 ≤ num) && decide (num ≤ 1099511627776) && decide (n ≤ 8)) by rw [hn]; rfl)
  have C := Lib.hid (domain_any (bs D) hD W0)
  rw [show (bs D).data.toList = D from by simp [bs]] at C
  obtain ⟨d, hd⟩ : ∃ d, d = domB D := ⟨_, rfl⟩
  rw [← hd] at C HHD
  have a0 : W0.cell? ⟨w.heap.size, 0, none⟩ = some (.string (bs D)) := HK.out.cell 0
  clear hW0 hn hr hB hk hG hD hd
  go_enter Tryz.func24, Tryz.ntmps24
  go_upto_region 1 with (fail)
  rw [show w.alloc (.cells (bC D num A n c) 25) = W0 from HW0.out.symm]
  generalize Value.agg (bC D num A n c) = AV
  cases d with
  | false =>
    have HNO := Lib.hid (mayB_no (HHD.out.trans (by rfl)))
    go_wp2_with (go_at_call 33; refine calls_then C.out ?_; rintro e u1 ⟨rfl, hb1⟩; have HB1 := Lib.hid (HB0.out.trans (hb1.mono HB0.out.size)); clear hb1)
    go_ret
    exact ⟨by rw [HRR.out, HNO.out]; rfl, HB1.out⟩
  | true =>
    go_wp2_with fail
    refine calls_then C.out ?_
    rintro e u1 ⟨rfl, hb1⟩
    have HK1 := Lib.hid (HK.out.below hb1 HK.out.lt)
    have HB1 := Lib.hid (HB0.out.trans (hb1.mono HB0.out.size))
    have a1 : u1.cell? ⟨w.heap.size, 1, none⟩ = some (.int .i64 num) := HK1.out.cell 1
    have a2 : u1.cell? ⟨w.heap.size, 2, none⟩ = some (.slice A n c) := HK1.out.cell 2
    clear a0 hb1
    by_cases hn0 : num < 0
    · have HNO := Lib.hid (mayB_no (HHD.out.trans (by rw [decide_eq_false (show ¬ (0 ≤ num) by omega)]; rfl)))
      go_wp2_with fail
      go_ret
      exact ⟨by rw [HRR.out, HNO.out]; rfl, HB1.out⟩
    by_cases hn1 : 1099511627776 < num
    · have HNO := Lib.hid (mayB_no (HHD.out.trans (by rw [decide_eq_false (show ¬ (num ≤ 1099511627776) by omega)]; simp)))
      go_wp2_with fail
      go_ret
      exact ⟨by rw [HRR.out, HNO.out]; rfl, HB1.out⟩
    by_cases hn8 : 8 < (n : Int)
    · have HNO := Lib.hid (mayB_no (HHD.out.trans (by rw [decide_eq_false (show ¬ (n ≤ 8) by omega)]; simp)))
      go_wp2_with fail
      go_ret
      exact ⟨by rw [HRR.out, HNO.out]; rfl, HB1.out⟩
    have HHO := Lib.hid (show mayB D num ks = keysOk [] ks by
      unfold mayB
      rw [HHD.out, decide_eq_true (show 0 ≤ num by omega), decide_eq_true (show num ≤ 1099511627776 by omega), decide_eq_true (show n ≤ 8 by omega)]
      rfl)
    have hmm := @run_makeMap Tryz.prog
    go_upto_region 4 with (fail)
    obtain ⟨g, hg⟩ : ∃ g, g = u1.heap.size := ⟨_, rfl⟩
    have HGE := Lib.hid (show w.heap.size < g by rw [hg]; exact HK1.out.lt)
    have HGU := Lib.hid (show u1.heap.size = g from hg.symm)
    have hb2 : Below w.heap.size w (u1.alloc (.map #[] 0)) := HB1.out.alloc HB1.out.size _
    have hm2 : MapS (u1.alloc (.map #[] 0)) g (mapE []) := by rw [hg]; exact MapS.new u1
    have hd2 : (u1.alloc (.map #[] 0)).cell? ⟨w.heap.size, 2, none⟩ = some (.slice A n c) := (HK1.out.alloc _).cell 2
    obtain ⟨W2, hW2⟩ : ∃ W2, W2 = u1.alloc (.map #[] 0) := ⟨_, rfl⟩
    rw [← hW2] at hb2 hm2 hd2
    rw [← hg, ← hW2]
    have HB2 := Lib.hid hb2
    have HM2 := Lib.hid hm2
    clear hW2 hb2 hm2 hg a1 a2 hmm
    have hn8' : (n : Int) ≤ 8 := by omega
    clear hn8 hn0 hn1 hl
    go_wp2_with fail
    go_loopw [30] (fun x wr => ∃ i : Nat, i ≤ n ∧ x = .int .i64 (i : Int) ∧ keysTo ks i ∧ Below w.heap.size w wr ∧ MapS wr g (mapE ((ks.take i).map (·.1)))) (fun x _ => n - (intOf x).toNat)
    case atStart => exact ⟨0, Nat.zero_le _, rfl, keysTo_zero ks, HB2.out, HM2.out⟩
    case round =>
      obtain ⟨i, hi, rfl, hto, hbw, hmp⟩ := hrel
      have HTO := Lib.hid hto
      have HBW := Lib.hid hbw
      have HMP := Lib.hid hmp
      clear hto hbw hmp
      by_cases hlt : i < n
      · have huj := Tryz.underlying39
        have hil : i < ks.length := by rw [← HN.out]; exact hlt
        have hlt' : (i : Int) < (n : Int) := by omega
        obtain ⟨ad, hA, hadb, hcell⟩ := rd_rows (f := kCell) (m := 2) (fun _ => rfl) (by decide) (HR.out.below (HBW.out.mono HBB.out)) hil
        subst hA
        obtain ⟨X, hX⟩ : ∃ X, X = ks[i] := ⟨_, rfl⟩
        rw [← hX] at hcell
        have HX := Lib.hid (show ∃ h : i < ks.length, X = ks[i] from ⟨hil, hX⟩)
        have HCL := Lib.hid (show ∀ j u, (kCell X).toList[j]? = some u → wr.cell? ((ad.add (i * 2)).add j) = some u from fun j u hu => hcell j u (by simpa using hu))
        have HKL := Lib.hid (HKX.out X (by rw [hX]; exact List.getElem_mem hil))
        have HLT := Lib.hid hlt
        have HNK := Lib.hid (fun (hno : X.2.length = 32 → X.1 = nameL X.2 → X.1 ∈ (ks.take i).map (·.1)) => show mayB D num ks = false by
          rw [HHO.out]
          exact keysTo_no HTO.out hil (by rw [← hX]; exact hno))
        have HYK := Lib.hid (fun (h1 : X.2.length = 32) (h2 : X.1 = nameL X.2) (h3 : X.1 ∉ (ks.take i).map (·.1)) => show keysTo ks (i + 1) ∧ (ks.take (i + 1)).map (·.1) = (ks.take i).map (·.1) ++ [X.1] from
          ⟨keysTo_step HTO.out hil (by rw [← hX]; exact h1) (by rw [← hX]; exact h2) (by rw [← hX]; exact h3), by rw [List.take_succ_eq_append_getElem hil, List.map_append, hX]; rfl⟩)
        obtain ⟨N, hN⟩ : ∃ N, N = (ks.take i).map (·.1) := ⟨_, rfl⟩
        rw [← hN] at HNK HYK HMP
        clear hX hcell hadb hil hlt hN
        go_upto_region 7 with (first
          | refine wpList_get_rd (r := (kCell X).toList) HCL.out rfl rfl rfl huj rfl jk_size ?_
          | (refine wpList_put_box (cells := kCell X) (Blk.new _ _ _) rfl rfl rfl rfl jk_size rfl (kCell_one X) ?_; intro w5 hb5 hw5))
        have HK5 := Lib.hid hb5
        have hbw5 : Below wr.heap.size wr w5 := box_low9 hw5
        have HM5 := Lib.hid (mapS_below HMP.out hbw5)
        have HB5 := Lib.hid (HBW.out.trans (hbw5.mono HBW.out.size))
        have HGT := Lib.hid (fun (u : World) (hu : Below w5.heap.size w5 u) => show Sh.TabG u from HG.out.below (HB5.out.trans (hu.mono HB5.out.size)) HG.out.size)
        have hc1 : w5.cell? ⟨wr.heap.size, 1, none⟩ = some (.string (bs X.2)) := hb5.cell 1
        have hs0 : ((bs X.2).size : Int) = (X.2.length : Int) := by rw [bs_size]
        clear hb5 hw5 hbw5
        by_cases h32 : X.2.length = 32
        · have HS32 := Lib.hid (show (bs X.2).size = 32 by rw [bs_size, h32])
          have HSZ := Lib.hid (show ((bs X.2).size : Int) = 32 by rw [hs0, h32]; rfl)
          have HNA := Lib.hid (show ∀ A c u, Rd u u.heap.size A (bytesV X.2) → 32 ≤ c → c ≤ 9223372036854775807 → Sh.TabG u → Calls Tryz.prog 34 #[.slice A 32 c] u (fun e w' => e = .returned (.string (bs (nameL X.2))) ∧ Below u.heap.size u w') from
            fun A c u h1 h2 h3 h4 => by have h := jname_any X.2 (by omega) A c u h1 (by omega) h3 h4; rw [h32] at h; exact h)
          have hus := Tryz.underlying9
          have hub8 := Tryz.underlying42
          have hu8 := Tryz.underlying5
          have HC0 : Below w5.heap.size w5 w5.drew := (Below.refl _ _).drew
          have H32 := Lib.hid h32
          clear hs0 h32 hc1
          by_cases hkn : X.1 = nameL X.2
          · have HQ := Lib.hid (show ((bs X.1).toList == (bs (nameL X.2)).toList) = true by rw [bs_toList, bs_toList]; simpa using hkn)
            obtain ⟨m, hlk0, hmm⟩ : ∃ m : Int, (∀ u, Below w5.heap.size w5 u → (Instr.lookup 67 (.map (some g)) (.string (bs X.1)) false).run Tryz.prog u = .ok (.int .i64 m) u) ∧ ((m = 0 ∧ X.1 ∉ N) ∨ (m = 1 ∧ X.1 ∈ N)) := by
              have ht := Tryz.underlying67
              have hz : ∀ u : World, (zeroValue 3).run Tryz.prog u = .ok (.int .i64 0) u := fun u => by first | rfl | (simp; done) | kernel_rfl
              by_cases hx : X.1 ∈ N
              · obtain ⟨q, hq⟩ := mapE_yes hx
                exact ⟨1, fun u hu => run_lookupS false ht hus (mapS_below HM5.out hu) hq (hz u), .inr ⟨rfl, hx⟩⟩
              · exact ⟨0, fun u hu => run_lookupS false ht hus (mapS_below HM5.out hu) (mapE_no hx) (hz u), .inl ⟨rfl, hx⟩⟩
            have HLK := Lib.hid hlk0
            have HMM := Lib.hid hmm
            clear hlk0 hmm
            have HKN := Lib.hid hkn
            clear hkn
            apply wp_region_seqg (fun u => Below w5.heap.size w5 u) (fun u u' => Below u.heap.size u u') [_, _, _, _, _, _, _, _, _, undef, _, _, _, _, _, _, _, _, _, _] (gOf [(9, fun v u => ∃ A c, v = .slice A 32 c ∧ Rd u u.heap.size A (bytesV X.2) ∧ 32 ≤ c ∧ c ≤ 9223372036854775807)]) (by kernel_rfl) (by kernel_rfl) (stabL_of _ ⟨(fun _ _ _ h h0 => by obtain ⟨A0, c0, h1, h2, h3⟩ := h0; exact ⟨A0, c0, h1, (h2.below h).mono h.size, h3⟩), trivial⟩) HC0
            iterate 1
              ((first | (apply SeqG.next; rfl; rfl; rfl)); (simp only [act_put, act_put_none, List.setIfInBounds_toArray, List.set_cons_zero, List.set_cons_succ]; rfl); (intro w1 hC1 hf E hE; go_wp2; exact .mk (hE _ hC1 (Below.refl _ _))))
            apply SeqG.next
            · rfl
            · rfl
            · rfl
            · simp only [act_put, act_put_none, List.setIfInBounds_toArray, List.set_cons_zero, List.set_cons_succ]
              rfl
            · intro w1 hC1 hf E hE
              have d0 := (HK5.out.below hC1 HK5.out.lt).cell 1
              simp only [kCell, List.getElem?_toArray, List.getElem?_cons_zero, List.getElem?_cons_succ] at d0
              go_wp2
              exact .mk (hE _ hC1 (Below.refl _ _))
            apply SeqG.next
            · rfl
            · rfl
            · rfl
            · simp only [act_put, act_put_none, List.setIfInBounds_toArray, List.set_cons_zero, List.set_cons_succ]
              rfl
            · intro w1 hC1 hf E hE
              have hsz := HSZ.out
              go_wp2
              exact .mk (hE _ hC1 (Below.refl _ _))
            iterate 3
              first
              | (apply SeqG.no (fun _ => (Below.refl _ _)); rfl; rfl; rfl; rfl; rfl; (simp only [act_put, act_put_none, List.setIfInBounds_toArray, List.set_cons_zero, List.set_cons_succ]; rfl))
              | ((first | (apply SeqG.next; rfl; rfl; rfl) | (apply SeqG.yes; rfl; rfl; rfl; rfl; rfl)); (simp only [act_put, act_put_none, List.setIfInBounds_toArray, List.set_cons_zero, List.set_cons_succ]; rfl); (intro w1 hC1 hf E hE; go_wp2; exact .mk (hE _ hC1 (Below.refl _ _))))
            apply SeqG.yes
            · rfl
            · rfl
            · rfl
            · rfl
            · rfl
            · simp only [act_put, act_put_none, List.setIfInBounds_toArray, List.set_cons_zero, List.set_cons_succ]
              rfl
            · intro w1 hC1 hf E hE
              have d0 := (HK5.out.below hC1 HK5.out.lt).cell 0
              simp only [kCell, List.getElem?_toArray, List.getElem?_cons_zero, List.getElem?_cons_succ] at d0
              go_wp2
              exact .mk (hE _ hC1 (Below.refl _ _))
            iterate 1
              first
              | (apply SeqG.no (fun _ => (Below.refl _ _)); rfl; rfl; rfl; rfl; rfl; (simp only [act_put, act_put_none, List.setIfInBounds_toArray, List.set_cons_zero, List.set_cons_succ]; rfl))
              | ((first | (apply SeqG.next; rfl; rfl; rfl) | (apply SeqG.yes; rfl; rfl; rfl; rfl; rfl)); (simp only [act_put, act_put_none, List.setIfInBounds_toArray, List.set_cons_zero, List.set_cons_succ]; rfl); (intro w1 hC1 hf E hE; go_wp2; exact .mk (hE _ hC1 (Below.refl _ _))))
            apply SeqG.yes
            · rfl
            · rfl
            · rfl
            · rfl
            · rfl
            · simp only [act_put, act_put_none, List.setIfInBounds_toArray, List.set_cons_zero, List.set_cons_succ]
              rfl
            · intro w1 hC1 hf E hE
              have d0 := (HK5.out.below hC1 HK5.out.lt).cell 1
              simp only [kCell, List.getElem?_toArray, List.getElem?_cons_zero, List.getElem?_cons_succ] at d0
              go_wp2
              exact .mk (hE _ hC1 (Below.refl _ _))
            apply SeqG.yesS
            · rfl
            · rfl
            · rfl
            · rfl
            · intro w1 hC1 hf E hE
              simp only [act_put, act_put_none, List.setIfInBounds_toArray, List.set_cons_zero, List.set_cons_succ] at hE
              refine wpList_bytes_cap (s := bs X.2) hus hub8 hu8 rfl rfl rfl (by rw [HS32.out]; decide) ?_
              intro c7 w7 hr7 hc7 hm7 hb7
              rw [HS32.out] at hc7 ⊢
              go_wp2_with fail
              exact .mk (hE _ _ ⟨_, c7, rfl, hr7, hc7, hm7⟩ (hC1.trans (hb7.mono hC1.size)) hb7)
            intro x9
            simp only [act_put, act_put_none, List.setIfInBounds_toArray, List.set_cons_zero, List.set_cons_succ]
            apply SeqG.yes
            · rfl
            · rfl
            · rfl
            · rfl
            · rfl
            · simp only [act_put, act_put_none, List.setIfInBounds_toArray, List.set_cons_zero, List.set_cons_succ]
              rfl
            · intro w1 hC1 hf E hE
              have f9 := (hf 9 (of_decide_eq_true (by kernel_rfl))).1 rfl
              obtain ⟨A9, c9, hx9, hr9, hc9, hm9⟩ := f9
              subst hx9
              go_wp2_with fail
              refine calls_then (HNA.out A9 c9 _ hr9 hc9 hm9 (HGT.out _ hC1)) ?_
              rintro e w2 ⟨rfl, hb2⟩
              go_wp2_with fail
              exact .mk (hE _ (hC1.trans (hb2.mono hC1.size)) hb2)
            apply SeqG.yes
            · rfl
            · rfl
            · rfl
            · rfl
            · rfl
            · simp only [act_put, act_put_none, List.setIfInBounds_toArray, List.set_cons_zero, List.set_cons_succ]
              rfl
            · intro w1 hC1 hf E hE
              have hq := HQ.out
              go_wp2
              exact .mk (hE _ hC1 (Below.refl _ _))
            iterate 4
              first
              | (apply SeqG.no (fun _ => (Below.refl _ _)); rfl; rfl; rfl; rfl; rfl; (simp only [act_put, act_put_none, List.setIfInBounds_toArray, List.set_cons_zero, List.set_cons_succ]; rfl))
              | ((first | (apply SeqG.next; rfl; rfl; rfl) | (apply SeqG.yes; rfl; rfl; rfl; rfl; rfl)); (simp only [act_put, act_put_none, List.setIfInBounds_toArray, List.set_cons_zero, List.set_cons_succ]; rfl); (intro w1 hC1 hf E hE; go_wp2; exact .mk (hE _ hC1 (Below.refl _ _))))
            apply SeqG.yes
            · rfl
            · rfl
            · rfl
            · rfl
            · rfl
            · simp only [act_put, act_put_none, List.setIfInBounds_toArray, List.set_cons_zero, List.set_cons_succ]
              rfl
            · intro w1 hC1 hf E hE
              have d0 := (HK5.out.below hC1 HK5.out.lt).cell 0
              simp only [kCell, List.getElem?_toArray, List.getElem?_cons_zero, List.getElem?_cons_succ] at d0
              go_wp2
              exact .mk (hE _ hC1 (Below.refl _ _))
            apply SeqG.yes
            · rfl
            · rfl
            · rfl
            · rfl
            · rfl
            · simp only [act_put, act_put_none, List.setIfInBounds_toArray, List.set_cons_zero, List.set_cons_succ]
              rfl
            · intro w1 hC1 hf E hE
              have hlk := HLK.out _ hC1
              go_wp2
              exact .mk (hE _ hC1 (Below.refl _ _))
            iterate 2
              first
              | (apply SeqG.no (fun _ => (Below.refl _ _)); rfl; rfl; rfl; rfl; rfl; (simp only [act_put, act_put_none, List.setIfInBounds_toArray, List.set_cons_zero, List.set_cons_succ]; rfl))
              | ((first | (apply SeqG.next; rfl; rfl; rfl) | (apply SeqG.yes; rfl; rfl; rfl; rfl; rfl)); (simp only [act_put, act_put_none, List.setIfInBounds_toArray, List.set_cons_zero, List.set_cons_succ]; rfl); (intro w1 hC1 hf E hE; go_wp2; exact .mk (hE _ hC1 (Below.refl _ _))))
            refine SeqG.nil ?_
            intro w1 hC1 hf
            have f9 := (hf 9).1 rfl
            clear hf
            have HB6 := Lib.hid (HB5.out.trans (hC1.mono HB5.out.size))
            have HC6 := Lib.hid hC1
            have hM6 := mapS_below HM5.out hC1
            have a0 : w1.cell? ⟨wr.heap.size, 0, none⟩ = some (.string (bs X.1)) := (HK5.out.below hC1 HK5.out.lt).cell 0
            have hlk := HLK.out _ hC1
            clear hC1 HC0
            rcases HMM.out with ⟨rfl, hx⟩ | ⟨rfl, hx⟩
            · obtain ⟨hto2, htk⟩ := HYK.out H32.out HKN.out hx
              have HTO2 := Lib.hid hto2
              have HTK := Lib.hid htk
              obtain ⟨w6, hr6, hm6, hg6⟩ := run_insertS (P := Tryz.prog) (v := .int .i64 1) Tryz.underlying67 hus hM6 (mapE_no hx)
              have HM6 := Lib.hid hm6
              have HG6 := Lib.hid hg6
              clear hto2 htk hx hM6 hm6 hg6
              go_wp2_with fail
              go_roundw
              case rel => exact ⟨i + 1, HLT.out, by go_num, HTO2.out, HB6.out.grown HG6.out (by have := HB6.out.size; omega) (fun k hk => by injection hk with hk; have := HGE.out; omega), by rw [HTK.out, mapE_push]; exact HM6.out⟩
              case measure => have := HLT.out; simp [intOf]; omega
            · have HNO := Lib.hid (HNK.out fun _ _ => hx)
              clear hx hM6
              go_wp2_with fail
              go_ret
              exact ⟨by rw [HRR.out, HNO.out]; rfl, HB6.out⟩
          · have HQ := Lib.hid (show ((bs X.1).toList == (bs (nameL X.2)).toList) = false by rw [bs_toList, bs_toList]; simpa using hkn)
            have HNO := Lib.hid (HNK.out fun _ h => absurd h hkn)
            clear hkn
            apply wp_region_seqg (fun u => Below w5.heap.size w5 u) (fun u u' => Below u.heap.size u u') [_, _, _, _, _, _, _, _, _, undef, _, _, _, _, _, _, _, _, _, _] (gOf [(9, fun v u => ∃ A c, v = .slice A 32 c ∧ Rd u u.heap.size A (bytesV X.2) ∧ 32 ≤ c ∧ c ≤ 9223372036854775807)]) (by kernel_rfl) (by kernel_rfl) (stabL_of _ ⟨(fun _ _ _ h h0 => by obtain ⟨A0, c0, h1, h2, h3⟩ := h0; exact ⟨A0, c0, h1, (h2.below h).mono h.size, h3⟩), trivial⟩) HC0
            iterate 1
              ((first | (apply SeqG.next; rfl; rfl; rfl)); (simp only [act_put, act_put_none, List.setIfInBounds_toArray, List.set_cons_zero, List.set_cons_succ]; rfl); (intro w1 hC1 hf E hE; go_wp2; exact .mk (hE _ hC1 (Below.refl _ _))))
            apply SeqG.next
            · rfl
            · rfl
            · rfl
            · simp only [act_put, act_put_none, List.setIfInBounds_toArray, List.set_cons_zero, List.set_cons_succ]
              rfl
            · intro w1 hC1 hf E hE
              have d0 := (HK5.out.below hC1 HK5.out.lt).cell 1
              simp only [kCell, List.getElem?_toArray, List.getElem?_cons_zero, List.getElem?_cons_succ] at d0
              go_wp2
              exact .mk (hE _ hC1 (Below.refl _ _))
            apply SeqG.next
            · rfl
            · rfl
            · rfl
            · simp only [act_put, act_put_none, List.setIfInBounds_toArray, List.set_cons_zero, List.set_cons_succ]
              rfl
            · intro w1 hC1 hf E hE
              have hsz := HSZ.out
              go_wp2
              exact .mk (hE _ hC1 (Below.refl _ _))
            iterate 3
              first
              | (apply SeqG.no (fun _ => (Below.refl _ _)); rfl; rfl; rfl; rfl; rfl; (simp only [act_put, act_put_none, List.setIfInBounds_toArray, List.set_cons_zero, List.set_cons_succ]; rfl))
              | ((first | (apply SeqG.next; rfl; rfl; rfl) | (apply SeqG.yes; rfl; rfl; rfl; rfl; rfl)); (simp only [act_put, act_put_none, List.setIfInBounds_toArray, List.set_cons_zero, List.set_cons_succ]; rfl); (intro w1 hC1 hf E hE; go_wp2; exact .mk (hE _ hC1 (Below.refl _ _))))
            apply SeqG.yes
            · rfl
            · rfl
            · rfl
            · rfl
            · rfl
            · simp only [act_put, act_put_none, List.setIfInBounds_toArray, List.set_cons_zero, List.set_cons_succ]
              rfl
            · intro w1 hC1 hf E hE
              have d0 := (HK5.out.below hC1 HK5.out.lt).cell 0
              simp only [kCell, List.getElem?_toArray, List.getElem?_cons_zero, List.getElem?_cons_succ] at d0
              go_wp2
              exact .mk (hE _ hC1 (Below.refl _ _))
            iterate 1
              first
              | (apply SeqG.no (fun _ => (Below.refl _ _)); rfl; rfl; rfl; rfl; rfl; (simp only [act_put, act_put_none, List.setIfInBounds_toArray, List.set_cons_zero, List.set_cons_succ]; rfl))
              | ((first | (apply SeqG.next; rfl; rfl; rfl) | (apply SeqG.yes; rfl; rfl; rfl; rfl; rfl)); (simp only [act_put, act_put_none, List.setIfInBounds_toArray, List.set_cons_zero, List.set_cons_succ]; rfl); (intro w1 hC1 hf E hE; go_wp2; exact .mk (hE _ hC1 (Below.refl _ _))))
            apply SeqG.yes
            · rfl
            · rfl
            · rfl
            · rfl
            · rfl
            · simp only [act_put, act_put_none, List.setIfInBounds_toArray, List.set_cons_zero, List.set_cons_succ]
              rfl
            · intro w1 hC1 hf E hE
              have d0 := (HK5.out.below hC1 HK5.out.lt).cell 1
              simp only [kCell, List.getElem?_toArray, List.getElem?_cons_zero, List.getElem?_cons_succ] at d0
              go_wp2
              exact .mk (hE _ hC1 (Below.refl _ _))
            apply SeqG.yesS
            · rfl
            · rfl
            · rfl
            · rfl
            · intro w1 hC1 hf E hE
              simp only [act_put, act_put_none, List.setIfInBounds_toArray, List.set_cons_zero, List.set_cons_succ] at hE
              refine wpList_bytes_cap (s := bs X.2) hus hub8 hu8 rfl rfl rfl (by rw [HS32.out]; decide) ?_
              intro c7 w7 hr7 hc7 hm7 hb7
              rw [HS32.out] at hc7 ⊢
              go_wp2_with fail
              exact .mk (hE _ _ ⟨_, c7, rfl, hr7, hc7, hm7⟩ (hC1.trans (hb7.mono hC1.size)) hb7)
            intro x9
            simp only [act_put, act_put_none, List.setIfInBounds_toArray, List.set_cons_zero, List.set_cons_succ]
            apply SeqG.yes
            · rfl
            · rfl
            · rfl
            · rfl
            · rfl
            · simp only [act_put, act_put_none, List.setIfInBounds_toArray, List.set_cons_zero, List.set_cons_succ]
              rfl
            · intro w1 hC1 hf E hE
              have f9 := (hf 9 (of_decide_eq_true (by kernel_rfl))).1 rfl
              obtain ⟨A9, c9, hx9, hr9, hc9, hm9⟩ := f9
              subst hx9
              go_wp2_with fail
              refine calls_then (HNA.out A9 c9 _ hr9 hc9 hm9 (HGT.out _ hC1)) ?_
              rintro e w2 ⟨rfl, hb2⟩
              go_wp2_with fail
              exact .mk (hE _ (hC1.trans (hb2.mono hC1.size)) hb2)
            apply SeqG.yes
            · rfl
            · rfl
            · rfl
            · rfl
            · rfl
            · simp only [act_put, act_put_none, List.setIfInBounds_toArray, List.set_cons_zero, List.set_cons_succ]
              rfl
            · intro w1 hC1 hf E hE
              have hq := HQ.out
              go_wp2
              exact .mk (hE _ hC1 (Below.refl _ _))
            iterate 8
              first
              | (apply SeqG.no (fun _ => (Below.refl _ _)); rfl; rfl; rfl; rfl; rfl; (simp only [act_put, act_put_none, List.setIfInBounds_toArray, List.set_cons_zero, List.set_cons_succ]; rfl))
              | ((first | (apply SeqG.next; rfl; rfl; rfl) | (apply SeqG.yes; rfl; rfl; rfl; rfl; rfl)); (simp only [act_put, act_put_none, List.setIfInBounds_toArray, List.set_cons_zero, List.set_cons_succ]; rfl); (intro w1 hC1 hf E hE; go_wp2; exact .mk (hE _ hC1 (Below.refl _ _))))
            refine SeqG.nil ?_
            intro w1 hC1 hf
            have f9 := (hf 9).1 rfl
            clear hf
            have HB6 := Lib.hid (HB5.out.trans (hC1.mono HB5.out.size))
            clear hC1 HC0
            go_wp2_with fail
            go_ret
            exact ⟨by rw [HRR.out, HNO.out]; rfl, HB6.out⟩
        · have h32' : ¬ ((bs X.2).size : Int) = 32 := by omega
          have HNO := Lib.hid (HNK.out fun h => absurd h h32)
          clear hs0 h32
          go_quiet (fail)
          go_wp2_with fail
          go_ret
          exact ⟨by rw [HRR.out, HNO.out]; rfl, ⟨HB5.out.os, HB5.out.tape, HB5.out.output, HB5.out.size, HB5.out.block⟩⟩
      · obtain rfl : i = n := by omega
        have HYS := Lib.hid (show mayB D num ks = true by rw [HHO.out]; exact keysTo_all HTO.out HN.out)
        go_wp2_with fail
        go_ret
        exact ⟨by rw [HRR.out, HYS.out]; rfl, HBW.out⟩
end Go.Proofs.YtoihgnkhalhocaaGreatDoor.Js
/-
  Walk: jwk.key.
-/
namespace Go.Proofs.YtoihgnkhalhocaaGreatDoor.Js
set_option linter.unusedSimpArgs false
set_option linter.unusedVariables false
open Go.RowKit
def RowFrom (u : World) (L : Nat) (t : TypeId) (n : Nat) (xs : List Value) (v : Value) : Prop := ∃ g, v = .slice (some ⟨g, 0, none⟩) n n ∧ Blk u g t xs.toArray ∧ L ≤ g
theorem RowFrom.step {u u' : World} {L : Nat} {t : TypeId} {n : Nat} {xs : List Value} {v : Value} (h : RowFrom u L t n xs v) (hb : Below u.heap.size u u') : RowFrom u' L t n xs v := by
  obtain ⟨g, h1, h2, h3⟩ := h
  exact ⟨g, h1, h2.below hb h2.lt, h3⟩
def BytFrom (u : World) (L n : Nat) (l : Bs) (v : Value) : Prop := ∃ g c, v = .slice (some ⟨g, 0, none⟩) n c ∧ n ≤ c ∧ c ≤ 9223372036854775807 ∧ L ≤ g ∧ Rd u u.heap.size (some ⟨g, 0, none⟩) (bytesV l)
theorem BytFrom.step {u u' : World} {L n : Nat} {l : Bs} {v : Value} (h : BytFrom u L n l v) (hb : Below u.heap.size u u') : BytFrom u' L n l v := by
  obtain ⟨g, c, h1, h2, h3, h4, h5⟩ := h
  exact ⟨g, c, h1, h2, h3, h4, (h5.below hb).mono hb.size⟩
theorem BytFrom.wrote {u u' : World} {L n k : Nat} {l : Bs} {v : Value} (h : BytFrom u L n l v) (hw : Wrote k u u') (hk : k < L) : BytFrom u' L n l v := by
  obtain ⟨g, c, h1, h2, h3, h4, h5⟩ := h
  refine ⟨g, c, h1, h2, h3, h4, fun i x hx => ?_⟩
  obtain ⟨ad, e1, e2, e3⟩ := h5 i x hx
  refine ⟨ad, e1, Nat.lt_of_lt_of_le e2 hw.grown.size, ?_⟩
  rw [← e3]
  injection e1 with e1
  subst e1
  exact World.cell?_of_block (w := u) (w' := u') (by rw [block_of_add]; exact hw.grown.block _ e2 (by intro h; injection h with h; have h9 : g = k := h; omega))
def RepFrom (u : World) (L : Nat) (j : JT) (v : Value) : Prop := ∃ jv, v = .agg (jvCells jv) ∧ JRep u (fun b => L ≤ b) j jv
theorem RepFrom.step {u u' : World} {L : Nat} {j : JT} {v : Value} (h : RepFrom u L j v) (hb : Below u.heap.size u u') : RepFrom u' L j v := by
  obtain ⟨jv, h1, h2⟩ := h
  exact ⟨jv, h1, h2.heap fun b hlt _ => hb.block b hlt⟩
theorem key_rep {u : World} {gn gk L : Nat} {tn tk : TypeId} (kid x : Bs) (hn : Blk u gn tn [Value.string (bs [99, 114, 118]), .string (bs [107, 105, 100]), .string (bs [107, 116, 121]), .string (bs [120])].toArray)
    (hk : Blk u gk tk (rowsV jvCells [flatV 3 0 [69, 100, 50, 53, 53, 49, 57], flatV 3 0 kid, flatV 3 0 [79, 75, 80], flatV 3 0 (enc x)]).toArray) (hln : L ≤ gn) (hlk : L ≤ gk) :
    JRep u (fun b => L ≤ b) (keyJ (kid, x)) ⟨5, 0, [], some ⟨gn, 0, none⟩, 4, 4, some ⟨gk, 0, none⟩, 4, 4⟩ := by
  have h1 : RdS u (fun b => L ≤ b) (some ⟨gn, 0, none⟩) (rowsV sCell [[99, 114, 118], [107, 105, 100], [107, 116, 121], [120]]) := fun i v hv => by
    obtain ⟨ad, e1, _, e3⟩ := (Rd.of_blk hn hn.lt) i v hv
    injection e1 with e1
    subst e1
    exact ⟨_, rfl, hln, e3⟩
  have h2 : RdS u (fun b => L ≤ b) (some ⟨gk, 0, none⟩) (rowsV jvCells [flatV 3 0 [69, 100, 50, 53, 53, 49, 57], flatV 3 0 kid, flatV 3 0 [79, 75, 80], flatV 3 0 (enc x)]) := fun i v hv => by
    obtain ⟨ad, e1, _, e3⟩ := (Rd.of_blk hk hk.lt) i v hv
    injection e1 with e1
    subst e1
    exact ⟨_, rfl, hlk, e3⟩
  refine JRep.mk (⟨5, 0, [], some ⟨gn, 0, none⟩, 4, 4, some ⟨gk, 0, none⟩, 4, 4⟩ : JV) _ _ _ rfl (Nat.le_refl _) h1 rfl (Nat.le_refl _) rfl h2 ?_
  intro i h h'
  match i, h, h' with
  | 0, _, _ => exact JRep.flat _ _ _ _ _
  | 1, _, _ => exact JRep.flat _ _ _ _ _
  | 2, _, _ => exact JRep.flat _ _ _ _ _
  | 3, _, _ => exact JRep.flat _ _ _ _ _
  | n + 4, h, _ => exact absurd h (by simp)
set_option maxRecDepth 100000 in
set_option maxHeartbeats 4000000 in
theorem key_any (kid x : Bs) (hx : x.length = 32) (w : World) :
    Calls Tryz.prog 25 #[.agg (kCell (kid, x))] w fun e w' => ∃ jv, e = .returned (.agg (jvCells jv)) ∧ JRep w' (fun b => w.heap.size ≤ b) (keyJ (kid, x)) jv ∧ Below w.heap.size w w' := by
  have hu := Tryz.underlying55
  obtain ⟨G, hG⟩ : ∃ G, G = w.heap.size := ⟨_, rfl⟩
  obtain ⟨W1, hW1⟩ : ∃ W1, W1 = (w.alloc (.cells (kCell (kid, x)) 39)).alloc (.cells (jvCells zJV) 55) := ⟨_, rfl⟩
  have hb1 : Below w.heap.size w W1 := by rw [hW1]; exact ((Below.refl _ w).alloc (Nat.le_refl _) _).alloc (by simp) _
  have HB1 := Lib.hid hb1
  have HK1 := Lib.hid (show Blk W1 w.heap.size 39 (kCell (kid, x)) by rw [hW1]; exact (Blk.new _ _ _).alloc _)
  have HZ1 := Lib.hid (show Blk W1 (w.heap.size + 1) 55 (jvCells zJV) by rw [hW1]; have := Blk.new (w.alloc (.cells (kCell (kid, x)) 39)) 55 (jvCells zJV); simpa using this)
  have HS1 := Lib.hid (show W1.heap.size = w.heap.size + 2 by rw [hW1]; simp)
  have HW1 := Lib.hid hW1
  have HTX := Lib.hid (jtext_any)
  have HEN := Lib.hid (fun (u : World) (A : Option Addr) (c : Nat) (h : Rd u u.heap.size A (bytesV x)) (hc : 32 ≤ c) => show Calls Tryz.prog 35 #[.slice A 32 c] u fun e w' => e = .returned (.string (bs (enc x))) ∧ Below u.heap.size u w' by
    have h2 := encode_any x (by omega) (by omega) A c u h (by omega)
    rw [hx] at h2
    exact h2)
  have HS32 := Lib.hid (show (bs x).size = 32 by rw [bs_size, hx])
  have hus := Tryz.underlying9
  have hub8 := Tryz.underlying42
  have hu8 := Tryz.underlying5
  clear hW1 hb1 hG hx
  go_enter Tryz.func25, Tryz.ntmps25
  go_upto_region 1 with (fail)
  rw [show ((w.alloc (.cells (kCell (kid, x)) 39)).alloc (.cells #[.int .i64 0, .int .i64 0, .string ⟨#[]⟩, .slice none 0 0, .slice none 0 0] 55)) = W1 from HW1.out.symm]
  generalize Value.agg (kCell (kid, x)) = AV
  have HC0 : Below (w.heap.size + 1) W1 W1.drew := (Below.refl _ _).drew
  have HI0 : Blk W1.drew (w.heap.size + 1) 55 (jvCells zJV) := HZ1.out
  have HJ0 : w.heap.size + 2 ≤ W1.drew.heap.size := by have := HS1.out; show _ ≤ W1.heap.size; omega
  refine wp_region_list (fun u => Below (w.heap.size + 1) W1 u) (fun | false => (fun u => Blk u (w.heap.size + 1) 55 (jvCells zJV)) | true => (fun u => w.heap.size + 2 ≤ u.heap.size)) (fun | false, i => i == 13 | true, _ => false)
    [fun z u => (fun v u => RowFrom u (w.heap.size + 2) 9 4 [.string (bs [99, 114, 118]), .string (bs [107, 105, 100]), .string (bs [107, 116, 121]), .string (bs [120])] v) (z 0) u,
     fun z _ => z 1 = .agg (jvCells (flatV 3 0 [69, 100, 50, 53, 53, 49, 57])),
     fun z _ => z 2 = .pointer (some ⟨w.heap.size, 0, none⟩),
     fun z _ => z 3 = .string (bs kid),
     fun z _ => z 4 = .agg (jvCells (flatV 3 0 kid)),
     fun z _ => z 5 = .agg (jvCells (flatV 3 0 [79, 75, 80])),
     fun z _ => z 6 = .pointer (some ⟨w.heap.size, 1, none⟩),
     fun z _ => z 7 = .string (bs x),
     fun z u => (fun v u => BytFrom u (w.heap.size + 2) 32 x v) (z 8) u,
     fun z _ => z 9 = .string (bs (enc x)),
     fun z _ => z 10 = .agg (jvCells (flatV 3 0 (enc x))),
     fun z u => (fun v u => RowFrom u (w.heap.size + 2) 55 4 (rowsV jvCells [flatV 3 0 [69, 100, 50, 53, 53, 49, 57], flatV 3 0 kid, flatV 3 0 [79, 75, 80], flatV 3 0 (enc x)]) v) (z 11) u,
     fun z u => (fun v u => RepFrom u (w.heap.size + 2) (keyJ (kid, x)) v) (z 12) u,
     fun z u => ∃ jv, Blk u (w.heap.size + 1) 55 (jvCells jv) ∧ JRep u (fun b => w.heap.size + 2 ≤ b) (keyJ (kid, x)) jv]
    [fun u u' => Below u.heap.size u u', fun u u' => Below u.heap.size u u', Eq, Eq, fun u u' => Below u.heap.size u u', fun u u' => Below u.heap.size u u', Eq, Eq, fun u u' => Below u.heap.size u u', fun u u' => Below u.heap.size u u', fun u u' => Below u.heap.size u u', fun u u' => Below u.heap.size u u', Eq, fun u u' => Wrote (w.heap.size + 1) u u']
    (fun i k => (i == 13 && k == 0) || (i == 13 && k == 11) || (i == 13 && k == 12)) [(0, some 3), (1, some 4), (2, some 5), (3, some 6), (4, some 7), (5, some 8), (6, some 9), (7, some 10), (8, some 11), (9, some 12), (10, some 13), (11, some 14), (12, some 15), (13, none)] (by kernel_rfl) (by kernel_rfl) rfl (fun _ => rfl) ?_ ?_ ?_ ?_ ?_ ?_
  · exact HC0
  · intro m; cases m; exact HI0; exact HJ0
  · intro m; cases m
    · exact ⟨.inr (fun _ _ h h0 => h0.below h h0.lt), .inr (fun _ _ h h0 => h0.below h h0.lt), .inr (fun _ _ h h0 => h ▸ h0), .inr (fun _ _ h h0 => h ▸ h0), .inr (fun _ _ h h0 => h0.below h h0.lt), .inr (fun _ _ h h0 => h0.below h h0.lt), .inr (fun _ _ h h0 => h ▸ h0), .inr (fun _ _ h h0 => h ▸ h0), .inr (fun _ _ h h0 => h0.below h h0.lt), .inr (fun _ _ h h0 => h0.below h h0.lt), .inr (fun _ _ h h0 => h0.below h h0.lt), .inr (fun _ _ h h0 => h0.below h h0.lt), .inr (fun _ _ h h0 => h ▸ h0), .inl rfl, trivial⟩
    · exact ⟨.inr (fun _ _ h h0 => Nat.le_trans h0 h.size), .inr (fun _ _ h h0 => Nat.le_trans h0 h.size), .inr (fun _ _ h h0 => h ▸ h0), .inr (fun _ _ h h0 => h ▸ h0), .inr (fun _ _ h h0 => Nat.le_trans h0 h.size), .inr (fun _ _ h h0 => Nat.le_trans h0 h.size), .inr (fun _ _ h h0 => h ▸ h0), .inr (fun _ _ h h0 => h ▸ h0), .inr (fun _ _ h h0 => Nat.le_trans h0 h.size), .inr (fun _ _ h h0 => Nat.le_trans h0 h.size), .inr (fun _ _ h h0 => Nat.le_trans h0 h.size), .inr (fun _ _ h h0 => Nat.le_trans h0 h.size), .inr (fun _ _ h h0 => h ▸ h0), .inr (fun _ _ h h0 => Nat.le_trans h0 h.grown.size), trivial⟩
  · exact ⟨⟨.inl rfl, .inr (.inr (.inr (fun _ _ _ _ _ h => h))), .inr (.inr (.inr (fun _ _ _ _ _ h => h))), .inr (.inr (.inr (fun _ _ _ _ _ h => h))), .inr (.inr (.inr (fun _ _ _ _ _ h => h))), .inr (.inr (.inr (fun _ _ _ _ _ h => h))), .inr (.inr (.inr (fun _ _ _ _ _ h => h))), .inr (.inr (.inr (fun _ _ _ _ _ h => h))), .inr (.inr (.inr (fun _ _ _ _ h h0 => h0.step h))), .inr (.inr (.inr (fun _ _ _ _ _ h => h))), .inr (.inr (.inr (fun _ _ _ _ _ h => h))), .inr (.inr (.inr (fun _ _ _ _ h h0 => h0.step h))), .inr (.inr (.inl rfl)), .inr (.inr (.inl rfl)), trivial⟩,
      ⟨.inr (.inr (.inr (fun _ _ _ _ h h0 => h0.step h))), .inl rfl, .inr (.inr (.inr (fun _ _ _ _ _ h => h))), .inr (.inr (.inr (fun _ _ _ _ _ h => h))), .inr (.inr (.inl rfl)), .inr (.inr (.inl rfl)), .inr (.inr (.inr (fun _ _ _ _ _ h => h))), .inr (.inr (.inr (fun _ _ _ _ _ h => h))), .inr (.inr (.inr (fun _ _ _ _ h h0 => h0.step h))), .inr (.inr (.inl rfl)), .inr (.inr (.inr (fun _ _ _ _ _ h => h))), .inr (.inr (.inl rfl)), .inr (.inr (.inl rfl)), .inr (.inr (.inl rfl)), trivial⟩,
      ⟨.inr (.inr (.inr (fun _ _ _ _ h h0 => by cases h; exact h0))), .inr (.inr (.inr (fun _ _ _ _ _ h => h))), .inl rfl, .inr (.inr (.inl rfl)), .inr (.inr (.inl rfl)), .inr (.inr (.inl rfl)), .inr (.inr (.inr (fun _ _ _ _ _ h => h))), .inr (.inr (.inr (fun _ _ _ _ _ h => h))), .inr (.inr (.inr (fun _ _ _ _ h h0 => by cases h; exact h0))), .inr (.inr (.inr (fun _ _ _ _ _ h => h))), .inr (.inr (.inr (fun _ _ _ _ _ h => h))), .inr (.inr (.inl rfl)), .inr (.inr (.inr (fun _ _ _ _ h h0 => by cases h; exact h0))), .inr (.inr (.inl rfl)), trivial⟩,
      ⟨.inr (.inr (.inr (fun _ _ _ _ h h0 => by cases h; exact h0))), .inr (.inr (.inr (fun _ _ _ _ _ h => h))), .inr (.inr (.inr (fun _ _ _ _ _ h => h))), .inl rfl, .inr (.inr (.inl rfl)), .inr (.inr (.inl rfl)), .inr (.inr (.inr (fun _ _ _ _ _ h => h))), .inr (.inr (.inr (fun _ _ _ _ _ h => h))), .inr (.inr (.inr (fun _ _ _ _ h h0 => by cases h; exact h0))), .inr (.inr (.inl rfl)), .inr (.inr (.inr (fun _ _ _ _ _ h => h))), .inr (.inr (.inl rfl)), .inr (.inr (.inl rfl)), .inr (.inr (.inl rfl)), trivial⟩,
      ⟨.inr (.inr (.inr (fun _ _ _ _ h h0 => h0.step h))), .inr (.inr (.inr (fun _ _ _ _ _ h => h))), .inr (.inr (.inr (fun _ _ _ _ _ h => h))), .inr (.inr (.inr (fun _ _ _ _ _ h => h))), .inl rfl, .inr (.inr (.inl rfl)), .inr (.inr (.inr (fun _ _ _ _ _ h => h))), .inr (.inr (.inr (fun _ _ _ _ _ h => h))), .inr (.inr (.inr (fun _ _ _ _ h h0 => h0.step h))), .inr (.inr (.inl rfl)), .inr (.inr (.inl rfl)), .inr (.inr (.inl rfl)), .inr (.inr (.inl rfl)), .inr (.inr (.inl rfl)), trivial⟩,
      ⟨.inr (.inr (.inr (fun _ _ _ _ h h0 => h0.step h))), .inr (.inr (.inr (fun _ _ _ _ _ h => h))), .inr (.inr (.inr (fun _ _ _ _ _ h => h))), .inr (.inr (.inr (fun _ _ _ _ _ h => h))), .inr (.inr (.inr (fun _ _ _ _ _ h => h))), .inl rfl, .inr (.inr (.inr (fun _ _ _ _ _ h => h))), .inr (.inr (.inr (fun _ _ _ _ _ h => h))), .inr (.inr (.inr (fun _ _ _ _ h h0 => h0.step h))), .inr (.inr (.inl rfl)), .inr (.inr (.inl rfl)), .inr (.inr (.inl rfl)), .inr (.inr (.inl rfl)), .inr (.inr (.inl rfl)), trivial⟩,
      ⟨.inr (.inr (.inr (fun _ _ _ _ h h0 => by cases h; exact h0))), .inr (.inr (.inr (fun _ _ _ _ _ h => h))), .inr (.inr (.inr (fun _ _ _ _ _ h => h))), .inr (.inr (.inr (fun _ _ _ _ _ h => h))), .inr (.inr (.inr (fun _ _ _ _ _ h => h))), .inr (.inr (.inr (fun _ _ _ _ _ h => h))), .inl rfl, .inr (.inr (.inl rfl)), .inr (.inr (.inl rfl)), .inr (.inr (.inl rfl)), .inr (.inr (.inr (fun _ _ _ _ _ h => h))), .inr (.inr (.inr (fun _ _ _ _ h h0 => by cases h; exact h0))), .inr (.inr (.inr (fun _ _ _ _ h h0 => by cases h; exact h0))), .inr (.inr (.inl rfl)), trivial⟩,
      ⟨.inr (.inr (.inr (fun _ _ _ _ h h0 => by cases h; exact h0))), .inr (.inr (.inr (fun _ _ _ _ _ h => h))), .inr (.inr (.inr (fun _ _ _ _ _ h => h))), .inr (.inr (.inr (fun _ _ _ _ _ h => h))), .inr (.inr (.inr (fun _ _ _ _ _ h => h))), .inr (.inr (.inr (fun _ _ _ _ _ h => h))), .inr (.inr (.inr (fun _ _ _ _ _ h => h))), .inl rfl, .inr (.inr (.inl rfl)), .inr (.inr (.inl rfl)), .inr (.inr (.inl rfl)), .inr (.inr (.inr (fun _ _ _ _ h h0 => by cases h; exact h0))), .inr (.inr (.inr (fun _ _ _ _ h h0 => by cases h; exact h0))), .inr (.inr (.inl rfl)), trivial⟩,
      ⟨.inr (.inr (.inr (fun _ _ _ _ h h0 => h0.step h))), .inr (.inr (.inr (fun _ _ _ _ _ h => h))), .inr (.inr (.inr (fun _ _ _ _ _ h => h))), .inr (.inr (.inr (fun _ _ _ _ _ h => h))), .inr (.inr (.inr (fun _ _ _ _ _ h => h))), .inr (.inr (.inr (fun _ _ _ _ _ h => h))), .inr (.inr (.inr (fun _ _ _ _ _ h => h))), .inr (.inr (.inr (fun _ _ _ _ _ h => h))), .inl rfl, .inr (.inr (.inl rfl)), .inr (.inr (.inl rfl)), .inr (.inr (.inl rfl)), .inr (.inr (.inr (fun _ _ _ _ h h0 => h0.step h))), .inr (.inr (.inl rfl)), trivial⟩,
      ⟨.inr (.inr (.inr (fun _ _ _ _ h h0 => h0.step h))), .inr (.inr (.inr (fun _ _ _ _ _ h => h))), .inr (.inr (.inr (fun _ _ _ _ _ h => h))), .inr (.inr (.inr (fun _ _ _ _ _ h => h))), .inr (.inr (.inr (fun _ _ _ _ _ h => h))), .inr (.inr (.inr (fun _ _ _ _ _ h => h))), .inr (.inr (.inr (fun _ _ _ _ _ h => h))), .inr (.inr (.inr (fun _ _ _ _ _ h => h))), .inr (.inr (.inr (fun _ _ _ _ h h0 => h0.step h))), .inl rfl, .inr (.inr (.inl rfl)), .inr (.inr (.inl rfl)), .inr (.inr (.inl rfl)), .inr (.inr (.inl rfl)), trivial⟩,
      ⟨.inr (.inr (.inr (fun _ _ _ _ h h0 => h0.step h))), .inr (.inr (.inr (fun _ _ _ _ _ h => h))), .inr (.inr (.inr (fun _ _ _ _ _ h => h))), .inr (.inr (.inr (fun _ _ _ _ _ h => h))), .inr (.inr (.inr (fun _ _ _ _ _ h => h))), .inr (.inr (.inr (fun _ _ _ _ _ h => h))), .inr (.inr (.inr (fun _ _ _ _ _ h => h))), .inr (.inr (.inr (fun _ _ _ _ _ h => h))), .inr (.inr (.inr (fun _ _ _ _ h h0 => h0.step h))), .inr (.inr (.inr (fun _ _ _ _ _ h => h))), .inl rfl, .inr (.inr (.inl rfl)), .inr (.inr (.inl rfl)), .inr (.inr (.inl rfl)), trivial⟩,
      ⟨.inr (.inr (.inr (fun _ _ _ _ h h0 => h0.step h))), .inr (.inr (.inr (fun _ _ _ _ _ h => h))), .inr (.inr (.inr (fun _ _ _ _ _ h => h))), .inr (.inr (.inr (fun _ _ _ _ _ h => h))), .inr (.inr (.inr (fun _ _ _ _ _ h => h))), .inr (.inr (.inr (fun _ _ _ _ _ h => h))), .inr (.inr (.inr (fun _ _ _ _ _ h => h))), .inr (.inr (.inr (fun _ _ _ _ _ h => h))), .inr (.inr (.inr (fun _ _ _ _ h h0 => h0.step h))), .inr (.inr (.inr (fun _ _ _ _ _ h => h))), .inr (.inr (.inr (fun _ _ _ _ _ h => h))), .inl rfl, .inr (.inr (.inl rfl)), .inr (.inr (.inl rfl)), trivial⟩,
      ⟨.inr (.inr (.inr (fun _ _ _ _ h h0 => by cases h; exact h0))), .inr (.inr (.inr (fun _ _ _ _ _ h => h))), .inr (.inr (.inr (fun _ _ _ _ _ h => h))), .inr (.inr (.inr (fun _ _ _ _ _ h => h))), .inr (.inr (.inr (fun _ _ _ _ _ h => h))), .inr (.inr (.inr (fun _ _ _ _ _ h => h))), .inr (.inr (.inr (fun _ _ _ _ _ h => h))), .inr (.inr (.inr (fun _ _ _ _ _ h => h))), .inr (.inr (.inr (fun _ _ _ _ h h0 => by cases h; exact h0))), .inr (.inr (.inr (fun _ _ _ _ _ h => h))), .inr (.inr (.inr (fun _ _ _ _ _ h => h))), .inr (.inr (.inr (fun _ _ _ _ h h0 => by cases h; exact h0))), .inl rfl, .inr (.inr (.inl rfl)), trivial⟩,
      ⟨.inr (.inl rfl), .inr (.inr (.inr (fun _ _ _ _ _ h => h))), .inr (.inr (.inr (fun _ _ _ _ _ h => h))), .inr (.inr (.inr (fun _ _ _ _ _ h => h))), .inr (.inr (.inr (fun _ _ _ _ _ h => h))), .inr (.inr (.inr (fun _ _ _ _ _ h => h))), .inr (.inr (.inr (fun _ _ _ _ _ h => h))), .inr (.inr (.inr (fun _ _ _ _ _ h => h))), .inr (.inr (.inr (fun _ _ _ _ h h0 => h0.wrote h (by omega)))), .inr (.inr (.inr (fun _ _ _ _ _ h => h))), .inr (.inr (.inr (fun _ _ _ _ _ h => h))), .inr (.inl rfl), .inr (.inl rfl), .inl rfl, trivial⟩, trivial⟩
  · refine ⟨?_, ?_, ?_, ?_, ?_, ?_, ?_, ?_, ?_, ?_, ?_, ?_, ?_, ?_, trivial⟩
    · -- 0: Op.buildSlice 49 4 #[(0, Operand.const (Value.string { data := #[99, 114, 118] })), (1, Operand.const (Value.s
      refine step_plain [] (fun _ => rfl) rfl ?_
      intro w1 vals hC1 hi0 hf E hE
      have hI1 : (fun u => Blk u (w.heap.size + 1) 55 (jvCells zJV)) w1 := hi0 false rfl
      try dsimp only at hI1
      have hJ1 : (fun u => w.heap.size + 2 ≤ u.heap.size) w1 := hi0 true rfl
      try dsimp only at hJ1
      clear hi0
      clear hf
      simp only [puts, act_put, act_put_none, List.setIfInBounds_toArray, List.set_cons_zero, List.set_cons_succ] at hE ⊢
      go_wp2
      exact .mk (hE _ _ ⟨_, rfl, Blk.new _ _ _, hJ1⟩ (hC1.alloc (Nat.le_of_succ_le hJ1) _) ((Below.refl _ _).alloc (Nat.le_refl _) _))
    · -- 1: Op.call { callee := Callee.value (Operand.func 27), args := #[Operand.const (Value.string { data := #[69, 100,
      refine step_plain [] (fun _ => rfl) rfl ?_
      intro w1 vals hC1 hi0 hf E hE
      have hI1 : (fun u => Blk u (w.heap.size + 1) 55 (jvCells zJV)) w1 := hi0 false rfl
      try dsimp only at hI1
      have hJ1 : (fun u => w.heap.size + 2 ≤ u.heap.size) w1 := hi0 true rfl
      try dsimp only at hJ1
      clear hi0
      clear hf
      simp only [puts, act_put, act_put_none, List.setIfInBounds_toArray, List.set_cons_zero, List.set_cons_succ] at hE ⊢
      go_wp2_with fail
      refine calls_then (HTX.out [69, 100, 50, 53, 53, 49, 57] _) ?_
      rintro e w2 ⟨rfl, hb2⟩
      go_wp2_with fail
      exact .mk (hE _ _ rfl (hC1.trans (hb2.mono (Nat.le_of_succ_le hJ1))) hb2)
    · -- 2: Op.fieldAddr 39 (Operand.tmp 1) 0
      refine step_plain [] (fun _ => rfl) rfl ?_
      intro w1 vals hC1 hi0 hf E hE
      have hI1 : (fun u => Blk u (w.heap.size + 1) 55 (jvCells zJV)) w1 := hi0 false rfl
      try dsimp only at hI1
      have hJ1 : (fun u => w.heap.size + 2 ≤ u.heap.size) w1 := hi0 true rfl
      try dsimp only at hJ1
      clear hi0
      clear hf
      simp only [puts, act_put, act_put_none, List.setIfInBounds_toArray, List.set_cons_zero, List.set_cons_succ] at hE ⊢
      go_wp2
      exact .mk (hE _ _ rfl hC1 rfl)
    · -- 3: Op.load 9 (Operand.tmp 5)
      refine step_plain [(2, some 5)] (fun _ => rfl) rfl ?_
      intro w1 vals hC1 hi0 hf E hE
      have hI1 : (fun u => Blk u (w.heap.size + 1) 55 (jvCells zJV)) w1 := hi0 false rfl
      try dsimp only at hI1
      have hJ1 : (fun u => w.heap.size + 2 ≤ u.heap.size) w1 := hi0 true rfl
      try dsimp only at hJ1
      clear hi0
      have f2 : vals 2 = .pointer (some ⟨w.heap.size, 0, none⟩) := hf 2 rfl
      try dsimp only at f2
      clear hf
      simp only [puts, act_put, act_put_none, List.setIfInBounds_toArray, List.set_cons_zero, List.set_cons_succ, f2] at hE ⊢
      clear f2
      have d0 := (HK1.out.below hC1 (Nat.lt_succ_self _)).cell 0
      simp only [kCell, List.getElem?_toArray, List.getElem?_cons_zero] at d0
      go_wp2
      exact .mk (hE _ _ rfl hC1 rfl)
    · -- 4: Op.call { callee := Callee.value (Operand.func 27), args := #[Operand.tmp 6], argTypes := #[9] }
      refine step_plain [(3, some 6), (1, some 4)] (fun _ => rfl) rfl ?_
      intro w1 vals hC1 hi0 hf E hE
      have hI1 : (fun u => Blk u (w.heap.size + 1) 55 (jvCells zJV)) w1 := hi0 false rfl
      try dsimp only at hI1
      have hJ1 : (fun u => w.heap.size + 2 ≤ u.heap.size) w1 := hi0 true rfl
      try dsimp only at hJ1
      clear hi0
      have f1 : vals 1 = .agg (jvCells (flatV 3 0 [69, 100, 50, 53, 53, 49, 57])) := hf 1 rfl
      have f3 : vals 3 = .string (bs kid) := hf 3 rfl
      try dsimp only at f1 f3
      clear hf
      simp only [puts, act_put, act_put_none, List.setIfInBounds_toArray, List.set_cons_zero, List.set_cons_succ, f1, f3] at hE ⊢
      clear f1 f3
      go_wp2_with fail
      refine calls_then (HTX.out kid _) ?_
      rintro e w2 ⟨rfl, hb2⟩
      go_wp2_with fail
      exact .mk (hE _ _ rfl (hC1.trans (hb2.mono (Nat.le_of_succ_le hJ1))) hb2)
    · -- 5: Op.call { callee := Callee.value (Operand.func 27), args := #[Operand.const (Value.string { data := #[79, 75, 
      refine step_plain [(4, some 7)] (fun _ => rfl) rfl ?_
      intro w1 vals hC1 hi0 hf E hE
      have hI1 : (fun u => Blk u (w.heap.size + 1) 55 (jvCells zJV)) w1 := hi0 false rfl
      try dsimp only at hI1
      have hJ1 : (fun u => w.heap.size + 2 ≤ u.heap.size) w1 := hi0 true rfl
      try dsimp only at hJ1
      clear hi0
      have f4 : vals 4 = .agg (jvCells (flatV 3 0 kid)) := hf 4 rfl
      try dsimp only at f4
      clear hf
      simp only [puts, act_put, act_put_none, List.setIfInBounds_toArray, List.set_cons_zero, List.set_cons_succ, f4] at hE ⊢
      clear f4
      go_wp2_with fail
      refine calls_then (HTX.out [79, 75, 80] _) ?_
      rintro e w2 ⟨rfl, hb2⟩
      go_wp2_with fail
      exact .mk (hE _ _ rfl (hC1.trans (hb2.mono (Nat.le_of_succ_le hJ1))) hb2)
    · -- 6: Op.fieldAddr 39 (Operand.tmp 1) 1
      refine step_plain [] (fun _ => rfl) rfl ?_
      intro w1 vals hC1 hi0 hf E hE
      have hI1 : (fun u => Blk u (w.heap.size + 1) 55 (jvCells zJV)) w1 := hi0 false rfl
      try dsimp only at hI1
      have hJ1 : (fun u => w.heap.size + 2 ≤ u.heap.size) w1 := hi0 true rfl
      try dsimp only at hJ1
      clear hi0
      clear hf
      simp only [puts, act_put, act_put_none, List.setIfInBounds_toArray, List.set_cons_zero, List.set_cons_succ] at hE ⊢
      go_wp2
      exact .mk (hE _ _ rfl hC1 rfl)
    · -- 7: Op.load 9 (Operand.tmp 9)
      refine step_plain [(6, some 9)] (fun _ => rfl) rfl ?_
      intro w1 vals hC1 hi0 hf E hE
      have hI1 : (fun u => Blk u (w.heap.size + 1) 55 (jvCells zJV)) w1 := hi0 false rfl
      try dsimp only at hI1
      have hJ1 : (fun u => w.heap.size + 2 ≤ u.heap.size) w1 := hi0 true rfl
      try dsimp only at hJ1
      clear hi0
      have f6 : vals 6 = .pointer (some ⟨w.heap.size, 1, none⟩) := hf 6 rfl
      try dsimp only at f6
      clear hf
      simp only [puts, act_put, act_put_none, List.setIfInBounds_toArray, List.set_cons_zero, List.set_cons_succ, f6] at hE ⊢
      clear f6
      have d0 := (HK1.out.below hC1 (Nat.lt_succ_self _)).cell 1
      simp only [kCell, List.getElem?_toArray, List.getElem?_cons_zero, List.getElem?_cons_succ] at d0
      go_wp2
      exact .mk (hE _ _ rfl hC1 rfl)
    · -- 8: Op.convert 9 42 (Operand.tmp 10)
      refine step_plain [(7, some 10)] (fun _ => rfl) rfl ?_
      intro w1 vals hC1 hi0 hf E hE
      have hI1 : (fun u => Blk u (w.heap.size + 1) 55 (jvCells zJV)) w1 := hi0 false rfl
      try dsimp only at hI1
      have hJ1 : (fun u => w.heap.size + 2 ≤ u.heap.size) w1 := hi0 true rfl
      try dsimp only at hJ1
      clear hi0
      have f7 : vals 7 = .string (bs x) := hf 7 rfl
      try dsimp only at f7
      clear hf
      simp only [puts, act_put, act_put_none, List.setIfInBounds_toArray, List.set_cons_zero, List.set_cons_succ, f7] at hE ⊢
      clear f7
      refine wpList_bytes_cap (s := bs x) hus hub8 hu8 rfl rfl rfl (by rw [HS32.out]; decide) ?_
      intro c7 w7 hr7 hc7 hm7 hb7
      rw [HS32.out] at hc7 ⊢
      go_wp2_with fail
      exact .mk (hE _ _ ⟨_, c7, rfl, hc7, hm7, hJ1, hr7⟩ (hC1.trans (hb7.mono (Nat.le_of_succ_le hJ1))) hb7)
    · -- 9: Op.call { callee := Callee.value (Operand.func 35), args := #[Operand.tmp 11], argTypes := #[42] }
      refine step_plain [(8, some 11), (5, some 8)] (fun _ => rfl) rfl ?_
      intro w1 vals hC1 hi0 hf E hE
      have hI1 : (fun u => Blk u (w.heap.size + 1) 55 (jvCells zJV)) w1 := hi0 false rfl
      try dsimp only at hI1
      have hJ1 : (fun u => w.heap.size + 2 ≤ u.heap.size) w1 := hi0 true rfl
      try dsimp only at hJ1
      clear hi0
      have f5 : vals 5 = .agg (jvCells (flatV 3 0 [79, 75, 80])) := hf 5 rfl
      have f8 : (fun v u => BytFrom u (w.heap.size + 2) 32 x v) (vals 8) w1 := hf 8 rfl
      try dsimp only at f5 f8
      clear hf
      obtain ⟨g9, c9, hx9, hc9, hm9, hl9, hr9⟩ := f8
      simp only [puts, act_put, act_put_none, List.setIfInBounds_toArray, List.set_cons_zero, List.set_cons_succ, f5, hx9] at hE ⊢
      clear f5
      clear hx9
      go_wp2_with fail
      refine calls_then (HEN.out _ _ c9 hr9 hc9) ?_
      rintro e w2 ⟨rfl, hb2⟩
      go_wp2_with fail
      exact .mk (hE _ _ rfl (hC1.trans (hb2.mono (Nat.le_of_succ_le hJ1))) hb2)
    · -- 10: Op.call { callee := Callee.value (Operand.func 27), args := #[Operand.tmp 12], argTypes := #[9] }
      refine step_plain [(9, some 12), (9, some 12)] (fun _ => rfl) rfl ?_
      intro w1 vals hC1 hi0 hf E hE
      have hI1 : (fun u => Blk u (w.heap.size + 1) 55 (jvCells zJV)) w1 := hi0 false rfl
      try dsimp only at hI1
      have hJ1 : (fun u => w.heap.size + 2 ≤ u.heap.size) w1 := hi0 true rfl
      try dsimp only at hJ1
      clear hi0
      have f9 : vals 9 = .string (bs (enc x)) := hf 9 rfl
      try dsimp only at f9
      clear hf
      simp only [puts, act_put, act_put_none, List.setIfInBounds_toArray, List.set_cons_zero, List.set_cons_succ, f9] at hE ⊢
      clear f9
      go_wp2_with fail
      refine calls_then (HTX.out (enc x) _) ?_
      rintro e w2 ⟨rfl, hb2⟩
      go_wp2_with fail
      exact .mk (hE _ _ rfl (hC1.trans (hb2.mono (Nat.le_of_succ_le hJ1))) hb2)
    · -- 11: Op.buildSlice 53 4 #[(0, Operand.tmp 4), (1, Operand.tmp 7), (2, Operand.tmp 8), (3, Operand.tmp 13)]
      refine step_plain [(1, some 4), (4, some 7), (5, some 8), (10, some 13)] (fun _ => rfl) rfl ?_
      intro w1 vals hC1 hi0 hf E hE
      have hI1 : (fun u => Blk u (w.heap.size + 1) 55 (jvCells zJV)) w1 := hi0 false rfl
      try dsimp only at hI1
      have hJ1 : (fun u => w.heap.size + 2 ≤ u.heap.size) w1 := hi0 true rfl
      try dsimp only at hJ1
      clear hi0
      have f1 : vals 1 = .agg (jvCells (flatV 3 0 [69, 100, 50, 53, 53, 49, 57])) := hf 1 rfl
      have f4 : vals 4 = .agg (jvCells (flatV 3 0 kid)) := hf 4 rfl
      have f5 : vals 5 = .agg (jvCells (flatV 3 0 [79, 75, 80])) := hf 5 rfl
      have f10 : vals 10 = .agg (jvCells (flatV 3 0 (enc x))) := hf 10 rfl
      try dsimp only at f1 f4 f5 f10
      clear hf
      simp only [puts, act_put, act_put_none, List.setIfInBounds_toArray, List.set_cons_zero, List.set_cons_succ, f1, f4, f5, f10] at hE ⊢
      clear f1 f4 f5 f10
      unfold jvCells flatV
      go_wp2
      exact .mk (hE _ _ ⟨_, rfl, Blk.new _ _ _, hJ1⟩ (hC1.alloc (Nat.le_of_succ_le hJ1) _) ((Below.refl _ _).alloc (Nat.le_refl _) _))
    · -- 12: Op.build 55 #[(0, Operand.const (Value.int IntKind.i64 5)), (3, Operand.tmp 3), (4, Operand.tmp 14)]
      refine step_plain [(0, some 3), (11, some 14)] (fun _ => rfl) rfl ?_
      intro w1 vals hC1 hi0 hf E hE
      have hI1 : (fun u => Blk u (w.heap.size + 1) 55 (jvCells zJV)) w1 := hi0 false rfl
      try dsimp only at hI1
      have hJ1 : (fun u => w.heap.size + 2 ≤ u.heap.size) w1 := hi0 true rfl
      try dsimp only at hJ1
      clear hi0
      have f0 : (fun v u => RowFrom u (w.heap.size + 2) 9 4 [.string (bs [99, 114, 118]), .string (bs [107, 105, 100]), .string (bs [107, 116, 121]), .string (bs [120])] v) (vals 0) w1 := hf 0 rfl
      have f11 : (fun v u => RowFrom u (w.heap.size + 2) 55 4 (rowsV jvCells [flatV 3 0 [69, 100, 50, 53, 53, 49, 57], flatV 3 0 kid, flatV 3 0 [79, 75, 80], flatV 3 0 (enc x)]) v) (vals 11) w1 := hf 11 rfl
      try dsimp only at f0 f11
      clear hf
      obtain ⟨g0, hx0, hg0, hl0⟩ := f0
      obtain ⟨g1, hx1, hg1, hl1⟩ := f11
      simp only [puts, act_put, act_put_none, List.setIfInBounds_toArray, List.set_cons_zero, List.set_cons_succ, hx0, hx1] at hE ⊢
      clear hx0 hx1
      go_wp2
      exact .mk (hE _ _ ⟨_, rfl, key_rep kid x hg0 hg1 hl0 hl1⟩ hC1 rfl)
    · -- 13: Op.store 55 (Operand.tmp 2) (Operand.tmp 15)
      refine step_plain [(12, some 15), (10, some 13), (0, some 3), (1, some 4), (2, some 5), (3, some 6), (4, some 7), (5, some 8), (6, some 9), (7, some 10), (8, some 11), (9, some 12), (10, some 13), (11, some 14), (12, some 15)] (fun _ => rfl) rfl ?_
      intro w1 vals hC1 hi0 hf E hE
      have hI1 : (fun u => Blk u (w.heap.size + 1) 55 (jvCells zJV)) w1 := hi0 false rfl
      try dsimp only at hI1
      have hJ1 : (fun u => w.heap.size + 2 ≤ u.heap.size) w1 := hi0 true rfl
      try dsimp only at hJ1
      clear hi0
      have f0 : (fun v u => RowFrom u (w.heap.size + 2) 9 4 [.string (bs [99, 114, 118]), .string (bs [107, 105, 100]), .string (bs [107, 116, 121]), .string (bs [120])] v) (vals 0) w1 := hf 0 rfl
      have f1 : vals 1 = .agg (jvCells (flatV 3 0 [69, 100, 50, 53, 53, 49, 57])) := hf 1 rfl
      have f2 : vals 2 = .pointer (some ⟨w.heap.size, 0, none⟩) := hf 2 rfl
      have f3 : vals 3 = .string (bs kid) := hf 3 rfl
      have f4 : vals 4 = .agg (jvCells (flatV 3 0 kid)) := hf 4 rfl
      have f5 : vals 5 = .agg (jvCells (flatV 3 0 [79, 75, 80])) := hf 5 rfl
      have f6 : vals 6 = .pointer (some ⟨w.heap.size, 1, none⟩) := hf 6 rfl
      have f7 : vals 7 = .string (bs x) := hf 7 rfl
      have f8 : (fun v u => BytFrom u (w.heap.size + 2) 32 x v) (vals 8) w1 := hf 8 rfl
      have f9 : vals 9 = .string (bs (enc x)) := hf 9 rfl
      have f10 : vals 10 = .agg (jvCells (flatV 3 0 (enc x))) := hf 10 rfl
      have f11 : (fun v u => RowFrom u (w.heap.size + 2) 55 4 (rowsV jvCells [flatV 3 0 [69, 100, 50, 53, 53, 49, 57], flatV 3 0 kid, flatV 3 0 [79, 75, 80], flatV 3 0 (enc x)]) v) (vals 11) w1 := hf 11 rfl
      have f12 : (fun v u => RepFrom u (w.heap.size + 2) (keyJ (kid, x)) v) (vals 12) w1 := hf 12 rfl
      try dsimp only at f0 f1 f2 f3 f4 f5 f6 f7 f8 f9 f10 f11 f12
      clear hf
      obtain ⟨jv, hx1, hj1⟩ := f12
      have HJJ := Lib.hid hj1
      have HII := Lib.hid hI1
      have HCC := Lib.hid hC1
      clear hj1 hI1 hC1
      simp only [puts, act_put, act_put_none, List.setIfInBounds_toArray, List.set_cons_zero, List.set_cons_succ, f1, f2, f3, f4, f5, f6, f7, f9, f10, hx1] at hE ⊢
      clear f1 f2 f3 f4 f5 f6 f7 f9 f10
      clear hx1
      go_wp2_with (refine wpList_put_box (cells := jvCells jv) HII.out rfl rfl rfl rfl jT_size4 rfl (jvCells_one _) ?_; intro w5 hb5 hw5)
      exact .mk (hE undef _ ⟨jv, hb5, HJJ.out.heap fun b hlt hl => hw5.grown.block b hlt (by intro h; injection h with h; omega)⟩ (hw5.below HCC.out (Nat.le_refl _) (Nat.le_of_succ_le hJ1)) hw5)
  intro w1 vals hC1 hf
  have f1 : vals 1 = .agg (jvCells (flatV 3 0 [69, 100, 50, 53, 53, 49, 57])) := hf 1 (by decide) rfl
  have f2 : vals 2 = .pointer (some ⟨w.heap.size, 0, none⟩) := hf 2 (by decide) rfl
  have f3 : vals 3 = .string (bs kid) := hf 3 (by decide) rfl
  have f4 : vals 4 = .agg (jvCells (flatV 3 0 kid)) := hf 4 (by decide) rfl
  have f5 : vals 5 = .agg (jvCells (flatV 3 0 [79, 75, 80])) := hf 5 (by decide) rfl
  have f6 : vals 6 = .pointer (some ⟨w.heap.size, 1, none⟩) := hf 6 (by decide) rfl
  have f7 : vals 7 = .string (bs x) := hf 7 (by decide) rfl
  have f8 : (fun v u => BytFrom u (w.heap.size + 2) 32 x v) (vals 8) w1 := hf 8 (by decide) rfl
  have f9 : vals 9 = .string (bs (enc x)) := hf 9 (by decide) rfl
  have f10 : vals 10 = .agg (jvCells (flatV 3 0 (enc x))) := hf 10 (by decide) rfl
  have f13 : (fun z u => ∃ jv, Blk u (w.heap.size + 1) 55 (jvCells jv) ∧ JRep u (fun b => w.heap.size + 2 ≤ b) (keyJ (kid, x)) jv) vals w1 := hf 13 (by decide) rfl
  try dsimp only at f1 f2 f3 f4 f5 f6 f7 f8 f9 f10 f13
  clear hf
  simp only [puts, act_put, act_put_none, List.setIfInBounds_toArray, List.set_cons_zero, List.set_cons_succ, f1, f2, f3, f4, f5, f6, f7, f9, f10]
  clear f1 f2 f3 f4 f5 f6 f7 f9 f10
  generalize vals 0 = x0 at *
  generalize vals 8 = x8 at *
  generalize vals 11 = x11 at *
  generalize vals 12 = x12 at *
  obtain ⟨jv, hb13, hj13⟩ := f13
  have HB13 := Lib.hid hb13
  have HJ13 := Lib.hid hj13
  have HB14 := Lib.hid (HB1.out.trans (hC1.mono (Nat.le_succ _)))
  clear hb13 hj13 hC1 HC0 HI0 HJ0
  go_wp2_with fail
  refine bodyPost_ret (results_box (P := Tryz.prog) rfl rfl HB13.out hu rfl jT_size4) rfl ?_
  exact ⟨jv, rfl, HJ13.out.imp fun b _ hb => by omega, HB14.out⟩
end Go.Proofs.YtoihgnkhalhocaaGreatDoor.Js
/-
  Plain: which bundles may be; their texts.
-/
namespace Go.Proofs.YtoihgnkhalhocaaGreatDoor.Js
set_option linter.unusedSimpArgs false
set_option linter.unusedVariables false
theorem digB_len : ∀ f n : Nat, (digB f n).length ≤ f
  | 0, n => by simp [digB]
  | f + 1, n => by
    unfold digB
    split
    · simp
    · have := digB_len f (n / 10)
      simp
      omega
theorem intB_len (n : Int) : (intB n).length ≤ 17 := by
  unfold intB
  have := digB_len 16 n.natAbs
  split
  · simp; omega
  · omega
theorem hexB_plain : ∀ x : Fin 256, (hexB x.1).all plainC = true := by decide +kernel
theorem nameL_plain (x : Bs) : (nameL x).all plainC = true := by
  unfold nameL _root_.Go.Proofs.YtoihgnkhalhocaaGreatDoor.nameK
  rw [List.all_eq_true]
  intro c hc
  obtain ⟨b, _, hb⟩ := List.mem_flatMap.1 hc
  have h := hexB_plain ⟨b.toNat, b.toNat_lt⟩
  rw [List.all_eq_true] at h
  exact h c hb
theorem nameL_len (x : Bs) : (nameL x).length = 8 := by
  unfold nameL
  rw [nameK_length (by rw [digS32_len2]; omega)]
theorem keysOk_all : ∀ (seen : List Bs) (ks : List (Bs × Bs)), keysOk seen ks = true → ∀ k ∈ ks, k.2.length = 32 ∧ k.1 = nameL k.2
  | _, [], _, k, hk => by cases hk
  | seen, x :: r, h, k, hk => by
    unfold keysOk at h
    simp only [Bool.and_eq_true, decide_eq_true_eq] at h
    rcases List.mem_cons.1 hk with rfl | hk
    · exact ⟨h.1.1.1, h.1.1.2⟩
    · exact keysOk_all _ r h.2 k hk
theorem innerZ_plain : ∀ x : Fin 256, innerZ ((x.1 : Nat) : Int) = true → plainC (UInt8.ofNat x.1) = true := by decide +kernel
theorem domB_plain {s : Bs} (h : domB s = true) : s.all plainC = true ∧ s.length ≤ 16 := by
  unfold domB at h
  simp only [Bool.and_eq_true, decide_eq_true_eq] at h
  refine ⟨?_, h.1⟩
  have h1 := h.2.1
  unfold allD at h1
  simp only [Bool.and_eq_true] at h1
  rw [List.all_eq_true] at h1 ⊢
  intro c hc
  have h2 := innerZ_plain ⟨c.toNat, c.toNat_lt⟩ (h1.1 c hc)
  simpa using h2
theorem mayB_parts {b : BD} (h : mayB b.dom b.num b.keys = true) : PlainB b ∧ (∀ k ∈ b.keys, k.2.length = 32 ∧ k.1 = nameL k.2) := by
  unfold mayB headOk at h
  simp only [Bool.and_eq_true, decide_eq_true_eq] at h
  obtain ⟨⟨⟨⟨h1, h2⟩, h3⟩, h4⟩, h5⟩ := h
  obtain ⟨p1, p2⟩ := domB_plain h1
  have hk := keysOk_all _ _ h5
  exact ⟨⟨p1, p2, h2, h3, h4, fun k hm => by rw [(hk k hm).2]; exact ⟨nameL_plain _, by rw [nameL_len]; exact Nat.le_refl _⟩, fun k hm => by rw [(hk k hm).1]; exact Nat.le_refl _⟩, hk⟩
def keyT (k : Bs × Bs) : Bs := [123, 34, 99, 114, 118, 34, 58, 34, 69, 100, 50, 53, 53, 49, 57, 34, 44, 34, 107, 105, 100, 34, 58, 34] ++ (k.1 ++ ([34, 44, 34, 107, 116, 121, 34, 58, 34, 79, 75, 80, 34, 44, 34, 120, 34, 58, 34] ++ (enc k.2 ++ [34, 125])))
theorem key_text {k : Bs × Bs} (h : k.1.all plainC = true) : writeV (keyJ k) = keyT k := by
  have e1 := quote_plain h
  have e2 := quote_plain (enc_plain k.2)
  have e3 : quote [99, 114, 118] = [34, 99, 114, 118, 34] := by decide +kernel
  have e4 : quote [107, 105, 100] = [34, 107, 105, 100, 34] := by decide +kernel
  have e5 : quote [107, 116, 121] = [34, 107, 116, 121, 34] := by decide +kernel
  have e6 : quote [120] = [34, 120, 34] := by decide +kernel
  have e7 : quote [69, 100, 50, 53, 53, 49, 57] = [34, 69, 100, 50, 53, 53, 49, 57, 34] := by decide +kernel
  have e8 : quote [79, 75, 80] = [34, 79, 75, 80, 34] := by decide +kernel
  simp [keyJ, jtext, writeV, itemsV, keyT, e1, e2, e3, e4, e5, e6, e7, e8]
def keysT : List (Bs × Bs) → Bool → Bs
  | [], _ => []
  | k :: r, f => (if f then [] else [44]) ++ (keyT k ++ keysT r false)
theorem keys_text : ∀ (ks : List (Bs × Bs)) (f : Bool), (∀ k ∈ ks, k.1.all plainC = true) → itemsV false [] (ks.map keyJ) f = keysT ks f
  | [], f, _ => by simp [itemsV, keysT]
  | k :: r, f, h => by
    have h1 := key_text (h k List.mem_cons_self)
    have h2 := keys_text r false (fun x hx => h x (List.mem_cons_of_mem _ hx))
    simp [itemsV, keysT, h1, h2]
def bundleT (b : BD) : Bs := [123, 34, 100, 111, 109, 97, 105, 110, 34, 58, 34] ++ (b.dom ++ ([34, 44, 34, 107, 101, 121, 115, 34, 58, 91] ++ (keysT b.keys true ++ ([93, 44, 34, 110, 117, 109, 98, 101, 114, 34, 58] ++ (intB b.num ++ [125])))))
theorem bundle_text {b : BD} (h : PlainB b) : writeV (bundleJ b) = bundleT b := by
  have e1 := quote_plain h.dom
  have e2 := keys_text b.keys true (fun k hk => (h.kid k hk).1)
  have e3 : quote [100, 111, 109, 97, 105, 110] = [34, 100, 111, 109, 97, 105, 110, 34] := by decide +kernel
  have e4 : quote [107, 101, 121, 115] = [34, 107, 101, 121, 115, 34] := by decide +kernel
  have e5 : quote [110, 117, 109, 98, 101, 114] = [34, 110, 117, 109, 98, 101, 114, 34] := by decide +kernel
  simp [bundleJ, jtext, jint, writeV, itemsV, bundleT, e1, e2, e3, e4, e5]
theorem keysT_len : ∀ (ks : List (Bs × Bs)) (f : Bool), (∀ k ∈ ks, k.1.length ≤ 8 ∧ k.2.length ≤ 32) → (keysT ks f).length ≤ ks.length * 130
  | [], f, _ => by simp [keysT]
  | k :: r, f, h => by
    have h1 := h k List.mem_cons_self
    have h2 := keysT_len r false (fun x hx => h x (List.mem_cons_of_mem _ hx))
    have h3 : (enc k.2).length ≤ 2 * k.2.length + 1 := encS_len k.2 0 0 (by omega)
    have h4 : (if f = true then ([] : Bs) else [44]).length ≤ 1 := by cases f <;> simp
    simp only [keysT, keyT, List.length_append, List.length_cons, List.length_nil]
    omega
theorem bundle_len {b : BD} (h : PlainB b) : (writeV (bundleJ b)).length ≤ 2000 := by
  rw [bundle_text h]
  have h1 := keysT_len b.keys true (fun k hk => ⟨(h.kid k hk).2, h.x k hk⟩)
  have h2 := h.kn
  have h3 := h.dlen
  have h4 := intB_len b.num
  simp only [bundleT, List.length_append, List.length_cons, List.length_nil]
  omega
theorem wrE_may {b : BD} (h : PlainB b) : wrE (bundleJ b) = (writeV (bundleJ b), 0) := by
  unfold wrE
  rw [bundleJ_right h, if_neg (by simp), if_neg (by have := bundle_len h; omega)]
theorem bundle_inj {a b : BD} (ha : mayB a.dom a.num a.keys = true) (hb : mayB b.dom b.num b.keys = true) (h : writeV (bundleJ a) = writeV (bundleJ b)) : a = b := by
  obtain ⟨pa, ka⟩ := mayB_parts ha
  obtain ⟨pb, kb⟩ := mayB_parts hb
  have h1 := readP_write _ (bundleJ_right pa) (bundle_len pa)
  rw [h, readP_write _ (bundleJ_right pb) (bundle_len pb)] at h1
  injection h1 with h1
  exact (bundleJ_inj (fun k hk => (kb k hk).1) (fun k hk => (ka k hk).1) h1).symm
end Go.Proofs.YtoihgnkhalhocaaGreatDoor.Js
/-
  Walk: jwk.Write, at any bundle.
-/
namespace Go.Proofs.YtoihgnkhalhocaaGreatDoor.Js
set_option linter.unusedSimpArgs false
set_option linter.unusedVariables false
open Go.RowKit
theorem grown_of_below4 {w w1 : World} (h : Below w.heap.size w w1) (r : Option Nat) : w.grownBy w1 r := ⟨h.os, h.tape, h.output, h.size, fun k hk _ => h.block k hk⟩
def KQ (K : Nat) (V : Value) (b : Nat) : Prop := K + 1 ≤ b ∧ V.ownBlock ≠ some b
structure Kb (w0 : World) (L K : Nat) (T : JV) (A2 : Option Addr) (c2 : Nat) (ks : List JT) (u : World) : Prop where
  low : Below L w0 u
  hL : L ≤ K
  tree : Blk u K 55 (jvCells T)
  kids : ∃ kv : List JV, kv.length = ks.length ∧ OwnR u (K + 1) 55 5 A2 c2 ks.length (rowsV jvCells kv) ∧
    ∀ i (h : i < ks.length) (h' : i < kv.length), JRep u (KQ K (.slice A2 ks.length c2)) ks[i] kv[i]
section
variable {w0 : World} {L K : Nat} {T : JV} {A2 : Option Addr} {c2 : Nat} {ks : List JT} {u u' : World}
theorem Kb.size (h : Kb w0 L K T A2 c2 ks u) : K + 1 ≤ u.heap.size := h.tree.lt
theorem Kb.new (h : Kb w0 L K T A2 c2 ks u) (hb : Below u.heap.size u u') : Kb w0 L K T A2 c2 ks u' := by
  obtain ⟨kv, h1, h2, h3⟩ := h.kids
  have := h.size
  have := h.hL
  exact ⟨h.low.trans (hb.mono (by omega)), h.hL, h.tree.below hb h.tree.lt, kv, h1, h2.below hb, fun i hi hi' => (h3 i hi hi').heap fun b hlt _ => hb.block b hlt⟩
theorem Kb.put {T' : JV} (h : Kb w0 L K T A2 c2 ks u) (hw : Wrote K u u') (ht : Blk u' K 55 (jvCells T')) : Kb w0 L K T' A2 c2 ks u' := by
  obtain ⟨kv, h1, h2, h3⟩ := h.kids
  have hk : ∀ b, b < u.heap.size → K + 1 ≤ b → u'.heap[b]? = u.heap[b]? := fun b hb hl => hw.grown.block b hb (by intro h; injection h with h; omega)
  have hlt : ∀ {k cs t}, u.heap[k]? = some (.cells cs t (0, 0)) → k < u.heap.size := fun hq => (Array.getElem?_eq_some_iff.1 hq).1
  exact ⟨hw.below h.low h.hL (by have := h.size; have := h.hL; omega), h.hL, ht, kv, h1, h2.heap fun k cs hq hl => (hk k (hlt hq) hl).trans hq, fun i hi hi' => (h3 i hi hi').heap fun b hb hs => hk b hb hs.1⟩
theorem Kb.kid {k : JT} {v : JV} {A' : Option Addr} {c' : Nat} (h : Kb w0 L K T A2 c2 ks u) (hv : JRep u (KQ K (.slice A2 ks.length c2)) k v)
    {kv : List JV} (h1 : kv.length = ks.length) (h2 : OwnR u (K + 1) 55 5 A2 c2 ks.length (rowsV jvCells kv)) (h3 : ∀ i (h : i < ks.length) (h' : i < kv.length), JRep u (KQ K (.slice A2 ks.length c2)) ks[i] kv[i])
    (ho : OwnR u' (K + 1) 55 5 A' c' (ks.length + 1) (rowsV jvCells kv ++ (jvCells v).toList)) (hg : u.grownBy u' (Value.slice A2 ks.length c2).ownBlock)
    (hn : Next u (.slice A2 ks.length c2) (.slice A' (ks.length + 1) c')) : Kb w0 L K T A' c' (ks ++ [k]) u' := by
  have hs := h.size
  have hl := h.hL
  have hS : ∀ b, b < u.heap.size → KQ K (.slice A2 ks.length c2) b → KQ K (.slice A2 ks.length c2) b ∧ KQ K (.slice A' (ks ++ [k]).length c') b := fun b hb hs => ⟨hs, hs.1, fun he => by
      rw [List.length_append] at he
      rcases hn with hn | hn
      · exact hs.2 (hn.symm.trans he)
      · have := hn b he
        omega⟩
  have hstep : ∀ j x, JRep u (KQ K (.slice A2 ks.length c2)) j x → JRep u' (KQ K (.slice A' (ks ++ [k]).length c')) j x := fun j x hj =>
    ((hj.imp hS).grown hg (fun b hb he => hb.1.2 he.symm)).imp fun b _ hs => hs.2
  refine ⟨h.low.grown hg (by omega) (fun k hk => by have := (h2.lt k hk).1; omega), h.hL, h.tree.grown hg (fun he => by have := (h2.lt K he.symm).1; omega), kv ++ [v], by simp [h1], by rw [rowsV_append, rowsV_one, List.length_append]; exact ho, fun i hi hi' => ?_⟩
  by_cases hl : i < ks.length
  · rw [List.getElem_append_left hl, List.getElem_append_left (by omega)]
    exact hstep _ _ (h3 i hl (by omega))
  · have e1 : i = ks.length := by simp at hi; omega
    subst e1
    rw [List.getElem_append_right (Nat.le_refl _), List.getElem_append_right (by omega)]
    simp only [Nat.sub_self, h1, List.getElem_cons_zero]
    exact hstep _ _ hv
theorem Kb.rep (h : Kb w0 L K T A2 c2 ks u) : JRep u (fun b => K + 1 ≤ b) (.mk 4 0 [] [] ks) ⟨4, 0, [], none, 0, 0, A2, ks.length, c2⟩ := by
  obtain ⟨kv, h1, h2, h3⟩ := h.kids
  exact .mk ⟨4, 0, [], none, 0, 0, A2, ks.length, c2⟩ [] ks kv rfl (Nat.le_refl _) (RdS.nil _ _ _) rfl h2.cap h1 (ownR_rds2 h2)
    (fun i hi hi' => (h3 i hi hi').imp fun b _ hs => hs.1)
end
def kidsV (A2 : Option Addr) (n c2 : Nat) : JV := ⟨4, 0, [], none, 0, 0, A2, n, c2⟩
theorem sl_jsons4 : SlT Tryz.prog 53 55 5 80 := SlT.mk1 (z := .agg #[.int .i64 0, .int .i64 0, .string ⟨#[]⟩, .slice none 0 0, .slice none 0 0]) Tryz.underlying53 (by kernel_rfl) rfl (by decide)
def wrB (D : Bs) (num : Int) (ks : List (Bs × Bs)) : Bs × Int := if mayB D num ks then (writeV (bundleJ ⟨D, num, ks⟩), 0) else ([], 1)
set_option maxRecDepth 100000 in
set_option maxHeartbeats 8000000 in
theorem jwkwrite_any (D : Bs) (num : Int) (ks : List (Bs × Bs)) (A : Option Addr) (c B : Nat) (w : World) (hr : Rd w B A (rowsV kCell ks)) (hB : B ≤ w.heap.size) (hD : ((bs D).size : Int) ≤ 100000000) (hl : (ks.length : Int) ≤ 9223372036854775807)
    (hk : ∀ k ∈ ks, (k.2.length : Int) ≤ 9223372036854775807) (hG : Sh.TabG w) :
    Calls Tryz.prog 16 #[.agg (bC D num A ks.length c)] w fun e w' => e = .returned (.tuple #[.string (bs (wrB D num ks).1), .int .i64 (wrB D num ks).2]) ∧ Below w.heap.size w w' := by
  have hu := Tryz.underlying55
  have hub := Tryz.underlying25
  have huj := Tryz.underlying39
  obtain ⟨W0, hW0⟩ : ∃ W0, W0 = w.alloc (.cells (bC D num A ks.length c) 25) := ⟨_, rfl⟩
  have hb0 : Below w.heap.size w W0 := by rw [hW0]; exact (Below.refl _ w).alloc (Nat.le_refl _) _
  have HB0 := Lib.hid hb0
  have HK := Lib.hid (show Blk W0 w.heap.size 25 (bC D num A ks.length c) by rw [hW0]; exact Blk.new _ _ _)
  have HS0 := Lib.hid (show W0.heap.size = w.heap.size + 1 by rw [hW0]; simp)
  have HW0 := Lib.hid hW0
  have C := Lib.hid (may_any D num ks A c B W0 (hr.below (hb0.mono hB)) (Nat.le_trans hB hb0.size) hD hl hk (hG.below hb0 hG.size))
  have HR := Lib.hid (hr.below (hb0.mono hB))
  have HBB := Lib.hid hB
  have HMB := Lib.hid (fun (h : mayB D num ks = true) => mayB_parts (b := ⟨D, num, ks⟩) h)
  have HWR := Lib.hid (show wrB D num ks = if mayB D num ks then (writeV (bundleJ ⟨D, num, ks⟩), 0) else ([], 1) from rfl)
  obtain ⟨m, hm⟩ : ∃ m, m = mayB D num ks := ⟨_, rfl⟩
  obtain ⟨R, hR⟩ : ∃ R, R = wrB D num ks := ⟨_, rfl⟩
  rw [← hm] at C HMB HWR
  rw [← hR] at HWR ⊢
  obtain ⟨n, hn⟩ : ∃ n, n = ks.length := ⟨_, rfl⟩
  rw [← hn] at hl C HK HW0 ⊢
  have HN := Lib.hid hn
  clear hW0 hb0 hr hB hD hk hG hm hR hn
  go_enter Tryz.func16, Tryz.ntmps16
  go_upto_region 1 with (fail)
  rw [show w.alloc (.cells (bC D num A n c) 25) = W0 from HW0.out.symm]
  generalize hAV : Value.agg (bC D num A n c) = AV
  rw [hAV] at C
  go_wp2_with (refine wpList_get_box (x := .tmp 1) (cs := bC D num A n c) HK.out rfl rfl rfl hub rfl jb_size ?_)
  refine calls_then C.out ?_
  rintro e u1 ⟨rfl, hb1⟩
  have HK1 := Lib.hid (HK.out.below hb1 HK.out.lt)
  have HB1 := Lib.hid hb1
  clear hb1 hAV C
  cases m with
  | false =>
    have HRE := Lib.hid (show R = ([], 1) from HWR.out)
    go_wp2_with fail
    go_ret2
    exact ⟨by rw [HRE.out]; rfl, HB0.out.trans (HB1.out.mono HB0.out.size)⟩
  | true =>
    obtain ⟨hpb, hkx⟩ := HMB.out rfl
    have HPB := Lib.hid hpb
    have HKX := Lib.hid hkx
    have HRE := Lib.hid (show R = (writeV (bundleJ ⟨D, num, ks⟩), 0) from HWR.out)
    have hn8 : (n : Int) ≤ 8 := by have h8 : ks.length ≤ 8 := hpb.kn; have := HN.out; omega
    clear hpb hkx hl HMB HWR
    go_upto_region 4 with (first | (refine wpList_put_box (cells := jvCells (flatV 4 0 [])) (Blk.new _ _ _) rfl rfl rfl rfl jT_size4 rfl (jvCells_one _) ?_; intro w9 hb9 hw9))
    obtain ⟨K, hK⟩ : ∃ K, K = u1.heap.size := ⟨_, rfl⟩
    rw [← hK] at hb9 hw9 ⊢
    have hKb : Kb W0 (w.heap.size + 1) K (kidsV none 0 0) none 0 [] w9 :=
      ⟨HS0.out ▸ HB1.out.trans ((box_low9 (hK ▸ hw9)).mono (Nat.le_trans HB1.out.size (Nat.le_refl _))), by rw [hK, ← HS0.out]; exact HB1.out.size, hb9, [], rfl, OwnR.nil _ _ _ _, fun i h _ => by simp at h⟩
    have HKB := Lib.hid hKb
    have HLK := Lib.hid (show w.heap.size < K by rw [hK]; exact HK1.out.lt)
    have HKL := Lib.hid (fun (u : World) (h : Below (w.heap.size + 1) W0 u) => show Blk u w.heap.size 25 (bC D num A n c) from HK.out.below h (Nat.lt_succ_self _))
    have b2 : w9.cell? ⟨w.heap.size, 2, none⟩ = some (.slice A n c) := (HKL.out _ hKb.low).cell 2
    clear hb9 hw9 hK hKb
    go_wp2_with fail
    go_loopw [14] (fun x wr => ∃ (i : Nat) (A2 : Option Addr) (c2 : Nat), i ≤ n ∧ x = .int .i64 (i : Int) ∧ Kb W0 (w.heap.size + 1) K (kidsV A2 ((ks.take i).map keyJ).length c2) A2 c2 ((ks.take i).map keyJ) wr) (fun x _ => n - (intOf x).toNat)
    case atStart => exact ⟨0, none, 0, Nat.zero_le _, rfl, HKB.out⟩
    case round =>
      obtain ⟨i, A2, c2, hi, rfl, hkb⟩ := hrel
      have HKI := Lib.hid hkb
      by_cases hlt : i < n
      · have hil : i < ks.length := by rw [← HN.out]; exact hlt
        have hlt' : (i : Int) < (n : Int) := by omega
        obtain ⟨ad, hA, hadb, hcell⟩ := rd_rows (f := kCell) (m := 2) (fun _ => rfl) (by decide) (HR.out.below (hkb.low.mono (Nat.le_succ_of_le HBB.out))) hil
        subst hA
        obtain ⟨X, hX⟩ : ∃ X, X = ks[i] := ⟨_, rfl⟩
        rw [← hX] at hcell
        have HCL := Lib.hid (show ∀ j u, (kCell X).toList[j]? = some u → wr.cell? ((ad.add (i * 2)).add j) = some u from fun j u hu => hcell j u (by simpa using hu))
        have HX3 := Lib.hid (show X.2.length = 32 from (HKX.out X (by rw [hX]; exact List.getElem_mem hil)).1)
        have HLT := Lib.hid hlt
        have HXS := Lib.hid (show (ks.take (i + 1)).map keyJ = (ks.take i).map keyJ ++ [keyJ X] by rw [List.take_succ_eq_append_getElem hil, List.map_append, hX]; rfl)
        have HJL := Lib.hid (show ((ks.take i).map keyJ).length ≤ 8 by simp; omega)
        obtain ⟨J, hJ⟩ : ∃ J, J = (ks.take i).map keyJ := ⟨_, rfl⟩
        rw [← hJ] at HKI HXS HJL
        clear hkb hX hcell hadb hil hlt hJ
        go_upto_region 7 with (first
          | refine wpList_get_rd (r := (kCell X).toList) HCL.out rfl rfl rfl huj rfl jk_size ?_
          | (refine wpList_put_box (cells := kCell X) (Blk.new _ _ _) rfl rfl rfl rfl jk_size rfl (kCell_one X) ?_; intro w5 hb5 hw5))
        have hbw5 : Below wr.heap.size wr w5 := box_low9 hw5
        obtain ⟨H, hH⟩ : ∃ H, H = wr.heap.size := ⟨_, rfl⟩
        rw [← hH] at hb5 ⊢
        have HNE := Lib.hid (show ∀ k, (Value.slice A2 J.length c2).ownBlock = some k → K + 1 ≤ k ∧ k ≠ H from fun k hk => by
          obtain ⟨kv, _, h2, _⟩ := HKI.out.kids
          have := h2.lt k hk
          exact ⟨this.1, by omega⟩)
        have HKH := Lib.hid (show K + 1 ≤ H by rw [hH]; exact HKI.out.size)
        have HK5 := Lib.hid (HKI.out.new hbw5)
        have HX5 := Lib.hid hb5
        have CK := Lib.hid (fun (u : World) => key_any X.1 X.2 HX3.out u)
        clear hbw5 hw5 hb5 hH
        go_wp2_with fail
        have HI0 : w5.drew.cell? ⟨K, 4, none⟩ = some (.slice A2 J.length c2) ∧ Blk w5.drew H 39 (kCell X) := ⟨HK5.out.tree.cell 4, HX5.out⟩
        have HJ0 : Kb W0 (w.heap.size + 1) K (kidsV A2 J.length c2) A2 c2 J w5.drew := HK5.out.new (Below.refl _ _).drew
        refine wp_region_list (fun _ => True) (fun | false => (fun u => u.cell? ⟨K, 4, none⟩ = some (.slice A2 J.length c2) ∧ Blk u H 39 (kCell X)) | true => (fun u => Kb W0 (w.heap.size + 1) K (kidsV A2 J.length c2) A2 c2 J u)) (fun | false, i => i == 7 | true, i => i == 5 || i == 7)
          [fun z _ => z 0 = .pointer (some ⟨K, 4, none⟩),
           fun z _ => z 1 = .slice A2 J.length c2,
           fun z _ => z 2 = .agg (kCell X),
           fun z u => ∃ v, z 3 = .agg (jvCells v) ∧ JRep u (KQ K (.slice A2 J.length c2)) (keyJ X) v,
           fun z u => ∃ (v : JV) (ad : Nat), z 4 = .slice (some ⟨ad, 0, none⟩) 1 1 ∧ Blk u ad 55 (jvCells v) ∧ JRep u (KQ K (.slice A2 J.length c2)) (keyJ X) v,
           fun z u => ∃ (A' : Option Addr) (c' : Nat), z 5 = .slice A' (J.length + 1) c' ∧ Kb W0 (w.heap.size + 1) K (kidsV A2 J.length c2) A' c' (J ++ [keyJ X]) u,
           fun z _ => z 6 = .pointer (some ⟨K, 4, none⟩),
           fun z u => ∃ (A' : Option Addr) (c' : Nat), Kb W0 (w.heap.size + 1) K (kidsV A' (J ++ [keyJ X]).length c') A' c' (J ++ [keyJ X]) u]
          [Eq, Eq, Eq, fun u u' => Below u.heap.size u u', fun u u' => Below u.heap.size u u', fun u u' => ∃ g : Option Nat, u.grownBy u' g ∧ ∀ k, g = some k → K + 1 ≤ k ∧ k ≠ H, Eq, fun _ _ => True]
          (fun i k => (i == 4 && k == 3) || (i == 5 && k == 3) || (i == 5 && k == 4) || (i == 7 && k == 3) || (i == 7 && k == 4) || (i == 7 && k == 5)) [(0, some 18), (1, some 19), (2, some 20), (3, some 21), (4, some 22), (5, some 23), (6, some 24), (7, none)] (by kernel_rfl) (by kernel_rfl) rfl (fun _ => rfl) ?_ ?_ ?_ ?_ ?_ ?_
        · exact (by first | trivial | assumption)
        · intro m; cases m; exact HI0; exact HJ0
        · intro m; cases m
          · exact ⟨.inr (fun _ _ h h0 => h ▸ h0), .inr (fun _ _ h h0 => h ▸ h0), .inr (fun _ _ h h0 => h ▸ h0), .inr (fun _ _ h h0 => ⟨(grown_of_below4 h none).cell h0.1 (by simp), h0.2.below h h0.2.lt⟩), .inr (fun _ _ h h0 => ⟨(grown_of_below4 h none).cell h0.1 (by simp), h0.2.below h h0.2.lt⟩), .inr (fun _ _ h h0 => by obtain ⟨g, hg, hk⟩ := h; exact ⟨hg.cell h0.1 (by intro e; have : K + 1 ≤ K := (hk _ e.symm).1; omega), h0.2.grown hg (by intro e; exact (hk _ e.symm).2 rfl)⟩), .inr (fun _ _ h h0 => h ▸ h0), .inl rfl, trivial⟩
          · exact ⟨.inr (fun _ _ h h0 => h ▸ h0), .inr (fun _ _ h h0 => h ▸ h0), .inr (fun _ _ h h0 => h ▸ h0), .inr (fun _ _ h h0 => h0.new h), .inr (fun _ _ h h0 => h0.new h), .inl rfl, .inr (fun _ _ h h0 => h ▸ h0), .inl rfl, trivial⟩
        · exact ⟨⟨.inl rfl, .inr (.inr (.inl rfl)), .inr (.inr (.inr (fun _ _ _ _ _ h => h))), .inr (.inr (.inr (fun _ _ _ _ h h0 => by cases h; exact h0))), .inr (.inr (.inr (fun _ _ _ _ h h0 => by cases h; exact h0))), .inr (.inr (.inl rfl)), .inr (.inr (.inl rfl)), .inr (.inr (.inl rfl)), trivial⟩,
            ⟨.inr (.inr (.inr (fun _ _ _ _ _ h => h))), .inl rfl, .inr (.inr (.inr (fun _ _ _ _ _ h => h))), .inr (.inr (.inr (fun _ _ _ _ h h0 => by cases h; exact h0))), .inr (.inr (.inr (fun _ _ _ _ h h0 => by cases h; exact h0))), .inr (.inr (.inl rfl)), .inr (.inr (.inl rfl)), .inr (.inr (.inl rfl)), trivial⟩,
            ⟨.inr (.inr (.inr (fun _ _ _ _ _ h => h))), .inr (.inr (.inr (fun _ _ _ _ _ h => h))), .inl rfl, .inr (.inr (.inl rfl)), .inr (.inr (.inl rfl)), .inr (.inr (.inl rfl)), .inr (.inr (.inl rfl)), .inr (.inr (.inl rfl)), trivial⟩,
            ⟨.inr (.inr (.inr (fun _ _ _ _ _ h => h))), .inr (.inr (.inr (fun _ _ _ _ _ h => h))), .inr (.inr (.inr (fun _ _ _ _ _ h => h))), .inl rfl, .inr (.inr (.inl rfl)), .inr (.inr (.inl rfl)), .inr (.inr (.inl rfl)), .inr (.inr (.inl rfl)), trivial⟩,
            ⟨.inr (.inr (.inr (fun _ _ _ _ _ h => h))), .inr (.inr (.inr (fun _ _ _ _ _ h => h))), .inr (.inr (.inr (fun _ _ _ _ _ h => h))), .inr (.inl rfl), .inl rfl, .inr (.inr (.inl rfl)), .inr (.inr (.inl rfl)), .inr (.inr (.inl rfl)), trivial⟩,
            ⟨.inr (.inr (.inr (fun _ _ _ _ _ h => h))), .inr (.inr (.inr (fun _ _ _ _ _ h => h))), .inr (.inr (.inr (fun _ _ _ _ _ h => h))), .inr (.inl rfl), .inr (.inl rfl), .inl rfl, .inr (.inr (.inl rfl)), .inr (.inr (.inl rfl)), trivial⟩,
            ⟨.inr (.inr (.inr (fun _ _ _ _ _ h => h))), .inr (.inr (.inr (fun _ _ _ _ _ h => h))), .inr (.inr (.inr (fun _ _ _ _ _ h => h))), .inr (.inr (.inr (fun _ _ _ _ h h0 => by cases h; exact h0))), .inr (.inr (.inr (fun _ _ _ _ h h0 => by cases h; exact h0))), .inr (.inr (.inr (fun _ _ _ _ h h0 => by cases h; exact h0))), .inl rfl, .inr (.inr (.inl rfl)), trivial⟩,
            ⟨.inr (.inr (.inr (fun _ _ _ _ _ h => h))), .inr (.inr (.inr (fun _ _ _ _ _ h => h))), .inr (.inr (.inr (fun _ _ _ _ _ h => h))), .inr (.inl rfl), .inr (.inl rfl), .inr (.inl rfl), .inr (.inr (.inr (fun _ _ _ _ _ h => h))), .inl rfl, trivial⟩, trivial⟩
        · refine ⟨?_, ?_, ?_, ?_, ?_, ?_, ?_, ?_, trivial⟩
          · -- 0: Op.fieldAddr 55 (Operand.tmp 4) 4
            refine step_plain [] (fun _ => rfl) rfl ?_
            intro w1 vals hC1 hi0 hf E hE
            have hI1 : (fun u => u.cell? ⟨K, 4, none⟩ = some (.slice A2 J.length c2) ∧ Blk u H 39 (kCell X)) w1 := hi0 false rfl
            try dsimp only at hI1
            have hJ1 : (fun u => Kb W0 (w.heap.size + 1) K (kidsV A2 J.length c2) A2 c2 J u) w1 := hi0 true rfl
            try dsimp only at hJ1
            clear hi0
            clear hf
            simp only [puts, act_put, act_put_none, List.setIfInBounds_toArray, List.set_cons_zero, List.set_cons_succ] at hE ⊢
            go_wp2
            exact .mk (hE _ _ rfl hC1 rfl)
          · -- 1: Op.load 53 (Operand.tmp 18)
            refine step_plain [(0, some 18)] (fun _ => rfl) rfl ?_
            intro w1 vals hC1 hi0 hf E hE
            have hI1 : (fun u => u.cell? ⟨K, 4, none⟩ = some (.slice A2 J.length c2) ∧ Blk u H 39 (kCell X)) w1 := hi0 false rfl
            try dsimp only at hI1
            have hJ1 : (fun u => Kb W0 (w.heap.size + 1) K (kidsV A2 J.length c2) A2 c2 J u) w1 := hi0 true rfl
            try dsimp only at hJ1
            clear hi0
            have f0 : vals 0 = .pointer (some ⟨K, 4, none⟩) := hf 0 rfl
            try dsimp only at f0
            clear hf
            obtain ⟨d0, d1⟩ := hI1
            clear d1
            simp only [puts, act_put, act_put_none, List.setIfInBounds_toArray, List.set_cons_zero, List.set_cons_succ, f0] at hE ⊢
            clear f0
            go_wp2
            exact .mk (hE _ _ rfl hC1 rfl)
          · -- 2: Op.load 39 (Operand.tmp 6)
            refine step_plain [] (fun _ => rfl) rfl ?_
            intro w1 vals hC1 hi0 hf E hE
            have hI1 : (fun u => u.cell? ⟨K, 4, none⟩ = some (.slice A2 J.length c2) ∧ Blk u H 39 (kCell X)) w1 := hi0 false rfl
            try dsimp only at hI1
            have hJ1 : (fun u => Kb W0 (w.heap.size + 1) K (kidsV A2 J.length c2) A2 c2 J u) w1 := hi0 true rfl
            try dsimp only at hJ1
            clear hi0
            clear hf
            obtain ⟨d0, d1⟩ := hI1
            clear d0
            have D1 := Lib.hid d1
            clear d1
            simp only [puts, act_put, act_put_none, List.setIfInBounds_toArray, List.set_cons_zero, List.set_cons_succ] at hE ⊢
            refine wpList_get_box (cs := kCell X) D1.out rfl rfl rfl huj rfl jk_size ?_
            go_wp2_with fail
            exact .mk (hE _ _ rfl hC1 rfl)
          · -- 3: Op.call { callee := Callee.value (Operand.func 25), args := #[Operand.tmp 20], argTypes := #[39] }
            refine step_plain [(2, some 20)] (fun _ => rfl) rfl ?_
            intro w1 vals hC1 hi0 hf E hE
            have hI1 : (fun u => u.cell? ⟨K, 4, none⟩ = some (.slice A2 J.length c2) ∧ Blk u H 39 (kCell X)) w1 := hi0 false rfl
            try dsimp only at hI1
            have hJ1 : (fun u => Kb W0 (w.heap.size + 1) K (kidsV A2 J.length c2) A2 c2 J u) w1 := hi0 true rfl
            try dsimp only at hJ1
            clear hi0
            have f2 : vals 2 = .agg (kCell X) := hf 2 rfl
            try dsimp only at f2
            clear hf
            have HJ1 := Lib.hid hJ1
            clear hJ1
            simp only [puts, act_put, act_put_none, List.setIfInBounds_toArray, List.set_cons_zero, List.set_cons_succ, f2] at hE ⊢
            clear f2
            go_wp2_with fail
            refine calls_then (CK.out _) ?_
            rintro y w6 ⟨v, rfl, hj, hb⟩
            have HJ := Lib.hid hj
            have HG := Lib.hid hb
            clear hj hb
            go_wp2_with fail
            exact .mk (hE _ _ ⟨v, rfl, HJ.out.imp fun b _ hb => ⟨by have := HJ1.out.size; omega, fun he => by obtain ⟨kv, _, h2, _⟩ := HJ1.out.kids; have := (h2.lt b he).2; omega⟩⟩ hC1 HG.out)
          · -- 4: Op.buildSlice 53 1 #[(0, Operand.tmp 21)]
            refine step_plain [(3, some 21)] (fun _ => rfl) rfl ?_
            intro w1 vals hC1 hi0 hf E hE
            have hI1 : (fun u => u.cell? ⟨K, 4, none⟩ = some (.slice A2 J.length c2) ∧ Blk u H 39 (kCell X)) w1 := hi0 false rfl
            try dsimp only at hI1
            have hJ1 : (fun u => Kb W0 (w.heap.size + 1) K (kidsV A2 J.length c2) A2 c2 J u) w1 := hi0 true rfl
            try dsimp only at hJ1
            clear hi0
            have f3 : (fun z u => ∃ v, z 3 = .agg (jvCells v) ∧ JRep u (KQ K (.slice A2 J.length c2)) (keyJ X) v) vals w1 := hf 3 rfl
            try dsimp only at f3
            clear hf
            obtain ⟨v, hx, hj⟩ := f3
            have HJ := Lib.hid hj
            clear hj
            simp only [puts, act_put, act_put_none, List.setIfInBounds_toArray, List.set_cons_zero, List.set_cons_succ, hx] at hE ⊢
            clear hx
            unfold jvCells
            go_wp2
            exact .mk (hE _ _ ⟨v, _, rfl, Blk.new _ _ _, HJ.out.heap fun b hb _ => Below.heap_alloc _ _ _ hb⟩ hC1 ((Below.refl _ _).alloc (Nat.le_refl _) _))
          · -- 5: Op.call { callee := Callee.builtin Builtin.append, args := #[Operand.tmp 19, Operand.tmp 22], argTypes := #[53
            refine step_plain [(1, some 19), (4, some 22), (3, some 21)] (fun _ => rfl) rfl ?_
            intro w1 vals hC1 hi0 hf E hE
            have hI1 : (fun u => u.cell? ⟨K, 4, none⟩ = some (.slice A2 J.length c2) ∧ Blk u H 39 (kCell X)) w1 := hi0 false rfl
            try dsimp only at hI1
            have hJ1 : (fun u => Kb W0 (w.heap.size + 1) K (kidsV A2 J.length c2) A2 c2 J u) w1 := hi0 true rfl
            try dsimp only at hJ1
            clear hi0
            have f1 : vals 1 = .slice A2 J.length c2 := hf 1 rfl
            have f4 : (fun z u => ∃ (v : JV) (ad : Nat), z 4 = .slice (some ⟨ad, 0, none⟩) 1 1 ∧ Blk u ad 55 (jvCells v) ∧ JRep u (KQ K (.slice A2 J.length c2)) (keyJ X) v) vals w1 := hf 4 rfl
            try dsimp only at f1 f4
            clear hf
            obtain ⟨v, ad, hx, hk, hj⟩ := f4
            have HL := Lib.hid hJ1
            have HK := Lib.hid hk
            have HJ := Lib.hid hj
            obtain ⟨kv, hv1, hv2, hv3⟩ := HL.out.kids
            have HO := Lib.hid hv2
            have HV1 := Lib.hid hv1
            have HV3 := Lib.hid hv3
            have hjl := HJL.out
            clear hJ1 hk hj hv1 hv2 hv3
            simp only [puts, act_put, act_put_none, List.setIfInBounds_toArray, List.set_cons_zero, List.set_cons_succ, f1, hx] at hE ⊢
            clear f1
            clear hx
            go_wp2_with (refine wpList_append_r (news := (jvCells v).toList) (m := 1) sl_jsons4 rfl rfl HO.out rfl rfl rfl (Rd.of_blk (l := (jvCells v).toList) HK.out (HK.out.lt)) (by simp [jvCells, Value.oneCell']) (by unfold maxLen; omega) (by omega) (HL.out.size) ?_; intro A' c' w5 ho hg hn)
            exact .mk (hE _ _ ⟨A', c', rfl, HL.out.kid HJ.out HV1.out HO.out HV3.out ho hg hn⟩ hC1 ⟨_, hg, HNE.out⟩)
          · -- 6: Op.fieldAddr 55 (Operand.tmp 4) 4
            refine step_plain [(0, some 18), (1, some 19), (2, some 20), (3, some 21), (4, some 22), (5, some 23)] (fun _ => rfl) rfl ?_
            intro w1 vals hC1 hi0 hf E hE
            have hI1 : (fun u => u.cell? ⟨K, 4, none⟩ = some (.slice A2 J.length c2) ∧ Blk u H 39 (kCell X)) w1 := hi0 false rfl
            try dsimp only at hI1
            clear hi0
            have f0 : vals 0 = .pointer (some ⟨K, 4, none⟩) := hf 0 rfl
            have f1 : vals 1 = .slice A2 J.length c2 := hf 1 rfl
            have f2 : vals 2 = .agg (kCell X) := hf 2 rfl
            have f5 : (fun z u => ∃ (A' : Option Addr) (c' : Nat), z 5 = .slice A' (J.length + 1) c' ∧ Kb W0 (w.heap.size + 1) K (kidsV A2 J.length c2) A' c' (J ++ [keyJ X]) u) vals w1 := hf 5 rfl
            try dsimp only at f0 f1 f2 f5
            clear hf
            simp only [puts, act_put, act_put_none, List.setIfInBounds_toArray, List.set_cons_zero, List.set_cons_succ, f0, f1, f2] at hE ⊢
            clear f0 f1 f2
            go_wp2
            exact .mk (hE _ _ rfl hC1 rfl)
          · -- 7: Op.store 53 (Operand.tmp 24) (Operand.tmp 23)
            refine step_plain [(6, some 24), (5, some 23), (5, some 23), (0, some 18), (1, some 19), (2, some 20), (3, some 21), (4, some 22), (5, some 23)] (fun _ => rfl) rfl ?_
            intro w1 vals hC1 hi0 hf E hE
            have hI1 : (fun u => u.cell? ⟨K, 4, none⟩ = some (.slice A2 J.length c2) ∧ Blk u H 39 (kCell X)) w1 := hi0 false rfl
            try dsimp only at hI1
            clear hi0
            have f0 : vals 0 = .pointer (some ⟨K, 4, none⟩) := hf 0 rfl
            have f1 : vals 1 = .slice A2 J.length c2 := hf 1 rfl
            have f2 : vals 2 = .agg (kCell X) := hf 2 rfl
            have f5 : (fun z u => ∃ (A' : Option Addr) (c' : Nat), z 5 = .slice A' (J.length + 1) c' ∧ Kb W0 (w.heap.size + 1) K (kidsV A2 J.length c2) A' c' (J ++ [keyJ X]) u) vals w1 := hf 5 rfl
            have f6 : vals 6 = .pointer (some ⟨K, 4, none⟩) := hf 6 rfl
            try dsimp only at f0 f1 f2 f5 f6
            clear hf
            obtain ⟨A', c', hx, hl⟩ := f5
            have HL := Lib.hid hl
            clear hl
            simp only [puts, act_put, act_put_none, List.setIfInBounds_toArray, List.set_cons_zero, List.set_cons_succ, f0, f1, f2, f6, hx] at hE ⊢
            clear f0 f1 f2 f6
            clear hx
            go_wp2_with (refine wpList_put_cell (x := .tmp 24) (i := 4) HL.out.tree rfl rfl rfl rfl (by kernel_rfl) (by simp [jvCells]) rfl ?_; intro w5 hb5 hw5)
            exact .mk (hE undef _ ⟨A', c', HL.out.put hw5 (by rw [List.length_append]; exact hb5)⟩ hC1 trivial)
        intro w1 vals hC1 hf
        have f0 : vals 0 = .pointer (some ⟨K, 4, none⟩) := hf 0 (by decide) rfl
        have f1 : vals 1 = .slice A2 J.length c2 := hf 1 (by decide) rfl
        have f2 : vals 2 = .agg (kCell X) := hf 2 (by decide) rfl
        have f6 : vals 6 = .pointer (some ⟨K, 4, none⟩) := hf 6 (by decide) rfl
        have f7 : (fun z u => ∃ (A' : Option Addr) (c' : Nat), Kb W0 (w.heap.size + 1) K (kidsV A' (J ++ [keyJ X]).length c') A' c' (J ++ [keyJ X]) u) vals w1 := hf 7 (by decide) rfl
        try dsimp only at f0 f1 f2 f6 f7
        clear hf
        simp only [puts, act_put, act_put_none, List.setIfInBounds_toArray, List.set_cons_zero, List.set_cons_succ, f0, f1, f2, f6]
        clear f0 f1 f2 f6
        generalize vals 3 = x3 at *
        generalize vals 4 = x4 at *
        generalize vals 5 = x5 at *
        obtain ⟨A', c', hkb7⟩ := f7
        have HKB7 := Lib.hid hkb7
        clear hkb7 HI0 HJ0 hC1 CK
        go_wp2_with fail
        go_roundw
        case rel => exact ⟨i + 1, A', c', HLT.out, by go_num, by rw [HXS.out]; exact HKB7.out⟩
        case measure => have := HLT.out; simp [intOf]; omega
      · obtain rfl : i = n := by omega
        have htk : ks.take i = ks := List.take_of_length_le (by rw [← HN.out]; exact Nat.le_refl _)
        rw [htk] at hkb
        obtain ⟨KV, hKV⟩ : ∃ KV, KV = kidsV A2 (ks.map keyJ).length c2 := ⟨_, rfl⟩
        have hrp : JRep wr (fun x => x < wr.heap.size) (.mk 4 0 [] [] (ks.map keyJ)) KV := by rw [hKV]; exact hkb.rep.imp fun b hb _ => hb
        rw [← hKV] at hkb
        have HKJ := Lib.hid hkb.tree
        have HRP := Lib.hid hrp
        have HBX := Lib.hid (show Blk wr w.heap.size 25 (bC D num A i c) from HKL.out _ hkb.low)
        have HF9 := Lib.hid (show Below w.heap.size w wr from HB0.out.trans (hkb.low.mono (Nat.le_succ _)))
        obtain ⟨T, hT⟩ : ∃ T, T = writeV (bundleJ ⟨D, num, ks⟩) := ⟨_, rfl⟩
        have HRT := Lib.hid (show R = (T, 0) by rw [hT]; exact HRE.out)
        have HTX := Lib.hid (jtext_any D)
        have HWR := Lib.hid (fun (u : World) (v : JV) (h : JRep u (fun b => b < u.heap.size) (bundleJ ⟨D, num, ks⟩) v) => show Calls Tryz.prog 26 #[.agg (jvCells v)] u (fun e w' => e = .returned (.tuple #[.string (bs T), .int .i64 0]) ∧ Below u.heap.size u w') by
          have h2 := jwrite_any (bundleJ ⟨D, num, ks⟩) v u.heap.size u (bundleJ_small HPB.out) h (Nat.le_refl _) (by have := bundle_len HPB.out; omega)
          rw [wrE_may HPB.out, ← hT] at h2
          exact h2)
        clear hkb hrp htk hT hKV HKI HKB HKL HRE
        go_wp2_with fail
        have HC0 : Below wr.heap.size wr wr.drew := (Below.refl _ _).drew
        refine wp_region_list (fun u => Below wr.heap.size wr u) (fun | false => (fun _ => True) | true => (fun _ => True)) (fun | false, _ => false | true, _ => false)
          [fun z u => (fun v u => RowAt u 9 3 [.string (bs [100, 111, 109, 97, 105, 110]), .string (bs [107, 101, 121, 115]), .string (bs [110, 117, 109, 98, 101, 114])] v) (z 0) u,
           fun z _ => z 1 = .pointer (some ⟨w.heap.size, 0, none⟩),
           fun z _ => z 2 = .string (bs D),
           fun z _ => z 3 = .agg (jvCells (flatV 3 0 D)),
           fun z _ => z 4 = .agg (jvCells KV),
           fun z _ => z 5 = .pointer (some ⟨w.heap.size, 1, none⟩),
           fun z _ => z 6 = .int .i64 num,
           fun z _ => z 7 = .agg (jvCells (flatV 2 num [])),
           fun z u => (fun v u => RowAt u 55 3 (rowsV jvCells [flatV 3 0 D, KV, flatV 2 num []]) v) (z 8) u,
           fun z u => (fun v u => ∃ jv, v = .agg (jvCells jv) ∧ JRep u (fun b => b < u.heap.size) (bundleJ ⟨D, num, ks⟩) jv) (z 9) u,
           fun z _ => z 10 = .tuple #[.string (bs T), .int .i64 0],
           fun z _ => z 11 = .string (bs T),
           fun z _ => z 12 = .int .i64 0,
           fun z _ => z 13 = .string (bs T),
           fun z _ => z 14 = .int .i64 0]
          [fun u u' => Below u.heap.size u u', Eq, Eq, fun u u' => Below u.heap.size u u', Eq, Eq, Eq, Eq, fun u u' => Below u.heap.size u u', Eq, fun u u' => Below u.heap.size u u', Eq, Eq, Eq, Eq]
          (fun _ _ => false) [(0, some 26), (1, some 27), (2, some 28), (3, some 29), (4, some 30), (5, some 31), (6, some 32), (7, some 33), (8, some 34), (9, some 35), (10, some 36), (11, some 37), (12, some 38), (13, some 2), (14, some 3)] (by kernel_rfl) (by kernel_rfl) rfl (fun _ => rfl) ?_ ?_ ?_ ?_ ?_ ?_
        · exact HC0
        · intro m; cases m; exact trivial; exact trivial
        · intro m; cases m
          · exact ⟨.inr (fun _ _ _ h => h), .inr (fun _ _ h h0 => h ▸ h0), .inr (fun _ _ h h0 => h ▸ h0), .inr (fun _ _ _ h => h), .inr (fun _ _ h h0 => h ▸ h0), .inr (fun _ _ h h0 => h ▸ h0), .inr (fun _ _ h h0 => h ▸ h0), .inr (fun _ _ h h0 => h ▸ h0), .inr (fun _ _ _ h => h), .inr (fun _ _ h h0 => h ▸ h0), .inr (fun _ _ _ h => h), .inr (fun _ _ h h0 => h ▸ h0), .inr (fun _ _ h h0 => h ▸ h0), .inr (fun _ _ h h0 => h ▸ h0), .inr (fun _ _ h h0 => h ▸ h0), trivial⟩
          · exact ⟨.inr (fun _ _ _ h => h), .inr (fun _ _ h h0 => h ▸ h0), .inr (fun _ _ h h0 => h ▸ h0), .inr (fun _ _ _ h => h), .inr (fun _ _ h h0 => h ▸ h0), .inr (fun _ _ h h0 => h ▸ h0), .inr (fun _ _ h h0 => h ▸ h0), .inr (fun _ _ h h0 => h ▸ h0), .inr (fun _ _ _ h => h), .inr (fun _ _ h h0 => h ▸ h0), .inr (fun _ _ _ h => h), .inr (fun _ _ h h0 => h ▸ h0), .inr (fun _ _ h h0 => h ▸ h0), .inr (fun _ _ h h0 => h ▸ h0), .inr (fun _ _ h h0 => h ▸ h0), trivial⟩
        · exact ⟨⟨.inl rfl, .inr (.inr (.inr (fun _ _ _ _ _ h => h))), .inr (.inr (.inr (fun _ _ _ _ _ h => h))), .inr (.inr (.inr (fun _ _ _ _ _ h => h))), .inr (.inr (.inr (fun _ _ _ _ _ h => h))), .inr (.inr (.inr (fun _ _ _ _ _ h => h))), .inr (.inr (.inr (fun _ _ _ _ _ h => h))), .inr (.inr (.inr (fun _ _ _ _ _ h => h))), .inr (.inr (.inr (fun _ _ _ _ h h0 => h0.step h))), .inr (.inr (.inl rfl)), .inr (.inr (.inl rfl)), .inr (.inr (.inl rfl)), .inr (.inr (.inl rfl)), .inr (.inr (.inl rfl)), .inr (.inr (.inl rfl)), trivial⟩,
            ⟨.inr (.inr (.inr (fun _ _ _ _ h h0 => by cases h; exact h0))), .inl rfl, .inr (.inr (.inl rfl)), .inr (.inr (.inl rfl)), .inr (.inr (.inr (fun _ _ _ _ _ h => h))), .inr (.inr (.inr (fun _ _ _ _ _ h => h))), .inr (.inr (.inr (fun _ _ _ _ _ h => h))), .inr (.inr (.inr (fun _ _ _ _ _ h => h))), .inr (.inr (.inl rfl)), .inr (.inr (.inr (fun _ _ _ _ h h0 => by cases h; exact h0))), .inr (.inr (.inl rfl)), .inr (.inr (.inr (fun _ _ _ _ _ h => h))), .inr (.inr (.inr (fun _ _ _ _ _ h => h))), .inr (.inr (.inl rfl)), .inr (.inr (.inl rfl)), trivial⟩,
            ⟨.inr (.inr (.inr (fun _ _ _ _ h h0 => by cases h; exact h0))), .inr (.inr (.inr (fun _ _ _ _ _ h => h))), .inl rfl, .inr (.inr (.inl rfl)), .inr (.inr (.inr (fun _ _ _ _ _ h => h))), .inr (.inr (.inr (fun _ _ _ _ _ h => h))), .inr (.inr (.inr (fun _ _ _ _ _ h => h))), .inr (.inr (.inr (fun _ _ _ _ _ h => h))), .inr (.inr (.inl rfl)), .inr (.inr (.inl rfl)), .inr (.inr (.inl rfl)), .inr (.inr (.inl rfl)), .inr (.inr (.inl rfl)), .inr (.inr (.inl rfl)), .inr (.inr (.inl rfl)), trivial⟩,
            ⟨.inr (.inr (.inr (fun _ _ _ _ h h0 => h0.step h))), .inr (.inr (.inr (fun _ _ _ _ _ h => h))), .inr (.inr (.inr (fun _ _ _ _ _ h => h))), .inl rfl, .inr (.inr (.inr (fun _ _ _ _ _ h => h))), .inr (.inr (.inr (fun _ _ _ _ _ h => h))), .inr (.inr (.inr (fun _ _ _ _ _ h => h))), .inr (.inr (.inr (fun _ _ _ _ _ h => h))), .inr (.inr (.inl rfl)), .inr (.inr (.inl rfl)), .inr (.inr (.inl rfl)), .inr (.inr (.inl rfl)), .inr (.inr (.inl rfl)), .inr (.inr (.inl rfl)), .inr (.inr (.inl rfl)), trivial⟩,
            ⟨.inr (.inr (.inr (fun _ _ _ _ h h0 => by cases h; exact h0))), .inr (.inr (.inr (fun _ _ _ _ _ h => h))), .inr (.inr (.inr (fun _ _ _ _ _ h => h))), .inr (.inr (.inr (fun _ _ _ _ _ h => h))), .inl rfl, .inr (.inr (.inr (fun _ _ _ _ _ h => h))), .inr (.inr (.inr (fun _ _ _ _ _ h => h))), .inr (.inr (.inr (fun _ _ _ _ _ h => h))), .inr (.inr (.inl rfl)), .inr (.inr (.inl rfl)), .inr (.inr (.inl rfl)), .inr (.inr (.inr (fun _ _ _ _ _ h => h))), .inr (.inr (.inr (fun _ _ _ _ _ h => h))), .inr (.inr (.inl rfl)), .inr (.inr (.inl rfl)), trivial⟩,
            ⟨.inr (.inr (.inr (fun _ _ _ _ h h0 => by cases h; exact h0))), .inr (.inr (.inr (fun _ _ _ _ _ h => h))), .inr (.inr (.inr (fun _ _ _ _ _ h => h))), .inr (.inr (.inr (fun _ _ _ _ _ h => h))), .inr (.inr (.inr (fun _ _ _ _ _ h => h))), .inl rfl, .inr (.inr (.inl rfl)), .inr (.inr (.inl rfl)), .inr (.inr (.inl rfl)), .inr (.inr (.inr (fun _ _ _ _ h h0 => by cases h; exact h0))), .inr (.inr (.inr (fun _ _ _ _ _ h => h))), .inr (.inr (.inr (fun _ _ _ _ _ h => h))), .inr (.inr (.inr (fun _ _ _ _ _ h => h))), .inr (.inr (.inl rfl)), .inr (.inr (.inl rfl)), trivial⟩,
            ⟨.inr (.inr (.inr (fun _ _ _ _ h h0 => by cases h; exact h0))), .inr (.inr (.inr (fun _ _ _ _ _ h => h))), .inr (.inr (.inr (fun _ _ _ _ _ h => h))), .inr (.inr (.inr (fun _ _ _ _ _ h => h))), .inr (.inr (.inr (fun _ _ _ _ _ h => h))), .inr (.inr (.inr (fun _ _ _ _ _ h => h))), .inl rfl, .inr (.inr (.inl rfl)), .inr (.inr (.inl rfl)), .inr (.inr (.inl rfl)), .inr (.inr (.inr (fun _ _ _ _ _ h => h))), .inr (.inr (.inr (fun _ _ _ _ _ h => h))), .inr (.inr (.inr (fun _ _ _ _ _ h => h))), .inr (.inr (.inl rfl)), .inr (.inr (.inl rfl)), trivial⟩,
            ⟨.inr (.inr (.inr (fun _ _ _ _ h h0 => by cases h; exact h0))), .inr (.inr (.inr (fun _ _ _ _ _ h => h))), .inr (.inr (.inr (fun _ _ _ _ _ h => h))), .inr (.inr (.inr (fun _ _ _ _ _ h => h))), .inr (.inr (.inr (fun _ _ _ _ _ h => h))), .inr (.inr (.inr (fun _ _ _ _ _ h => h))), .inr (.inr (.inr (fun _ _ _ _ _ h => h))), .inl rfl, .inr (.inr (.inl rfl)), .inr (.inr (.inl rfl)), .inr (.inr (.inl rfl)), .inr (.inr (.inr (fun _ _ _ _ _ h => h))), .inr (.inr (.inr (fun _ _ _ _ _ h => h))), .inr (.inr (.inl rfl)), .inr (.inr (.inl rfl)), trivial⟩,
            ⟨.inr (.inr (.inr (fun _ _ _ _ h h0 => h0.step h))), .inr (.inr (.inr (fun _ _ _ _ _ h => h))), .inr (.inr (.inr (fun _ _ _ _ _ h => h))), .inr (.inr (.inr (fun _ _ _ _ _ h => h))), .inr (.inr (.inr (fun _ _ _ _ _ h => h))), .inr (.inr (.inr (fun _ _ _ _ _ h => h))), .inr (.inr (.inr (fun _ _ _ _ _ h => h))), .inr (.inr (.inr (fun _ _ _ _ _ h => h))), .inl rfl, .inr (.inr (.inl rfl)), .inr (.inr (.inl rfl)), .inr (.inr (.inl rfl)), .inr (.inr (.inl rfl)), .inr (.inr (.inl rfl)), .inr (.inr (.inl rfl)), trivial⟩,
            ⟨.inr (.inr (.inr (fun _ _ _ _ h h0 => by cases h; exact h0))), .inr (.inr (.inr (fun _ _ _ _ _ h => h))), .inr (.inr (.inr (fun _ _ _ _ _ h => h))), .inr (.inr (.inr (fun _ _ _ _ _ h => h))), .inr (.inr (.inr (fun _ _ _ _ _ h => h))), .inr (.inr (.inr (fun _ _ _ _ _ h => h))), .inr (.inr (.inr (fun _ _ _ _ _ h => h))), .inr (.inr (.inr (fun _ _ _ _ _ h => h))), .inr (.inr (.inr (fun _ _ _ _ h h0 => by cases h; exact h0))), .inl rfl, .inr (.inr (.inl rfl)), .inr (.inr (.inl rfl)), .inr (.inr (.inl rfl)), .inr (.inr (.inl rfl)), .inr (.inr (.inl rfl)), trivial⟩,
            ⟨.inr (.inr (.inr (fun _ _ _ _ h h0 => h0.step h))), .inr (.inr (.inr (fun _ _ _ _ _ h => h))), .inr (.inr (.inr (fun _ _ _ _ _ h => h))), .inr (.inr (.inr (fun _ _ _ _ _ h => h))), .inr (.inr (.inr (fun _ _ _ _ _ h => h))), .inr (.inr (.inr (fun _ _ _ _ _ h => h))), .inr (.inr (.inr (fun _ _ _ _ _ h => h))), .inr (.inr (.inr (fun _ _ _ _ _ h => h))), .inr (.inr (.inr (fun _ _ _ _ h h0 => h0.step h))), .inr (.inr (.inr (fun _ _ _ _ h h0 => rep_step h0 h))), .inl rfl, .inr (.inr (.inl rfl)), .inr (.inr (.inl rfl)), .inr (.inr (.inl rfl)), .inr (.inr (.inl rfl)), trivial⟩,
            ⟨.inr (.inr (.inr (fun _ _ _ _ h h0 => by cases h; exact h0))), .inr (.inr (.inr (fun _ _ _ _ _ h => h))), .inr (.inr (.inr (fun _ _ _ _ _ h => h))), .inr (.inr (.inr (fun _ _ _ _ _ h => h))), .inr (.inr (.inr (fun _ _ _ _ _ h => h))), .inr (.inr (.inr (fun _ _ _ _ _ h => h))), .inr (.inr (.inr (fun _ _ _ _ _ h => h))), .inr (.inr (.inr (fun _ _ _ _ _ h => h))), .inr (.inr (.inr (fun _ _ _ _ h h0 => by cases h; exact h0))), .inr (.inr (.inr (fun _ _ _ _ h h0 => by cases h; exact h0))), .inr (.inr (.inr (fun _ _ _ _ _ h => h))), .inl rfl, .inr (.inr (.inr (fun _ _ _ _ _ h => h))), .inr (.inr (.inl rfl)), .inr (.inr (.inl rfl)), trivial⟩,
            ⟨.inr (.inr (.inr (fun _ _ _ _ h h0 => by cases h; exact h0))), .inr (.inr (.inr (fun _ _ _ _ _ h => h))), .inr (.inr (.inr (fun _ _ _ _ _ h => h))), .inr (.inr (.inr (fun _ _ _ _ _ h => h))), .inr (.inr (.inr (fun _ _ _ _ _ h => h))), .inr (.inr (.inr (fun _ _ _ _ _ h => h))), .inr (.inr (.inr (fun _ _ _ _ _ h => h))), .inr (.inr (.inr (fun _ _ _ _ _ h => h))), .inr (.inr (.inr (fun _ _ _ _ h h0 => by cases h; exact h0))), .inr (.inr (.inr (fun _ _ _ _ h h0 => by cases h; exact h0))), .inr (.inr (.inr (fun _ _ _ _ _ h => h))), .inr (.inr (.inr (fun _ _ _ _ _ h => h))), .inl rfl, .inr (.inr (.inl rfl)), .inr (.inr (.inl rfl)), trivial⟩,
            ⟨.inr (.inr (.inr (fun _ _ _ _ h h0 => by cases h; exact h0))), .inr (.inr (.inr (fun _ _ _ _ _ h => h))), .inr (.inr (.inr (fun _ _ _ _ _ h => h))), .inr (.inr (.inr (fun _ _ _ _ _ h => h))), .inr (.inr (.inr (fun _ _ _ _ _ h => h))), .inr (.inr (.inr (fun _ _ _ _ _ h => h))), .inr (.inr (.inr (fun _ _ _ _ _ h => h))), .inr (.inr (.inr (fun _ _ _ _ _ h => h))), .inr (.inr (.inr (fun _ _ _ _ h h0 => by cases h; exact h0))), .inr (.inr (.inr (fun _ _ _ _ h h0 => by cases h; exact h0))), .inr (.inr (.inr (fun _ _ _ _ _ h => h))), .inr (.inr (.inr (fun _ _ _ _ _ h => h))), .inr (.inr (.inr (fun _ _ _ _ _ h => h))), .inl rfl, .inr (.inr (.inl rfl)), trivial⟩,
            ⟨.inr (.inr (.inr (fun _ _ _ _ h h0 => by cases h; exact h0))), .inr (.inr (.inr (fun _ _ _ _ _ h => h))), .inr (.inr (.inr (fun _ _ _ _ _ h => h))), .inr (.inr (.inr (fun _ _ _ _ _ h => h))), .inr (.inr (.inr (fun _ _ _ _ _ h => h))), .inr (.inr (.inr (fun _ _ _ _ _ h => h))), .inr (.inr (.inr (fun _ _ _ _ _ h => h))), .inr (.inr (.inr (fun _ _ _ _ _ h => h))), .inr (.inr (.inr (fun _ _ _ _ h h0 => by cases h; exact h0))), .inr (.inr (.inr (fun _ _ _ _ h h0 => by cases h; exact h0))), .inr (.inr (.inr (fun _ _ _ _ _ h => h))), .inr (.inr (.inr (fun _ _ _ _ _ h => h))), .inr (.inr (.inr (fun _ _ _ _ _ h => h))), .inr (.inr (.inr (fun _ _ _ _ _ h => h))), .inl rfl, trivial⟩, trivial⟩
        · refine ⟨?_, ?_, ?_, ?_, ?_, ?_, ?_, ?_, ?_, ?_, ?_, ?_, ?_, ?_, ?_, trivial⟩
          · -- 0: Op.buildSlice 49 3 #[(0, Operand.const (Value.string { data := #[100, 111, 109, 97, 105, 110] })), (1, Operand
            refine step_plain [] (fun _ => rfl) rfl ?_
            intro w1 vals hC1 hi0 hf E hE
            clear hi0
            clear hf
            simp only [puts, act_put, act_put_none, List.setIfInBounds_toArray, List.set_cons_zero, List.set_cons_succ] at hE ⊢
            go_wp2
            exact .mk (hE _ _ ⟨_, rfl, Blk.new _ _ _⟩ (hC1.alloc hC1.size _) ((Below.refl _ _).alloc (Nat.le_refl _) _))
          · -- 1: Op.fieldAddr 25 (Operand.tmp 1) 0
            refine step_plain [] (fun _ => rfl) rfl ?_
            intro w1 vals hC1 hi0 hf E hE
            clear hi0
            clear hf
            simp only [puts, act_put, act_put_none, List.setIfInBounds_toArray, List.set_cons_zero, List.set_cons_succ] at hE ⊢
            go_wp2
            exact .mk (hE _ _ rfl hC1 rfl)
          · -- 2: Op.load 9 (Operand.tmp 27)
            refine step_plain [(1, some 27)] (fun _ => rfl) rfl ?_
            intro w1 vals hC1 hi0 hf E hE
            clear hi0
            have f1 : vals 1 = .pointer (some ⟨w.heap.size, 0, none⟩) := hf 1 rfl
            try dsimp only at f1
            clear hf
            simp only [puts, act_put, act_put_none, List.setIfInBounds_toArray, List.set_cons_zero, List.set_cons_succ, f1] at hE ⊢
            clear f1
            have d0 := (HBX.out.below hC1 HBX.out.lt).cell 0
            simp only [bC, List.getElem?_toArray, List.getElem?_cons_zero] at d0
            go_wp2
            exact .mk (hE _ _ rfl hC1 rfl)
          · -- 3: Op.call { callee := Callee.value (Operand.func 27), args := #[Operand.tmp 28], argTypes := #[9] }
            refine step_plain [(2, some 28)] (fun _ => rfl) rfl ?_
            intro w1 vals hC1 hi0 hf E hE
            clear hi0
            have f2 : vals 2 = .string (bs D) := hf 2 rfl
            try dsimp only at f2
            clear hf
            simp only [puts, act_put, act_put_none, List.setIfInBounds_toArray, List.set_cons_zero, List.set_cons_succ, f2] at hE ⊢
            clear f2
            go_wp2_with fail
            refine calls_then (HTX.out _) ?_
            rintro e w2 ⟨rfl, hb2⟩
            go_wp2_with fail
            exact .mk (hE _ _ rfl (hC1.trans (hb2.mono hC1.size)) hb2)
          · -- 4: Op.load 55 (Operand.tmp 4)
            refine step_plain [] (fun _ => rfl) rfl ?_
            intro w1 vals hC1 hi0 hf E hE
            clear hi0
            clear hf
            simp only [puts, act_put, act_put_none, List.setIfInBounds_toArray, List.set_cons_zero, List.set_cons_succ] at hE ⊢
            refine wpList_get_box (cs := jvCells KV) (HKJ.out.below hC1 HKJ.out.lt) rfl rfl rfl hu rfl jT_size4 ?_
            go_wp2_with fail
            exact .mk (hE _ _ rfl hC1 rfl)
          · -- 5: Op.fieldAddr 25 (Operand.tmp 1) 1
            refine step_plain [] (fun _ => rfl) rfl ?_
            intro w1 vals hC1 hi0 hf E hE
            clear hi0
            clear hf
            simp only [puts, act_put, act_put_none, List.setIfInBounds_toArray, List.set_cons_zero, List.set_cons_succ] at hE ⊢
            go_wp2
            exact .mk (hE _ _ rfl hC1 rfl)
          · -- 6: Op.load 3 (Operand.tmp 31)
            refine step_plain [(5, some 31)] (fun _ => rfl) rfl ?_
            intro w1 vals hC1 hi0 hf E hE
            clear hi0
            have f5 : vals 5 = .pointer (some ⟨w.heap.size, 1, none⟩) := hf 5 rfl
            try dsimp only at f5
            clear hf
            simp only [puts, act_put, act_put_none, List.setIfInBounds_toArray, List.set_cons_zero, List.set_cons_succ, f5] at hE ⊢
            clear f5
            have d0 := (HBX.out.below hC1 HBX.out.lt).cell 1
            simp only [bC, List.getElem?_toArray, List.getElem?_cons_zero, List.getElem?_cons_succ] at d0
            go_wp2
            exact .mk (hE _ _ rfl hC1 rfl)
          · -- 7: Op.build 55 #[(0, Operand.const (Value.int IntKind.i64 2)), (1, Operand.tmp 32)]
            refine step_plain [(6, some 32)] (fun _ => rfl) rfl ?_
            intro w1 vals hC1 hi0 hf E hE
            clear hi0
            have f6 : vals 6 = .int .i64 num := hf 6 rfl
            try dsimp only at f6
            clear hf
            simp only [puts, act_put, act_put_none, List.setIfInBounds_toArray, List.set_cons_zero, List.set_cons_succ, f6] at hE ⊢
            clear f6
            go_wp2
            exact .mk (hE _ _ rfl hC1 rfl)
          · -- 8: Op.buildSlice 53 3 #[(0, Operand.tmp 29), (1, Operand.tmp 30), (2, Operand.tmp 33)]
            refine step_plain [(3, some 29), (4, some 30), (7, some 33)] (fun _ => rfl) rfl ?_
            intro w1 vals hC1 hi0 hf E hE
            clear hi0
            have f3 : vals 3 = .agg (jvCells (flatV 3 0 D)) := hf 3 rfl
            have f4 : vals 4 = .agg (jvCells KV) := hf 4 rfl
            have f7 : vals 7 = .agg (jvCells (flatV 2 num [])) := hf 7 rfl
            try dsimp only at f3 f4 f7
            clear hf
            simp only [puts, act_put, act_put_none, List.setIfInBounds_toArray, List.set_cons_zero, List.set_cons_succ, f3, f4, f7] at hE ⊢
            clear f3 f4 f7
            unfold jvCells flatV
            go_wp2
            exact .mk (hE _ _ ⟨_, rfl, Blk.new _ _ _⟩ (hC1.alloc hC1.size _) ((Below.refl _ _).alloc (Nat.le_refl _) _))
          · -- 9: Op.build 55 #[(0, Operand.const (Value.int IntKind.i64 5)), (3, Operand.tmp 26), (4, Operand.tmp 34)]
            refine step_plain [(0, some 26), (8, some 34)] (fun _ => rfl) rfl ?_
            intro w1 vals hC1 hi0 hf E hE
            clear hi0
            have f0 : (fun v u => RowAt u 9 3 [.string (bs [100, 111, 109, 97, 105, 110]), .string (bs [107, 101, 121, 115]), .string (bs [110, 117, 109, 98, 101, 114])] v) (vals 0) w1 := hf 0 rfl
            have f8 : (fun v u => RowAt u 55 3 (rowsV jvCells [flatV 3 0 D, KV, flatV 2 num []]) v) (vals 8) w1 := hf 8 rfl
            try dsimp only at f0 f8
            clear hf
            obtain ⟨g0, hx0, hg0⟩ := f0
            obtain ⟨g8, hx8, hg8⟩ := f8
            simp only [puts, act_put, act_put_none, List.setIfInBounds_toArray, List.set_cons_zero, List.set_cons_succ, hx0, hx8] at hE ⊢
            clear hx0 hx8
            go_wp2
            exact .mk (hE _ _ ⟨_, rfl, bundle_rep ⟨D, num, ks⟩ KV hg0 hg8 ((HRP.out.under hC1).imp fun b _ h => Nat.lt_of_lt_of_le h hC1.size)⟩ hC1 rfl)
          · -- 10: Op.call { callee := Callee.value (Operand.func 26), args := #[Operand.tmp 35], argTypes := #[55] }
            refine step_plain [(9, some 35), (3, some 29)] (fun _ => rfl) rfl ?_
            intro w1 vals hC1 hi0 hf E hE
            clear hi0
            have f3 : vals 3 = .agg (jvCells (flatV 3 0 D)) := hf 3 rfl
            have f9 : (fun v u => ∃ jv, v = .agg (jvCells jv) ∧ JRep u (fun b => b < u.heap.size) (bundleJ ⟨D, num, ks⟩) jv) (vals 9) w1 := hf 9 rfl
            try dsimp only at f3 f9
            clear hf
            obtain ⟨jv, hx9, hj9⟩ := f9
            simp only [puts, act_put, act_put_none, List.setIfInBounds_toArray, List.set_cons_zero, List.set_cons_succ, f3, hx9] at hE ⊢
            clear f3
            clear hx9
            go_wp2_with fail
            refine calls_then (HWR.out _ _ hj9) ?_
            rintro e w2 ⟨rfl, hb2⟩
            go_wp2_with fail
            exact .mk (hE _ _ rfl (hC1.trans (hb2.mono hC1.size)) hb2)
          · -- 11: Op.extract (Operand.tmp 36) 0
            refine step_plain [(10, some 36)] (fun _ => rfl) rfl ?_
            intro w1 vals hC1 hi0 hf E hE
            clear hi0
            have f10 : vals 10 = .tuple #[.string (bs T), .int .i64 0] := hf 10 rfl
            try dsimp only at f10
            clear hf
            simp only [puts, act_put, act_put_none, List.setIfInBounds_toArray, List.set_cons_zero, List.set_cons_succ, f10] at hE ⊢
            clear f10
            go_wp2
            exact .mk (hE _ _ rfl hC1 rfl)
          · -- 12: Op.extract (Operand.tmp 36) 1
            refine step_plain [(10, some 36)] (fun _ => rfl) rfl ?_
            intro w1 vals hC1 hi0 hf E hE
            clear hi0
            have f10 : vals 10 = .tuple #[.string (bs T), .int .i64 0] := hf 10 rfl
            try dsimp only at f10
            clear hf
            simp only [puts, act_put, act_put_none, List.setIfInBounds_toArray, List.set_cons_zero, List.set_cons_succ, f10] at hE ⊢
            clear f10
            go_wp2
            exact .mk (hE _ _ rfl hC1 rfl)
          · -- 13: Op.assign (Operand.tmp 37)
            refine step_plain [(11, some 37), (10, some 36), (0, some 26), (1, some 27), (2, some 28), (3, some 29), (4, some 30), (5, some 31), (6, some 32), (7, some 33), (8, some 34), (9, some 35), (10, some 36), (11, some 37), (12, some 38)] (fun _ => rfl) rfl ?_
            intro w1 vals hC1 hi0 hf E hE
            clear hi0
            have f0 : (fun v u => RowAt u 9 3 [.string (bs [100, 111, 109, 97, 105, 110]), .string (bs [107, 101, 121, 115]), .string (bs [110, 117, 109, 98, 101, 114])] v) (vals 0) w1 := hf 0 rfl
            have f1 : vals 1 = .pointer (some ⟨w.heap.size, 0, none⟩) := hf 1 rfl
            have f2 : vals 2 = .string (bs D) := hf 2 rfl
            have f3 : vals 3 = .agg (jvCells (flatV 3 0 D)) := hf 3 rfl
            have f4 : vals 4 = .agg (jvCells KV) := hf 4 rfl
            have f5 : vals 5 = .pointer (some ⟨w.heap.size, 1, none⟩) := hf 5 rfl
            have f6 : vals 6 = .int .i64 num := hf 6 rfl
            have f7 : vals 7 = .agg (jvCells (flatV 2 num [])) := hf 7 rfl
            have f8 : (fun v u => RowAt u 55 3 (rowsV jvCells [flatV 3 0 D, KV, flatV 2 num []]) v) (vals 8) w1 := hf 8 rfl
            have f9 : (fun v u => ∃ jv, v = .agg (jvCells jv) ∧ JRep u (fun b => b < u.heap.size) (bundleJ ⟨D, num, ks⟩) jv) (vals 9) w1 := hf 9 rfl
            have f10 : vals 10 = .tuple #[.string (bs T), .int .i64 0] := hf 10 rfl
            have f11 : vals 11 = .string (bs T) := hf 11 rfl
            have f12 : vals 12 = .int .i64 0 := hf 12 rfl
            try dsimp only at f0 f1 f2 f3 f4 f5 f6 f7 f8 f9 f10 f11 f12
            clear hf
            simp only [puts, act_put, act_put_none, List.setIfInBounds_toArray, List.set_cons_zero, List.set_cons_succ, f1, f2, f3, f4, f5, f6, f7, f10, f11, f12] at hE ⊢
            clear f1 f2 f3 f4 f5 f6 f7 f10 f11 f12
            go_wp2
            exact .mk (hE _ _ rfl hC1 rfl)
          · -- 14: Op.assign (Operand.tmp 38)
            refine step_plain [(12, some 38), (13, some 2), (0, some 26), (1, some 27), (2, some 28), (3, some 29), (4, some 30), (5, some 31), (6, some 32), (7, some 33), (8, some 34), (9, some 35), (10, some 36), (11, some 37), (12, some 38), (13, some 2)] (fun _ => rfl) rfl ?_
            intro w1 vals hC1 hi0 hf E hE
            clear hi0
            have f0 : (fun v u => RowAt u 9 3 [.string (bs [100, 111, 109, 97, 105, 110]), .string (bs [107, 101, 121, 115]), .string (bs [110, 117, 109, 98, 101, 114])] v) (vals 0) w1 := hf 0 rfl
            have f1 : vals 1 = .pointer (some ⟨w.heap.size, 0, none⟩) := hf 1 rfl
            have f2 : vals 2 = .string (bs D) := hf 2 rfl
            have f3 : vals 3 = .agg (jvCells (flatV 3 0 D)) := hf 3 rfl
            have f4 : vals 4 = .agg (jvCells KV) := hf 4 rfl
            have f5 : vals 5 = .pointer (some ⟨w.heap.size, 1, none⟩) := hf 5 rfl
            have f6 : vals 6 = .int .i64 num := hf 6 rfl
            have f7 : vals 7 = .agg (jvCells (flatV 2 num [])) := hf 7 rfl
            have f8 : (fun v u => RowAt u 55 3 (rowsV jvCells [flatV 3 0 D, KV, flatV 2 num []]) v) (vals 8) w1 := hf 8 rfl
            have f9 : (fun v u => ∃ jv, v = .agg (jvCells jv) ∧ JRep u (fun b => b < u.heap.size) (bundleJ ⟨D, num, ks⟩) jv) (vals 9) w1 := hf 9 rfl
            have f10 : vals 10 = .tuple #[.string (bs T), .int .i64 0] := hf 10 rfl
            have f11 : vals 11 = .string (bs T) := hf 11 rfl
            have f12 : vals 12 = .int .i64 0 := hf 12 rfl
            have f13 : vals 13 = .string (bs T) := hf 13 rfl
            try dsimp only at f0 f1 f2 f3 f4 f5 f6 f7 f8 f9 f10 f11 f12 f13
            clear hf
            simp only [puts, act_put, act_put_none, List.setIfInBounds_toArray, List.set_cons_zero, List.set_cons_succ, f1, f2, f3, f4, f5, f6, f7, f10, f11, f12, f13] at hE ⊢
            clear f1 f2 f3 f4 f5 f6 f7 f10 f11 f12 f13
            go_wp2
            exact .mk (hE _ _ rfl hC1 rfl)
        intro w1 vals hC1 hf
        have f0 : (fun v u => RowAt u 9 3 [.string (bs [100, 111, 109, 97, 105, 110]), .string (bs [107, 101, 121, 115]), .string (bs [110, 117, 109, 98, 101, 114])] v) (vals 0) w1 := hf 0 (by decide) rfl
        have f1 : vals 1 = .pointer (some ⟨w.heap.size, 0, none⟩) := hf 1 (by decide) rfl
        have f2 : vals 2 = .string (bs D) := hf 2 (by decide) rfl
        have f3 : vals 3 = .agg (jvCells (flatV 3 0 D)) := hf 3 (by decide) rfl
        have f4 : vals 4 = .agg (jvCells KV) := hf 4 (by decide) rfl
        have f5 : vals 5 = .pointer (some ⟨w.heap.size, 1, none⟩) := hf 5 (by decide) rfl
        have f6 : vals 6 = .int .i64 num := hf 6 (by decide) rfl
        have f7 : vals 7 = .agg (jvCells (flatV 2 num [])) := hf 7 (by decide) rfl
        have f8 : (fun v u => RowAt u 55 3 (rowsV jvCells [flatV 3 0 D, KV, flatV 2 num []]) v) (vals 8) w1 := hf 8 (by decide) rfl
        have f9 : (fun v u => ∃ jv, v = .agg (jvCells jv) ∧ JRep u (fun b => b < u.heap.size) (bundleJ ⟨D, num, ks⟩) jv) (vals 9) w1 := hf 9 (by decide) rfl
        have f10 : vals 10 = .tuple #[.string (bs T), .int .i64 0] := hf 10 (by decide) rfl
        have f11 : vals 11 = .string (bs T) := hf 11 (by decide) rfl
        have f12 : vals 12 = .int .i64 0 := hf 12 (by decide) rfl
        have f13 : vals 13 = .string (bs T) := hf 13 (by decide) rfl
        have f14 : vals 14 = .int .i64 0 := hf 14 (by decide) rfl
        try dsimp only at f0 f1 f2 f3 f4 f5 f6 f7 f8 f9 f10 f11 f12 f13 f14
        clear hf
        simp only [puts, act_put, act_put_none, List.setIfInBounds_toArray, List.set_cons_zero, List.set_cons_succ, f1, f2, f3, f4, f5, f6, f7, f10, f11, f12, f13, f14]
        clear f1 f2 f3 f4 f5 f6 f7 f10 f11 f12 f13 f14
        generalize vals 0 = x0 at *
        generalize vals 8 = x8 at *
        generalize vals 9 = x9 at *
        have HC9 := Lib.hid hC1
        clear hC1 HC0
        go_wp2_with fail
        go_ret2
        exact ⟨by rw [HRT.out]; rfl, HF9.out.trans (HC9.out.mono HF9.out.size)⟩
end Go.Proofs.YtoihgnkhalhocaaGreatDoor.Js
/-
  Plain: bundles that are held: the order of texts, what Hold makes of them; bundles as they lie in memory.
-/
namespace Go.Proofs.YtoihgnkhalhocaaGreatDoor.Js
set_option linter.unusedSimpArgs false
set_option linter.unusedVariables false
open Go.RowKit

-- the order of texts
def lsB (a b : Bs) : Bool := Op.bytesLess a b
theorem lsB_irr : ∀ a : Bs, lsB a a = false
  | [] => rfl
  | x :: a => by
    have := lsB_irr a
    unfold lsB at this ⊢
    simp [Op.bytesLess, this]
theorem lsB_tri : ∀ a b : Bs, lsB a b = false → a ≠ b → lsB b a = true
  | [], [], _, h => absurd rfl h
  | [], _ :: _, h, _ => by simp [lsB, Op.bytesLess] at h
  | _ :: _, [], _, _ => rfl
  | x :: a, y :: b, h, hn => by
    unfold lsB at h ⊢
    simp only [Op.bytesLess, Bool.or_eq_false_iff, Bool.and_eq_false_iff, decide_eq_false_iff_not] at h
    obtain ⟨h1, h2⟩ := h
    by_cases hxy : x = y
    · subst hxy
      have h3 : Op.bytesLess a b = false := by
        rcases h2 with h2 | h2
        · simp at h2
        · exact h2
      have := lsB_tri a b h3 (fun e => hn (by rw [e]))
      unfold lsB at this
      simp [Op.bytesLess, this]
    · have : y < x := by
        have h4 : ¬ x.toNat < y.toNat := h1
        have h5 : x.toNat ≠ y.toNat := fun e => hxy (UInt8.toNat_inj.1 e)
        show y.toNat < x.toNat
        omega
      simp [Op.bytesLess, this]
theorem lsB_trans : ∀ a b c : Bs, lsB a b = true → lsB b c = true → lsB a c = true
  | _, [], _, h, _ => by simp [lsB, Op.bytesLess] at h
  | _, _ :: _, [], _, h => by simp [lsB, Op.bytesLess] at h
  | [], _ :: _, _ :: _, _, _ => rfl
  | x :: a, y :: b, z :: c, h1, h2 => by
    unfold lsB at h1 h2 ⊢
    simp only [Op.bytesLess, Bool.or_eq_true, Bool.and_eq_true, decide_eq_true_eq, beq_iff_eq] at h1 h2 ⊢
    rcases h1 with h1 | ⟨rfl, h1⟩
    · rcases h2 with h2 | ⟨rfl, h2⟩
      · exact .inl (UInt8.lt_trans h1 h2)
      · exact .inl h1
    · rcases h2 with h2 | ⟨rfl, h2⟩
      · exact .inl h2
      · exact .inr ⟨rfl, lsB_trans a b c h1 h2⟩
theorem lsB_ne {a b : Bs} (h : lsB a b = true) : a ≠ b := fun e => by subst e; rw [lsB_irr] at h; exact absurd h (by decide)

-- a bundle as it lies
structure FD where
  d : Bs
  n : Int
  A : Option Addr
  c : Nat
  k : List (Bs × Bs)
def fC (x : FD) : Array Value := bC x.d x.n x.A x.k.length x.c
theorem fC_size (x : FD) : (fC x).size = 3 := rfl
theorem fC_one (x : FD) : (fC x).all (·.oneCell') = true := by simp [fC, bC, Value.oneCell']
abbrev FB := Bs × Int × List (Bs × Bs)
def FD.b (x : FD) : FB := (x.d, x.n, x.k)

-- what Hold makes, one by one
def hmid (b : FD) (s : List FD × Bool) (x : FD) : List FD × Bool := if (!s.2 && !lsB x.d b.d) = true then (s.1 ++ [b], true) else s
def hstep (b : FD) (s : List FD × Bool) (x : FD) : List FD × Bool := (if x.d ≠ b.d then (hmid b s x).1 ++ [x] else (hmid b s x).1, (hmid b s x).2)
def hto (b : FD) (hs : List FD) (i : Nat) : List FD × Bool := (hs.take i).foldl (hstep b) ([], false)
theorem hto_zero (b : FD) (hs : List FD) : hto b hs 0 = ([], false) := by simp [hto]
theorem hto_step (b : FD) (hs : List FD) {i : Nat} (h : i < hs.length) : hto b hs (i + 1) = hstep b (hto b hs i) hs[i] := by
  rw [hto, List.take_succ_eq_append_getElem h, List.foldl_append]
  rfl
def holdR (b : FD) (hs : List FD) : List FD := let s := hs.foldl (hstep b) ([], false); if s.2 then s.1 else s.1 ++ [b]
theorem holdR_end {b : FD} {hs : List FD} {i : Nat} (h : i = hs.length) : holdR b hs = if (hto b hs i).2 then (hto b hs i).1 else (hto b hs i).1 ++ [b] := by
  subst h
  rw [hto, List.take_of_length_le (Nat.le_refl _)]
  rfl
theorem hstep_len (b : FD) (s : List FD × Bool) (x : FD) : (hstep b s x).1.length ≤ s.1.length + 2 := by
  unfold hstep hmid
  split <;> split <;> simp
theorem hto_len (b : FD) (hs : List FD) : ∀ i, (hto b hs i).1.length ≤ 2 * i := fun i => by
  induction i with
  | zero => simp [hto_zero]
  | succ i ih =>
    by_cases h : i < hs.length
    · rw [hto_step b hs h]
      have := hstep_len b (hto b hs i) hs[i]
      omega
    · have e : hto b hs (i + 1) = hto b hs i := by rw [hto, hto, List.take_of_length_le (by omega), List.take_of_length_le (by omega)]
      rw [e]
      omega
/-- with those before, and those behind -/
theorem hfold_done (b : FD) : ∀ (q acc : List FD), q.foldl (hstep b) (acc, true) = (acc ++ q.filter (fun x => decide (x.d ≠ b.d)), true)
  | [], acc => by simp
  | x :: q, acc => by
    rw [List.foldl_cons]
    by_cases h : x.d = b.d
    · rw [show hstep b (acc, true) x = (acc, true) by simp [hstep, hmid, h], hfold_done b q acc]
      simp [h]
    · rw [show hstep b (acc, true) x = (acc ++ [x], true) by simp [hstep, hmid, h], hfold_done b q (acc ++ [x])]
      simp [h]
theorem hfold_lt (b : FD) : ∀ (p acc : List FD), (∀ x ∈ p, lsB x.d b.d = true) → p.foldl (hstep b) (acc, false) = (acc ++ p, false)
  | [], acc, _ => by simp
  | x :: p, acc, h => by
    have hx := h x (by simp)
    rw [List.foldl_cons, show hstep b (acc, false) x = (acc ++ [x], false) by simp [hstep, hmid, hx, lsB_ne hx], hfold_lt b p (acc ++ [x]) (fun y hy => h y (by simp [hy]))]
    simp
/-- the first that is not before -/
def atF (b : FD) (hs : List FD) : Nat := (hs.takeWhile fun x => lsB x.d b.d).length
theorem tw_take {α : Type} (p : α → Bool) : ∀ l : List α, l.takeWhile p = l.take (l.takeWhile p).length
  | [] => rfl
  | x :: r => by
    by_cases h : p x = true
    · simp only [List.takeWhile_cons, h, if_true, List.length_cons, List.take_succ_cons]
      rw [← tw_take p r]
    · simp [List.takeWhile_cons, h]
theorem tw_all {α : Type} (p : α → Bool) : ∀ l : List α, ∀ x ∈ l.takeWhile p, p x = true
  | [], x, hx => by simp at hx
  | y :: r, x, hx => by
    by_cases h : p y = true
    · simp only [List.takeWhile_cons, h, if_true, List.mem_cons] at hx
      rcases hx with rfl | hx
      · exact h
      · exact tw_all p r x hx
    · simp [List.takeWhile_cons, h] at hx
theorem tw_next {α : Type} (p : α → Bool) : ∀ (l : List α) (h : (l.takeWhile p).length < l.length), p (l[(l.takeWhile p).length]'h) = false
  | [], h => by simp at h
  | y :: r, h => by
    by_cases hy : p y = true
    · have e : ((y :: r).takeWhile p).length = (r.takeWhile p).length + 1 := by simp [List.takeWhile_cons, hy]
      have h' : (r.takeWhile p).length < r.length := by rw [e] at h; simpa using h
      have := tw_next p r h'
      simp only [e, List.getElem_cons_succ]
      exact this
    · have e : ((y :: r).takeWhile p).length = 0 := by simp [List.takeWhile_cons, hy]
      simp only [e, List.getElem_cons_zero]
      simpa using hy
theorem tw_le {α : Type} (p : α → Bool) (l : List α) : (l.takeWhile p).length ≤ l.length := (List.takeWhile_prefix p).length_le
theorem atF_next {b : FD} {hs : List FD} (hl : atF b hs < hs.length) : lsB (hs[atF b hs]).d b.d = false := tw_next (fun x : FD => lsB x.d b.d) hs hl
/-- they lie in order -/
def InOrd (hs : List FD) : Prop := hs.Pairwise fun x y => lsB x.d y.d = true
theorem holdR_eq (b : FD) (hs : List FD) : holdR b hs = hs.take (atF b hs) ++ b :: (hs.drop (atF b hs)).filter (fun x => decide (x.d ≠ b.d)) := by
  have hsp : hs = hs.take (atF b hs) ++ hs.drop (atF b hs) := (List.take_append_drop _ _).symm
  have hlt : ∀ x ∈ hs.take (atF b hs), lsB x.d b.d = true := fun x hx => by
    rw [show hs.take (atF b hs) = hs.takeWhile (fun x => lsB x.d b.d) from (tw_take _ _).symm] at hx
    exact tw_all (fun x => lsB x.d b.d) hs x hx
  by_cases hl : atF b hs < hs.length
  · have hd : hs.drop (atF b hs) = hs[atF b hs] :: hs.drop (atF b hs + 1) := List.drop_eq_getElem_cons hl
    have hge : lsB (hs[atF b hs]).d b.d = false := atF_next hl
    have hf : hs.foldl (hstep b) ([], false) = (hs.take (atF b hs) ++ b :: (hs.drop (atF b hs)).filter (fun x => decide (x.d ≠ b.d)), true) := by
      conv => lhs; rw [hsp]
      rw [List.foldl_append, hfold_lt b _ [] hlt, hd, List.foldl_cons, List.nil_append]
      by_cases h : (hs[atF b hs]).d = b.d
      · rw [show hstep b (hs.take (atF b hs), false) hs[atF b hs] = (hs.take (atF b hs) ++ [b], true) by unfold hstep hmid; rw [hge]; simp [h], hfold_done]
        rw [List.filter_cons, if_neg (by simp [h])]
        simp
      · rw [show hstep b (hs.take (atF b hs), false) hs[atF b hs] = (hs.take (atF b hs) ++ [b] ++ [hs[atF b hs]], true) by unfold hstep hmid; rw [hge]; simp [h], hfold_done]
        rw [List.filter_cons, if_pos (by simp [h])]
        simp
    unfold holdR
    rw [hf]
    rfl
  · have hle : hs.length ≤ atF b hs := by omega
    have ht : hs.take (atF b hs) = hs := List.take_of_length_le hle
    have hf : hs.foldl (hstep b) ([], false) = (hs, false) := by
      rw [hfold_lt b hs [] (by rw [ht] at hlt; exact hlt)]
      simp
    unfold holdR
    rw [hf, ht, List.drop_of_length_le hle]
    rfl
theorem ord_drop {hs : List FD} (h : InOrd hs) {i : Nat} (hi : i < hs.length) : ∀ x ∈ hs.drop (i + 1), lsB (hs[i]).d x.d = true := by
  have : InOrd (hs.drop i) := h.sublist (List.drop_sublist _ _)
  rw [List.drop_eq_getElem_cons hi] at this
  exact (List.pairwise_cons.1 this).1
/-- what the code makes, where they lie in order -/
theorem holdR_set {b : FD} {hs : List FD} (ho : InOrd hs) (hl : atF b hs < hs.length) (he : (hs[atF b hs]).d = b.d) : holdR b hs = hs.take (atF b hs) ++ b :: hs.drop (atF b hs + 1) := by
  rw [holdR_eq, List.drop_eq_getElem_cons hl, List.filter_cons, if_neg (by simp [he])]
  congr 2
  apply List.filter_eq_self.2
  intro x hx
  have := ord_drop ho hl x hx
  rw [he] at this
  simpa using (lsB_ne this).symm
theorem holdR_ins {b : FD} {hs : List FD} (ho : InOrd hs) (hn : ∀ h : atF b hs < hs.length, (hs[atF b hs]).d ≠ b.d) : holdR b hs = hs.take (atF b hs) ++ b :: hs.drop (atF b hs) := by
  rw [holdR_eq]
  congr 2
  apply List.filter_eq_self.2
  intro x hx
  by_cases hl : atF b hs < hs.length
  · have hge : lsB (hs[atF b hs]).d b.d = false := atF_next hl
    have hb := lsB_tri _ _ hge (hn hl)
    rw [List.drop_eq_getElem_cons hl, List.mem_cons] at hx
    rcases hx with rfl | hx
    · simpa using hn hl
    · have := lsB_trans _ _ _ hb (ord_drop ho hl x hx)
      simpa using (lsB_ne this).symm
  · rw [List.drop_of_length_le (by omega)] at hx
    simp at hx
theorem holdR_ord {b : FD} {hs : List FD} (ho : InOrd hs) : InOrd (holdR b hs) := by
  rw [holdR_eq]
  have h1 : InOrd (hs.take (atF b hs)) := ho.sublist (List.take_sublist _ _)
  have h2 : InOrd ((hs.drop (atF b hs)).filter (fun x => decide (x.d ≠ b.d))) := ho.sublist ((List.filter_sublist).trans (List.drop_sublist _ _))
  have hlt : ∀ x ∈ hs.take (atF b hs), lsB x.d b.d = true := fun x hx => by
    rw [show hs.take (atF b hs) = hs.takeWhile (fun x => lsB x.d b.d) from (tw_take _ _).symm] at hx
    exact tw_all (fun x => lsB x.d b.d) hs x hx
  have hgt : ∀ x ∈ (hs.drop (atF b hs)).filter (fun x => decide (x.d ≠ b.d)), lsB b.d x.d = true := fun x hx => by
    obtain ⟨hx, hne⟩ := List.mem_filter.1 hx
    have hne : x.d ≠ b.d := by simpa using hne
    by_cases hl : atF b hs < hs.length
    · have hge : lsB (hs[atF b hs]).d b.d = false := atF_next hl
      rw [List.drop_eq_getElem_cons hl, List.mem_cons] at hx
      rcases hx with rfl | hx
      · exact lsB_tri _ _ hge hne
      · have h3 := ord_drop ho hl x hx
        by_cases h : (hs[atF b hs]).d = b.d
        · rw [h] at h3; exact h3
        · exact lsB_trans _ _ _ (lsB_tri _ _ hge h) h3
    · rw [List.drop_of_length_le (by omega)] at hx
      simp at hx
  unfold InOrd
  rw [List.pairwise_append]
  refine ⟨h1, List.pairwise_cons.2 ⟨hgt, h2⟩, fun x hx y hy => ?_⟩
  rcases List.mem_cons.1 hy with rfl | hy
  · exact hlt x hx
  · exact lsB_trans _ _ _ (hlt x hx) (hgt y hy)
theorem holdR_len (b : FD) (hs : List FD) : (holdR b hs).length ≤ hs.length + 1 := by
  rw [holdR_eq]
  have h1 := List.length_filter_le (fun x : FD => decide (x.d ≠ b.d)) (hs.drop (atF b hs))
  have h2 : (hs.take (atF b hs)).length + (hs.drop (atF b hs)).length = hs.length := by rw [← List.length_append, List.take_append_drop]
  rw [List.length_append, List.length_cons]
  omega
theorem holdR_mem {b : FD} {hs : List FD} {x : FD} (h : x ∈ holdR b hs) : x = b ∨ x ∈ hs := by
  rw [holdR_eq] at h
  rcases List.mem_append.1 h with h | h
  · exact .inr (List.mem_of_mem_take h)
  · rcases List.mem_cons.1 h with h | h
    · exact .inl h
    · exact .inr (List.mem_of_mem_drop (List.mem_filter.1 h).1)
/-- the reference's Hold -/
def refH (b : FD) (hs : List FD) : List FD × Int := if mayB b.d b.n b.k then (if 3 < (holdR b hs).length ∧ hs.length < (holdR b hs).length then (hs, 6) else (holdR b hs, 0)) else (hs, 1)
end Go.Proofs.YtoihgnkhalhocaaGreatDoor.Js
/-
  Memory: bundles that are held, read or the call's own; a field of one is written; append to a row that is full.
-/
namespace Go.Proofs.YtoihgnkhalhocaaGreatDoor.Js
set_option linter.unusedSimpArgs false
set_option linter.unusedVariables false
open Go.RowKit

/-- bundles that read, and their keys -/
structure HL (w : World) (B : Nat) (A : Option Addr) (xs : List FD) : Prop where
  row : Rd w B A (rowsV fC xs)
  keys : ∀ x ∈ xs, Rd w B x.A (rowsV kCell x.k)
/-- .. in rows of the call's own -/
structure HO (w : World) (K : Nat) (A : Option Addr) (c : Nat) (xs : List FD) : Prop where
  row : OwnR w K 25 3 A c xs.length (rowsV fC xs)
  keys : ∀ x ∈ xs, OwnR w K 39 2 x.A x.c x.k.length (rowsV kCell x.k)
section
variable {w w' : World} {B K : Nat} {A : Option Addr} {c : Nat} {xs : List FD}
theorem HL.nil (w : World) (B : Nat) (A : Option Addr) : HL w B A [] := ⟨fun i u hu => by simp [rowsV] at hu, fun x hx => by cases hx⟩
theorem HL.below (h : HL w B A xs) (hb : Below B w w') : HL w' B A xs := ⟨h.row.below hb, fun x hx => (h.keys x hx).below hb⟩
theorem rd_mono5 {w : World} {B B' : Nat} {A : Option Addr} {l : List Value} (h : Rd w B A l) (hb : B ≤ B') : Rd w B' A l := fun i u hu => by
  obtain ⟨ad, h1, h2, h3⟩ := h i u hu
  exact ⟨ad, h1, Nat.lt_of_lt_of_le h2 hb, h3⟩
theorem HL.mono {B' : Nat} (h : HL w B A xs) (hb : B ≤ B') : HL w B' A xs := ⟨rd_mono5 h.row hb, fun x hx => rd_mono5 (h.keys x hx) hb⟩
theorem HL.grow (h : HL w w.heap.size A xs) (hb : Below w.heap.size w w') : HL w' w'.heap.size A xs := (h.below hb).mono hb.size
theorem HO.hl (h : HO w K A c xs) : HL w w.heap.size A xs := ⟨Rd.of_own h.row.x (Nat.le_refl _), fun x hx => Rd.of_own (h.keys x hx).x (Nat.le_refl _)⟩
theorem HO.below (h : HO w K A c xs) (hb : Below w.heap.size w w') : HO w' K A c xs := ⟨h.row.below hb, fun x hx => (h.keys x hx).below hb⟩
end
theorem rowsV_cons {α : Type} (f : α → Array Value) (x : α) (l : List α) : rowsV f (x :: l) = (f x).toList ++ rowsV f l := by simp [rowsV]
theorem rowsV_set {α : Type} {f : α → Array Value} {m : Nat} (hf : ∀ x, (f x).size = m) {j : Nat} (hj : j < m) {v : Value} {x' : α} : ∀ (xs : List α) (i : Nat) (hi : i < xs.length), f x' = (f xs[i]).setIfInBounds j v → rowsV f (xs.set i x') = (rowsV f xs).set (i * m + j) v
  | x :: r, 0, _, hx => by
    have hx : f x' = (f x).setIfInBounds j v := hx
    have hl : j < (f x).toList.length := by simpa [hf] using hj
    rw [List.set_cons_zero, rowsV_cons, rowsV_cons, hx, Nat.zero_mul, Nat.zero_add, List.set_append_left _ _ hl, Array.toList_setIfInBounds]
  | x :: r, i + 1, hi, hx => by
    have ih := rowsV_set hf hj r i (by simpa using hi) hx
    have hl : (f x).toList.length = m := by simp [hf]
    rw [List.set_cons_succ, rowsV_cons, rowsV_cons, ih, List.set_append_right _ _ (by rw [hl, Nat.add_mul]; omega), hl]
    congr 2
    rw [Nat.add_mul]
    omega
/-- one field of one element is written -/
theorem ownR_at {α : Type} {f : α → Array Value} {m : Nat} (hf : ∀ x, (f x).size = m) {w : World} {base : Nat} {e : TypeId} {A : Option Addr} {c : Nat} {xs : List α} (h : OwnR w base e m A c xs.length (rowsV f xs)) {i : Nat} (hi : i < xs.length) {j : Nat} (hj : j < m) :
    ∃ g cur, A = some ⟨g, 0, none⟩ ∧ base ≤ g ∧ Blk w g e cur ∧ i * m + j < cur.size ∧ ∀ (v : Value) (x' : α) (w' : World), f x' = (f xs[i]).setIfInBounds j v → Blk w' g e (cur.setIfInBounds (i * m + j) v) → OwnR w' base e m A c xs.length (rowsV f (xs.set i x')) := by
  rcases h.2 with ⟨_, h0⟩ | ⟨g, cap, cur, h1, h2, h3, h4, h5, h6, h7⟩
  · omega
  · injection h1 with e1 e2 e3
    have hcs : i * m + j < xs.length * m := by
      have : (i + 1) * m ≤ xs.length * m := Nat.mul_le_mul_right _ hi
      rw [Nat.add_mul] at this
      omega
    have hle : xs.length * m ≤ cap * m := Nat.mul_le_mul_right _ h4
    refine ⟨g, cur, e1, h2, h3, by omega, fun v x' w' hx hb => ⟨by rw [rowsV_len hf, List.length_set], .inr ⟨g, cap, _, by rw [e1, e3], h2, hb, h4, h5, by simpa using h6, ?_⟩⟩⟩
    rw [rowsV_set hf hj xs i hi hx, ← h7, Array.toList_setIfInBounds, List.take_set]
theorem add0 (g k : Nat) : (⟨g, 0, none⟩ : Addr).add k = ⟨g, k, none⟩ := by unfold Addr.add; split <;> simp_all
theorem ownR_ad {α : Type} {f : α → Array Value} {m : Nat} (hf : ∀ x, (f x).size = m) {w : World} {base : Nat} {e : TypeId} {A : Option Addr} {c : Nat} {xs : List α} (h : OwnR w base e m A c xs.length (rowsV f xs)) {i : Nat} (hi : i < xs.length) {j : Nat} (hj : j < m) :
    ∃ ad cur, A = some ad ∧ base ≤ (ad.add (i * m)).block ∧ (ad.add (i * m)).block < w.heap.size ∧ Blk w (ad.add (i * m)).block e cur ∧ (ad.add (i * m)).off + j < cur.size ∧ ∀ (v : Value) (x' : α) (w' : World), f x' = (f xs[i]).setIfInBounds j v → Blk w' (ad.add (i * m)).block e (cur.setIfInBounds ((ad.add (i * m)).off + j) v) → OwnR w' base e m A c xs.length (rowsV f (xs.set i x')) := by
  obtain ⟨g, cur, h1, h2, h3, h4, h5⟩ := ownR_at hf h hi hj
  refine ⟨⟨g, 0, none⟩, cur, h1, ?_, ?_, ?_, ?_, fun v x' w' hx hb => ?_⟩
  · rw [add0]; exact h2
  · rw [add0]; exact h3.lt
  · rw [add0]; exact h3
  · rw [add0]; exact h4
  · rw [add0] at hb; exact h5 v x' w' hx hb
/-- another block was written -/
theorem ownR_wrote {w w' : World} {base : Nat} {e : TypeId} {size : Nat} {A : Option Addr} {c n g : Nat} {xs : List Value} (h : OwnR w base e size A c n xs) (hw : Wrote g w w') (hne : ∀ k, (Value.slice A n c).ownBlock = some k → k ≠ g) : OwnR w' base e size A c n xs := ownR_put h hw hne
theorem ownR_ne {w : World} {base : Nat} {e t : TypeId} {size : Nat} {A : Option Addr} {c n g : Nat} {xs : List Value} {cs : Array Value} (h : OwnR w base e size A c n xs) (hb : Blk w g t cs) (ht : t ≠ e) : ∀ k, (Value.slice A n c).ownBlock = some k → k ≠ g := fun k hk he => by
  subst he
  exact own_ne_blk h.x hb ht hk
section
variable {P : Program}
/-- 'append(s, x...)', s a row that is full: the new row is a new block. -/
theorem run_append_full {w : World} {t ty e : TypeId} {size bytes : Nat} (T : SlT P t e size bytes)
    {ad : Addr} {n c m cx : Nat} {Ad : Option Addr} {olds news : List Value} (hlo : olds.length = n * size) (hold : ∀ j u, olds[j]? = some u → w.cell? (ad.add j) = some u)
    (hl : news.length = m * size) (hnews : ∀ j u, news[j]? = some u → ∃ a, Ad = some a ∧ w.cell? (a.add j) = some u) (hm : 0 < m) (hfull : c < n + m)
    (h63 : n + m ≤ maxLen) (hbytes : (n + m) * bytes ≤ 140737488355328) :
    ∃ A' c' w', (Builtin.append_ #[t, t] ty #[.slice (some ad) n c, .slice Ad m cx]).run P w = .ok (.slice A' (n + m) c') w' ∧ OwnR w' w.heap.size e size A' c' (n + m) (olds ++ news) ∧ Below w.heap.size w w' := by
  obtain ⟨i, z, hi, hz, hsz, hby, hzs⟩ := T.info
  have hpos : 0 < news.length := by rw [hl]; exact Nat.mul_pos (by omega) T.pos
  obtain ⟨a, rfl, _⟩ := hnews 0 _ (List.getElem?_eq_getElem hpos)
  have hcells : ∀ j u, news[j]? = some u → w.cell? (a.add j) = some u := fun j u hu => by
    obtain ⟨a', he, hc⟩ := hnews j u hu
    injection he with he
    subst he
    exact hc
  subst hsz hby
  have hge := grownCap_ge w (n + m) c e
  have hcm : grownCap w (n + m) c e ≤ maxLen := grownCap_le_maxLen w (n + m) c e h63
  refine ⟨some ⟨w.heap.size, 0, none⟩, grownCap w (n + m) c e, _, run_append_grow (P := P) w t ty e i z T.und hi hz ad n c olds hlo hold a m cx news hl hcells hfull (by unfold maxLen at h63; omega) (growslice_fits (by omega) hbytes), ⟨by rw [List.length_append, hlo, hl, Nat.add_mul], .inr ⟨w.heap.size, _, _, rfl, Nat.le_refl _, heap_alloc_new w.drew _, hge, hcm, ?_, ?_⟩⟩, ?_⟩
  · simp only [Array.size_append, List.size_toArray, size_zeroCells, hzs, hlo, hl, ← Nat.add_mul]
    congr 1
    omega
  · simp only [Array.toList_append, List.append_assoc]
    rw [← List.append_assoc, show (n + m) * i.size = (olds ++ news).length by rw [List.length_append, hlo, hl, Nat.add_mul]]
    exact List.take_left
  · exact ⟨rfl, rfl, rfl, by simp, fun k hk => heap_alloc_old w.drew _ hk⟩
theorem wpList_append_full {w : World} {ops : Array Oper} {rest : List Oper} {o : Oper} {a : Act} {Q : Exit → Act → World → Prop} {sl x : Operand} {t e : TypeId} {size bytes : Nat} (T : SlT P t e size bytes)
    (hgd : o.guard = none) (ho : o.op = .call { callee := .builtin .append, args := #[sl, x], argTypes := #[t, t] })
    {ad : Addr} {n c m cx : Nat} {Ad : Option Addr} {olds news : List Value} (hs : a.eval sl = .slice (some ad) n c) (hx : a.eval x = .slice Ad m cx) (hlo : olds.length = n * size) (hold : ∀ j u, olds[j]? = some u → w.cell? (ad.add j) = some u)
    (hl : news.length = m * size) (hnews : ∀ j u, news[j]? = some u → ∃ a, Ad = some a ∧ w.cell? (a.add j) = some u) (hm : 0 < m) (hfull : c < n + m)
    (h63 : n + m ≤ maxLen) (hbytes : (n + m) * bytes ≤ 140737488355328)
    (h : ∀ A' c' w', OwnR w' w.heap.size e size A' c' (n + m) (olds ++ news) → Below w.heap.size w w' → wpList P ops Q rest (a.put o.dst (.slice A' (n + m) c')) w') :
    wpList P ops Q (o :: rest) a w := by
  obtain ⟨A', c', w', hrun, h2, h3⟩ := run_append_full (ty := o.type) (cx := cx) T hlo hold hl hnews hm hfull h63 hbytes
  refine wpList_of_append (R := fun v' w1 => v' = .slice A' (n + m) c' ∧ w1 = w') hgd ho hs hx ⟨_, _, hrun, rfl, rfl⟩ ?_
  rintro v' w1 ⟨rfl, rfl⟩
  exact h _ _ _ h2 h3
end
end Go.Proofs.YtoihgnkhalhocaaGreatDoor.Js
