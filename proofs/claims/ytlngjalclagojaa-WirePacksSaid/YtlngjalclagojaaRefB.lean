/-
  Walks: brevetref12.frame, Body, Pack.
-/
import Derived.Test.YtlngjalclagojaaPack
import Derived.Test.YtlngjalclagojaaBox
namespace Go.Proofs.Ytlngjalclagojaa
open Go.RowKit

theorem msg_size : (Try.prog.info? 24).map (·.size) = some 6 := by kernel_rfl
theorem be2_cells (n : Nat) : bytesV (beB (n : Int) 2 2) = [.int .u8 ((n : Int) / 256 % 256), .int .u8 ((n : Int) % 256)] := by
  simp only [beB, bytesV, List.nil_append, List.cons_append, List.map_cons, List.map_nil]
  rw [byteV_ofInt _ (by omega), byteV_ofInt _ (by omega)]
  simp
theorem be1_cells (n : Int) (h : 0 ≤ n) : bytesV (beB n 1 1) = [.int .u8 (n % 256)] := by
  simp only [beB, bytesV, List.nil_append, List.map_cons, List.map_nil]
  rw [byteV_ofInt _ (by omega)]
  simp

set_option maxHeartbeats 400000 in
theorem rframe_any (B : Nat) (v : Value) (l : List UInt8) (s : ByteArray) (w : World) (hB : B ≤ w.heap.size) (hown : OwnX w B 5 1 v l.length (bytesV l))
    (hs : s.size ≤ 1000000) (hl : l.length ≤ 1000000) {L : List UInt8} (hL : L = l ++ frameB s) :
    Calls Try.prog 26 #[v, .string s] w (PutPost B v L w) := by
  have HL := Lib.hid hL
  clear hL
  have hul := Try.underlying9
  go_enter Try.func26, Try.ntmps26
  go_wp2_with (first
    | (refine wpList_append_lit (m := 2) sl_bytes rfl rfl hown rfl rfl rfl rfl (by intro u hu; simp at hu; rcases hu with rfl | rfl <;> rfl) (by unfold maxLen; omega) (by omega) hB ?_; intro A1 c1 w1 hown1 hgr1 hn1)
    | (refine wpList_append_str sl_bytes zero_u8 hul rfl rfl hown1 rfl rfl (by omega) (by have := hgr1.size; omega) ?_; intro A2 c2 w2 hown2 hgr2 hn2))
  go_ret
  have hL := HL.out
  subst hL
  refine PutPost.mk_ (n := l.length + 2 + s.size) ?_ (grown_next hgr1 hn1 hgr2) (hn1.trans hn2 hgr1.size)
  rw [frameB, ← List.append_assoc, bytesV_append _ s.data.toList, bytesV_append, be2_cells]
  have e1 : (s.size : Int) % 256 % 256 = (s.size : Int) % 256 := by omega
  exact hown2

/-- the eight bytes of a number while they are laid, from the last on -/
def eight (n : Int) : Nat → List Value
  | 0 => [.int .u8 0, .int .u8 0, .int .u8 0, .int .u8 0, .int .u8 0, .int .u8 0, .int .u8 0, .int .u8 0]
  | k + 1 => (eight n k).set (7 - k) (.int .u8 (n / 256 ^ k % 256))
theorem eight_length (n : Int) : ∀ k, (eight n k).length = 8
  | 0 => rfl
  | k + 1 => by rw [eight, List.length_set, eight_length n k]
set_option maxRecDepth 100000 in
theorem eight_done (n : Int) (h : 0 ≤ n) : eight n 8 = bytesV (beB n 8 8) := by
  have hd : ∀ k : Nat, (0 : Int) ≤ n / 256 ^ k := fun k => Int.ediv_nonneg h (by exact_mod_cast Nat.zero_le _)
  simp only [eight, beB, bytesV, List.nil_append, List.cons_append, List.map_cons, List.map_nil]
  rw [byteV_ofInt _ (by omega), byteV_ofInt _ (by omega), byteV_ofInt _ (by omega), byteV_ofInt _ (by omega), byteV_ofInt _ (by omega), byteV_ofInt _ (by omega), byteV_ofInt _ (by omega), byteV_ofInt _ (by omega)]
  simp

set_option maxHeartbeats 2000000 in
theorem rbody_any (m : MsgD) (A : Option Addr) (c B : Nat) (w : World) (hr : Rd w B A (strsV m.fields)) (hB : B ≤ w.heap.size) (hc : m.fields.length ≤ c) (hm : mayB m = true) :
    Calls Try.prog 15 #[.agg (msgCells m A c)] w (PutPost w.heap.size (.slice none 0 0) (bodyB m) w) := by
  obtain ⟨f1, f2, f3, f4, f5, f6, f7, f8, f9⟩ := may_facts hm
  clear hm
  obtain ⟨L1, hL1⟩ : ∃ L, L = beB m.kind 1 1 ++ beB m.seq 8 8 := ⟨_, rfl⟩
  obtain ⟨L2, hL2⟩ : ∃ L, L = L1 ++ frameB m.src := ⟨_, rfl⟩
  obtain ⟨L3, hL3⟩ : ∃ L, L = L2 ++ frameB m.dst := ⟨_, rfl⟩
  obtain ⟨L4, hL4⟩ : ∃ L, L = L3 ++ beB m.fields.length 1 1 := ⟨_, rfl⟩
  have hl1 : L1.length = 9 := by rw [hL1, List.length_append, beB_length, beB_length]
  have hl2 : L2.length ≤ 2000 := by rw [hL2, List.length_append, frameB_length]; omega
  have hl3 : L3.length ≤ 4000 := by rw [hL3, List.length_append, frameB_length]; omega
  have hl4 : L4.length = L3.length + 1 := by rw [hL4, List.length_append, beB_length]
  obtain ⟨Lo, hLo⟩ : ∃ Lo : Nat → List UInt8, Lo = fun k => L4 ++ (m.fields.take k).flatMap frameB := ⟨_, rfl⟩
  have hLs : ∀ k, (hk : k < m.fields.length) → Lo (k + 1) = Lo k ++ frameB m.fields[k] := by
    intro k hk
    rw [hLo]
    simp only [List.take_succ_eq_append_getElem hk, List.flatMap_append, List.flatMap_cons, List.flatMap_nil, List.append_nil, List.append_assoc]
  have hL0 : Lo 0 = L4 := by rw [hLo]; simp
  have hlo : ∀ k, k ≤ m.fields.length → (Lo k).length ≤ 8000 + k * 1002 := by
    intro k
    induction k with
    | zero => intro _; rw [hL0]; omega
    | succ k ih =>
      intro hk
      have h1 := ih (by omega)
      have h3 := f8 _ (List.getElem_mem (show k < m.fields.length by omega))
      rw [hLs k (by omega), List.length_append, frameB_length]
      omega
  have hLe : Lo m.fields.length = bodyB m := by
    rw [hLo, hL4, hL3, hL2, hL1]
    simp [bodyB]
  obtain ⟨W0, hW0⟩ : ∃ W0, W0 = w.alloc (.cells (msgCells m A c) 24) := ⟨_, rfl⟩
  have hb0 : Below w.heap.size w W0 := by rw [hW0]; exact (Below.refl _ _).alloc (Nat.le_refl _) _
  have hbox : Blk W0 w.heap.size 24 (msgCells m A c) := by rw [hW0]; exact Blk.new _ _ _
  have hsz : W0.heap.size = w.heap.size + 1 := by rw [hW0]; simp
  have hcell : ∀ (u : World), Below W0.heap.size W0 u → ∀ i, u.cell? ⟨w.heap.size, i, none⟩ = (msgCells m A c)[i]? := fun u hu i => (hbox.below hu (by omega)).cell i
  have HL1 := Lib.hid hL1
  have HL2 := Lib.hid hL2
  have HL3 := Lib.hid hL3
  have HL4 := Lib.hid hL4
  have Hl1 := Lib.hid hl1
  have Hl4 := Lib.hid hl4
  have HLS := Lib.hid hLs
  have HL0 := Lib.hid hL0
  have HLO := Lib.hid hlo
  have HLE := Lib.hid hLe
  have HB0 := Lib.hid hb0
  have HS := Lib.hid hsz
  have HC := Lib.hid hcell
  have HW0 := Lib.hid hW0
  have HR := Lib.hid hr
  clear hL1 hL2 hL3 hL4 hl1 hl4 hLs hL0 hlo hLe hLo hb0 hbox hsz hcell hW0 hr
  obtain ⟨kind, src, dst, seq, fields, sig⟩ := m
  dsimp only [msgCells] at *
  have hul := Try.underlying9
  have hmk : ∀ u : World, (Instr.makeSlice 26 (.int .i64 8) (.int .i64 8)).run Try.prog u = .ok (.slice (some ⟨u.heap.size, 0, none⟩) 8 8) (u.alloc (.cells #[.int .u8 0, .int .u8 0, .int .u8 0, .int .u8 0, .int .u8 0, .int .u8 0, .int .u8 0, .int .u8 0] 5)) := fun _ => by kernel_rfl
  go_enter Try.func15, Try.ntmps15
  go_wp2_with fail
  rw [← HW0.out]
  obtain ⟨W1, hW1⟩ : ∃ W1, W1 = (W0.alloc (.cells #[.int .u8 kind] 5)).alloc (.cells #[.int .u8 0, .int .u8 0, .int .u8 0, .int .u8 0, .int .u8 0, .int .u8 0, .int .u8 0, .int .u8 0] 5) := ⟨_, rfl⟩
  rw [← hW1]
  have hz := HS.out
  have hb1 : Below W0.heap.size W0 W1 := by rw [hW1]; exact ((Below.refl _ _).alloc (Nat.le_refl _) _).alloc (by simp) _
  have ho1 : OwnX W1 W0.heap.size 5 1 (.slice (some ⟨w.heap.size + 1, 0, none⟩) 1 1) 1 (bytesV (beB kind 1 1)) := by
    rw [be1_cells _ f1, Int.emod_eq_of_lt f1 (by omega), hW1]
    exact (own_const (C := #[.int .u8 kind]) hz.symm rfl (by simp [maxLen]) (Nat.le_refl _)).alloc _
  have hk1 : Blk W1 (w.heap.size + 2) 5 (eight seq 0).toArray := by
    have := Blk.new (W0.alloc (.cells #[.int .u8 kind] 5)) 5 (eight seq 0).toArray
    have e : (W0.alloc (.cells #[.int .u8 kind] 5)).heap.size = w.heap.size + 2 := by simp [hz]
    rw [e] at this
    rw [hW1]
    exact this
  obtain ⟨N, hN⟩ : ∃ N : Nat → Int, N = fun k => seq / 256 ^ k := ⟨_, rfl⟩
  have hN0 : N 0 = seq := by rw [hN]; simp
  have hNs : ∀ k, N k / 256 = N (k + 1) := fun k => by rw [hN]; simp only; rw [Int.pow_succ, Int.ediv_ediv_of_nonneg (Int.pow_nonneg (by decide))]
  have hNb : ∀ k, 0 ≤ N k ∧ N k ≤ 1099511627776 := fun k => by
    rw [hN]
    exact ⟨Int.ediv_nonneg f3 (Int.pow_nonneg (by decide)), Int.le_trans (Int.ediv_le_self _ f3) f4⟩
  have hNe : ∀ k, eight seq (k + 1) = (eight seq k).set (7 - k) (.int .u8 (N k % 256)) := fun k => by rw [hN]; rfl
  have HN0 := Lib.hid hN0
  have HNS := Lib.hid hNs
  have HNB := Lib.hid hNb
  have HNE := Lib.hid hNe
  clear hN hN0 hNs hNb hNe hW1
  go_loopw [5, 6] (fun n i wr => ∃ k : Nat, k ≤ 8 ∧ i = .int .i64 (7 - (k : Int)) ∧ n = .int .i64 (N k) ∧ Blk wr (w.heap.size + 2) 5 (eight seq k).toArray ∧ OwnX wr W0.heap.size 5 1 (.slice (some ⟨w.heap.size + 1, 0, none⟩) 1 1) 1 (bytesV (beB kind 1 1)) ∧ Below W0.heap.size W0 wr) (fun _ i _ => (intOf i + 1).toNat)
  case atStart => exact ⟨0, by omega, by go_num, by rw [HN0.out], hk1, ho1, hb1⟩
  case round =>
    obtain ⟨k, hk, rfl, rfl, hbk, ho2, hb2⟩ := hrel
    obtain ⟨hn1, hn2⟩ := HNB.out k
    by_cases hlt : k < 8
    · have hks : (eight seq k).length = 8 := eight_length seq k
      have HKS := Lib.hid hks
      clear hks hk1 ho1 hb1
      go_wp2_with (refine wpList_put_cell (v := .int .u8 (N k % 256)) (x := .tmp 24) hbk rfl rfl rfl rfl (by kernel_rfl) (by have := HKS.out; simp only [List.size_toArray]; omega) rfl ?_; intro w2 hb3 hw3)
      go_roundw
      case rel =>
        have h3 := hw3.own ho2 (by simp [Value.ownBlock])
        refine ⟨k + 1, hlt, by go_num, by rw [HNS.out], ?_, h3, hw3.below hb2 (by omega) hb2.size⟩
        rw [HNE.out]
        simpa using hb3
      case measure => simp [intOf]; omega
    · obtain rfl : k = 8 := by omega
      clear hk1 ho1 hb1
      have e8 := eight_done seq f3
      rw [e8] at hbk
      clear e8
      obtain ⟨Z8, hZ8⟩ : ∃ Z, Z = bytesV (beB seq 8 8) := ⟨_, rfl⟩
      rw [← hZ8] at hbk
      have HZ8 := Lib.hid hZ8
      clear hZ8
      have hz3 : w.heap.size + 2 < wr.heap.size := hbk.lt
      have hrd8 : Rd wr wr.heap.size (some ⟨w.heap.size + 2, 0, none⟩) Z8 := Rd.of_blk hbk hz3
      have hl8 : Z8.length = 8 * 1 := by rw [HZ8.out, bytesV_length, beB_length]
      have ho8 : ∀ u ∈ Z8, u.oneCell' = true := by rw [HZ8.out]; intro u hu; obtain ⟨x, _, rfl⟩ := List.mem_map.1 hu; rfl
      have HL8 := Lib.hid hl8
      have HO8 := Lib.hid ho8
      have HRD8 := Lib.hid hrd8
      clear hl8 ho8 hrd8 hbk
      go_wp2_with (refine wpList_append_rd (x := .tmp 28) sl_bytes rfl rfl ho2 rfl rfl HL8.out HRD8.out HO8.out (by unfold maxLen; omega) (by omega) hb2.size ?_; intro A2 c2 w2 ho3 hg3 hn3; have hb3 : Below W0.heap.size W0 w2 := hb2.grown hg3 hb2.size (fun j hj => (ho2.lt j hj).1); have hc1 := HC.out w2 hb3 1; simp at hc1)
      have ho4 : OwnX w2 W0.heap.size 5 1 (.slice A2 9 c2) L1.length (bytesV L1) := by
        rw [Hl1.out, HL1.out, bytesV_append, ← HZ8.out]; exact ho3
      have hl1 : L1.length ≤ 9 := by have := Hl1.out; omega
      clear hc1
      refine calls_then (rframe_any W0.heap.size _ L1 src w2 hb3.size ho4 (by omega) (by omega) HL2.out) ?_
      rintro e w3 ⟨A3, c3, rfl, ho5, hg5, hn5⟩
      have hb5 : Below W0.heap.size W0 w3 := hb3.grown hg5 hb3.size (fun j hj => (ho4.lt j hj).1)
      have hc2 := HC.out w3 hb5 2
      simp at hc2
      go_wp2_with fail
      clear hc2
      refine calls_then (rframe_any W0.heap.size _ L2 dst w3 hb5.size ho5 (by omega) (by omega) HL3.out) ?_
      rintro e w4 ⟨A4, c4, rfl, ho6, hg6, hn6⟩
      have hb6 : Below W0.heap.size W0 w4 := hb5.grown hg6 hb5.size (fun j hj => (ho5.lt j hj).1)
      have hc4 := HC.out w4 hb6 4
      simp at hc4
      go_wp2_with (refine wpList_append_one sl_bytes rfl rfl ho6 rfl rfl rfl rfl (by unfold maxLen; omega) (by omega) hb6.size ?_; intro A5 c5 w5 ho7 hg7 hn7)
      have hb7 : Below W0.heap.size W0 w5 := hb6.grown hg7 hb6.size (fun j hj => (ho6.lt j hj).1)
      have ho8 : OwnX w5 W0.heap.size 5 1 (.slice A5 (L3.length + 1) c5) (L3.length + 1) (bytesV L4) := by
        rw [HL4.out, bytesV_append, be1_cells _ (by omega), Int.emod_eq_of_lt (by omega) (by omega)]; exact ho7
      clear ho4 ho5 ho6 ho7 hg3 hg5 hg6 hg7 hn3 hn5 hn6 hn7 hb3 hb5 hb6 hc4 ho2 hb2
      go_loopw [3, 7] (fun x i wr => ∃ (k : Nat) (A6 : Option Addr) (c6 : Nat), k ≤ fields.length ∧ i = .int .i64 k ∧ x = .slice A6 (Lo k).length c6 ∧ OwnX wr W0.heap.size 5 1 (.slice A6 (Lo k).length c6) (Lo k).length (bytesV (Lo k)) ∧ Below W0.heap.size W0 wr) (fun _ i _ => fields.length - (intOf i).toNat)
      case atStart =>
        refine ⟨0, A5, c5, Nat.zero_le _, rfl, ?_, ?_, hb7⟩
        · rw [HL0.out, Hl4.out]
        · rw [HL0.out, Hl4.out]; exact ho8
      case round =>
        rename_i wr0 _
        obtain ⟨k, A6, c6, hk2, rfl, rfl, ho9, hb9⟩ := hrel
        have hc5 := HC.out wr hb9 4
        simp at hc5
        by_cases hlt2 : k < fields.length
        · obtain ⟨ad, rfl, hadB, hcl⟩ := HR.out.at_ (k := k) (by rw [strsV_length]; exact hlt2)
          simp only [strsV, List.getElem_map] at hcl
          have hcr : wr.cell? (ad.add k) = some (.string fields[k]) := by
            rw [← hcl]
            have h1 := (hb9.cell (p := ad.add k) (by rw [block_of_add]; omega))
            rw [h1]
            exact HB0.out.cell (p := ad.add k) (by rw [block_of_add]; omega)
          have hsz := f8 _ (List.getElem_mem hlt2)
          have hlk := HLO.out k hk2
          go_wp2_with fail
          refine calls_then (rframe_any W0.heap.size _ (Lo k) fields[k] wr hb9.size ho9 (by omega) (by omega) (HLS.out k hlt2)) ?_
          rintro e w6 ⟨A7, c7, rfl, hown7, hgr7, hn7⟩
          go_wp2_with fail
          go_roundw
          case rel => exact ⟨k + 1, A7, c7, hlt2, by go_num, rfl, hown7, below_own hb9 ho9 (Nat.le_refl _) hgr7⟩
          case measure => simp [intOf]; omega
        · obtain rfl : k = fields.length := by omega
          go_wp2_with fail
          go_ret
          rw [← HLE.out]
          have hB9 : Below w.heap.size w wr := HB0.out.trans (hb9.mono HB0.out.size)
          exact PutPost.mk_ (n := (Lo fields.length).length) (ho9.mono HB0.out.size) (grown_of_below hB9 _) (next_nil ho9 HB0.out.size)
end Go.Proofs.Ytlngjalclagojaa
