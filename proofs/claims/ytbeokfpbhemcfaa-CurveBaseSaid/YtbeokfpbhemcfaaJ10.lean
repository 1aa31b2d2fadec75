/-
  Joined texts: Rrd Rre Rep Clo Tail Crt Cre.
-/
import Derived.Laws.CopyOwn
import Derived.Test.YtbeokfpbhemcfaaJ9
import Derived.Test.YtbeokfpbhemcfaaJ7
import Derived.Test.YtbeokfpbhemcfaaJ6
import Derived.Test.YtbeokfpbhemcfaaJ1
import Derived.Test.YtbeokfpbhemcfaaJ4
import Derived.Test.YtbeokfpbhemcfaaJ3
/-
  Walks: the reference's Bytes, Base and Read of points.
-/
namespace Go.Proofs.Ytbeokfpbhemcfaa
set_option linter.unusedSimpArgs false
set_option linter.unusedVariables false
open Go.RowKit

/-- a pair's bytes -/
def byP (x y : Nat) : List Nat := if x % 2 = 1 then (byN y).set 31 ((byN y).getD 31 0 + 128) else byN y
def BnPost (L : List Nat) (w : World) (e : Ending) (w' : World) : Prop := ∃ A c, e = .returned (.slice A 32 c) ∧ 32 ≤ c ∧ Rd w' w'.heap.size A (bnV L) ∧ Below w.heap.size w w'
theorem byN_high {V : Nat} (h : V < PN) : (byN V).getD 31 0 < 128 := by
  have e := byN_at V 31 (by decide)
  rw [List.getD_eq_getElem?_getD, e]
  show V / 256 ^ 31 % 256 < 128
  have h2 : V / 256 ^ 31 < 128 := Nat.div_lt_of_lt_mul (Nat.lt_trans h (by decide))
  omega
theorem bnVl (l : List Nat) : (bnV l).length = l.length := by simp [bnV]
set_option maxRecDepth 100000 in
set_option maxHeartbeats 4000000 in
theorem nbytes_any {x y : Nat} (lx : x < PN) (ly : y < PN) {X Y : Option Addr} {cx cy : Nat} {w : World} (hc : 32 ≤ cy) (hx : Rd w w.heap.size X (DN x)) (hy : Rd w w.heap.size Y (DN y)) :
    Calls Try.prog 17 #[.agg (pairV (.slice X 32 cx) (.slice Y 32 cy))] w (BnPost (byP x y) w) := by
  have hpt := Try.underlying34
  obtain ⟨L, hL⟩ : ∃ L, L = byN y := ⟨_, rfl⟩
  obtain ⟨b, hb⟩ : ∃ b, b = L.getD 31 0 := ⟨_, rfl⟩
  have hLl : L.length = 32 := by rw [hL]; exact byN_length _
  have hb128 : b < 128 := by rw [hb, hL]; exact byN_high ly
  have hres : byP x y = if x % 2 = 1 then L.set 31 (b + 128) else L := by rw [hb, hL]; rfl
  obtain ⟨M, hM⟩ : ∃ M, M = byP x y := ⟨_, rfl⟩
  rw [← hM]
  rw [← hM] at hres
  have CB := Lib.hid (show ∀ ww, Rd ww ww.heap.size Y (DN y) → Calls Try.prog 19 #[.slice Y 32 cy] ww (OwnPostZ 5 32 (bnV L) ww) from fun ww h => by
    have q := rbytesz_any (digN 32 y) (digN_dg _ _) Y cy ww h (by rw [digN_length]; exact hc) (by rw [digN_length]; decide)
    rw [digN_length, refB_dig, ← bnV_byB, ← hL] at q
    exact q)
  have HB := Lib.hid (below_new w (.cells (pairV (.slice X 32 cx) (.slice Y 32 cy)) 34))
  have HP := Lib.hid (Blk.new w 34 (pairV (.slice X 32 cx) (.slice Y 32 cy)))
  have RX := Lib.hid (rd_next hx HB.out)
  have RY := Lib.hid (rd_next hy HB.out)
  have HRES := Lib.hid hres
  have HLX := Lib.hid lx
  have HLL := Lib.hid hLl
  have HBB := Lib.hid hb
  have hr2 : x % 256 % 2 = x % 2 := Nat.mod_mod_of_dvd x (by decide)
  have H2 := Lib.hid hr2
  clear hL hb hLl hres hM lx ly hc hx hy hr2
  have d0 := (HP.out.cell 0).trans (show (pairV (.slice X 32 cx) (.slice Y 32 cy))[0]? = some (.slice X 32 cx) from rfl)
  have d1 := (HP.out.cell 1).trans (show (pairV (.slice X 32 cx) (.slice Y 32 cy))[1]? = some (.slice Y 32 cy) from rfl)
  go_enter Try.func17, Try.ntmps17
  go_wp2_with fail
  clear d0 d1
  refine calls_then (CB.out _ RY.out) ?_
  rintro e w1 ⟨A1, c1, rfl, hown, hb1⟩
  obtain ⟨g1, ys, rfl, hg1, hc1, hblk⟩ := hown.blk (by decide)
  have HP1 := Lib.hid (HP.out.below hb1 HP.out.lt)
  have RX1 := Lib.hid (rd_next RX.out hb1)
  have HB1 := Lib.hid (HB.out.trans (hb1.mono HB.out.size))
  have HG1 := Lib.hid (Nat.le_trans HB.out.size hg1)
  have HQ := Lib.hid hblk
  have HC1 := Lib.hid hc1
  clear hown hb1 hg1 hc1 hblk HP RX RY HB
  generalize w.heap.size = g at HP1 ⊢
  have d0 := (HP1.out.cell 0).trans (show (pairV (.slice X 32 cx) (.slice Y 32 cy))[0]? = some (.slice X 32 cx) from rfl)
  obtain ⟨ad, had, dd⟩ := digit0 HLX.out RX1.out
  subst had
  rw [show ad.add 0 = ad from rfl] at dd
  obtain ⟨m, hm⟩ : ∃ m, m = x % 256 := ⟨_, rfl⟩
  rw [← hm] at dd
  have hm2 : m % 2 = x % 2 := by rw [hm]; exact H2.out
  by_cases hodd : x % 2 = 1
  · have hmi : (m : Int) % 2 = 1 := by omega
    have e1 : M = L.set 31 (b + 128) := by rw [HRES.out, if_pos hodd]
    have HE := Lib.hid e1
    have hb2 : (b : Int) < 128 := by omega
    have dl := HQ.out.cell 31
    rw [show (bnV L ++ ys).toArray[31]? = some (.int .u8 (b : Int)) by
      rw [List.getElem?_toArray, List.getElem?_append_left (by rw [bnVl, HLL.out]; decide), ← List.getElem?_toArray, bnV_get (by rw [HLL.out]; decide), HBB.out]] at dl
    have hfr := HQ.out.free 31
    clear hodd e1 hm hm2 hb128
    go_wp2_with (refine wpList_put_cell (x := .tmp 18) (i := 31) (v := .int .u8 ((b : Int) + 128)) HQ.out rfl rfl rfl rfl u8_size (by rw [List.size_toArray, List.length_append, bnVl, HLL.out]; omega) rfl ?_; intro w5 hb5 hw5; have HB5 := Lib.hid hb5; have HW5 := Lib.hid hw5; clear hb5 hw5)
    go_ret
    have hq := HB5.out
    rw [set_front (by rw [bnVl, HLL.out]; decide), show ((b : Int) + 128) = ((b + 128 : Nat) : Int) from rfl, show (bnV L).set 31 (.int .u8 ((b + 128 : Nat) : Int)) = bnV (L.set 31 (b + 128)) by simp [bnV, List.map_set], ← HE.out] at hq
    exact ⟨_, c1, rfl, HC1.out, (Rd.of_blk hq hq.lt).front, HW5.out.below HB1.out HG1.out HB1.out.size⟩
  · have hmi : (m : Int) % 2 = 0 := by omega
    have e1 : M = L := by rw [HRES.out, if_neg hodd]
    have HE := Lib.hid e1
    clear hodd e1 hm hm2 hb128
    go_wp2_with fail
    go_ret
    have hq := HQ.out
    rw [← HE.out] at hq
    exact ⟨_, c1, rfl, HC1.out, (Rd.of_blk hq hq.lt).front, HB1.out⟩
/-- the base's y gives the base's x -/
theorem base_y : 4 * (5 ^ (PN - 2) % PN) % PN = byNN := by
  rw [← invL_val, ← pm_eq]
  decide
theorem base_w {y2 u t v i a x q : Nat} (W : OfW byNN y2 u t v i a x q) : ofR (rtV a x q) (rtB a x q) false = some bxN := by
  obtain ⟨h1, h2, h3, h4, h5, h6, h7, h8⟩ := W
  have e1 : y2 = 37053468555941182535542715202780130513046395093004980492626426882532201484768 := h1.trans (by decide)
  have e2 : u = 37053468555941182535542715202780130513046395093004980492626426882532201484767 := by rw [h2, e1]; decide
  have e3 : t = 35320460721920060721965471946471712506633951349663716574434581141966314745465 := by rw [h3, e1]; decide
  have e4 : v = 35320460721920060721965471946471712506633951349663716574434581141966314745466 := by rw [h4, e3]; decide
  have e5 : i = 36615873626505047815401509688526422966742341385236691817538452001808239043262 := by rw [h5, e4, ← invL_val, ← pm_eq]; decide
  have e6 : a = 26187595835145689230469591415084376402084551887632582719101735842039498021991 := by rw [h6, e2, e5]; decide
  have e7 : x = 42783823269122696939284341094755422415180979639778424813682678720006717057747 := by rw [h7, e6, ← pm_eq]; decide
  clear h1 h2 h3 h4 h5 h6 h7 h8 e1 e2 e3 e4 e5
  have r1 : rtV a x q = 42783823269122696939284341094755422415180979639778424813682678720006717057747 := by
    rw [rtV, e6, e7, if_pos (by decide)]
  have r2 : rtB a x q = true := by
    rw [rtB, e6, e7, if_pos (by decide)]
  rw [r1, r2]
  decide
set_option maxRecDepth 100000 in
set_option maxHeartbeats 4000000 in
theorem nbase_any (w : World) : Calls Try.prog 25 #[] w (PairPost bxN byNN w) := by
  have hpt := Try.underlying34
  obtain ⟨i5, hi5⟩ : ∃ i, i = 5 ^ (PN - 2) % PN := ⟨_, rfl⟩
  have li5 : i5 < PN := by rw [hi5]; exact mod_lt' _
  have hy := base_y
  rw [← hi5] at hy
  obtain ⟨y2, u, t, v, i, a, x, q, W⟩ : ∃ y2 u t v i a x q, OfW byNN y2 u t v i a x q := ⟨_, _, _, _, _, _, _, _, ⟨rfl, rfl, rfl, rfl, rfl, rfl, rfl, rfl⟩⟩
  have hbw := base_w W
  have lby : byNN < PN := by decide
  have C4 := Lib.hid (show ∀ u, Calls Try.prog 41 #[.int .i64 4] u (NumPost 4 u) from fun u => nint 4 (by decide) u)
  have C5 := Lib.hid (show ∀ u, Calls Try.prog 41 #[.int .i64 5] u (NumPost 5 u) from fun u => nint 5 (by decide) u)
  have CI := Lib.hid (show ∀ ww XA xc, Rd ww ww.heap.size XA (DN 5) → Calls Try.prog 45 #[.slice XA 32 xc] ww (NumPost i5 ww) from fun ww XA xc xh => by rw [hi5]; exact ninv (by decide) xh)
  have CM := Lib.hid (show ∀ ww XA xc XB xd, Rd ww ww.heap.size XA (DN 4) → Rd ww ww.heap.size XB (DN i5) → Calls Try.prog 42 #[.slice XA 32 xc, .slice XB 32 xd] ww (NumPost byNN ww) from fun ww XA xc XB xd xh xk => by rw [← hy]; exact nmul (by decide) li5 xh xk)
  have CO := Lib.hid (show ∀ ww XA xc, 32 ≤ xc → Rd ww ww.heap.size XA (DN byNN) → Calls Try.prog 36 #[.slice XA 32 xc, .bool false] ww (OfNPost (some bxN) (.slice XA 32 xc) ww) from fun ww XA xc hc xh => by
    have h := nof_any W lby false hc xh
    rw [hbw] at h
    exact h)
  clear hi5 li5 hy W hbw lby
  generalize byNN = Y at *
  generalize bxN = X at *
  have HB := Lib.hid (below_new w (.cells (pairV nilS nilS) 34))
  have HP := Lib.hid (Blk.new w 34 (pairV nilS nilS))
  go_enter Try.func25, Try.ntmps25
  go_wp2_with fail
  refine calls_then (C4.out _) ?_
  rintro e w1 ⟨A4, c4, rfl, hc4, hr4, hb1⟩
  have HB1 := Lib.hid (HB.out.trans (hb1.mono HB.out.size))
  have HP1 := Lib.hid (HP.out.below hb1 HP.out.lt)
  have R4 := Lib.hid hr4
  clear hc4 hr4 hb1 HB HP
  generalize hg : w.heap.size = g at HP1 ⊢
  have HG := Lib.hid hg
  clear hg
  go_wp2_with fail
  refine calls_then (C5.out _) ?_
  rintro e w2 ⟨A5, c5, rfl, hc5, hr5, hb⟩
  replace HB1 := Lib.hid (HB1.out.trans (hb.mono HB1.out.size))
  replace HP1 := Lib.hid (HP1.out.below hb HP1.out.lt)
  replace R4 := Lib.hid (rd_next R4.out hb)
  have R5 := Lib.hid hr5
  clear hc5 hr5 hb
  go_wp2_with fail
  refine calls_then (CI.out _ _ _ R5.out) ?_
  rintro e w3 ⟨A6, c6, rfl, hc6, hr6, hb⟩
  replace HB1 := Lib.hid (HB1.out.trans (hb.mono HB1.out.size))
  replace HP1 := Lib.hid (HP1.out.below hb HP1.out.lt)
  replace R4 := Lib.hid (rd_next R4.out hb)
  have R6 := Lib.hid hr6
  clear hc6 hr6 hb R5
  go_wp2_with fail
  refine calls_then (CM.out _ _ _ _ _ R4.out R6.out) ?_
  rintro e w4 ⟨A7, c7, rfl, hc7, hr7, hb⟩
  replace HB1 := Lib.hid (HB1.out.trans (hb.mono HB1.out.size))
  replace HP1 := Lib.hid (HP1.out.below hb HP1.out.lt)
  have R7 := Lib.hid hr7
  have L7 := Lib.hid hc7
  clear hc7 hr7 hb R4 R6
  go_wp2_with fail
  refine calls_then (CO.out _ _ _ L7.out R7.out) ?_
  rintro e w5 ⟨hb, A8, c8, rfl, hc8, hr8⟩
  replace HB1 := Lib.hid (HB1.out.trans (hb.mono HB1.out.size))
  replace HP1 := Lib.hid (HP1.out.below hb HP1.out.lt)
  replace R7 := Lib.hid (rd_next R7.out hb)
  have R8 := Lib.hid hr8
  have L8 := Lib.hid hc8
  clear hc8 hr8 hb
  go_wp2_with (first
    | (refine wpList_put_box (x := .tmp 1) (cells := pairV (.slice A8 32 c8) (.slice A7 32 c7)) (Blk.new _ _ _) rfl rfl rfl rfl pair_size rfl (by simp [pairV, Value.oneCell']) ?_; intro w6 hb6 hw6; have hk6 := box_low hw6; have HQ := Lib.hid hb6; have HP6 := Lib.hid (HP1.out.below hk6 HP1.out.lt); have HB6 := Lib.hid (HB1.out.trans (hk6.mono HB1.out.size)); have R76 := Lib.hid (rd_next R7.out hk6); have R86 := Lib.hid (rd_next R8.out hk6); clear hb6 hw6 hk6 HP1 HB1 R7 R8)
    | (refine wpList_get_box (x := .tmp 1) HQ.out rfl rfl rfl hpt rfl pair_size ?_)
    | (refine wpList_put_box (x := .tmp 0) (cells := pairV (.slice A8 32 c8) (.slice A7 32 c7)) HP6.out rfl rfl rfl rfl pair_size rfl (by simp [pairV, Value.oneCell']) ?_; intro w7 hb7 hw7; have HP7 := Lib.hid hb7; have HW7 := Lib.hid hw7; clear hb7 hw7))
  refine bodyPost_ret (results_box (P := Try.prog) rfl rfl HP7.out hpt rfl pair_size) rfl ?_
  exact ⟨_, _, _, _, rfl, L8.out, L7.out, rd_size (R86.out.pair HP6.out HW7.out) HW7.out.size, rd_size (R76.out.pair HP6.out HW7.out) HW7.out.size, HW7.out.below HB6.out (Nat.le_of_eq HG.out) HB6.out.size⟩
/-- what the reference reads -/
def rdL (b : List UInt8) : List Nat := (digs b).set 31 ((digs b).getD 31 0 % 128)
def yOf (b : List UInt8) : Nat := leV (rdL b)
def oddOf (b : List UInt8) : Bool := decide (128 ≤ (digs b).getD 31 0)
def RReadPost (o : Option (Nat × Nat)) (w : World) (e : Ending) (w' : World) : Prop :=
  Below w.heap.size w w' ∧ match o with
    | none => e = .returned (.tuple #[.agg (pairV nilS nilS), .bool false])
    | some p => ∃ A c B d, e = .returned (.tuple #[.agg (pairV (.slice A 32 c) (.slice B 32 d)), .bool true]) ∧ 32 ≤ c ∧ 32 ≤ d ∧ Rd w' w'.heap.size A (DN p.1) ∧ Rd w' w'.heap.size B (DN p.2)
theorem rdL_dg (b : List UInt8) : Dg (rdL b) := by
  intro n hn
  rcases List.mem_or_eq_of_mem_set hn with h | h
  · exact digs_lt b n h
  · rw [h]; exact Nat.lt_trans (Nat.mod_lt _ (by decide)) (by decide)
end Go.Proofs.Ytbeokfpbhemcfaa
/-
  Walk: the reference's Read of a point.
-/
namespace Go.Proofs.Ytbeokfpbhemcfaa
set_option linter.unusedSimpArgs false
set_option linter.unusedVariables false
open Go.RowKit

theorem rdL_len {b : List UInt8} (h : b.length = 32) : (rdL b).length = 32 := by rw [rdL, List.length_set, digs, List.length_map, h]
theorem rdL_dn {b : List UInt8} (h : b.length = 32) : dV (rdL b) = DN (yOf b) := by
  rw [DN, show digN 32 (yOf b) = rdL b from (digN_eq (rdL_dg b) (rdL_len h) rfl).symm]
theorem dV_len (l : List Nat) : (dV l).length = l.length := by simp [dV]
theorem dV_set' (l : List Nat) (j n : Nat) : (dV l).set j (.int .i64 (n : Int)) = dV (l.set j n) := by simp [dV, numV, List.map_set]
set_option maxRecDepth 100000 in
set_option maxHeartbeats 4000000 in
theorem rread_any {b : List UInt8} {y2 u t v i a x q : Nat} (W : OfW (yOf b) y2 u t v i a x q) {o : Option (Nat × Nat)}
    (ho : o = if b.length = 32 then (if yOf b < PN then (ofR (rtV a x q) (rtB a x q) (oddOf b)).map fun z => (z, yOf b) else none) else none)
    {A : Option Addr} {c : Nat} {w : World} (hr : Rd w w.heap.size A (bytesV b)) (hc : b.length ≤ c) (hmax : b.length ≤ 1000) :
    Calls Try.prog 13 #[.slice A b.length c] w (RReadPost o w) := by
  have hpt := Try.underlying34
  obtain ⟨n, hn⟩ : ∃ n, n = b.length := ⟨_, rfl⟩
  have HB := Lib.hid (below_new w (.cells (pairV nilS nilS) 34))
  have HP := Lib.hid (Blk.new w 34 (pairV nilS nilS))
  by_cases h32 : b.length = 32
  · rw [if_pos h32] at ho
    rw [h32]
    rw [h32] at hc
    clear hn hmax
    obtain ⟨Y, hY⟩ : ∃ Y, Y = yOf b := ⟨_, rfl⟩
    obtain ⟨L, hL⟩ : ∃ L, L = digs b := ⟨_, rfl⟩
    have hLl : L.length = 32 := by rw [hL, digs, List.length_map, h32]
    have hLd : Dg L := by rw [hL]; exact digs_lt b
    obtain ⟨d, hd⟩ : ∃ d, d = L.getD 31 0 := ⟨_, rfl⟩
    have hd256 : d < 256 := by rw [hd]; exact dg_getD hLd 31
    obtain ⟨M, hM⟩ : ∃ M, M = rdL b := ⟨_, rfl⟩
    have hMs : L.set 31 (d % 128) = M := by rw [hM, hd, hL]; rfl
    have hMd : dV M = DN Y := by rw [hM, hY]; exact rdL_dn h32
    have hMg : Dg M := by rw [hM]; exact rdL_dg b
    have hMl : M.length = 32 := by rw [hM]; exact rdL_len h32
    have hMv : leV M = Y := by rw [hM, hY]; rfl
    have hodd : oddOf b = decide (128 ≤ d) := by rw [hd, hL]; rfl
    obtain ⟨s, hs⟩ : ∃ s, s = decide (Y < PN) := ⟨_, rfl⟩
    have cD := Lib.hid (show ∀ ww, Rd ww ww.heap.size A (bytesV b) → Calls Try.prog 21 #[.slice A 32 c] ww (OwnPostZ 3 32 (dV L) ww) from fun ww h => by
      have q := digitsz_any b A c ww h (by rw [h32]; exact hc) (by rw [h32]; decide)
      rw [h32, ← hL] at q
      exact q)
    have cL := Lib.hid (show ∀ ww XA xc XB xd, Rd ww ww.heap.size XA (dV M) → Rd ww ww.heap.size XB (dV pL) → Calls Try.prog 34 #[.slice XA 32 xc, .slice XB 32 xd] ww (fun e w' => e = .returned (.bool s) ∧ w' = ww) from fun ww XA xc XB xd h k => by
      have q := less_any M pL hMg pL_dg XA XB xc xd ww h k (by rw [hMl]; decide) (by rw [pL_len]; decide)
      rw [hMl, pL_len, hMv, pL_val, ← hs] at q
      exact q)
    have cO := Lib.hid (show s = true → ∀ ww XA xc, 32 ≤ xc → Rd ww ww.heap.size XA (DN Y) → Calls Try.prog 36 #[.slice XA 32 xc, .bool (decide (128 ≤ d))] ww (OfNPost (ofR (rtV a x q) (rtB a x q) (decide (128 ≤ d))) (.slice XA 32 xc) ww) from fun hs1 ww XA xc hc xh => by
      rw [hs, decide_eq_true_iff, hY] at hs1
      rw [hY] at xh
      exact nof_any W hs1 _ hc xh)
    rw [← hY, hodd] at ho
    have ho2 : o = if s then (ofR (rtV a x q) (rtB a x q) (decide (128 ≤ d))).map fun z => (z, Y) else none := by rw [ho, hs]; simp
    generalize ofR (rtV a x q) (rtB a x q) (decide (128 ≤ d)) = R at *
    have HO := Lib.hid ho2
    have HA := Lib.hid (rd_next hr HB.out)
    have HMS := Lib.hid hMs
    have HMD := Lib.hid hMd
    have HLL := Lib.hid hLl
    have HDD := Lib.hid hd
    clear ho ho2 hr hMs hMd hMg hMl hMv hodd hs W hc hLl hLd hd hM hL hY
    go_enter Try.func13, Try.ntmps13
    go_wp2_with fail
    refine calls_then (cD.out _ HA.out) ?_
    rintro e w1 ⟨A1, c1, rfl, hown, hb1⟩
    obtain ⟨g1, ys, rfl, hg1, hc1, hblk⟩ := hown.blk (by decide)
    have HP1 := Lib.hid (HP.out.below hb1 HP.out.lt)
    have HB1 := Lib.hid (HB.out.trans (hb1.mono HB.out.size))
    have HG1 := Lib.hid (Nat.le_trans HB.out.size hg1)
    have HNE := Lib.hid (show w.heap.size ≠ g1 from Nat.ne_of_lt (Nat.lt_of_lt_of_le HP.out.lt hg1))
    have HQ := Lib.hid hblk
    have HC1 := Lib.hid hc1
    clear hown hb1 hg1 hc1 hblk HP HA HB
    have hb2 : (d : Int) < 256 := by omega
    have dl := HQ.out.cell 31
    rw [show (dV L ++ ys).toArray[31]? = some (.int .i64 (d : Int)) by
      rw [List.getElem?_toArray, List.getElem?_append_left (by rw [dV_len, HLL.out]; decide), List.getElem?_eq_getElem (by rw [dV_len, HLL.out]; decide), dV_at (by rw [HLL.out]; decide), HDD.out, List.getD_eq_getElem?_getD, List.getElem?_eq_getElem (by rw [HLL.out]; decide)]; rfl] at dl
    have hfr := HQ.out.free 31
    obtain ⟨od, hod⟩ : ∃ od, od = decide (128 ≤ d) := ⟨_, rfl⟩
    have hge : (od = true ∧ (128 : Int) ≤ d) ∨ (od = false ∧ decide ((128 : Int) ≤ d) = false) := by
      rw [hod]
      by_cases h : 128 ≤ d
      · left; exact ⟨decide_eq_true h, by omega⟩
      · right; exact ⟨decide_eq_false h, decide_eq_false (by omega)⟩
    rw [← hod] at cO
    clear hod
    rcases hge with ⟨rfl, hge⟩ | ⟨rfl, hge⟩
    all_goals
      go_wp2_with (refine wpList_put_cell (x := .tmp 22) (i := 31) (v := .int .i64 ((d % 128 : Nat) : Int)) HQ.out rfl rfl rfl rfl int_size (by rw [List.size_toArray, List.length_append, dV_len, HLL.out]; omega) rfl ?_; intro w5 hb5 hw5; have HB5 := Lib.hid hb5; have HW5 := Lib.hid hw5; clear hb5 hw5)
      have hq := HB5.out
      rw [set_front (by rw [dV_len, HLL.out]; decide), dV_set', HMS.out, HMD.out] at hq
      have HM5 := Lib.hid (Rd.of_blk hq hq.lt).front
      have HP5 := Lib.hid (HW5.out.blk HP1.out HNE.out)
      have HBB := Lib.hid (HW5.out.below HB1.out HG1.out HB1.out.size)
      clear hq dl hfr HB5 HW5 HQ HP1 HB1
      refine calls_then (p_any _) ?_
      rintro e w6 ⟨A6, c6, rfl, hc6, hr6, hb⟩
      rw [pL_len]
      replace HBB := Lib.hid (HBB.out.trans (hb.mono HBB.out.size))
      replace HP5 := Lib.hid (HP5.out.below hb HP5.out.lt)
      replace HM5 := Lib.hid (rd_next HM5.out hb)
      have HS := Lib.hid (cL.out _ _ c1 _ c6 (by rw [HMD.out]; exact HM5.out) hr6)
      clear hc6 hr6 hb
      go_wp2_with fail
      refine calls_then HS.out ?_
      rintro e w7 ⟨rfl, hq⟩
      have hq' := hq.symm
      clear hq HS
      subst hq'
      cases s
      · go_wp2_with (refine wpList_put_box (x := .tmp 2) (cells := pairV nilS nilS) HP5.out rfl rfl rfl rfl pair_size rfl (by simp [pairV, nilS, Value.oneCell']) ?_; intro w7 hb7 hw7; have HP7 := Lib.hid hb7; have HW7 := Lib.hid hw7; clear hb7 hw7)
        refine bodyPost_ret (results_box_tmp (P := Try.prog) rfl rfl HP7.out hpt rfl pair_size) rfl ?_
        rw [HO.out]
        exact ⟨HW7.out.below HBB.out (Nat.le_refl _) HBB.out.size, rfl⟩
      · have HCO := Lib.hid (cO.out rfl w6 (some ⟨g1, 0, none⟩) c1 HC1.out HM5.out)
        go_wp2_with fail
        refine calls_then HCO.out ?_
        rintro e w8 ⟨hb, hm⟩
        replace HBB := Lib.hid (HBB.out.trans (hb.mono HBB.out.size))
        replace HP5 := Lib.hid (HP5.out.below hb HP5.out.lt)
        replace HM5 := Lib.hid (rd_next HM5.out hb)
        cases R with
        | none =>
          obtain rfl := hm
          clear hb HCO
          go_wp2_with (refine wpList_put_box (x := .tmp 2) (cells := pairV nilS nilS) HP5.out rfl rfl rfl rfl pair_size rfl (by simp [pairV, nilS, Value.oneCell']) ?_; intro w9 hb9 hw9; have HP9 := Lib.hid hb9; have HW9 := Lib.hid hw9; clear hb9 hw9)
          refine bodyPost_ret (results_box_tmp (P := Try.prog) rfl rfl HP9.out hpt rfl pair_size) rfl ?_
          rw [HO.out]
          exact ⟨HW9.out.below HBB.out (Nat.le_refl _) HBB.out.size, rfl⟩
        | some z =>
          obtain ⟨A8, c8, rfl, hc8, hr8⟩ := hm
          have HC8 := Lib.hid hc8
          have HR8 := Lib.hid hr8
          clear hb HCO hc8 hr8
          go_wp2_with (refine wpList_put_box (x := .tmp 2) (cells := pairV (.slice A8 32 c8) (.slice (some ⟨g1, 0, none⟩) 32 c1)) HP5.out rfl rfl rfl rfl pair_size rfl (by simp [pairV, Value.oneCell']) ?_; intro w9 hb9 hw9; have HP9 := Lib.hid hb9; have HW9 := Lib.hid hw9; clear hb9 hw9)
          refine bodyPost_ret (results_box_tmp (P := Try.prog) rfl rfl HP9.out hpt rfl pair_size) rfl ?_
          rw [HO.out]
          exact ⟨HW9.out.below HBB.out (Nat.le_refl _) HBB.out.size, _, _, _, _, rfl, HC8.out, HC1.out, rd_size (HR8.out.pair HP5.out HW9.out) HW9.out.size, rd_size (HM5.out.pair HP5.out HW9.out) HW9.out.size⟩
  · rw [if_neg h32] at ho
    have h32' : ¬ (n : Int) = 32 := by omega
    rw [← hn]
    subst ho
    have HN := Lib.hid h32
    clear hn hmax hr hc W h32
    go_enter Try.func13, Try.ntmps13
    go_wp2_with (refine wpList_put_box (x := .tmp 2) (cells := pairV nilS nilS) HP.out rfl rfl rfl rfl pair_size rfl (by simp [pairV, nilS, Value.oneCell']) ?_; intro w7 hb7 hw7; have HP7 := Lib.hid hb7; have HW7 := Lib.hid hw7; clear hb7 hw7)
    refine bodyPost_ret (results_box_tmp (P := Try.prog) rfl rfl HP7.out hpt rfl pair_size) rfl ?_
    exact ⟨HW7.out.below HB.out (Nat.le_refl _) HB.out.size, rfl⟩
end Go.Proofs.Ytbeokfpbhemcfaa
/-
  Walk: slices.Repeat of one byte 255, 32 times.
-/
namespace Go.Proofs.Ytbeokfpbhemcfaa
set_option linter.unusedSimpArgs false
set_option linter.unusedVariables false
open Go.RowKit

set_option maxRecDepth 100000 in
theorem bmul_any (x y : Nat) (hx : x < 18446744073709551616) (hy : y < 18446744073709551616) (w : World) :
    Calls Try.prog 70 #[.int .u64 x, .int .u64 y] w fun e w' => e = .returned (.tuple #[.int .u64 ((x * y / 18446744073709551616 : Nat) : Int), .int .u64 ((x * y % 18446744073709551616 : Nat) : Int)]) ∧ w' = w := by
  have HM := Lib.hid (mul64_any x y hx hy w)
  generalize x * y / 18446744073709551616 = hi at *
  generalize x * y % 18446744073709551616 = lo at *
  clear hx hy
  go_enter Try.func70, Try.ntmps70
  go_wp2_with fail
  refine calls_then HM.out ?_
  rintro e w1 ⟨rfl, rfl⟩
  go_wp2_with fail
  go_ret2
  exact ⟨rfl, rfl⟩
def RepPost (w : World) (e : Ending) (w' : World) : Prop :=
  ∃ o, e = .returned (.slice (some ⟨o, 0, none⟩) 32 32) ∧ w.heap.size ≤ o ∧ Blk w' o 5 (bnV (fillL 32)).toArray ∧ Below w.heap.size w w'
theorem rep_step : ∀ n, n = 1 ∨ n = 2 ∨ n = 4 ∨ n = 8 ∨ n = 16 → splice (bnV (fillL n)) n (bnV (List.replicate n 255)) = bnV (fillL (n + n)) ∧ splice (bnV (fillL (n + n))) n (bnV (List.replicate n 255)) = bnV (fillL (n + n)) := by
  rintro n (rfl | rfl | rfl | rfl | rfl) <;> exact ⟨rfl, rfl⟩
theorem rep_first : splice (bnV (fillL 0)) 0 (bnV [255]) = bnV (fillL 1) := rfl
theorem rep_src : ∀ n, n = 1 ∨ n = 2 ∨ n = 4 ∨ n = 8 ∨ n = 16 → ∀ (j : Nat) (v : Value), (bnV (List.replicate n 255))[j]? = some v → (bnV (fillL n))[j]? = some v ∧ (bnV (fillL (n + n)))[j]? = some v := by
  intro n hn j v h
  have hlt : j < n := by
    have := (List.getElem?_eq_some_iff.1 h).1
    simpa [bnV] using this
  have h1 : v = .int .u8 ((255 : Nat) : Int) := by
    simp only [bnV, List.map_replicate, List.getElem?_replicate] at h
    rw [if_pos hlt] at h
    exact (Option.some.inj h).symm
  have h2 : ∀ m, n ≤ m → (bnV (fillL m))[j]? = some v := fun m hm => by
    rw [bnV, fillL, List.map_append, List.getElem?_append_left (by simp; omega), List.map_replicate, List.getElem?_replicate, if_pos (by omega), h1]
  exact ⟨h2 n (Nat.le_refl _), h2 (n + n) (by omega)⟩
theorem rep_one (n : Nat) : ∀ v ∈ bnV (List.replicate n 255), v.oneCell' = true := by
  intro v h
  simp only [bnV, List.mem_map] at h
  obtain ⟨m, _, rfl⟩ := h
  rfl
theorem rep_len (n : Nat) : (bnV (List.replicate n 255)).length = n := by simp [bnV]
theorem fill_length (k : Nat) (h : k ≤ 32) : (bnV (fillL k)).length = 32 := by rw [bnV, List.length_map, fill_len k (by omega)]
theorem byte_size1 : (Try.prog.info? 5).map (·.size) = some 1 := by kernel_rfl
theorem add0 (o j : Nat) : (⟨o, 0, none⟩ : Addr).add j = ⟨o, j, none⟩ := by unfold Addr.add; split <;> simp_all
structure RepS (w0 : World) (o k : Nat) (u : World) : Prop where
  bel : Below w0.heap.size w0 u
  out : Blk u o 5 (bnV (fillL k)).toArray ∨ Blk u o 5 (bnV (fillL (k + k))).toArray
set_option maxRecDepth 100000 in
set_option maxHeartbeats 4000000 in
theorem repeat_any (ad : Addr) (w : World) (hb : ad.block < w.heap.size) (hcell : w.cell? ad = some (.int .u8 255)) :
    Calls Try.prog 66 #[.slice (some ad) 1 1, .int .i64 32] w (RepPost w) := by
  have hus := Try.underlying22
  have hmk : ∀ u : World, (Instr.makeSlice 22 (.int .i64 32) (.int .i64 32)).run Try.prog u = .ok (.slice (some ⟨u.heap.size, 0, none⟩) 32 32) (u.alloc (.cells (bnV (fillL 0)).toArray 5)) := fun _ => by kernel_rfl
  have HM := Lib.hid (show ∀ u, Calls Try.prog 70 #[.int .u64 1, .int .u64 32] u (fun e w' => e = .returned (.tuple #[.int .u64 0, .int .u64 32]) ∧ w' = u) from fun u => bmul_any 1 32 (by decide) (by decide) u)
  have HC := Lib.hid hcell
  have HLB := Lib.hid hb
  clear hcell hb
  go_enter Try.func66, Try.ntmps66
  go_wp2_with fail
  refine calls_then (HM.out _) ?_
  rintro e W0 ⟨rfl, rfl⟩
  have hb0 := below_new W0 (.cells (bnV (fillL 0)).toArray 5)
  have HN := Lib.hid (Blk.new W0 5 (bnV (fillL 0)).toArray)
  have hc0 : (W0.alloc (.cells (bnV (fillL 0)).toArray 5)).cell? ad = some (.int .u8 255) := (hb0.cell HLB.out).trans HC.out
  have HB0 := Lib.hid hb0
  have HC0 := Lib.hid hc0
  clear hb0 hc0
  go_wp2_with (refine wpList_copy_splice (P := Try.prog) rfl (.tmp 31) (.tmp 32) _ _ rfl 5 hus byte_size1 _ _ _ _ _ _ rfl rfl W0.heap.size 0 (bnV (fillL 0)) 5 HN.out (bnV [255]) rfl (fun _ => ⟨rfl, ad, rfl, fun j v hj => by
      match j with
      | 0 => injection hj with hj; rw [← hj]; exact HC0.out
      | j + 1 => cases hj⟩) (by decide) (rep_one 1) W0.heap.size W0 HB0.out (Nat.le_refl _) ?_; intro w2 hq hb2; have HQ := Lib.hid (show Blk w2 W0.heap.size 5 (bnV (fillL 1)).toArray from hq.out); have HB2 := Lib.hid hb2; clear hq hb2)
  clear HM hmk HC HC0 HN HB0
  rw [show ((bnV [255]).length : Int) = ((1 : Nat) : Int) from rfl]
  generalize ho : W0.heap.size = o at HQ ⊢
  have HO := Lib.hid ho
  clear ho
  go_loopw [8] (fun i wr => ∃ k : Nat, ((k = 1 ∨ k = 2 ∨ k = 4 ∨ k = 8 ∨ k = 16) ∨ k = 32) ∧ i = .int .i64 k ∧ Blk wr o 5 (bnV (fillL k)).toArray ∧ Below W0.heap.size W0 wr) (fun i _ => 32 - (intOf i).toNat)
  case atStart => exact ⟨1, .inl (.inl rfl), rfl, HQ.out, HB2.out⟩
  case round =>
    clear HQ HB2
    obtain ⟨n, hn, rfl, hq, hb⟩ := hrel
    have HQ := Lib.hid hq
    have HB := Lib.hid hb
    clear hq hb
    rcases hn with hn | rfl
    · have h1 : (n : Int) < 32 := by omega
      have h2 : (n : Int) ≤ 32 := by omega
      have h3 : (1 : Int) ≤ n := by omega
      have h4 : (n : Int) ≤ 16 := by omega
      have HN := Lib.hid hn
      clear hn
      go_wp2_with fail
      have HC0 : RepS W0 o n wr.drew := ⟨HB.out.drew, .inl HQ.out⟩
      refine wp_region_list (fun u => RepS W0 o n u) (fun | false => (fun _ => True) | true => (fun _ => True)) (fun | false, _ => false | true, _ => false)
        [fun z _ => z 0 = .int .i64 (n : Int),
         fun z _ => z 1 = .slice (some ⟨o, 0, none⟩) 32 32,
         fun z _ => z 2 = .int .i64 (n : Int),
         fun z _ => z 3 = .slice (some ⟨o, n, none⟩) (32 - n) (32 - n),
         fun z _ => z 4 = .slice (some ⟨o, 0, none⟩) 32 32,
         fun z _ => z 5 = .int .i64 (n : Int),
         fun z _ => z 6 = .slice (some ⟨o, 0, none⟩) n 32,
         fun z u => (fun v u => v = .int .i64 (n : Int) ∧ Blk u o 5 (bnV (fillL (n + n))).toArray) (z 7) u,
         fun z _ => z 8 = .int .i64 ((n : Int) + n),
         fun z _ => z 9 = .int .i64 ((n : Int) + n)]
        [Eq, Eq, Eq, Eq, Eq, Eq, Eq, fun u u' => True, Eq, Eq]
        (fun _ _ => false) [(0, some 38), (1, some 39), (2, some 40), (3, some 41), (4, some 42), (5, some 43), (6, some 44), (7, some 45), (8, some 46), (9, some 8)] (by kernel_rfl) (by kernel_rfl) rfl (fun _ => rfl) ?_ ?_ ?_ ?_ ?_ ?_
      · exact HC0
      · intro m; cases m; exact trivial; exact trivial
      · intro m; cases m
        · exact ⟨.inr (fun _ _ h h0 => h ▸ h0), .inr (fun _ _ h h0 => h ▸ h0), .inr (fun _ _ h h0 => h ▸ h0), .inr (fun _ _ h h0 => h ▸ h0), .inr (fun _ _ h h0 => h ▸ h0), .inr (fun _ _ h h0 => h ▸ h0), .inr (fun _ _ h h0 => h ▸ h0), .inr (fun _ _ _ h => h), .inr (fun _ _ h h0 => h ▸ h0), .inr (fun _ _ h h0 => h ▸ h0), trivial⟩
        · exact ⟨.inr (fun _ _ h h0 => h ▸ h0), .inr (fun _ _ h h0 => h ▸ h0), .inr (fun _ _ h h0 => h ▸ h0), .inr (fun _ _ h h0 => h ▸ h0), .inr (fun _ _ h h0 => h ▸ h0), .inr (fun _ _ h h0 => h ▸ h0), .inr (fun _ _ h h0 => h ▸ h0), .inr (fun _ _ _ h => h), .inr (fun _ _ h h0 => h ▸ h0), .inr (fun _ _ h h0 => h ▸ h0), trivial⟩
      · exact ⟨⟨.inl rfl, .inr (.inr (.inr (fun _ _ _ _ _ h => h))), .inr (.inr (.inr (fun _ _ _ _ _ h => h))), .inr (.inr (.inr (fun _ _ _ _ _ h => h))), .inr (.inr (.inr (fun _ _ _ _ _ h => h))), .inr (.inr (.inr (fun _ _ _ _ _ h => h))), .inr (.inr (.inr (fun _ _ _ _ _ h => h))), .inr (.inr (.inr (fun _ _ _ _ h h0 => by cases h; exact h0))), .inr (.inr (.inl rfl)), .inr (.inr (.inl rfl)), trivial⟩,
          ⟨.inr (.inr (.inr (fun _ _ _ _ _ h => h))), .inl rfl, .inr (.inr (.inr (fun _ _ _ _ _ h => h))), .inr (.inr (.inl rfl)), .inr (.inr (.inr (fun _ _ _ _ _ h => h))), .inr (.inr (.inr (fun _ _ _ _ _ h => h))), .inr (.inr (.inr (fun _ _ _ _ _ h => h))), .inr (.inr (.inl rfl)), .inr (.inr (.inl rfl)), .inr (.inr (.inl rfl)), trivial⟩,
          ⟨.inr (.inr (.inr (fun _ _ _ _ _ h => h))), .inr (.inr (.inr (fun _ _ _ _ _ h => h))), .inl rfl, .inr (.inr (.inl rfl)), .inr (.inr (.inr (fun _ _ _ _ _ h => h))), .inr (.inr (.inr (fun _ _ _ _ _ h => h))), .inr (.inr (.inr (fun _ _ _ _ _ h => h))), .inr (.inr (.inl rfl)), .inr (.inr (.inl rfl)), .inr (.inr (.inl rfl)), trivial⟩,
          ⟨.inr (.inr (.inr (fun _ _ _ _ _ h => h))), .inr (.inr (.inr (fun _ _ _ _ _ h => h))), .inr (.inr (.inr (fun _ _ _ _ _ h => h))), .inl rfl, .inr (.inr (.inr (fun _ _ _ _ _ h => h))), .inr (.inr (.inr (fun _ _ _ _ _ h => h))), .inr (.inr (.inr (fun _ _ _ _ _ h => h))), .inr (.inr (.inl rfl)), .inr (.inr (.inl rfl)), .inr (.inr (.inl rfl)), trivial⟩,
          ⟨.inr (.inr (.inr (fun _ _ _ _ _ h => h))), .inr (.inr (.inr (fun _ _ _ _ _ h => h))), .inr (.inr (.inr (fun _ _ _ _ _ h => h))), .inr (.inr (.inr (fun _ _ _ _ _ h => h))), .inl rfl, .inr (.inr (.inr (fun _ _ _ _ _ h => h))), .inr (.inr (.inl rfl)), .inr (.inr (.inl rfl)), .inr (.inr (.inl rfl)), .inr (.inr (.inl rfl)), trivial⟩,
          ⟨.inr (.inr (.inr (fun _ _ _ _ _ h => h))), .inr (.inr (.inr (fun _ _ _ _ _ h => h))), .inr (.inr (.inr (fun _ _ _ _ _ h => h))), .inr (.inr (.inr (fun _ _ _ _ _ h => h))), .inr (.inr (.inr (fun _ _ _ _ _ h => h))), .inl rfl, .inr (.inr (.inl rfl)), .inr (.inr (.inl rfl)), .inr (.inr (.inl rfl)), .inr (.inr (.inl rfl)), trivial⟩,
          ⟨.inr (.inr (.inr (fun _ _ _ _ _ h => h))), .inr (.inr (.inr (fun _ _ _ _ _ h => h))), .inr (.inr (.inr (fun _ _ _ _ _ h => h))), .inr (.inr (.inr (fun _ _ _ _ _ h => h))), .inr (.inr (.inr (fun _ _ _ _ _ h => h))), .inr (.inr (.inr (fun _ _ _ _ _ h => h))), .inl rfl, .inr (.inr (.inl rfl)), .inr (.inr (.inl rfl)), .inr (.inr (.inl rfl)), trivial⟩,
          ⟨.inr (.inr (.inr (fun _ _ _ _ _ h => h))), .inr (.inr (.inr (fun _ _ _ _ _ h => h))), .inr (.inr (.inr (fun _ _ _ _ _ h => h))), .inr (.inr (.inr (fun _ _ _ _ _ h => h))), .inr (.inr (.inr (fun _ _ _ _ _ h => h))), .inr (.inr (.inr (fun _ _ _ _ _ h => h))), .inr (.inr (.inr (fun _ _ _ _ _ h => h))), .inl rfl, .inr (.inr (.inl rfl)), .inr (.inr (.inl rfl)), trivial⟩,
          ⟨.inr (.inr (.inr (fun _ _ _ _ _ h => h))), .inr (.inr (.inr (fun _ _ _ _ _ h => h))), .inr (.inr (.inr (fun _ _ _ _ _ h => h))), .inr (.inr (.inr (fun _ _ _ _ _ h => h))), .inr (.inr (.inr (fun _ _ _ _ _ h => h))), .inr (.inr (.inr (fun _ _ _ _ _ h => h))), .inr (.inr (.inr (fun _ _ _ _ _ h => h))), .inr (.inr (.inr (fun _ _ _ _ h h0 => by cases h; exact h0))), .inl rfl, .inr (.inr (.inl rfl)), trivial⟩,
          ⟨.inr (.inr (.inr (fun _ _ _ _ _ h => h))), .inr (.inr (.inr (fun _ _ _ _ _ h => h))), .inr (.inr (.inr (fun _ _ _ _ _ h => h))), .inr (.inr (.inr (fun _ _ _ _ _ h => h))), .inr (.inr (.inr (fun _ _ _ _ _ h => h))), .inr (.inr (.inr (fun _ _ _ _ _ h => h))), .inr (.inr (.inr (fun _ _ _ _ _ h => h))), .inr (.inr (.inr (fun _ _ _ _ h h0 => by cases h; exact h0))), .inr (.inr (.inr (fun _ _ _ _ _ h => h))), .inl rfl, trivial⟩, trivial⟩
      · refine ⟨?_, ?_, ?_, ?_, ?_, ?_, ?_, ?_, ?_, ?_, trivial⟩
        · -- 0: Op.move (Operand.tmp 8)
          refine step_plain [] (fun _ => rfl) rfl ?_
          intro w1 vals hC1 hi0 hf E hE
          clear hi0
          clear hf
          simp only [puts, act_put, act_put_none, List.setIfInBounds_toArray, List.set_cons_zero, List.set_cons_succ] at hE ⊢
          go_wp2
          exact .mk (hE _ _ rfl hC1 rfl)
        · -- 1: Op.move (Operand.tmp 7)
          refine step_plain [] (fun _ => rfl) rfl ?_
          intro w1 vals hC1 hi0 hf E hE
          clear hi0
          clear hf
          simp only [puts, act_put, act_put_none, List.setIfInBounds_toArray, List.set_cons_zero, List.set_cons_succ] at hE ⊢
          go_wp2
          exact .mk (hE _ _ rfl hC1 rfl)
        · -- 2: Op.move (Operand.tmp 8)
          refine step_plain [] (fun _ => rfl) rfl ?_
          intro w1 vals hC1 hi0 hf E hE
          clear hi0
          clear hf
          simp only [puts, act_put, act_put_none, List.setIfInBounds_toArray, List.set_cons_zero, List.set_cons_succ] at hE ⊢
          go_wp2
          exact .mk (hE _ _ rfl hC1 rfl)
        · -- 3: Op.slice 22 (Operand.tmp 39) (some (Operand.tmp 40)) none none
          refine step_plain [(1, some 39), (2, some 40)] (fun _ => rfl) rfl ?_
          intro w1 vals hC1 hi0 hf E hE
          clear hi0
          have f1 : vals 1 = .slice (some ⟨o, 0, none⟩) 32 32 := hf 1 rfl
          have f2 : vals 2 = .int .i64 (n : Int) := hf 2 rfl
          try dsimp only at f1 f2
          clear hf
          simp only [puts, act_put, act_put_none, List.setIfInBounds_toArray, List.set_cons_zero, List.set_cons_succ, f1, f2] at hE ⊢
          clear f1 f2
          go_wp2
          exact .mk (hE _ _ rfl hC1 rfl)
        · -- 4: Op.move (Operand.tmp 7)
          refine step_plain [] (fun _ => rfl) rfl ?_
          intro w1 vals hC1 hi0 hf E hE
          clear hi0
          clear hf
          simp only [puts, act_put, act_put_none, List.setIfInBounds_toArray, List.set_cons_zero, List.set_cons_succ] at hE ⊢
          go_wp2
          exact .mk (hE _ _ rfl hC1 rfl)
        · -- 5: Op.move (Operand.tmp 8)
          refine step_plain [] (fun _ => rfl) rfl ?_
          intro w1 vals hC1 hi0 hf E hE
          clear hi0
          clear hf
          simp only [puts, act_put, act_put_none, List.setIfInBounds_toArray, List.set_cons_zero, List.set_cons_succ] at hE ⊢
          go_wp2
          exact .mk (hE _ _ rfl hC1 rfl)
        · -- 6: Op.slice 22 (Operand.tmp 42) none (some (Operand.tmp 43)) none
          refine step_plain [(4, some 42), (5, some 43)] (fun _ => rfl) rfl ?_
          intro w1 vals hC1 hi0 hf E hE
          clear hi0
          have f4 : vals 4 = .slice (some ⟨o, 0, none⟩) 32 32 := hf 4 rfl
          have f5 : vals 5 = .int .i64 (n : Int) := hf 5 rfl
          try dsimp only at f4 f5
          clear hf
          simp only [puts, act_put, act_put_none, List.setIfInBounds_toArray, List.set_cons_zero, List.set_cons_succ, f4, f5] at hE ⊢
          clear f4 f5
          go_wp2
          exact .mk (hE _ _ rfl hC1 rfl)
        · -- 7: Op.call { callee := Callee.builtin Builtin.copy, args := #[Operand.tmp 41, Operand.tmp 44], argTypes := #[22, 
          refine step_plain [(3, some 41), (6, some 44)] (fun _ => rfl) rfl ?_
          intro w1 vals hC1 hi0 hf E hE
          clear hi0
          have f3 : vals 3 = .slice (some ⟨o, n, none⟩) (32 - n) (32 - n) := hf 3 rfl
          have f6 : vals 6 = .slice (some ⟨o, 0, none⟩) n 32 := hf 6 rfl
          try dsimp only at f3 f6
          clear hf
          have hN := HN.out
          have hrep := rep_step n hN
          have hsrc := rep_src n hN
          have hm : n ≤ 32 - n := by omega
          simp only [puts, act_put, act_put_none, List.setIfInBounds_toArray, List.set_cons_zero, List.set_cons_succ, f3, f6] at hE ⊢
          clear f3 f6
          rcases hC1.out with hq | hq
          · refine wpList_copy_splice (P := Try.prog) rfl (.tmp 41) (.tmp 44) _ _ rfl 5 hus byte_size1 _ _ _ _ _ _ rfl rfl o n (bnV (fillL n)) 5 hq (bnV (List.replicate n 255)) (by rw [rep_len]; exact (Nat.min_eq_left hm).symm) (fun _ => ⟨rfl, _, rfl, fun j v hj => by rw [add0, hq.cell j, List.getElem?_toArray]; exact (hsrc j v hj).1⟩) (by rw [rep_len, fill_length _ (by omega)]; omega) (rep_one n) W0.heap.size W0 hC1.bel (Nat.le_of_eq HO.out) ?_
            intro w2 hq2 hb2
            rw [hrep.1] at hq2
            have HB2 := Lib.hid hb2
            clear hb2
            go_wp2_with fail
            exact .mk (hE _ _ ⟨congrArg (fun (k : Nat) => Value.int .i64 (k : Int)) (rep_len n), hq2.out⟩ ⟨HB2.out, .inr hq2.out⟩ trivial)
          · refine wpList_copy_splice (P := Try.prog) rfl (.tmp 41) (.tmp 44) _ _ rfl 5 hus byte_size1 _ _ _ _ _ _ rfl rfl o n (bnV (fillL (n + n))) 5 hq (bnV (List.replicate n 255)) (by rw [rep_len]; exact (Nat.min_eq_left hm).symm) (fun _ => ⟨rfl, _, rfl, fun j v hj => by rw [add0, hq.cell j, List.getElem?_toArray]; exact (hsrc j v hj).2⟩) (by rw [rep_len, fill_length _ (by omega)]; omega) (rep_one n) W0.heap.size W0 hC1.bel (Nat.le_of_eq HO.out) ?_
            intro w2 hq2 hb2
            rw [hrep.2] at hq2
            have HB2 := Lib.hid hb2
            clear hb2
            go_wp2_with fail
            exact .mk (hE _ _ ⟨congrArg (fun (k : Nat) => Value.int .i64 (k : Int)) (rep_len n), hq2.out⟩ ⟨HB2.out, .inr hq2.out⟩ trivial)
        · -- 8: Op.binOp BinOp.add 3 (Operand.tmp 38) (Operand.tmp 45) 3
          refine step_plain [(0, some 38), (7, some 45)] (fun _ => rfl) rfl ?_
          intro w1 vals hC1 hi0 hf E hE
          clear hi0
          have f0 : vals 0 = .int .i64 (n : Int) := hf 0 rfl
          have f7 : (fun v u => v = .int .i64 (n : Int) ∧ Blk u o 5 (bnV (fillL (n + n))).toArray) (vals 7) w1 := hf 7 rfl
          try dsimp only at f0 f7
          clear hf
          obtain ⟨hx, hbk⟩ := f7
          simp only [puts, act_put, act_put_none, List.setIfInBounds_toArray, List.set_cons_zero, List.set_cons_succ, f0, hx] at hE ⊢
          clear f0
          clear hx
          go_wp2
          exact .mk (hE _ _ rfl hC1 rfl)
        · -- 9: Op.assign (Operand.tmp 46)
          refine step_plain [(8, some 46), (7, some 45), (0, some 38), (1, some 39), (2, some 40), (3, some 41), (4, some 42), (5, some 43), (6, some 44), (7, some 45), (8, some 46)] (fun _ => rfl) rfl ?_
          intro w1 vals hC1 hi0 hf E hE
          clear hi0
          have f0 : vals 0 = .int .i64 (n : Int) := hf 0 rfl
          have f1 : vals 1 = .slice (some ⟨o, 0, none⟩) 32 32 := hf 1 rfl
          have f2 : vals 2 = .int .i64 (n : Int) := hf 2 rfl
          have f3 : vals 3 = .slice (some ⟨o, n, none⟩) (32 - n) (32 - n) := hf 3 rfl
          have f4 : vals 4 = .slice (some ⟨o, 0, none⟩) 32 32 := hf 4 rfl
          have f5 : vals 5 = .int .i64 (n : Int) := hf 5 rfl
          have f6 : vals 6 = .slice (some ⟨o, 0, none⟩) n 32 := hf 6 rfl
          have f7 : (fun v u => v = .int .i64 (n : Int) ∧ Blk u o 5 (bnV (fillL (n + n))).toArray) (vals 7) w1 := hf 7 rfl
          have f8 : vals 8 = .int .i64 ((n : Int) + n) := hf 8 rfl
          try dsimp only at f0 f1 f2 f3 f4 f5 f6 f7 f8
          clear hf
          simp only [puts, act_put, act_put_none, List.setIfInBounds_toArray, List.set_cons_zero, List.set_cons_succ, f0, f1, f2, f3, f4, f5, f6, f8] at hE ⊢
          clear f0 f1 f2 f3 f4 f5 f6 f8
          go_wp2
          exact .mk (hE _ _ rfl hC1 rfl)
      intro w1 vals hC1 hf
      have f0 : vals 0 = .int .i64 (n : Int) := hf 0 (by decide) rfl
      have f1 : vals 1 = .slice (some ⟨o, 0, none⟩) 32 32 := hf 1 (by decide) rfl
      have f2 : vals 2 = .int .i64 (n : Int) := hf 2 (by decide) rfl
      have f3 : vals 3 = .slice (some ⟨o, n, none⟩) (32 - n) (32 - n) := hf 3 (by decide) rfl
      have f4 : vals 4 = .slice (some ⟨o, 0, none⟩) 32 32 := hf 4 (by decide) rfl
      have f5 : vals 5 = .int .i64 (n : Int) := hf 5 (by decide) rfl
      have f6 : vals 6 = .slice (some ⟨o, 0, none⟩) n 32 := hf 6 (by decide) rfl
      have f7 : (fun v u => v = .int .i64 (n : Int) ∧ Blk u o 5 (bnV (fillL (n + n))).toArray) (vals 7) w1 := hf 7 (by decide) rfl
      have f8 : vals 8 = .int .i64 ((n : Int) + n) := hf 8 (by decide) rfl
      have f9 : vals 9 = .int .i64 ((n : Int) + n) := hf 9 (by decide) rfl
      try dsimp only at f0 f1 f2 f3 f4 f5 f6 f7 f8 f9
      clear hf
      simp only [puts, act_put, act_put_none, List.setIfInBounds_toArray, List.set_cons_zero, List.set_cons_succ, f0, f1, f2, f3, f4, f5, f6, f8, f9]
      clear f0 f1 f2 f3 f4 f5 f6 f8 f9
      generalize vals 7 = x7 at *
      obtain ⟨_, hbk⟩ := f7
      have HBK := Lib.hid hbk
      have HBL := Lib.hid hC1.bel
      clear hbk hC1 HC0
      go_wp2_with fail
      refine ⟨⟨n + n, ?_, by go_num, HBK.out, HBL.out⟩, by simp [intOf]; omega⟩
      have := HN.out
      omega
    · go_wp2_with fail
      go_ret
      exact ⟨o, rfl, Nat.le_of_eq HO.out, HQ.out, HB.out⟩
end Go.Proofs.Ytbeokfpbhemcfaa
/-
  Walk: slices.Clone of 32 bytes.
-/
namespace Go.Proofs.Ytbeokfpbhemcfaa
set_option linter.unusedSimpArgs false
set_option linter.unusedVariables false
open Go.RowKit

/-- 'append(s, x...)' to a row that may be written to: so may what comes. -/
theorem wpList_append_rdZ {P : Program} {w : World} {ops : Array Oper} {rest : List Oper} {o : Oper} {a : Act} {Q : Exit → Act → World → Prop} {sl x : Operand} {t e : TypeId} {bytes : Nat} (T : SlT P t e 1 bytes)
    (hgd : o.guard = none) (ho : o.op = .call { callee := .builtin .append, args := #[sl, x], argTypes := #[t, t] })
    {base n B : Nat} {v : Value} {xs : List Value} {ad : Addr} {m cx : Nat} {news : List Value} (hown : OwnZ w base e 1 v n xs) (hs : a.eval sl = v) (hx : a.eval x = .slice (some ad) m cx)
    (hl : news.length = m * 1) (hm : 0 < m) (hr : Rd w B (some ad) news) (h1 : ∀ u ∈ news, u.oneCell' = true)
    (h63 : n + m ≤ maxLen) (hbytes : (n + m) * bytes ≤ 140737488355328) (hbase : base ≤ w.heap.size)
    (h : ∀ A c w', OwnZ w' base e 1 (.slice A (n + m) c) (n + m) (xs ++ news) → w.grownBy w' v.ownBlock → wpList P ops Q rest (a.put o.dst (.slice A (n + m) c)) w') :
    wpList P ops Q (o :: rest) a w := by
  obtain ⟨i, z, hi, hz, hsz, hby, hzs⟩ := T.info
  obtain ⟨v', w', hr', h2, h3, _, h5⟩ := run_append_own_at (P := P) w base t o.type e i z 1 bytes T.und hi hz hsz hby hzs T.pos v n xs hown ad m cx news hl (fun j u hu => by
    obtain ⟨ad', e1, _, e3⟩ := hr j u hu
    injection e1 with e1
    subst e1
    exact e3) h1 h63 hbytes hbase
  rcases h2.2 with ⟨_, h0⟩ | ⟨g, cap, cur, rfl, _⟩
  · omega
  · refine wpList_of_append (R := fun v1 w1 => v1 = .slice (some ⟨g, 0, none⟩) (n + m) cap ∧ w1 = w') hgd ho hs hx ⟨_, _, hr', rfl, rfl⟩ ?_
    rintro v1 w1 ⟨rfl, rfl⟩
    exact h _ _ _ h2 h3
theorem ownZ_nil (w : World) (e : TypeId) : OwnZ (w.alloc (.cells #[] e)) w.heap.size e 1 (.slice (some ⟨w.heap.size, 0, none⟩) 0 0) 0 [] :=
  ⟨rfl, .inr ⟨w.heap.size, 0, #[], rfl, Nat.le_refl _, heap_alloc_new w _, Nat.le_refl _, Nat.zero_le _, rfl, rfl⟩⟩
theorem bytesV_one (b : List UInt8) : ∀ u ∈ bytesV b, u.oneCell' = true := fun u h => by
  rw [bytesV] at h
  obtain ⟨x, _, rfl⟩ := List.mem_map.1 h
  rfl
set_option maxRecDepth 100000 in
set_option maxHeartbeats 2000000 in
theorem clone_any (b : List UInt8) (h32 : b.length = 32) (A : Option Addr) (c : Nat) (w : World) (hr : Rd w w.heap.size A (bytesV b)) :
    Calls Try.prog 51 #[.slice A 32 c] w (OwnPostZ 5 32 (bytesV b) w) := by
  obtain ⟨ad, rfl, hlt, _⟩ := hr.at_ (k := 0) (by rw [bytesV_length, h32]; decide)
  have HR := Lib.hid hr
  have hne : ∀ u : World, (binOp .eql 22 (.slice (some ad) 32 c) (.slice none 0 0)).run Try.prog u = .ok (.bool false) u := fun _ => by kernel_rfl
  clear hr
  go_enter Try.func51, Try.ntmps51
  have HO := Lib.hid (ownZ_nil w 5)
  have HB := Lib.hid (below_new w (.cells #[] 5))
  have HL := Lib.hid (show (bytesV b).length = 32 * 1 by rw [bytesV_length, h32])
  go_wp2_with (refine wpList_append_rdZ sl_bytes rfl rfl HO.out rfl rfl HL.out (by decide) (rd_next HR.out HB.out) (bytesV_one b) (by unfold maxLen; omega) (by omega) (by simp) ?_; intro A1 c1 w1 hown hg; have HOWN := Lib.hid hown; have HG := Lib.hid hg; clear hown hg)
  go_ret
  exact ⟨A1, c1, rfl, HOWN.out, below_grow HB.out HO.out.x HB.out.size HG.out⟩
end Go.Proofs.Ytbeokfpbhemcfaa
/-
  Regions that draw their order: operations that give one value each (some of them pure), and a tail of operations, one behind the other, that may turn on the world.
-/
namespace Go.Proofs.Ytbeokfpbhemcfaa
set_option linter.unusedSimpArgs false
set_option linter.unusedVariables false
section
variable {P : Program}
/-- One step that is pure (p), or keeps C. -/
def DetStepQ (P : Program) (ops : Array Oper) (C : World → Prop) (p : Bool) (Φ : (Nat → Value) → Prop) (i : Nat) (a0 : Act) (o : Oper) (v : Value) : Prop :=
  ∀ vals, Φ vals → ∀ w, (p = false → C w) → ∀ E : Act → World → Prop, (∀ w', (if p = true then w' = w else C w') → E ((putAll ops vals (waitsOf ops i) a0).put o.dst v) w') → wpList P ops (EndOf E) [o] (putAll ops vals (waitsOf ops i) a0) w
def DetQ (P : Program) (ops : Array Oper) (C : World → Prop) (pu : Nat → Bool) (a0 : Act) (K : ((Nat → Value) → Prop) → Prop) : Nat → List Oper → ((Nat → Value) → Prop) → Prop
  | _, [], Φ => K Φ
  | i, o :: rest, Φ => ∃ v, DetStepQ P ops C (pu i) Φ i a0 o v ∧ DetQ P ops C pu a0 K (i + 1) rest fun vals => Φ vals ∧ vals i = v
theorem detQ_all {ops : Array Oper} {C : World → Prop} {pu : Nat → Bool} {a0 : Act} {K : ((Nat → Value) → Prop) → Prop} : ∀ (rest : List Oper) (i : Nat) (Φ : (Nat → Value) → Prop),
    (∀ v1 v2 : Nat → Value, (∀ j, j < i → v1 j = v2 j) → Φ v1 → Φ v2) → (∃ vals, Φ vals) → DetQ P ops C pu a0 K i rest Φ →
    ∃ (vs : Nat → Value) (Ψ : (Nat → Value) → Prop), K Ψ ∧ Φ vs ∧ (∀ vals, (∀ j, j < i + rest.length → vals j = vs j) → Ψ vals) ∧
      ∀ j o, rest[j]? = some o → ∀ vals w, (pu (i + j) = false → C w) → (∀ k, k < i + j → vals k = vs k) → ∀ E : Act → World → Prop, (∀ w', (if pu (i + j) = true then w' = w else C w') → E ((putAll ops vals (waitsOf ops (i + j)) a0).put o.dst (vs (i + j))) w') → wpList P ops (EndOf E) [o] (putAll ops vals (waitsOf ops (i + j)) a0) w
  | [], i, Φ, hΦ, ⟨v0, h0⟩, h => ⟨v0, Φ, h, h0, fun vals hv => hΦ _ _ (fun j hj => (hv j (by simpa using hj)).symm) h0, fun j o ho => by simp at ho⟩
  | o :: rest, i, Φ, hΦ, ⟨v0, h0⟩, ⟨v, h1, h2⟩ => by
    obtain ⟨vs, Ψ, k1, k2, k3, k4⟩ := detQ_all rest (i + 1) (fun vals => Φ vals ∧ vals i = v)
      (fun v1 v2 hv hp => ⟨hΦ v1 v2 (fun j hj => hv j (by omega)) hp.1, by rw [← hv i (by omega)]; exact hp.2⟩)
      ⟨upd v0 i v, hΦ v0 _ (fun j hj => by simp [upd, Nat.ne_of_lt hj]) h0, by simp [upd]⟩ h2
    refine ⟨vs, Ψ, k1, k2.1, fun vals hv => k3 vals fun j hj => hv j (by simp only [List.length_cons] at hj ⊢; omega), fun j o' ho vals w hc hv => ?_⟩
    cases j with
    | zero =>
      simp at ho
      subst ho
      have hΦv : Φ vals := hΦ vs _ (fun j hj => (hv j (by omega)).symm) k2.1
      intro E hE
      refine h1 vals hΦv w hc E fun w'' hd => ?_
      have h4 := hE w'' hd
      rw [Nat.add_zero, k2.2] at h4
      exact h4
    | succ j =>
      rw [show i + (j + 1) = i + 1 + j by omega] at hc hv ⊢
      exact k4 j o' (by simpa using ho) vals w hc hv
theorem wp_region_tailq {id : Nat} {l : List Oper} {a0 : Act} {w0 : World} {Q : Exit → Act → World → Prop} (C : World → Prop) (pu : Nat → Bool) (d : Nat) (ps : List (Nat × Option Tmp))
    (hm : P.follows .mixedOrders = true) (hok : regionOk l.toArray = true) (hd : d < l.length)
    (hlast : ((List.range l.length).all fun k => decide (k < d) || (((List.range k).all fun i => (deepWaits l.toArray 5 k).contains i || (pu i && decide (i < d))) && (k == d || (waitsOf l.toArray k).contains (k - 1)))) = true)
    (hps : ∀ vals, putAll l.toArray vals (List.range l.toArray.size) a0 = puts vals ps a0) (hC : C w0.drew)
    (h : DetQ P l.toArray C pu a0 (fun Φ => ∀ vals, Φ vals → ∀ w, C w → tailP P l.toArray a0 (fun vals w => Q .normal (puts vals ps a0) w) d (l.drop d) vals w) 0 (l.take d) (fun _ => True)) :
    (Code.region id l.toArray true).wp P Q a0 w0 := by
  obtain ⟨vs, Ψ, k1, _, k3, k4⟩ := detQ_all (P := P) (l.take d) 0 (fun _ => True) (fun _ _ _ h => h) ⟨fun _ => undef, trivial⟩ h
  have htl : (l.take d).length = d := by rw [List.length_take]; omega
  simp only [Nat.zero_add, htl] at k3 k4
  have hdeep : ∀ k, k < l.length → d ≤ k → ∀ i, i < k → (deepWaits l.toArray 5 k).contains i = true ∨ (pu i = true ∧ i < d) := fun k hk hdk i hi => by
    have h1 := (List.all_eq_true.1 hlast) k (List.mem_range.2 hk)
    simp only [Bool.or_eq_true, decide_eq_true_eq, Bool.and_eq_true] at h1
    rcases h1 with h1 | h1
    · omega
    · have h2 := (List.all_eq_true.1 h1.1) i (List.mem_range.2 hi)
      simpa only [Bool.or_eq_true, Bool.and_eq_true, decide_eq_true_eq] using h2
  have hprev : ∀ k, k < l.length → d < k → (waitsOf l.toArray k).contains (k - 1) = true := fun k hk hdk => by
    have h1 := (List.all_eq_true.1 hlast) k (List.mem_range.2 hk)
    simp only [Bool.or_eq_true, decide_eq_true_eq, Bool.and_eq_true, beq_iff_eq] at h1
    rcases h1 with h1 | ⟨_, h1 | h1⟩
    · omega
    · omega
    · exact h1
  let Kf : (Nat → Value) → World → Prop := fun vals w => Q .normal (puts vals ps a0) w
  let kills : Nat → Nat → Bool := fun i k => decide (d ≤ k) && (decide (k < i) || decide (l.length ≤ k))
  refine wp_region_rel (fun _ => True) (fun _ => C) (fun _ i => decide (d ≤ i))
    (fun i vals w => if i < d then vals i = vs i else tailP P l.toArray a0 Kf (i + 1) (l.drop (i + 1)) (mergeV d vs vals) w)
    (fun i w w' => if d ≤ i then True else if pu i = true then w' = w else (C w → C w')) kills hm hok trivial (fun _ => hC) ?_ ?_ ?_ ?_
  · intro _ i hi w w' hS hc
    have hne : ¬ d ≤ i := by simpa using hi
    rw [if_neg hne] at hS
    by_cases hp : pu i = true
    · rw [if_pos hp] at hS; rw [hS]; exact hc
    · rw [if_neg hp] at hS; exact hS hc
  · intro i k hi hik hk hdk vals v w w' hS hF
    by_cases hkd : k < d
    · simp only [hkd, if_true] at hF ⊢
      simp [upd, Ne.symm hik, hF]
    · have hki : ¬ k < i := by
        intro hlt
        have h9 : kills i k = true := by
          have a1 : d ≤ k := by omega
          simp [kills, a1, hlt]
        rw [h9] at hk; cases hk
      have hkl : k < l.length ∨ l.length ≤ k := Nat.lt_or_ge _ _
      rcases hkl with hkl | hkl
      · rcases hdeep k hkl (by omega) i (by omega) with h8 | ⟨h8, h7⟩
        · rw [h8] at hdk; cases hdk
        · simp only [hkd, if_false] at hF ⊢
          rw [if_neg (by omega), if_pos h8] at hS
          subst hS
          have e : mergeV d vs (upd vals i v) = mergeV d vs vals := by
            funext j
            unfold mergeV upd
            by_cases h1 : j = i
            · subst h1; simp [h7]
            · simp [h1]
          rw [e]; exact hF
      · have h9 : kills i k = true := by
          have a1 : d ≤ k := by omega
          simp [kills, a1, hkl]
        rw [h9] at hk; cases hk
  · intro i o ho w vals _ hini hav
    have hil : i < l.length := by have := (Array.getElem?_eq_some_iff.1 ho).1; simpa using this
    have hok1 := okAt hok ho
    by_cases hid : i < d
    · have hcw : pu i = false → C w := fun hpf => hini false (by
        unfold availIni
        rw [List.all_eq_true]
        intro k hk
        have hk' : k < l.length := by simpa using hk
        by_cases hki : k = i
        · simp [hki]
        · by_cases hkd : d ≤ k
          · rcases hdeep k hk' hkd i (by omega) with h8 | ⟨h8, _⟩
            · simp only [h8, Bool.or_true]
            · rw [h8] at hpf; cases hpf
          · simp [hkd])
      have hvals : ∀ j ∈ waitsOf l.toArray i, vals j = vs j := fun j hj => by
        have hji : j < d := by
          have := hok1.before j hj
          omega
        have h1 : availAt l.toArray kills j i = true := by
          unfold availAt
          simp only [kills, Bool.and_eq_true]
          refine ⟨by simpa using hj, ?_⟩
          rw [List.all_eq_true]
          intro k _
          have : ¬ d ≤ j := by omega
          simp [this]
        have := hav j h1
        dsimp only at this
        rw [if_pos hji] at this
        exact this
      have hcon : putAll l.toArray vals (waitsOf l.toArray i) a0 = putAll l.toArray vs (waitsOf l.toArray i) a0 := putAll_congr _ _ _ _ _ hvals
      have ho2 : (l.take d)[i]? = some o := by rw [List.getElem?_take, if_pos hid]; simpa using ho
      have h3 := k4 i o ho2 vs w hcw (fun _ _ => rfl)
      rw [hcon]
      refine h3 _ fun w' hd' => ?_
      refine ⟨vs i, rfl, ?_, trivial, ?_⟩
      · dsimp only; rw [if_pos hid]; simp [upd]
      · dsimp only
        rw [if_neg (by omega)]
        by_cases hp : pu i = true
        · rw [if_pos hp] at hd' ⊢; exact hd'
        · rw [if_neg hp] at hd' ⊢; exact fun _ => hd'
    · have hget : l.drop i = o :: l.drop (i + 1) := by
        have h1 : l[i]? = some o := by simpa using ho
        have h2 := List.drop_eq_getElem_cons hil
        rw [List.getElem?_eq_getElem hil] at h1
        rw [h2, Option.some.inj h1]
      have hvals : ∀ j ∈ waitsOf l.toArray i, vals j = mergeV d vs vals j := fun j hj => by
        unfold mergeV
        split
        · rename_i hjd
          have h1 : availAt l.toArray kills j i = true := by
            unfold availAt
            simp only [kills, Bool.and_eq_true]
            refine ⟨by simpa using hj, ?_⟩
            rw [List.all_eq_true]
            intro k _
            have : ¬ d ≤ j := by omega
            simp [this]
          have := hav j h1
          dsimp only at this
          rw [if_pos hjd] at this
          exact this
        · rfl
      have hcon : putAll l.toArray vals (waitsOf l.toArray i) a0 = putAll l.toArray (mergeV d vs vals) (waitsOf l.toArray i) a0 := putAll_congr _ _ _ _ _ hvals
      have htail : tailP P l.toArray a0 Kf i (l.drop i) (mergeV d vs vals) w := by
        by_cases he : i = d
        · subst he
          have hcw : C w := hini false (by
            unfold availIni
            rw [List.all_eq_true]
            intro k hk
            have hk' : k < l.length := by simpa using hk
            by_cases hki : k = i
            · simp [hki]
            · by_cases hkd : i ≤ k
              · rcases hdeep k hk' hkd i (by omega) with h8 | ⟨_, h8⟩
                · simp only [h8, Bool.or_true]
                · omega
              · simp [hkd])
          exact k1 _ (k3 _ fun j hj => by simp [mergeV, hj]) w hcw
        · have hav1 : availAt l.toArray kills (i - 1) i = true := by
            unfold availAt
            rw [Bool.and_eq_true]
            refine ⟨hprev i hil (by omega), ?_⟩
            rw [List.all_eq_true]
            intro k hk
            have hk' : k < l.length := by simpa using hk
            by_cases hki : k = i
            · simp [hki]
            · by_cases hki2 : i < k
              · rcases hdeep k hk' (by omega) i hki2 with h8 | ⟨_, h8⟩
                · simp only [h8, Bool.or_true]
                · omega
              · have : ¬ i - 1 < k ∨ k = i - 1 := by omega
                rcases this with h1 | h1
                · have h8 : ¬ l.length ≤ i - 1 := by omega
                  simp [kills, h1, h8]
                · simp [h1]
          have := hav (i - 1) hav1
          dsimp only at this
          rw [if_neg (by omega), show i - 1 + 1 = i by omega] at this
          exact this
      rw [hget] at htail
      rw [hcon]
      refine htail _ fun v w' ht => ?_
      refine ⟨v, rfl, ?_, trivial, ?_⟩
      · dsimp only
        rw [if_neg hid, mergeV_upd _ _ _ (by omega)]
        exact ht
      · dsimp only; rw [if_pos (by omega)]; trivial
  · intro w vals _ hF
    have hn1 : l.length - 1 < l.length := by omega
    have halive : aliveAt l.toArray kills (l.length - 1) = true := by
      unfold aliveAt
      rw [List.all_eq_true]
      intro k hk
      have hk' : k < l.length := by simpa using hk
      have : ¬ l.length - 1 < k := by omega
      have h8 : ¬ l.length ≤ l.length - 1 := by omega
      simp [kills, this, h8]
    have h1 := hF (l.length - 1) (by simpa using hn1) halive
    rw [if_neg (by omega), show l.length - 1 + 1 = l.length by omega, List.drop_length] at h1
    have hcon : putAll l.toArray vals (List.range l.toArray.size) a0 = putAll l.toArray (mergeV d vs vals) (List.range l.toArray.size) a0 := putAll_congr _ _ _ _ _ fun j hj => by
      unfold mergeV
      split
      · rename_i hjd
        have hal : aliveAt l.toArray kills j = true := by
          unfold aliveAt
          rw [List.all_eq_true]
          intro k _
          have : ¬ d ≤ j := by omega
          simp [kills, this]
        have := hF j (by simpa using (List.mem_range.1 hj)) hal
        rw [if_pos hjd] at this
        exact this
      · rfl
    rw [hcon, hps]
    exact h1

section
variable {ops : Array Oper} {C D : World → Prop} {a0 : Act} {K : ((Nat → Value) → Prop) → Prop} {i : Nat} {Φ : (Nat → Value) → Prop} {o : Oper}
theorem detStepQ_of {v : Value} (h : DetStep P ops C C Φ i a0 o v) : DetStepQ P ops C false Φ i a0 o v := fun vals hp w hc E hE => h vals hp w (hc rfl) E fun w' hc' => hE w' (by simpa using hc')
theorem detStepQ_pure {v : Value} (ps : List (Nat × Option Tmp)) (hps : ∀ vals, putAll ops vals (waitsOf ops i) a0 = puts vals ps a0) (hg : o.guard = none)
    (h : ∀ vals, Φ vals → ∀ w, ∀ E : Act → World → Prop, E ((puts vals ps a0).put o.dst v) w → wpList P #[] (EndOf E) [o] (puts vals ps a0) w) : DetStepQ P ops C true Φ i a0 o v := by
  intro vals hp w hc E hE
  have h0 := hE w (by simp)
  rw [hps] at h0 ⊢
  have h1 := h vals hp w E h0
  have hw : ∀ (O : Array Oper) (t : Array Value), Region.wanted o (yielded O t) = true := fun O t => by simp [Region.wanted, hg]
  simp only [wpList, hw, if_true] at h1 ⊢
  exact h1
theorem DetQ.next {v : Value} {rest : List Oper} {pu : Nat → Bool} (hs : DetStepQ P ops C (pu i) Φ i a0 o v) (h : DetQ P ops C pu a0 K (i + 1) rest fun vals => Φ vals ∧ vals i = v) : DetQ P ops C pu a0 K i (o :: rest) Φ := ⟨v, hs, h⟩
theorem DetQ.done {pu : Nat → Bool} (h : K Φ) : DetQ P ops C pu a0 K i [] Φ := h
end
end
end Go.Proofs.Ytbeokfpbhemcfaa
/-
  Walk: curve's root.
-/
namespace Go.Proofs.Ytbeokfpbhemcfaa
set_option linter.unusedSimpArgs false
set_option linter.unusedVariables false
open Go.RowKit

/-- the digits of (p - 5) / 8 -/
def e0L : List Nat := 253 :: (List.replicate 30 255 ++ [15])
theorem e0L_end : ((fillL 32).set 0 253).set 31 15 = e0L := by decide
theorem e0L_dg : Dg e0L := by unfold Dg; decide
def e0B : List UInt8 := e0L.map UInt8.ofNat
theorem e0B_v : bytesV e0B = bnV e0L := by rfl
theorem e0B_l : (e0B.take 64).map UInt8.toNat = e0L := by decide
theorem e0B_len : e0B.length = 32 := by decide
def crV3 (v : E5) : E5 := mulE (mulE v v) v
def crX (u v : E5) : E5 := mulE (mulE u (crV3 v)) (pwL (mulE (mulE (mulE u (crV3 v)) (crV3 v)) v) e0L 32)
def crH (u v : E5) : E5 := mulE (mulE v (crX u v)) (crX u v)
def rootB1 (u v : E5) : Bool := eqB (crH u v) u
def rootB2 (u v : E5) : Bool := eqB (crH u v) (subE zE u)
def rootE (u v : E5) : E5 := if rootB1 u v then crX u v else if rootB2 u v then mulE (crX u v) turnE else zE
def rootB (u v : E5) : Bool := if rootB1 u v then true else rootB2 u v
theorem crV3_ok {v : E5} (hv : v.Ok) : (crV3 v).Ok := mul_ok (mul_ok hv hv) hv
theorem crX_ok {u v : E5} (hu : u.Ok) (hv : v.Ok) : (crX u v).Ok := mul_ok (mul_ok hu (crV3_ok hv)) (pwL_ok (mul_ok (mul_ok (mul_ok hu (crV3_ok hv)) (crV3_ok hv)) hv) _ _)
theorem rootE_ok {u v : E5} (hu : u.Ok) (hv : v.Ok) : (rootE u v).Ok := by
  unfold rootE
  split
  · exact crX_ok hu hv
  · split
    · exact mul_ok (crX_ok hu hv) turnE_ok
    · exact zE_ok
def CRootPost (x : E5) (b : Bool) (w : World) (e : Ending) (w' : World) : Prop := e = .returned (.tuple #[.agg (eV x), .bool b]) ∧ Below w.heap.size w w'
set_option maxRecDepth 100000 in
set_option maxHeartbeats 8000000 in
theorem croot_any (m n : E5) (w : World) (hku : m.Ok) (hkv : n.Ok) : Calls Try.prog 53 #[.agg (eV m), .agg (eV n)] w (CRootPost (rootE m n) (rootB m n) w) := by
  have hu := Try.underlying26
  have hp := Try.underlying28
  have KU := Lib.hid hku
  have KV := Lib.hid hkv
  obtain ⟨w0, hw0⟩ : ∃ w0, w0 = ((w.alloc (.cells (eV m) 26)).alloc (.cells (eV n) 26)).alloc (.cells (eV zE) 26) := ⟨_, rfl⟩
  have hst : Cs [.box w.heap.size 26 (eV m), .box (w.heap.size + 1) 26 (eV n), .box (w.heap.size + 1 + 1) 26 (eV zE)] w w0 := by
    rw [hw0]
    exact ⟨⟨((Blk.new _ _ _).alloc _).alloc _, (Blk.newAt (by simp)).alloc _, Blk.newAt (by simp), trivial⟩, ((below_new _ _).alloc (by simp) _).alloc (by simp; try omega) _⟩
  have HLR := Lib.hid (show w.heap.size ≤ w.heap.size + 1 + 1 by omega)
  obtain ⟨X, hX⟩ : ∃ X, X = turnE := ⟨_, rfl⟩
  have CT := Lib.hid (show ∀ u, Calls Try.prog 67 #[] u (ElemPost X u) from fun u => by rw [hX]; exact turn_any u)
  have KX := Lib.hid (show X.Ok by rw [hX]; exact turnE_ok)
  obtain ⟨RE, hRE⟩ : ∃ x, x = rootE m n := ⟨_, rfl⟩
  obtain ⟨RB, hRB⟩ : ∃ x, x = rootB m n := ⟨_, rfl⟩
  have hres : ∀ v3 x h b1 b2, v3 = mulE (mulE n n) n → x = mulE (mulE m v3) (pwL (mulE (mulE (mulE m v3) v3) n) e0L 32) → h = mulE (mulE n x) x → b1 = eqB h m → b2 = eqB h (subE zE m) →
      RE = (if b1 then x else if b2 then mulE x X else zE) ∧ RB = (if b1 then true else b2) := by
    rintro v3 x h b1 b2 e1 e2 e3 e4 e5
    rw [hRE, hRB, hX, e4, e5, e3, e2, e1]
    exact ⟨rfl, rfl⟩
  rw [← hRE, ← hRB]
  have HRES := Lib.hid hres
  clear hku hkv hX hRE hRB hres
  have HW := Lib.hid hw0
  have HST0 := Lib.hid hst
  clear hw0 hst
  go_enter Try.func53, Try.ntmps53
  go_wp2_with fail
  show Calls Try.prog _ #[.slice (some ⟨w.heap.size + 1 + 1 + 1, 0, none⟩) 1 1, .int .i64 32] ((((w.alloc (.cells (eV m) _)).alloc (.cells (eV n) _)).alloc (.cells (eV zE) _)).alloc (.cells #[.int .u8 255] _)) _
  rw [← HW.out]
  have hs3 : w.heap.size + 1 + 1 + 1 = w0.heap.size := by rw [HW.out]; simp
  rw [hs3]
  refine calls_then (repeat_any ⟨w0.heap.size, 0, none⟩ _ (by simp) ((Blk.new w0 _ #[.int .u8 255]).cell 0)) ?_
  rintro e w1 ⟨o, rfl, hlo, hblk, hb1⟩
  have hlo' : w0.heap.size ≤ o := by simp at hlo; omega
  have hb0 : Below w0.heap.size w0 w1 := (below_new w0 (.cells #[.int .u8 255] 5)).trans (hb1.mono (by simp))
  have HQ1 := Lib.hid hblk
  have HBW := Lib.hid hb0
  have HLO := Lib.hid hlo'
  clear hlo hblk hb1 hlo' hb0 hs3
  go_wp2_with (first
    | (refine wpList_put_cell (x := .tmp 14) (i := 0) (v := .int .u8 253) HQ1.out rfl rfl rfl rfl u8_size (by rw [bnV_len, fill_len 32 (by omega)]; decide) rfl ?_; intro w2 hb2 hw2; have HQ2 := Lib.hid (show Blk w2 o 5 (bnV ((fillL 32).set 0 253)).toArray by rw [show (Value.int IntKind.u8 253) = .int .u8 ((253 : Nat) : Int) from rfl, bnV_set] at hb2; exact hb2); have HB2 := Lib.hid (hw2.below HBW.out HLO.out HBW.out.size); clear hb2 hw2 HBW)
    | (refine wpList_put_cell (x := .tmp 15) (i := 31) (v := .int .u8 15) HQ2.out rfl rfl rfl rfl u8_size (by rw [bnV_len, List.length_set, fill_len 32 (by omega)]; decide) rfl ?_; intro w3 hb3 hw3; have HQ3 := Lib.hid (show Blk w3 o 5 (bnV e0L).toArray by rw [show (Value.int IntKind.u8 15) = .int .u8 ((15 : Nat) : Int) from rfl, bnV_set, e0L_end] at hb3; exact hb3); have HB3 := Lib.hid (hw3.below HB2.out HLO.out HB2.out.size); clear hb3 hw3 HB2))
  obtain ⟨OA, hOA⟩ : ∃ A : Option Addr, A = some ⟨o, 0, none⟩ := ⟨_, rfl⟩
  have hrd := Rd.of_blk HQ3.out HQ3.out.lt
  rw [← e0B_v, ← hOA] at hrd
  have HST3 := Lib.hid (show Cs [.rd OA (bytesV e0B), .box w.heap.size 26 (eV m), .box (w.heap.size + 1) 26 (eV n), .box (w.heap.size + 1 + 1) 26 (eV zE)] w w3 from ⟨⟨hrd, (HST0.out.next HB3.out).1⟩, (HST0.out.next HB3.out).2⟩)
  rw [← hOA]
  clear hrd hOA HQ1 HQ2 HQ3 HB3 HST0 HLO
  have CPW := Lib.hid (show ∀ x (u : World), E5.Ok x → Rd u u.heap.size OA (bytesV e0B) → Calls Try.prog 58 #[.agg (eV x), .slice OA 32 32] u (ElemPost (pwL x e0L 32) u) from fun x u hx hr => by
    have h := pow_any x hx e0B OA 32 u hr (by rw [e0B_len]; decide) (by rw [e0B_len]; decide)
    rw [e0B_l, e0B_len] at h
    exact h)
  generalize w.heap.size + 1 + 1 = r at *
  generalize w.heap.size + 1 = gv at *
  generalize hgu : w.heap.size = gu at HST3 ⊢
  clear HW hgu
  have HC0 : Below w3.heap.size w3 w3.drew := (Below.refl _ _).drew
  refine wp_region_list (fun u => Below w3.heap.size w3 u) (fun | false => (fun _ => True) | true => (fun _ => True)) (fun | false, _ => false | true, _ => false)
    [fun z _ => z 0 = .agg (eV (n)),
     fun z _ => z 1 = .agg (eV (n)),
     fun z _ => z 2 = .agg (eV (mulE (n) (n))),
     fun z _ => z 3 = .agg (eV (n)),
     fun z _ => z 4 = .agg (eV (mulE (mulE (n) (n)) (n))),
     fun z u => (NewBox w3.heap.size 26 (eV zE)) (z 5) u,
     fun z u => NewBox w3.heap.size 26 (eV (mulE (mulE (n) (n)) (n))) (z 5) u]
    [Eq, Eq, fun u u' => Below u.heap.size u u', Eq, fun u u' => Below u.heap.size u u', fun u u' => Below u.heap.size u u', fun _ _ => True]
    (fun i k => (i == 6 && k == 5)) [(0, some 16), (1, some 17), (2, some 18), (3, some 19), (4, some 20), (5, some 7), (6, none)] (by kernel_rfl) (by kernel_rfl) rfl (fun _ => rfl) ?_ ?_ ?_ ?_ ?_ ?_
  · exact HC0
  · intro m; cases m; exact trivial; exact trivial
  · intro m; cases m
    · exact ⟨.inr (fun _ _ h h0 => h ▸ h0), .inr (fun _ _ h h0 => h ▸ h0), .inr (fun _ _ _ h => h), .inr (fun _ _ h h0 => h ▸ h0), .inr (fun _ _ _ h => h), .inr (fun _ _ _ h => h), .inr (fun _ _ _ h => h), trivial⟩
    · exact ⟨.inr (fun _ _ h h0 => h ▸ h0), .inr (fun _ _ h h0 => h ▸ h0), .inr (fun _ _ _ h => h), .inr (fun _ _ h h0 => h ▸ h0), .inr (fun _ _ _ h => h), .inr (fun _ _ _ h => h), .inr (fun _ _ _ h => h), trivial⟩
  · exact ⟨⟨.inl rfl, .inr (.inr (.inr (fun _ _ _ _ _ h => h))), .inr (.inr (.inl rfl)), .inr (.inr (.inr (fun _ _ _ _ _ h => h))), .inr (.inr (.inl rfl)), .inr (.inr (.inr (fun _ _ _ _ h h0 => by cases h; exact h0))), .inr (.inr (.inl rfl)), trivial⟩,
      ⟨.inr (.inr (.inr (fun _ _ _ _ _ h => h))), .inl rfl, .inr (.inr (.inl rfl)), .inr (.inr (.inr (fun _ _ _ _ _ h => h))), .inr (.inr (.inl rfl)), .inr (.inr (.inr (fun _ _ _ _ h h0 => by cases h; exact h0))), .inr (.inr (.inl rfl)), trivial⟩,
      ⟨.inr (.inr (.inr (fun _ _ _ _ _ h => h))), .inr (.inr (.inr (fun _ _ _ _ _ h => h))), .inl rfl, .inr (.inr (.inr (fun _ _ _ _ _ h => h))), .inr (.inr (.inl rfl)), .inr (.inr (.inr (fun _ _ _ _ h h0 => h0.next h))), .inr (.inr (.inl rfl)), trivial⟩,
      ⟨.inr (.inr (.inr (fun _ _ _ _ _ h => h))), .inr (.inr (.inr (fun _ _ _ _ _ h => h))), .inr (.inr (.inr (fun _ _ _ _ _ h => h))), .inl rfl, .inr (.inr (.inl rfl)), .inr (.inr (.inr (fun _ _ _ _ h h0 => by cases h; exact h0))), .inr (.inr (.inl rfl)), trivial⟩,
      ⟨.inr (.inr (.inr (fun _ _ _ _ _ h => h))), .inr (.inr (.inr (fun _ _ _ _ _ h => h))), .inr (.inr (.inr (fun _ _ _ _ _ h => h))), .inr (.inr (.inr (fun _ _ _ _ _ h => h))), .inl rfl, .inr (.inr (.inr (fun _ _ _ _ h h0 => h0.next h))), .inr (.inr (.inl rfl)), trivial⟩,
      ⟨.inr (.inr (.inr (fun _ _ _ _ _ h => h))), .inr (.inr (.inr (fun _ _ _ _ _ h => h))), .inr (.inr (.inr (fun _ _ _ _ _ h => h))), .inr (.inr (.inr (fun _ _ _ _ _ h => h))), .inr (.inr (.inr (fun _ _ _ _ _ h => h))), .inl rfl, .inr (.inr (.inl rfl)), trivial⟩,
      ⟨.inr (.inr (.inr (fun _ _ _ _ _ h => h))), .inr (.inr (.inr (fun _ _ _ _ _ h => h))), .inr (.inr (.inr (fun _ _ _ _ _ h => h))), .inr (.inr (.inr (fun _ _ _ _ _ h => h))), .inr (.inr (.inr (fun _ _ _ _ _ h => h))), .inr (.inl rfl), .inl rfl, trivial⟩, trivial⟩
  · refine ⟨?_, ?_, ?_, ?_, ?_, ?_, ?_, trivial⟩
    · -- 0: Op.load 26 (Operand.tmp 3)
      refine step_plain [] (fun _ => rfl) rfl ?_
      intro w1 vals hC1 hi0 hf E hE
      clear hi0
      clear hf
      have hs := HST3.out.next hC1
      simp only [puts, act_put, act_put_none, List.setIfInBounds_toArray, List.set_cons_zero, List.set_cons_succ] at hE ⊢
      refine wpList_get_box (hs.1.2.2.1) rfl rfl rfl hu rfl elem_size ?_
      go_wp2_with fail
      exact .mk (hE _ _ rfl hC1 rfl)
    · -- 1: Op.load 26 (Operand.tmp 3)
      refine step_plain [] (fun _ => rfl) rfl ?_
      intro w1 vals hC1 hi0 hf E hE
      clear hi0
      clear hf
      have hs := HST3.out.next hC1
      simp only [puts, act_put, act_put_none, List.setIfInBounds_toArray, List.set_cons_zero, List.set_cons_succ] at hE ⊢
      refine wpList_get_box (hs.1.2.2.1) rfl rfl rfl hu rfl elem_size ?_
      go_wp2_with fail
      exact .mk (hE _ _ rfl hC1 rfl)
    · -- 2: Op.call { callee := Callee.value (Operand.func 38), args := #[Operand.tmp 16, Operand.tmp 17], argTypes := #[2
      refine step_plain [(0, some 16), (1, some 17)] (fun _ => rfl) rfl ?_
      intro w1 vals hC1 hi0 hf E hE
      clear hi0
      have f0 : vals 0 = .agg (eV (n)) := hf 0 rfl
      have f1 : vals 1 = .agg (eV (n)) := hf 1 rfl
      try dsimp only at f0 f1
      clear hf
      simp only [puts, act_put, act_put_none, List.setIfInBounds_toArray, List.set_cons_zero, List.set_cons_succ, f0, f1] at hE ⊢
      clear f0 f1
      go_wp2_with fail
      refine calls_then (mul_c _ _ _ (KV.out) (KV.out)) ?_
      rintro e w2 ⟨rfl, hb2⟩
      go_wp2_with fail
      exact .mk (hE _ _ rfl (hC1.trans (hb2.mono hC1.size)) hb2)
    · -- 3: Op.load 26 (Operand.tmp 3)
      refine step_plain [] (fun _ => rfl) rfl ?_
      intro w1 vals hC1 hi0 hf E hE
      clear hi0
      clear hf
      have hs := HST3.out.next hC1
      simp only [puts, act_put, act_put_none, List.setIfInBounds_toArray, List.set_cons_zero, List.set_cons_succ] at hE ⊢
      refine wpList_get_box (hs.1.2.2.1) rfl rfl rfl hu rfl elem_size ?_
      go_wp2_with fail
      exact .mk (hE _ _ rfl hC1 rfl)
    · -- 4: Op.call { callee := Callee.value (Operand.func 38), args := #[Operand.tmp 18, Operand.tmp 19], argTypes := #[2
      refine step_plain [(2, some 18), (3, some 19), (2, some 18)] (fun _ => rfl) rfl ?_
      intro w1 vals hC1 hi0 hf E hE
      clear hi0
      have f2 : vals 2 = .agg (eV (mulE (n) (n))) := hf 2 rfl
      have f3 : vals 3 = .agg (eV (n)) := hf 3 rfl
      try dsimp only at f2 f3
      clear hf
      simp only [puts, act_put, act_put_none, List.setIfInBounds_toArray, List.set_cons_zero, List.set_cons_succ, f2, f3] at hE ⊢
      clear f2 f3
      go_wp2_with fail
      refine calls_then (mul_c _ _ _ (mul_ok (KV.out) (KV.out)) (KV.out)) ?_
      rintro e w2 ⟨rfl, hb2⟩
      go_wp2_with fail
      exact .mk (hE _ _ rfl (hC1.trans (hb2.mono hC1.size)) hb2)
    · -- 5: Op.alloc 26
      refine step_plain [] (fun _ => rfl) rfl ?_
      intro w1 vals hC1 hi0 hf E hE
      clear hi0
      clear hf
      simp only [puts, act_put, act_put_none, List.setIfInBounds_toArray, List.set_cons_zero, List.set_cons_succ] at hE ⊢
      go_wp2
      exact .mk (hE _ _ (NewBox.of hC1.size) (hC1.alloc hC1.size _) (below_new _ _))
    · -- 6: Op.store 26 (Operand.tmp 7) (Operand.tmp 20)
      refine step_plain [(5, some 7), (4, some 20), (4, some 20), (0, some 16), (1, some 17), (2, some 18), (3, some 19), (4, some 20), (5, some 7)] (fun _ => rfl) rfl ?_
      intro w1 vals hC1 hi0 hf E hE
      clear hi0
      have f0 : vals 0 = .agg (eV (n)) := hf 0 rfl
      have f1 : vals 1 = .agg (eV (n)) := hf 1 rfl
      have f2 : vals 2 = .agg (eV (mulE (n) (n))) := hf 2 rfl
      have f3 : vals 3 = .agg (eV (n)) := hf 3 rfl
      have f4 : vals 4 = .agg (eV (mulE (mulE (n) (n)) (n))) := hf 4 rfl
      have f5 : (NewBox w3.heap.size 26 (eV zE)) (vals 5) w1 := hf 5 rfl
      try dsimp only at f0 f1 f2 f3 f4 f5
      clear hf
      obtain ⟨o, hx, ho, hblk⟩ := f5
      have hx' := hx
      simp only [puts, act_put, act_put_none, List.setIfInBounds_toArray, List.set_cons_zero, List.set_cons_succ, f0, f1, f2, f3, f4, hx] at hE ⊢
      clear f0 f1 f2 f3 f4
      clear hx
      refine wpList_put_box (cells := eV (mulE (mulE (n) (n)) (n))) hblk rfl rfl rfl rfl elem_size rfl (by simp [eV, ptV, wV, limbs, Value.oneCell']) ?_
      intro w2 hb2 hw2
      go_wp2_with fail
      exact .mk (hE undef _ ⟨o, hx', ho, hb2⟩ (hw2.below hC1 ho hC1.size) trivial)
  intro w1 vals hC1 hf
  have f0 : vals 0 = .agg (eV (n)) := hf 0 (by decide) rfl
  have f1 : vals 1 = .agg (eV (n)) := hf 1 (by decide) rfl
  have f2 : vals 2 = .agg (eV (mulE (n) (n))) := hf 2 (by decide) rfl
  have f3 : vals 3 = .agg (eV (n)) := hf 3 (by decide) rfl
  have f4 : vals 4 = .agg (eV (mulE (mulE (n) (n)) (n))) := hf 4 (by decide) rfl
  have f6 : (fun z u => NewBox w3.heap.size 26 (eV (mulE (mulE (n) (n)) (n))) (z 5) u) vals w1 := hf 6 (by decide) rfl
  try dsimp only at f0 f1 f2 f3 f4 f6
  clear hf
  simp only [puts, act_put, act_put_none, List.setIfInBounds_toArray, List.set_cons_zero, List.set_cons_succ, f0, f1, f2, f3, f4]
  clear f0 f1 f2 f3 f4
  generalize vals 5 = x5 at *
  obtain ⟨o1, rfl, hlo1, hblk1⟩ := f6
  obtain ⟨c, hc⟩ : ∃ x, x = mulE (mulE (n) (n)) (n) := ⟨_, rfl⟩
  rw [← hc] at hblk1
  have Kc := Lib.hid (show c.Ok by rw [hc]; exact mul_ok (mul_ok (KV.out) (KV.out)) (KV.out))
  have Ec := Lib.hid hc
  have HST1 := Lib.hid (show Cs (.box o1 26 (eV c) :: [.rd OA (bytesV e0B), .box gu 26 (eV m), .box gv 26 (eV n), .box r 26 (eV zE)]) w w1 from ⟨⟨hblk1, (HST3.out.next hC1).1⟩, (HST3.out.next hC1).2⟩)
  clear hC1 HC0 HST3 hblk1 hlo1 hc
  obtain ⟨v1, rfl⟩ : ∃ x, x = w1 := ⟨_, rfl⟩
  go_wp2_with fail
  have HC0 : Below v1.heap.size v1 v1.drew := (Below.refl _ _).drew
  refine wp_region_list (fun u => Below v1.heap.size v1 u) (fun | false => (fun _ => True) | true => (fun _ => True)) (fun | false, _ => false | true, _ => false)
    [fun z _ => z 0 = .agg (eV (m)),
     fun z _ => z 1 = .agg (eV (c)),
     fun z _ => z 2 = .agg (eV (mulE (m) (c))),
     fun z _ => z 3 = .agg (eV (m)),
     fun z _ => z 4 = .agg (eV (c)),
     fun z _ => z 5 = .agg (eV (mulE (m) (c))),
     fun z _ => z 6 = .agg (eV (c)),
     fun z _ => z 7 = .agg (eV (mulE (mulE (m) (c)) (c))),
     fun z _ => z 8 = .agg (eV (n)),
     fun z _ => z 9 = .agg (eV (mulE (mulE (mulE (m) (c)) (c)) (n))),
     fun z _ => z 10 = .slice OA 32 32,
     fun z _ => z 11 = .agg (eV (pwL (mulE (mulE (mulE (m) (c)) (c)) (n)) e0L 32)),
     fun z _ => z 12 = .agg (eV (mulE (mulE (m) (c)) (pwL (mulE (mulE (mulE (m) (c)) (c)) (n)) e0L 32))),
     fun z u => (NewBox v1.heap.size 26 (eV zE)) (z 13) u,
     fun z u => NewBox v1.heap.size 26 (eV (mulE (mulE (m) (c)) (pwL (mulE (mulE (mulE (m) (c)) (c)) (n)) e0L 32))) (z 13) u]
    [Eq, Eq, fun u u' => Below u.heap.size u u', Eq, Eq, fun u u' => Below u.heap.size u u', Eq, fun u u' => Below u.heap.size u u', Eq, fun u u' => Below u.heap.size u u', Eq, fun u u' => Below u.heap.size u u', fun u u' => Below u.heap.size u u', fun u u' => Below u.heap.size u u', fun _ _ => True]
    (fun i k => (i == 14 && k == 13)) [(0, some 21), (1, some 22), (2, some 23), (3, some 24), (4, some 25), (5, some 26), (6, some 27), (7, some 28), (8, some 29), (9, some 30), (10, some 31), (11, some 32), (12, some 33), (13, some 8), (14, none)] (by kernel_rfl) (by kernel_rfl) rfl (fun _ => rfl) ?_ ?_ ?_ ?_ ?_ ?_
  · exact HC0
  · intro m; cases m; exact trivial; exact trivial
  · intro m; cases m
    · exact ⟨.inr (fun _ _ h h0 => h ▸ h0), .inr (fun _ _ h h0 => h ▸ h0), .inr (fun _ _ _ h => h), .inr (fun _ _ h h0 => h ▸ h0), .inr (fun _ _ h h0 => h ▸ h0), .inr (fun _ _ _ h => h), .inr (fun _ _ h h0 => h ▸ h0), .inr (fun _ _ _ h => h), .inr (fun _ _ h h0 => h ▸ h0), .inr (fun _ _ _ h => h), .inr (fun _ _ h h0 => h ▸ h0), .inr (fun _ _ _ h => h), .inr (fun _ _ _ h => h), .inr (fun _ _ _ h => h), .inr (fun _ _ _ h => h), trivial⟩
    · exact ⟨.inr (fun _ _ h h0 => h ▸ h0), .inr (fun _ _ h h0 => h ▸ h0), .inr (fun _ _ _ h => h), .inr (fun _ _ h h0 => h ▸ h0), .inr (fun _ _ h h0 => h ▸ h0), .inr (fun _ _ _ h => h), .inr (fun _ _ h h0 => h ▸ h0), .inr (fun _ _ _ h => h), .inr (fun _ _ h h0 => h ▸ h0), .inr (fun _ _ _ h => h), .inr (fun _ _ h h0 => h ▸ h0), .inr (fun _ _ _ h => h), .inr (fun _ _ _ h => h), .inr (fun _ _ _ h => h), .inr (fun _ _ _ h => h), trivial⟩
  · exact ⟨⟨.inl rfl, .inr (.inr (.inr (fun _ _ _ _ _ h => h))), .inr (.inr (.inl rfl)), .inr (.inr (.inr (fun _ _ _ _ _ h => h))), .inr (.inr (.inr (fun _ _ _ _ _ h => h))), .inr (.inr (.inl rfl)), .inr (.inr (.inr (fun _ _ _ _ _ h => h))), .inr (.inr (.inl rfl)), .inr (.inr (.inr (fun _ _ _ _ _ h => h))), .inr (.inr (.inr (fun _ _ _ _ _ h => h))), .inr (.inr (.inr (fun _ _ _ _ _ h => h))), .inr (.inr (.inr (fun _ _ _ _ _ h => h))), .inr (.inr (.inl rfl)), .inr (.inr (.inr (fun _ _ _ _ h h0 => by cases h; exact h0))), .inr (.inr (.inl rfl)), trivial⟩,
      ⟨.inr (.inr (.inr (fun _ _ _ _ _ h => h))), .inl rfl, .inr (.inr (.inl rfl)), .inr (.inr (.inr (fun _ _ _ _ _ h => h))), .inr (.inr (.inr (fun _ _ _ _ _ h => h))), .inr (.inr (.inl rfl)), .inr (.inr (.inr (fun _ _ _ _ _ h => h))), .inr (.inr (.inl rfl)), .inr (.inr (.inr (fun _ _ _ _ _ h => h))), .inr (.inr (.inr (fun _ _ _ _ _ h => h))), .inr (.inr (.inr (fun _ _ _ _ _ h => h))), .inr (.inr (.inr (fun _ _ _ _ _ h => h))), .inr (.inr (.inl rfl)), .inr (.inr (.inr (fun _ _ _ _ h h0 => by cases h; exact h0))), .inr (.inr (.inl rfl)), trivial⟩,
      ⟨.inr (.inr (.inr (fun _ _ _ _ _ h => h))), .inr (.inr (.inr (fun _ _ _ _ _ h => h))), .inl rfl, .inr (.inr (.inr (fun _ _ _ _ _ h => h))), .inr (.inr (.inr (fun _ _ _ _ _ h => h))), .inr (.inr (.inl rfl)), .inr (.inr (.inr (fun _ _ _ _ _ h => h))), .inr (.inr (.inl rfl)), .inr (.inr (.inr (fun _ _ _ _ _ h => h))), .inr (.inr (.inl rfl)), .inr (.inr (.inr (fun _ _ _ _ _ h => h))), .inr (.inr (.inr (fun _ _ _ _ _ h => h))), .inr (.inr (.inl rfl)), .inr (.inr (.inr (fun _ _ _ _ h h0 => h0.next h))), .inr (.inr (.inl rfl)), trivial⟩,
      ⟨.inr (.inr (.inr (fun _ _ _ _ _ h => h))), .inr (.inr (.inr (fun _ _ _ _ _ h => h))), .inr (.inr (.inr (fun _ _ _ _ _ h => h))), .inl rfl, .inr (.inr (.inr (fun _ _ _ _ _ h => h))), .inr (.inr (.inl rfl)), .inr (.inr (.inr (fun _ _ _ _ _ h => h))), .inr (.inr (.inl rfl)), .inr (.inr (.inr (fun _ _ _ _ _ h => h))), .inr (.inr (.inl rfl)), .inr (.inr (.inr (fun _ _ _ _ _ h => h))), .inr (.inr (.inr (fun _ _ _ _ _ h => h))), .inr (.inr (.inr (fun _ _ _ _ _ h => h))), .inr (.inr (.inr (fun _ _ _ _ h h0 => by cases h; exact h0))), .inr (.inr (.inl rfl)), trivial⟩,
      ⟨.inr (.inr (.inr (fun _ _ _ _ _ h => h))), .inr (.inr (.inr (fun _ _ _ _ _ h => h))), .inr (.inr (.inr (fun _ _ _ _ _ h => h))), .inr (.inr (.inr (fun _ _ _ _ _ h => h))), .inl rfl, .inr (.inr (.inl rfl)), .inr (.inr (.inr (fun _ _ _ _ _ h => h))), .inr (.inr (.inl rfl)), .inr (.inr (.inr (fun _ _ _ _ _ h => h))), .inr (.inr (.inl rfl)), .inr (.inr (.inr (fun _ _ _ _ _ h => h))), .inr (.inr (.inr (fun _ _ _ _ _ h => h))), .inr (.inr (.inr (fun _ _ _ _ _ h => h))), .inr (.inr (.inr (fun _ _ _ _ h h0 => by cases h; exact h0))), .inr (.inr (.inl rfl)), trivial⟩,
      ⟨.inr (.inr (.inr (fun _ _ _ _ _ h => h))), .inr (.inr (.inr (fun _ _ _ _ _ h => h))), .inr (.inr (.inr (fun _ _ _ _ _ h => h))), .inr (.inr (.inr (fun _ _ _ _ _ h => h))), .inr (.inr (.inr (fun _ _ _ _ _ h => h))), .inl rfl, .inr (.inr (.inr (fun _ _ _ _ _ h => h))), .inr (.inr (.inl rfl)), .inr (.inr (.inr (fun _ _ _ _ _ h => h))), .inr (.inr (.inl rfl)), .inr (.inr (.inr (fun _ _ _ _ _ h => h))), .inr (.inr (.inl rfl)), .inr (.inr (.inr (fun _ _ _ _ _ h => h))), .inr (.inr (.inr (fun _ _ _ _ h h0 => h0.next h))), .inr (.inr (.inl rfl)), trivial⟩,
      ⟨.inr (.inr (.inr (fun _ _ _ _ _ h => h))), .inr (.inr (.inr (fun _ _ _ _ _ h => h))), .inr (.inr (.inr (fun _ _ _ _ _ h => h))), .inr (.inr (.inr (fun _ _ _ _ _ h => h))), .inr (.inr (.inr (fun _ _ _ _ _ h => h))), .inr (.inr (.inr (fun _ _ _ _ _ h => h))), .inl rfl, .inr (.inr (.inl rfl)), .inr (.inr (.inr (fun _ _ _ _ _ h => h))), .inr (.inr (.inl rfl)), .inr (.inr (.inr (fun _ _ _ _ _ h => h))), .inr (.inr (.inl rfl)), .inr (.inr (.inr (fun _ _ _ _ _ h => h))), .inr (.inr (.inr (fun _ _ _ _ h h0 => by cases h; exact h0))), .inr (.inr (.inl rfl)), trivial⟩,
      ⟨.inr (.inr (.inr (fun _ _ _ _ _ h => h))), .inr (.inr (.inr (fun _ _ _ _ _ h => h))), .inr (.inr (.inr (fun _ _ _ _ _ h => h))), .inr (.inr (.inr (fun _ _ _ _ _ h => h))), .inr (.inr (.inr (fun _ _ _ _ _ h => h))), .inr (.inr (.inr (fun _ _ _ _ _ h => h))), .inr (.inr (.inr (fun _ _ _ _ _ h => h))), .inl rfl, .inr (.inr (.inr (fun _ _ _ _ _ h => h))), .inr (.inr (.inl rfl)), .inr (.inr (.inr (fun _ _ _ _ _ h => h))), .inr (.inr (.inl rfl)), .inr (.inr (.inl rfl)), .inr (.inr (.inr (fun _ _ _ _ h h0 => h0.next h))), .inr (.inr (.inl rfl)), trivial⟩,
      ⟨.inr (.inr (.inr (fun _ _ _ _ _ h => h))), .inr (.inr (.inr (fun _ _ _ _ _ h => h))), .inr (.inr (.inr (fun _ _ _ _ _ h => h))), .inr (.inr (.inr (fun _ _ _ _ _ h => h))), .inr (.inr (.inr (fun _ _ _ _ _ h => h))), .inr (.inr (.inr (fun _ _ _ _ _ h => h))), .inr (.inr (.inr (fun _ _ _ _ _ h => h))), .inr (.inr (.inr (fun _ _ _ _ _ h => h))), .inl rfl, .inr (.inr (.inl rfl)), .inr (.inr (.inr (fun _ _ _ _ _ h => h))), .inr (.inr (.inl rfl)), .inr (.inr (.inl rfl)), .inr (.inr (.inr (fun _ _ _ _ h h0 => by cases h; exact h0))), .inr (.inr (.inl rfl)), trivial⟩,
      ⟨.inr (.inr (.inr (fun _ _ _ _ _ h => h))), .inr (.inr (.inr (fun _ _ _ _ _ h => h))), .inr (.inr (.inr (fun _ _ _ _ _ h => h))), .inr (.inr (.inr (fun _ _ _ _ _ h => h))), .inr (.inr (.inr (fun _ _ _ _ _ h => h))), .inr (.inr (.inr (fun _ _ _ _ _ h => h))), .inr (.inr (.inr (fun _ _ _ _ _ h => h))), .inr (.inr (.inr (fun _ _ _ _ _ h => h))), .inr (.inr (.inr (fun _ _ _ _ _ h => h))), .inl rfl, .inr (.inr (.inr (fun _ _ _ _ _ h => h))), .inr (.inr (.inl rfl)), .inr (.inr (.inl rfl)), .inr (.inr (.inr (fun _ _ _ _ h h0 => h0.next h))), .inr (.inr (.inl rfl)), trivial⟩,
      ⟨.inr (.inr (.inr (fun _ _ _ _ _ h => h))), .inr (.inr (.inr (fun _ _ _ _ _ h => h))), .inr (.inr (.inr (fun _ _ _ _ _ h => h))), .inr (.inr (.inr (fun _ _ _ _ _ h => h))), .inr (.inr (.inr (fun _ _ _ _ _ h => h))), .inr (.inr (.inr (fun _ _ _ _ _ h => h))), .inr (.inr (.inr (fun _ _ _ _ _ h => h))), .inr (.inr (.inr (fun _ _ _ _ _ h => h))), .inr (.inr (.inr (fun _ _ _ _ _ h => h))), .inr (.inr (.inr (fun _ _ _ _ _ h => h))), .inl rfl, .inr (.inr (.inl rfl)), .inr (.inr (.inl rfl)), .inr (.inr (.inr (fun _ _ _ _ h h0 => by cases h; exact h0))), .inr (.inr (.inl rfl)), trivial⟩,
      ⟨.inr (.inr (.inr (fun _ _ _ _ _ h => h))), .inr (.inr (.inr (fun _ _ _ _ _ h => h))), .inr (.inr (.inr (fun _ _ _ _ _ h => h))), .inr (.inr (.inr (fun _ _ _ _ _ h => h))), .inr (.inr (.inr (fun _ _ _ _ _ h => h))), .inr (.inr (.inr (fun _ _ _ _ _ h => h))), .inr (.inr (.inr (fun _ _ _ _ _ h => h))), .inr (.inr (.inr (fun _ _ _ _ _ h => h))), .inr (.inr (.inr (fun _ _ _ _ _ h => h))), .inr (.inr (.inr (fun _ _ _ _ _ h => h))), .inr (.inr (.inr (fun _ _ _ _ _ h => h))), .inl rfl, .inr (.inr (.inl rfl)), .inr (.inr (.inr (fun _ _ _ _ h h0 => h0.next h))), .inr (.inr (.inl rfl)), trivial⟩,
      ⟨.inr (.inr (.inr (fun _ _ _ _ _ h => h))), .inr (.inr (.inr (fun _ _ _ _ _ h => h))), .inr (.inr (.inr (fun _ _ _ _ _ h => h))), .inr (.inr (.inr (fun _ _ _ _ _ h => h))), .inr (.inr (.inr (fun _ _ _ _ _ h => h))), .inr (.inr (.inr (fun _ _ _ _ _ h => h))), .inr (.inr (.inr (fun _ _ _ _ _ h => h))), .inr (.inr (.inr (fun _ _ _ _ _ h => h))), .inr (.inr (.inr (fun _ _ _ _ _ h => h))), .inr (.inr (.inr (fun _ _ _ _ _ h => h))), .inr (.inr (.inr (fun _ _ _ _ _ h => h))), .inr (.inr (.inr (fun _ _ _ _ _ h => h))), .inl rfl, .inr (.inr (.inr (fun _ _ _ _ h h0 => h0.next h))), .inr (.inr (.inl rfl)), trivial⟩,
      ⟨.inr (.inr (.inr (fun _ _ _ _ _ h => h))), .inr (.inr (.inr (fun _ _ _ _ _ h => h))), .inr (.inr (.inr (fun _ _ _ _ _ h => h))), .inr (.inr (.inr (fun _ _ _ _ _ h => h))), .inr (.inr (.inr (fun _ _ _ _ _ h => h))), .inr (.inr (.inr (fun _ _ _ _ _ h => h))), .inr (.inr (.inr (fun _ _ _ _ _ h => h))), .inr (.inr (.inr (fun _ _ _ _ _ h => h))), .inr (.inr (.inr (fun _ _ _ _ _ h => h))), .inr (.inr (.inr (fun _ _ _ _ _ h => h))), .inr (.inr (.inr (fun _ _ _ _ _ h => h))), .inr (.inr (.inr (fun _ _ _ _ _ h => h))), .inr (.inr (.inr (fun _ _ _ _ _ h => h))), .inl rfl, .inr (.inr (.inl rfl)), trivial⟩,
      ⟨.inr (.inr (.inr (fun _ _ _ _ _ h => h))), .inr (.inr (.inr (fun _ _ _ _ _ h => h))), .inr (.inr (.inr (fun _ _ _ _ _ h => h))), .inr (.inr (.inr (fun _ _ _ _ _ h => h))), .inr (.inr (.inr (fun _ _ _ _ _ h => h))), .inr (.inr (.inr (fun _ _ _ _ _ h => h))), .inr (.inr (.inr (fun _ _ _ _ _ h => h))), .inr (.inr (.inr (fun _ _ _ _ _ h => h))), .inr (.inr (.inr (fun _ _ _ _ _ h => h))), .inr (.inr (.inr (fun _ _ _ _ _ h => h))), .inr (.inr (.inr (fun _ _ _ _ _ h => h))), .inr (.inr (.inr (fun _ _ _ _ _ h => h))), .inr (.inr (.inr (fun _ _ _ _ _ h => h))), .inr (.inl rfl), .inl rfl, trivial⟩, trivial⟩
  · refine ⟨?_, ?_, ?_, ?_, ?_, ?_, ?_, ?_, ?_, ?_, ?_, ?_, ?_, ?_, ?_, trivial⟩
    · -- 0: Op.load 26 (Operand.tmp 2)
      refine step_plain [] (fun _ => rfl) rfl ?_
      intro w1 vals hC1 hi0 hf E hE
      clear hi0
      clear hf
      have hs := HST1.out.next hC1
      simp only [puts, act_put, act_put_none, List.setIfInBounds_toArray, List.set_cons_zero, List.set_cons_succ] at hE ⊢
      refine wpList_get_box (hs.1.2.2.1) rfl rfl rfl hu rfl elem_size ?_
      go_wp2_with fail
      exact .mk (hE _ _ rfl hC1 rfl)
    · -- 1: Op.load 26 (Operand.tmp 7)
      refine step_plain [] (fun _ => rfl) rfl ?_
      intro w1 vals hC1 hi0 hf E hE
      clear hi0
      clear hf
      have hs := HST1.out.next hC1
      simp only [puts, act_put, act_put_none, List.setIfInBounds_toArray, List.set_cons_zero, List.set_cons_succ] at hE ⊢
      refine wpList_get_box (hs.1.1) rfl rfl rfl hu rfl elem_size ?_
      go_wp2_with fail
      exact .mk (hE _ _ rfl hC1 rfl)
    · -- 2: Op.call { callee := Callee.value (Operand.func 38), args := #[Operand.tmp 21, Operand.tmp 22], argTypes := #[2
      refine step_plain [(0, some 21), (1, some 22)] (fun _ => rfl) rfl ?_
      intro w1 vals hC1 hi0 hf E hE
      clear hi0
      have f0 : vals 0 = .agg (eV (m)) := hf 0 rfl
      have f1 : vals 1 = .agg (eV (c)) := hf 1 rfl
      try dsimp only at f0 f1
      clear hf
      simp only [puts, act_put, act_put_none, List.setIfInBounds_toArray, List.set_cons_zero, List.set_cons_succ, f0, f1] at hE ⊢
      clear f0 f1
      go_wp2_with fail
      refine calls_then (mul_c _ _ _ (KU.out) (Kc.out)) ?_
      rintro e w2 ⟨rfl, hb2⟩
      go_wp2_with fail
      exact .mk (hE _ _ rfl (hC1.trans (hb2.mono hC1.size)) hb2)
    · -- 3: Op.load 26 (Operand.tmp 2)
      refine step_plain [] (fun _ => rfl) rfl ?_
      intro w1 vals hC1 hi0 hf E hE
      clear hi0
      clear hf
      have hs := HST1.out.next hC1
      simp only [puts, act_put, act_put_none, List.setIfInBounds_toArray, List.set_cons_zero, List.set_cons_succ] at hE ⊢
      refine wpList_get_box (hs.1.2.2.1) rfl rfl rfl hu rfl elem_size ?_
      go_wp2_with fail
      exact .mk (hE _ _ rfl hC1 rfl)
    · -- 4: Op.load 26 (Operand.tmp 7)
      refine step_plain [] (fun _ => rfl) rfl ?_
      intro w1 vals hC1 hi0 hf E hE
      clear hi0
      clear hf
      have hs := HST1.out.next hC1
      simp only [puts, act_put, act_put_none, List.setIfInBounds_toArray, List.set_cons_zero, List.set_cons_succ] at hE ⊢
      refine wpList_get_box (hs.1.1) rfl rfl rfl hu rfl elem_size ?_
      go_wp2_with fail
      exact .mk (hE _ _ rfl hC1 rfl)
    · -- 5: Op.call { callee := Callee.value (Operand.func 38), args := #[Operand.tmp 24, Operand.tmp 25], argTypes := #[2
      refine step_plain [(3, some 24), (4, some 25), (2, some 23)] (fun _ => rfl) rfl ?_
      intro w1 vals hC1 hi0 hf E hE
      clear hi0
      have f2 : vals 2 = .agg (eV (mulE (m) (c))) := hf 2 rfl
      have f3 : vals 3 = .agg (eV (m)) := hf 3 rfl
      have f4 : vals 4 = .agg (eV (c)) := hf 4 rfl
      try dsimp only at f2 f3 f4
      clear hf
      simp only [puts, act_put, act_put_none, List.setIfInBounds_toArray, List.set_cons_zero, List.set_cons_succ, f2, f3, f4] at hE ⊢
      clear f2 f3 f4
      go_wp2_with fail
      refine calls_then (mul_c _ _ _ (KU.out) (Kc.out)) ?_
      rintro e w2 ⟨rfl, hb2⟩
      go_wp2_with fail
      exact .mk (hE _ _ rfl (hC1.trans (hb2.mono hC1.size)) hb2)
    · -- 6: Op.load 26 (Operand.tmp 7)
      refine step_plain [] (fun _ => rfl) rfl ?_
      intro w1 vals hC1 hi0 hf E hE
      clear hi0
      clear hf
      have hs := HST1.out.next hC1
      simp only [puts, act_put, act_put_none, List.setIfInBounds_toArray, List.set_cons_zero, List.set_cons_succ] at hE ⊢
      refine wpList_get_box (hs.1.1) rfl rfl rfl hu rfl elem_size ?_
      go_wp2_with fail
      exact .mk (hE _ _ rfl hC1 rfl)
    · -- 7: Op.call { callee := Callee.value (Operand.func 38), args := #[Operand.tmp 26, Operand.tmp 27], argTypes := #[2
      refine step_plain [(5, some 26), (6, some 27), (5, some 26)] (fun _ => rfl) rfl ?_
      intro w1 vals hC1 hi0 hf E hE
      clear hi0
      have f5 : vals 5 = .agg (eV (mulE (m) (c))) := hf 5 rfl
      have f6 : vals 6 = .agg (eV (c)) := hf 6 rfl
      try dsimp only at f5 f6
      clear hf
      simp only [puts, act_put, act_put_none, List.setIfInBounds_toArray, List.set_cons_zero, List.set_cons_succ, f5, f6] at hE ⊢
      clear f5 f6
      go_wp2_with fail
      refine calls_then (mul_c _ _ _ (mul_ok (KU.out) (Kc.out)) (Kc.out)) ?_
      rintro e w2 ⟨rfl, hb2⟩
      go_wp2_with fail
      exact .mk (hE _ _ rfl (hC1.trans (hb2.mono hC1.size)) hb2)
    · -- 8: Op.load 26 (Operand.tmp 3)
      refine step_plain [] (fun _ => rfl) rfl ?_
      intro w1 vals hC1 hi0 hf E hE
      clear hi0
      clear hf
      have hs := HST1.out.next hC1
      simp only [puts, act_put, act_put_none, List.setIfInBounds_toArray, List.set_cons_zero, List.set_cons_succ] at hE ⊢
      refine wpList_get_box (hs.1.2.2.2.1) rfl rfl rfl hu rfl elem_size ?_
      go_wp2_with fail
      exact .mk (hE _ _ rfl hC1 rfl)
    · -- 9: Op.call { callee := Callee.value (Operand.func 38), args := #[Operand.tmp 28, Operand.tmp 29], argTypes := #[2
      refine step_plain [(7, some 28), (8, some 29), (7, some 28)] (fun _ => rfl) rfl ?_
      intro w1 vals hC1 hi0 hf E hE
      clear hi0
      have f7 : vals 7 = .agg (eV (mulE (mulE (m) (c)) (c))) := hf 7 rfl
      have f8 : vals 8 = .agg (eV (n)) := hf 8 rfl
      try dsimp only at f7 f8
      clear hf
      simp only [puts, act_put, act_put_none, List.setIfInBounds_toArray, List.set_cons_zero, List.set_cons_succ, f7, f8] at hE ⊢
      clear f7 f8
      go_wp2_with fail
      refine calls_then (mul_c _ _ _ (mul_ok (mul_ok (KU.out) (Kc.out)) (Kc.out)) (KV.out)) ?_
      rintro e w2 ⟨rfl, hb2⟩
      go_wp2_with fail
      exact .mk (hE _ _ rfl (hC1.trans (hb2.mono hC1.size)) hb2)
    · -- 10: Op.move (Operand.tmp 6)
      refine step_plain [] (fun _ => rfl) rfl ?_
      intro w1 vals hC1 hi0 hf E hE
      clear hi0
      clear hf
      simp only [puts, act_put, act_put_none, List.setIfInBounds_toArray, List.set_cons_zero, List.set_cons_succ] at hE ⊢
      go_wp2
      exact .mk (hE _ _ rfl hC1 rfl)
    · -- 11: Op.call { callee := Callee.value (Operand.func 58), args := #[Operand.tmp 30, Operand.tmp 31], argTypes := #[2
      refine step_plain [(9, some 30), (10, some 31), (9, some 30)] (fun _ => rfl) rfl ?_
      intro w1 vals hC1 hi0 hf E hE
      clear hi0
      have f9 : vals 9 = .agg (eV (mulE (mulE (mulE (m) (c)) (c)) (n))) := hf 9 rfl
      have f10 : vals 10 = .slice OA 32 32 := hf 10 rfl
      try dsimp only at f9 f10
      clear hf
      have hs := HST1.out.next hC1
      simp only [puts, act_put, act_put_none, List.setIfInBounds_toArray, List.set_cons_zero, List.set_cons_succ, f9, f10] at hE ⊢
      clear f9 f10
      go_wp2_with fail
      refine calls_then (CPW.out _ _ (mul_ok (mul_ok (mul_ok (KU.out) (Kc.out)) (Kc.out)) (KV.out)) (hs.1.2.1)) ?_
      rintro e w2 ⟨rfl, hb2⟩
      go_wp2_with fail
      exact .mk (hE _ _ rfl (hC1.trans (hb2.mono hC1.size)) hb2)
    · -- 12: Op.call { callee := Callee.value (Operand.func 38), args := #[Operand.tmp 23, Operand.tmp 32], argTypes := #[2
      refine step_plain [(2, some 23), (11, some 32), (11, some 32)] (fun _ => rfl) rfl ?_
      intro w1 vals hC1 hi0 hf E hE
      clear hi0
      have f2 : vals 2 = .agg (eV (mulE (m) (c))) := hf 2 rfl
      have f11 : vals 11 = .agg (eV (pwL (mulE (mulE (mulE (m) (c)) (c)) (n)) e0L 32)) := hf 11 rfl
      try dsimp only at f2 f11
      clear hf
      simp only [puts, act_put, act_put_none, List.setIfInBounds_toArray, List.set_cons_zero, List.set_cons_succ, f2, f11] at hE ⊢
      clear f2 f11
      go_wp2_with fail
      refine calls_then (mul_c _ _ _ (mul_ok (KU.out) (Kc.out)) (pwL_ok (mul_ok (mul_ok (mul_ok (KU.out) (Kc.out)) (Kc.out)) (KV.out)) _ _)) ?_
      rintro e w2 ⟨rfl, hb2⟩
      go_wp2_with fail
      exact .mk (hE _ _ rfl (hC1.trans (hb2.mono hC1.size)) hb2)
    · -- 13: Op.alloc 26
      refine step_plain [] (fun _ => rfl) rfl ?_
      intro w1 vals hC1 hi0 hf E hE
      clear hi0
      clear hf
      simp only [puts, act_put, act_put_none, List.setIfInBounds_toArray, List.set_cons_zero, List.set_cons_succ] at hE ⊢
      go_wp2
      exact .mk (hE _ _ (NewBox.of hC1.size) (hC1.alloc hC1.size _) (below_new _ _))
    · -- 14: Op.store 26 (Operand.tmp 8) (Operand.tmp 33)
      refine step_plain [(13, some 8), (12, some 33), (12, some 33), (0, some 21), (1, some 22), (2, some 23), (3, some 24), (4, some 25), (5, some 26), (6, some 27), (7, some 28), (8, some 29), (9, some 30), (10, some 31), (11, some 32), (12, some 33), (13, some 8)] (fun _ => rfl) rfl ?_
      intro w1 vals hC1 hi0 hf E hE
      clear hi0
      have f0 : vals 0 = .agg (eV (m)) := hf 0 rfl
      have f1 : vals 1 = .agg (eV (c)) := hf 1 rfl
      have f2 : vals 2 = .agg (eV (mulE (m) (c))) := hf 2 rfl
      have f3 : vals 3 = .agg (eV (m)) := hf 3 rfl
      have f4 : vals 4 = .agg (eV (c)) := hf 4 rfl
      have f5 : vals 5 = .agg (eV (mulE (m) (c))) := hf 5 rfl
      have f6 : vals 6 = .agg (eV (c)) := hf 6 rfl
      have f7 : vals 7 = .agg (eV (mulE (mulE (m) (c)) (c))) := hf 7 rfl
      have f8 : vals 8 = .agg (eV (n)) := hf 8 rfl
      have f9 : vals 9 = .agg (eV (mulE (mulE (mulE (m) (c)) (c)) (n))) := hf 9 rfl
      have f10 : vals 10 = .slice OA 32 32 := hf 10 rfl
      have f11 : vals 11 = .agg (eV (pwL (mulE (mulE (mulE (m) (c)) (c)) (n)) e0L 32)) := hf 11 rfl
      have f12 : vals 12 = .agg (eV (mulE (mulE (m) (c)) (pwL (mulE (mulE (mulE (m) (c)) (c)) (n)) e0L 32))) := hf 12 rfl
      have f13 : (NewBox v1.heap.size 26 (eV zE)) (vals 13) w1 := hf 13 rfl
      try dsimp only at f0 f1 f2 f3 f4 f5 f6 f7 f8 f9 f10 f11 f12 f13
      clear hf
      obtain ⟨o, hx, ho, hblk⟩ := f13
      have hx' := hx
      simp only [puts, act_put, act_put_none, List.setIfInBounds_toArray, List.set_cons_zero, List.set_cons_succ, f0, f1, f2, f3, f4, f5, f6, f7, f8, f9, f10, f11, f12, hx] at hE ⊢
      clear f0 f1 f2 f3 f4 f5 f6 f7 f8 f9 f10 f11 f12
      clear hx
      refine wpList_put_box (cells := eV (mulE (mulE (m) (c)) (pwL (mulE (mulE (mulE (m) (c)) (c)) (n)) e0L 32))) hblk rfl rfl rfl rfl elem_size rfl (by simp [eV, ptV, wV, limbs, Value.oneCell']) ?_
      intro w2 hb2 hw2
      go_wp2_with fail
      exact .mk (hE undef _ ⟨o, hx', ho, hb2⟩ (hw2.below hC1 ho hC1.size) trivial)
  intro w1 vals hC1 hf
  have f0 : vals 0 = .agg (eV (m)) := hf 0 (by decide) rfl
  have f1 : vals 1 = .agg (eV (c)) := hf 1 (by decide) rfl
  have f2 : vals 2 = .agg (eV (mulE (m) (c))) := hf 2 (by decide) rfl
  have f3 : vals 3 = .agg (eV (m)) := hf 3 (by decide) rfl
  have f4 : vals 4 = .agg (eV (c)) := hf 4 (by decide) rfl
  have f5 : vals 5 = .agg (eV (mulE (m) (c))) := hf 5 (by decide) rfl
  have f6 : vals 6 = .agg (eV (c)) := hf 6 (by decide) rfl
  have f7 : vals 7 = .agg (eV (mulE (mulE (m) (c)) (c))) := hf 7 (by decide) rfl
  have f8 : vals 8 = .agg (eV (n)) := hf 8 (by decide) rfl
  have f9 : vals 9 = .agg (eV (mulE (mulE (mulE (m) (c)) (c)) (n))) := hf 9 (by decide) rfl
  have f10 : vals 10 = .slice OA 32 32 := hf 10 (by decide) rfl
  have f11 : vals 11 = .agg (eV (pwL (mulE (mulE (mulE (m) (c)) (c)) (n)) e0L 32)) := hf 11 (by decide) rfl
  have f12 : vals 12 = .agg (eV (mulE (mulE (m) (c)) (pwL (mulE (mulE (mulE (m) (c)) (c)) (n)) e0L 32))) := hf 12 (by decide) rfl
  have f14 : (fun z u => NewBox v1.heap.size 26 (eV (mulE (mulE (m) (c)) (pwL (mulE (mulE (mulE (m) (c)) (c)) (n)) e0L 32))) (z 13) u) vals w1 := hf 14 (by decide) rfl
  try dsimp only at f0 f1 f2 f3 f4 f5 f6 f7 f8 f9 f10 f11 f12 f14
  clear hf
  simp only [puts, act_put, act_put_none, List.setIfInBounds_toArray, List.set_cons_zero, List.set_cons_succ, f0, f1, f2, f3, f4, f5, f6, f7, f8, f9, f10, f11, f12]
  clear f0 f1 f2 f3 f4 f5 f6 f7 f8 f9 f10 f11 f12
  generalize vals 13 = x13 at *
  obtain ⟨o2, rfl, hlo2, hblk2⟩ := f14
  obtain ⟨t, ht⟩ : ∃ x, x = mulE (mulE (m) (c)) (pwL (mulE (mulE (mulE (m) (c)) (c)) (n)) e0L 32) := ⟨_, rfl⟩
  rw [← ht] at hblk2
  have Kt := Lib.hid (show t.Ok by rw [ht]; exact mul_ok (mul_ok (KU.out) (Kc.out)) (pwL_ok (mul_ok (mul_ok (mul_ok (KU.out) (Kc.out)) (Kc.out)) (KV.out)) _ _))
  have Et := Lib.hid ht
  have HST2 := Lib.hid (show Cs (.box o2 26 (eV t) :: [.box o1 26 (eV c), .rd OA (bytesV e0B), .box gu 26 (eV m), .box gv 26 (eV n), .box r 26 (eV zE)]) w w1 from ⟨⟨hblk2, (HST1.out.next hC1).1⟩, (HST1.out.next hC1).2⟩)
  clear hC1 HC0 HST1 hblk2 hlo2 ht
  obtain ⟨v2, rfl⟩ : ∃ x, x = w1 := ⟨_, rfl⟩
  go_wp2_with fail
  have HC0 : Below v2.heap.size v2 v2.drew := (Below.refl _ _).drew
  refine wp_region_list (fun u => Below v2.heap.size v2 u) (fun | false => (fun _ => True) | true => (fun _ => True)) (fun | false, _ => false | true, _ => false)
    [fun z _ => z 0 = .agg (eV (n)),
     fun z _ => z 1 = .agg (eV (t)),
     fun z _ => z 2 = .agg (eV (mulE (n) (t))),
     fun z _ => z 3 = .agg (eV (t)),
     fun z _ => z 4 = .agg (eV (mulE (mulE (n) (t)) (t))),
     fun z u => (NewBox v2.heap.size 26 (eV zE)) (z 5) u,
     fun z u => NewBox v2.heap.size 26 (eV (mulE (mulE (n) (t)) (t))) (z 5) u]
    [Eq, Eq, fun u u' => Below u.heap.size u u', Eq, fun u u' => Below u.heap.size u u', fun u u' => Below u.heap.size u u', fun _ _ => True]
    (fun i k => (i == 6 && k == 5)) [(0, some 34), (1, some 35), (2, some 36), (3, some 37), (4, some 38), (5, some 9), (6, none)] (by kernel_rfl) (by kernel_rfl) rfl (fun _ => rfl) ?_ ?_ ?_ ?_ ?_ ?_
  · exact HC0
  · intro m; cases m; exact trivial; exact trivial
  · intro m; cases m
    · exact ⟨.inr (fun _ _ h h0 => h ▸ h0), .inr (fun _ _ h h0 => h ▸ h0), .inr (fun _ _ _ h => h), .inr (fun _ _ h h0 => h ▸ h0), .inr (fun _ _ _ h => h), .inr (fun _ _ _ h => h), .inr (fun _ _ _ h => h), trivial⟩
    · exact ⟨.inr (fun _ _ h h0 => h ▸ h0), .inr (fun _ _ h h0 => h ▸ h0), .inr (fun _ _ _ h => h), .inr (fun _ _ h h0 => h ▸ h0), .inr (fun _ _ _ h => h), .inr (fun _ _ _ h => h), .inr (fun _ _ _ h => h), trivial⟩
  · exact ⟨⟨.inl rfl, .inr (.inr (.inr (fun _ _ _ _ _ h => h))), .inr (.inr (.inl rfl)), .inr (.inr (.inr (fun _ _ _ _ _ h => h))), .inr (.inr (.inl rfl)), .inr (.inr (.inr (fun _ _ _ _ h h0 => by cases h; exact h0))), .inr (.inr (.inl rfl)), trivial⟩,
      ⟨.inr (.inr (.inr (fun _ _ _ _ _ h => h))), .inl rfl, .inr (.inr (.inl rfl)), .inr (.inr (.inr (fun _ _ _ _ _ h => h))), .inr (.inr (.inl rfl)), .inr (.inr (.inr (fun _ _ _ _ h h0 => by cases h; exact h0))), .inr (.inr (.inl rfl)), trivial⟩,
      ⟨.inr (.inr (.inr (fun _ _ _ _ _ h => h))), .inr (.inr (.inr (fun _ _ _ _ _ h => h))), .inl rfl, .inr (.inr (.inr (fun _ _ _ _ _ h => h))), .inr (.inr (.inl rfl)), .inr (.inr (.inr (fun _ _ _ _ h h0 => h0.next h))), .inr (.inr (.inl rfl)), trivial⟩,
      ⟨.inr (.inr (.inr (fun _ _ _ _ _ h => h))), .inr (.inr (.inr (fun _ _ _ _ _ h => h))), .inr (.inr (.inr (fun _ _ _ _ _ h => h))), .inl rfl, .inr (.inr (.inl rfl)), .inr (.inr (.inr (fun _ _ _ _ h h0 => by cases h; exact h0))), .inr (.inr (.inl rfl)), trivial⟩,
      ⟨.inr (.inr (.inr (fun _ _ _ _ _ h => h))), .inr (.inr (.inr (fun _ _ _ _ _ h => h))), .inr (.inr (.inr (fun _ _ _ _ _ h => h))), .inr (.inr (.inr (fun _ _ _ _ _ h => h))), .inl rfl, .inr (.inr (.inr (fun _ _ _ _ h h0 => h0.next h))), .inr (.inr (.inl rfl)), trivial⟩,
      ⟨.inr (.inr (.inr (fun _ _ _ _ _ h => h))), .inr (.inr (.inr (fun _ _ _ _ _ h => h))), .inr (.inr (.inr (fun _ _ _ _ _ h => h))), .inr (.inr (.inr (fun _ _ _ _ _ h => h))), .inr (.inr (.inr (fun _ _ _ _ _ h => h))), .inl rfl, .inr (.inr (.inl rfl)), trivial⟩,
      ⟨.inr (.inr (.inr (fun _ _ _ _ _ h => h))), .inr (.inr (.inr (fun _ _ _ _ _ h => h))), .inr (.inr (.inr (fun _ _ _ _ _ h => h))), .inr (.inr (.inr (fun _ _ _ _ _ h => h))), .inr (.inr (.inr (fun _ _ _ _ _ h => h))), .inr (.inl rfl), .inl rfl, trivial⟩, trivial⟩
  · refine ⟨?_, ?_, ?_, ?_, ?_, ?_, ?_, trivial⟩
    · -- 0: Op.load 26 (Operand.tmp 3)
      refine step_plain [] (fun _ => rfl) rfl ?_
      intro w1 vals hC1 hi0 hf E hE
      clear hi0
      clear hf
      have hs := HST2.out.next hC1
      simp only [puts, act_put, act_put_none, List.setIfInBounds_toArray, List.set_cons_zero, List.set_cons_succ] at hE ⊢
      refine wpList_get_box (hs.1.2.2.2.2.1) rfl rfl rfl hu rfl elem_size ?_
      go_wp2_with fail
      exact .mk (hE _ _ rfl hC1 rfl)
    · -- 1: Op.load 26 (Operand.tmp 8)
      refine step_plain [] (fun _ => rfl) rfl ?_
      intro w1 vals hC1 hi0 hf E hE
      clear hi0
      clear hf
      have hs := HST2.out.next hC1
      simp only [puts, act_put, act_put_none, List.setIfInBounds_toArray, List.set_cons_zero, List.set_cons_succ] at hE ⊢
      refine wpList_get_box (hs.1.1) rfl rfl rfl hu rfl elem_size ?_
      go_wp2_with fail
      exact .mk (hE _ _ rfl hC1 rfl)
    · -- 2: Op.call { callee := Callee.value (Operand.func 38), args := #[Operand.tmp 34, Operand.tmp 35], argTypes := #[2
      refine step_plain [(0, some 34), (1, some 35)] (fun _ => rfl) rfl ?_
      intro w1 vals hC1 hi0 hf E hE
      clear hi0
      have f0 : vals 0 = .agg (eV (n)) := hf 0 rfl
      have f1 : vals 1 = .agg (eV (t)) := hf 1 rfl
      try dsimp only at f0 f1
      clear hf
      simp only [puts, act_put, act_put_none, List.setIfInBounds_toArray, List.set_cons_zero, List.set_cons_succ, f0, f1] at hE ⊢
      clear f0 f1
      go_wp2_with fail
      refine calls_then (mul_c _ _ _ (KV.out) (Kt.out)) ?_
      rintro e w2 ⟨rfl, hb2⟩
      go_wp2_with fail
      exact .mk (hE _ _ rfl (hC1.trans (hb2.mono hC1.size)) hb2)
    · -- 3: Op.load 26 (Operand.tmp 8)
      refine step_plain [] (fun _ => rfl) rfl ?_
      intro w1 vals hC1 hi0 hf E hE
      clear hi0
      clear hf
      have hs := HST2.out.next hC1
      simp only [puts, act_put, act_put_none, List.setIfInBounds_toArray, List.set_cons_zero, List.set_cons_succ] at hE ⊢
      refine wpList_get_box (hs.1.1) rfl rfl rfl hu rfl elem_size ?_
      go_wp2_with fail
      exact .mk (hE _ _ rfl hC1 rfl)
    · -- 4: Op.call { callee := Callee.value (Operand.func 38), args := #[Operand.tmp 36, Operand.tmp 37], argTypes := #[2
      refine step_plain [(2, some 36), (3, some 37), (2, some 36)] (fun _ => rfl) rfl ?_
      intro w1 vals hC1 hi0 hf E hE
      clear hi0
      have f2 : vals 2 = .agg (eV (mulE (n) (t))) := hf 2 rfl
      have f3 : vals 3 = .agg (eV (t)) := hf 3 rfl
      try dsimp only at f2 f3
      clear hf
      simp only [puts, act_put, act_put_none, List.setIfInBounds_toArray, List.set_cons_zero, List.set_cons_succ, f2, f3] at hE ⊢
      clear f2 f3
      go_wp2_with fail
      refine calls_then (mul_c _ _ _ (mul_ok (KV.out) (Kt.out)) (Kt.out)) ?_
      rintro e w2 ⟨rfl, hb2⟩
      go_wp2_with fail
      exact .mk (hE _ _ rfl (hC1.trans (hb2.mono hC1.size)) hb2)
    · -- 5: Op.alloc 26
      refine step_plain [] (fun _ => rfl) rfl ?_
      intro w1 vals hC1 hi0 hf E hE
      clear hi0
      clear hf
      simp only [puts, act_put, act_put_none, List.setIfInBounds_toArray, List.set_cons_zero, List.set_cons_succ] at hE ⊢
      go_wp2
      exact .mk (hE _ _ (NewBox.of hC1.size) (hC1.alloc hC1.size _) (below_new _ _))
    · -- 6: Op.store 26 (Operand.tmp 9) (Operand.tmp 38)
      refine step_plain [(5, some 9), (4, some 38), (4, some 38), (0, some 34), (1, some 35), (2, some 36), (3, some 37), (4, some 38), (5, some 9)] (fun _ => rfl) rfl ?_
      intro w1 vals hC1 hi0 hf E hE
      clear hi0
      have f0 : vals 0 = .agg (eV (n)) := hf 0 rfl
      have f1 : vals 1 = .agg (eV (t)) := hf 1 rfl
      have f2 : vals 2 = .agg (eV (mulE (n) (t))) := hf 2 rfl
      have f3 : vals 3 = .agg (eV (t)) := hf 3 rfl
      have f4 : vals 4 = .agg (eV (mulE (mulE (n) (t)) (t))) := hf 4 rfl
      have f5 : (NewBox v2.heap.size 26 (eV zE)) (vals 5) w1 := hf 5 rfl
      try dsimp only at f0 f1 f2 f3 f4 f5
      clear hf
      obtain ⟨o, hx, ho, hblk⟩ := f5
      have hx' := hx
      simp only [puts, act_put, act_put_none, List.setIfInBounds_toArray, List.set_cons_zero, List.set_cons_succ, f0, f1, f2, f3, f4, hx] at hE ⊢
      clear f0 f1 f2 f3 f4
      clear hx
      refine wpList_put_box (cells := eV (mulE (mulE (n) (t)) (t))) hblk rfl rfl rfl rfl elem_size rfl (by simp [eV, ptV, wV, limbs, Value.oneCell']) ?_
      intro w2 hb2 hw2
      go_wp2_with fail
      exact .mk (hE undef _ ⟨o, hx', ho, hb2⟩ (hw2.below hC1 ho hC1.size) trivial)
  intro w1 vals hC1 hf
  have f0 : vals 0 = .agg (eV (n)) := hf 0 (by decide) rfl
  have f1 : vals 1 = .agg (eV (t)) := hf 1 (by decide) rfl
  have f2 : vals 2 = .agg (eV (mulE (n) (t))) := hf 2 (by decide) rfl
  have f3 : vals 3 = .agg (eV (t)) := hf 3 (by decide) rfl
  have f4 : vals 4 = .agg (eV (mulE (mulE (n) (t)) (t))) := hf 4 (by decide) rfl
  have f6 : (fun z u => NewBox v2.heap.size 26 (eV (mulE (mulE (n) (t)) (t))) (z 5) u) vals w1 := hf 6 (by decide) rfl
  try dsimp only at f0 f1 f2 f3 f4 f6
  clear hf
  simp only [puts, act_put, act_put_none, List.setIfInBounds_toArray, List.set_cons_zero, List.set_cons_succ, f0, f1, f2, f3, f4]
  clear f0 f1 f2 f3 f4
  generalize vals 5 = x5 at *
  obtain ⟨o3, rfl, hlo3, hblk3⟩ := f6
  obtain ⟨h, hh⟩ : ∃ x, x = mulE (mulE (n) (t)) (t) := ⟨_, rfl⟩
  rw [← hh] at hblk3
  have Kh := Lib.hid (show h.Ok by rw [hh]; exact mul_ok (mul_ok (KV.out) (Kt.out)) (Kt.out))
  have Eh := Lib.hid hh
  have HST3 := Lib.hid (show Cs (.box o3 26 (eV h) :: [.box o2 26 (eV t), .box o1 26 (eV c), .rd OA (bytesV e0B), .box gu 26 (eV m), .box gv 26 (eV n), .box r 26 (eV zE)]) w w1 from ⟨⟨hblk3, (HST2.out.next hC1).1⟩, (HST2.out.next hC1).2⟩)
  clear hC1 HC0 HST2 hblk3 hlo3 hh
  obtain ⟨v3, rfl⟩ : ∃ x, x = w1 := ⟨_, rfl⟩
  obtain ⟨b1, hb1⟩ : ∃ b, b = eqB h m := ⟨_, rfl⟩
  obtain ⟨b2, hb2⟩ : ∃ b, b = eqB h (subE zE m) := ⟨_, rfl⟩
  have hre := HRES.out c t h b1 b2 Ec.out Et.out Eh.out hb1 hb2
  have CE1 := Lib.hid (show ∀ u, Calls Try.prog 47 #[.agg (eV h), .agg (eV m)] u (BoolPost b1 u) from fun u => by rw [hb1]; exact equal_c _ _ _ Kh.out KU.out)
  have CE2 := Lib.hid (show ∀ u, Calls Try.prog 47 #[.agg (eV h), .agg (eV (subE zE m))] u (BoolPost b2 u) from fun u => by rw [hb2]; exact equal_c _ _ _ Kh.out (sub_ok zE_ok KU.out))
  have HRE := Lib.hid hre
  clear hb1 hb2 hre HRES Ec Et Eh CPW
  go_wp2_with (first | (refine wpList_get_box (x := .tmp 9) (HST3.out.1.1) rfl rfl rfl hu rfl elem_size ?_) | (refine wpList_get_box (x := .tmp 2) (HST3.out.1.2.2.2.2.1) rfl rfl rfl hu rfl elem_size ?_))
  refine calls_then (CE1.out _) ?_
  rintro e y1 ⟨rfl, hb⟩
  have HSTa := Lib.hid (HST3.out.next hb)
  clear hb HST3
  cases b1
  · go_wp2_with fail
    have HC0 := HSTa.out.drew
    clear HSTa
    refine wp_region_det (fun u => Cs [.box o3 26 (eV h), .box o2 26 (eV t), .box o1 26 (eV c), .rd OA (bytesV e0B), .box gu 26 (eV m), .box gv 26 (eV n), .box r 26 (eV zE)] w u) (fun u => Cs [.box o3 26 (eV h), .box o2 26 (eV t), .box o1 26 (eV c), .rd OA (bytesV e0B), .box gu 26 (eV m), .box gv 26 (eV n), .box r 26 (eV zE)] w u) [(0, some 45), (1, some 46), (2, some 47), (3, some 48), (4, some 49), (5, some 44)] (by kernel_rfl) (by kernel_rfl) (by decide) (by kernel_rfl) (fun _ => rfl) HC0 ?_
    apply DetL.next
    · -- 0: Op.load 26 (Operand.tmp 9)
      apply detStep_plain []
      exact fun _ => rfl
      rfl
      rintro vals - w1 hC1 E hE
      have hs := hC1
      simp only [puts, act_put, act_put_none, List.setIfInBounds_toArray, List.set_cons_zero, List.set_cons_succ] at hE ⊢
      refine wpList_get_box (hs.1.1) rfl rfl rfl hu rfl elem_size ?_
      go_wp2_with fail
      exact .mk (hE _ hC1)
    apply DetL.next
    · -- 1: Op.build 26 #[]
      apply detStep_plain []
      exact fun _ => rfl
      rfl
      rintro vals ⟨-, -⟩ w1 hC1 E hE
      simp only [puts, act_put, act_put_none, List.setIfInBounds_toArray, List.set_cons_zero, List.set_cons_succ] at hE ⊢
      go_wp2
      exact .mk (hE _ hC1)
    apply DetL.next
    · -- 2: Op.load 26 (Operand.tmp 2)
      apply detStep_plain []
      exact fun _ => rfl
      rfl
      rintro vals ⟨⟨-, -⟩, -⟩ w1 hC1 E hE
      have hs := hC1
      simp only [puts, act_put, act_put_none, List.setIfInBounds_toArray, List.set_cons_zero, List.set_cons_succ] at hE ⊢
      refine wpList_get_box (hs.1.2.2.2.2.1) rfl rfl rfl hu rfl elem_size ?_
      go_wp2_with fail
      exact .mk (hE _ hC1)
    apply DetL.next
    · -- 3: Op.call { callee := Callee.value (Operand.func 48), args := #[Operand.tmp 46, Operand.tmp 47], argTypes := #[2
      apply detStep_plain [(1, some 46), (2, some 47)]
      exact fun _ => rfl
      rfl
      rintro vals ⟨⟨⟨-, -⟩, f1⟩, f2⟩ w1 hC1 E hE
      simp only [puts, act_put, act_put_none, List.setIfInBounds_toArray, List.set_cons_zero, List.set_cons_succ, f1, f2] at hE ⊢
      clear f1 f2
      go_wp2_with fail
      refine calls_then (sub_z _ (KU.out) _) ?_
      rintro e w2 ⟨rfl, hb2⟩
      go_wp2_with fail
      exact .mk (hE _ (hC1.next hb2))
    apply DetL.next
    · -- 4: Op.call { callee := Callee.value (Operand.func 47), args := #[Operand.tmp 45, Operand.tmp 48], argTypes := #[2
      apply detStep_plain [(0, some 45), (3, some 48), (3, some 48)]
      exact fun _ => rfl
      rfl
      rintro vals ⟨⟨⟨⟨-, f0⟩, -⟩, -⟩, f3⟩ w1 hC1 E hE
      simp only [puts, act_put, act_put_none, List.setIfInBounds_toArray, List.set_cons_zero, List.set_cons_succ, f0, f3] at hE ⊢
      clear f0 f3
      go_wp2_with fail
      refine calls_then (CE2.out _) ?_
      rintro e w2 ⟨rfl, hb2⟩
      go_wp2_with fail
      exact .mk (hE _ (hC1.next hb2))
    apply DetL.last
    · -- 5: Op.assign (Operand.tmp 49)
      apply detStep_plain [(4, some 49), (4, some 49)]
      exact fun _ => rfl
      rfl
      rintro vals ⟨⟨⟨⟨⟨-, -⟩, -⟩, -⟩, -⟩, f4⟩ w1 hC1 E hE
      simp only [puts, act_put, act_put_none, List.setIfInBounds_toArray, List.set_cons_zero, List.set_cons_succ, f4] at hE ⊢
      clear f4
      go_wp2
      exact .mk (hE _ hC1)
    rintro vals ⟨⟨⟨⟨⟨⟨-, f0⟩, f1⟩, f2⟩, f3⟩, f4⟩, f5⟩ w1 hC1
    simp only [puts, act_put, act_put_none, List.setIfInBounds_toArray, List.set_cons_zero, List.set_cons_succ, f0, f1, f2, f3, f4, f5]
    clear f0 f1 f2 f3 f4 f5
    clear HC0
    have HSTb := Lib.hid hC1
    clear hC1
    cases b2
    · go_wp2_with (refine wpList_put_box (x := .tmp 4) (cells := eV zE) (HSTb.out.1.2.2.2.2.2.2.1) rfl rfl rfl rfl elem_size rfl (by simp [eV, ptV, wV, limbs, Value.oneCell']) ?_; intro y9 hb9 hw9; have HR9 := Lib.hid hb9; have HW9 := Lib.hid hw9; clear hb9 hw9)
      refine bodyPost_ret (results_box_tmp (P := Try.prog) rfl rfl HR9.out hu rfl elem_size) rfl ⟨?_, HW9.out.below HSTb.out.2 HLR.out HSTb.out.2.size⟩
      rw [HRE.out.1, HRE.out.2]
      rfl
    · go_wp2_with fail
      have HC0 := HSTb.out.drew
      clear HSTb
      refine wp_region_tailq (fun u => Cs [.box o3 26 (eV h), .box o2 26 (eV t), .box o1 26 (eV c), .rd OA (bytesV e0B), .box gu 26 (eV m), .box gv 26 (eV n), .box r 26 (eV zE)] w u) (fun _ => false) 3 [(0, some 50), (1, some 51), (2, some 52), (3, none), (4, some 5)] (by kernel_rfl) (by kernel_rfl) (by decide) (by kernel_rfl) (fun _ => rfl) HC0 ?_
      apply DetQ.next
      · -- 0: Op.load 26 (Operand.tmp 8)
        apply detStepQ_of
        apply detStep_plain []
        exact fun _ => rfl
        rfl
        rintro vals - w1 hC1 E hE
        simp only [puts, act_put, act_put_none, List.setIfInBounds_toArray, List.set_cons_zero, List.set_cons_succ] at hE ⊢
        refine wpList_get_box (hC1.1.2.1) rfl rfl rfl hu rfl elem_size ?_
        go_wp2_with fail
        exact .mk (hE _ hC1)
      apply DetQ.next
      · -- 1: Op.call { callee := Callee.value (Operand.func 67), args := #[], argTypes := #[] }
        apply detStepQ_of
        apply detStep_plain []
        exact fun _ => rfl
        rfl
        rintro vals ⟨-, -⟩ w1 hC1 E hE
        simp only [puts, act_put, act_put_none, List.setIfInBounds_toArray, List.set_cons_zero, List.set_cons_succ] at hE ⊢
        go_wp2_with fail
        refine calls_then (CT.out _) ?_
        rintro e w2 ⟨rfl, hb2⟩
        go_wp2_with fail
        exact .mk (hE _ (hC1.next hb2))
      apply DetQ.next
      · -- 2: Op.call { callee := Callee.value (Operand.func 38), args := #[Operand.tmp 50, Operand.tmp 51], argTypes := #[2
        apply detStepQ_of
        apply detStep_plain [(0, some 50), (1, some 51), (1, some 51)]
        exact fun _ => rfl
        rfl
        rintro vals ⟨⟨-, f0⟩, f1⟩ w1 hC1 E hE
        simp only [puts, act_put, act_put_none, List.setIfInBounds_toArray, List.set_cons_zero, List.set_cons_succ, f0, f1] at hE ⊢
        clear f0 f1
        go_wp2_with fail
        refine calls_then (mul_c t X _ Kt.out KX.out) ?_
        rintro e w2 ⟨rfl, hb2⟩
        go_wp2_with fail
        exact .mk (hE _ (hC1.next hb2))
      apply DetQ.done
      rintro vals ⟨⟨⟨-, f0⟩, f1⟩, f2⟩ w1 hC1
      -- 3: Op.store 26 (Operand.tmp 4) (Operand.tmp 52)
      refine tail_step [(2, some 52), (2, some 52), (0, some 50), (1, some 51), (2, some 52)] (fun _ => rfl) rfl ?_
      intro E hE
      simp only [puts, act_put, act_put_none, List.setIfInBounds_toArray, List.set_cons_zero, List.set_cons_succ, f0, f1, f2] at hE ⊢
      refine wpList_put_box (x := .tmp 4) (cells := eV (mulE t X)) (hC1.1.2.2.2.2.2.2.1) rfl rfl rfl rfl elem_size rfl (by simp [eV, ptV, wV, limbs, Value.oneCell']) ?_
      intro y9 hb9 hw9
      have HR9 := Lib.hid hb9
      have HW9 := Lib.hid hw9
      clear hb9 hw9
      go_wp2_with fail
      refine .mk (hE undef _ ?_)
      clear hE E
      generalize hval : upd _ 3 _ = vals3
      replace f0 := (congrFun hval 0).symm.trans ((upd_ne (by decide)).trans f0)
      replace f1 := (congrFun hval 1).symm.trans ((upd_ne (by decide)).trans f1)
      replace f2 := (congrFun hval 2).symm.trans ((upd_ne (by decide)).trans f2)
      have f3 := (congrFun hval 3).symm.trans (upd_self _ _ _)
      clear hval
      -- 4: Op.assign (Operand.const (Value.bool true))
      refine tail_step [(3, none), (0, some 50), (1, some 51), (2, some 52), (3, none)] (fun _ => rfl) rfl ?_
      intro E hE
      simp only [puts, act_put, act_put_none, List.setIfInBounds_toArray, List.set_cons_zero, List.set_cons_succ, f0, f1, f2, f3] at hE ⊢
      go_wp2
      refine .mk (hE _ _ ?_)
      clear hE E
      generalize hval : upd _ 4 _ = vals4
      replace f0 := (congrFun hval 0).symm.trans ((upd_ne (by decide)).trans f0)
      replace f1 := (congrFun hval 1).symm.trans ((upd_ne (by decide)).trans f1)
      replace f2 := (congrFun hval 2).symm.trans ((upd_ne (by decide)).trans f2)
      replace f3 := (congrFun hval 3).symm.trans ((upd_ne (by decide)).trans f3)
      have f4 := (congrFun hval 4).symm.trans (upd_self _ _ _)
      clear hval
      refine tail_end ?_
      simp only [puts, act_put, act_put_none, List.setIfInBounds_toArray, List.set_cons_zero, List.set_cons_succ, f0, f1, f2, f3, f4]
      clear f0 f1 f2 f3 f4
      have HSTc := Lib.hid hC1
      clear hC1 HC0
      go_wp2_with fail
      refine bodyPost_ret (results_box_tmp (P := Try.prog) rfl rfl HR9.out hu rfl elem_size) rfl ⟨?_, HW9.out.below HSTc.out.2 HLR.out HSTc.out.2.size⟩
      rw [HRE.out.1, HRE.out.2]
      rfl
  · go_wp2_with (first | (refine wpList_get_box (x := .tmp 8) (HSTa.out.1.2.1) rfl rfl rfl hu rfl elem_size ?_) | (refine wpList_put_box (x := .tmp 4) (cells := eV t) (HSTa.out.1.2.2.2.2.2.2.1) rfl rfl rfl rfl elem_size rfl (by simp [eV, ptV, wV, limbs, Value.oneCell']) ?_; intro y9 hb9 hw9; have HR9 := Lib.hid hb9; have HW9 := Lib.hid hw9; clear hb9 hw9))
    refine bodyPost_ret (results_box_tmp (P := Try.prog) rfl rfl HR9.out hu rfl elem_size) rfl ⟨?_, HW9.out.below HSTa.out.2 HLR.out HSTa.out.2.size⟩
    rw [HRE.out.1, HRE.out.2]
    rfl
end Go.Proofs.Ytbeokfpbhemcfaa
/-
  Walk: curve's Read.
-/
namespace Go.Proofs.Ytbeokfpbhemcfaa
set_option linter.unusedSimpArgs false
set_option linter.unusedVariables false
open Go.RowKit

/-- the bytes that are read as an element -/
def crdB (b : List UInt8) : List UInt8 := (rdL b).map UInt8.ofNat
theorem crdB_digs (b : List UInt8) : digs (crdB b) = rdL b := digs_ofNat _ (rdL_dg b)
theorem crdB_v (b : List UInt8) : bytesV (crdB b) = bnV (rdL b) := by rw [← bnV_digs, crdB_digs]
theorem and8_127 (l : Nat) (h : l < 256) : bits .and .u8 (l : Int) 127 = ((l % 128 : Nat) : Int) := by
  show IntKind.u8.wrap ((BitVec.ofInt 8 (l : Int) &&& BitVec.ofInt 8 (127 : Int)).toNat : Int) = _
  have e1 : (BitVec.ofInt 8 (127 : Int)).toNat = 127 := by decide
  rw [BitVec.toNat_and, BitVec.ofInt_natCast, BitVec.toNat_ofNat, e1, Nat.mod_eq_of_lt (show l < 2 ^ 8 from h), IntKind.wrap_u8]
  have h2 : l &&& 127 = l % 128 := Nat.and_two_pow_sub_one_eq_mod l 7
  rw [h2]
  omega
def crdU (E : E5) : E5 := subE (mulE E E) (intE 1)
def crdV (E D : E5) : E5 := addE (mulE (mulE E E) D) (intE 1)
def oddE (X : E5) : Bool := decide (X.val % PN % 2 = 1)
/-- what curve's Read tells of an element E, by the curve's number D -/
def crdR (E D : E5) (odd : Bool) : Pt4 × Nat :=
  if rootB (crdU E) (crdV E D) then
    if oddE (rootE (crdU E) (crdV E D)) = odd then (ofP (rootE (crdU E) (crdV E D)) E, 0)
    else if eqB (rootE (crdU E) (crdV E D)) zE then (zP, 2) else (ofP (subE zE (rootE (crdU E) (crdV E D))) E, 0)
  else (zP, 2)
def crd (b : List UInt8) : Pt4 × Nat :=
  if b.length = 32 then (if yOf b < PN then crdR (ofN (yOf b)) dE (oddOf b) else (zP, 2)) else (zP, 2)
def CReadPost (r : Pt4 × Nat) (w : World) (e : Ending) (w' : World) : Prop := e = .returned (.tuple #[.agg (ptV r.1), .int .i64 (r.2 : Int)]) ∧ Below w.heap.size w w'
theorem crdB_len {b : List UInt8} (h : b.length = 32) : (crdB b).length = 32 := by rw [crdB, List.length_map, rdL, List.length_set, digs, List.length_map, h]
theorem mayR_crd {b : List UInt8} (h : b.length = 32) : mayR (crdB b) = decide (yOf b < PN) := by
  rw [mayR, crdB_len h, crdB_digs]
  exact decide_eq_decide.mpr ⟨fun h => h.2, fun h => ⟨rfl, h⟩⟩
set_option maxRecDepth 100000 in
set_option maxHeartbeats 4000000 in
theorem cread_any (b : List UInt8) (A : Option Addr) (c : Nat) (w : World) (hr : Rd w w.heap.size A (bytesV b)) (hc : b.length ≤ c) (hmax : b.length ≤ 1000) :
    Calls Try.prog 27 #[.slice A b.length c] w (CReadPost (crd b) w) := by
  have hu := Try.underlying26
  have hp := Try.underlying28
  obtain ⟨n, hn⟩ : ∃ n, n = b.length := ⟨_, rfl⟩
  have HB := Lib.hid (below_new w (.cells (ptV zP) 28))
  have HP := Lib.hid (Blk.new w 28 (ptV zP))
  obtain ⟨R, hR⟩ : ∃ R, R = crd b := ⟨_, rfl⟩
  rw [← hR]
  by_cases h32 : b.length = 32
  · have hR2 : R = if yOf b < PN then crdR (ofN (yOf b)) dE (oddOf b) else (zP, 2) := by rw [hR, crd, if_pos h32]
    rw [h32]
    rw [h32] at hc
    obtain ⟨D, hD⟩ : ∃ D, D = dE := ⟨_, rfl⟩
    obtain ⟨L, hL⟩ : ∃ L, L = digs b := ⟨_, rfl⟩
    have hLl : L.length = 32 := by rw [hL, digs, List.length_map, h32]
    obtain ⟨d, hd⟩ : ∃ d, d = L.getD 31 0 := ⟨_, rfl⟩
    have hd256 : d < 256 := by rw [hd, hL]; exact dg_getD (digs_lt b) 31
    obtain ⟨M, hM⟩ : ∃ M, M = rdL b := ⟨_, rfl⟩
    have hMs : L.set 31 (d % 128) = M := by rw [hM, hd, hL]; rfl
    obtain ⟨q, hq⟩ : ∃ q, q = crdB b := ⟨_, rfl⟩
    have hqv : bytesV q = bnV M := by rw [hq, hM]; exact crdB_v b
    have hql : q.length = 32 := by rw [hq]; exact crdB_len h32
    obtain ⟨may, hmay⟩ : ∃ m, m = decide (yOf b < PN) := ⟨_, rfl⟩
    have hmq : mayR q = may := by rw [hq, hmay]; exact mayR_crd h32
    have hE : may = true → readE q = ofN (yOf b) := fun h => by rw [readE, hmq, h, if_pos rfl, hq, crdB_digs]; rfl
    have hF : readF q = if may then 0 else 2 := by rw [readF, hmq]
    obtain ⟨F, hFF⟩ : ∃ F, F = readF q := ⟨_, rfl⟩
    have hF2 : F = if may then 0 else 2 := by rw [hFF, hF]
    obtain ⟨E, hEE⟩ : ∃ E, E = readE q := ⟨_, rfl⟩
    have okE : E.Ok := by
      rw [hEE, readE]
      split
      · exact ofN_ok _
      · exact zE_ok
    obtain ⟨od, hod⟩ : ∃ o, o = oddOf b := ⟨_, rfl⟩
    have hod2 : od = decide (128 ≤ d) := by rw [hod, hd, hL]; rfl
    have hR3 : R = if may then crdR E D od else (zP, 2) := by
      rw [hR2, hod, hD]
      by_cases h : yOf b < PN
      · have hm : may = true := by rw [hmay]; exact decide_eq_true h
        rw [if_pos h, hm, if_pos rfl, hEE, hE hm]
      · rw [if_neg h, hmay, decide_eq_false h]; rfl
    have CRD := Lib.hid (show ∀ u A c, 32 ≤ c → Rd u u.heap.size A (bytesV q) → Calls Try.prog 52 #[.slice A 32 c] u (fun e w' => e = .returned (.tuple #[.agg (eV E), .int .i64 F]) ∧ Below u.heap.size u w') from fun u A c hc hr => by
      have h := read_any q A c u hr (by rw [hql]; exact hc) (by rw [hql]; decide)
      rw [hql] at h
      rw [hEE, hFF]
      exact h)
    have CCL := Lib.hid (show ∀ u, Rd u u.heap.size A (bytesV b) → Calls Try.prog 51 #[.slice A 32 c] u (OwnPostZ 5 32 (bnV L) u) from fun u h => by
      have h2 := clone_any b h32 A c u h
      rw [← bnV_digs, ← hL] at h2
      exact h2)
    have KD := Lib.hid (show D.Ok by rw [hD]; exact dE_ok)
    have CD := Lib.hid (show ∀ u, Calls Try.prog 31 #[] u (ElemPost D u) from fun u => by rw [hD]; exact d_any u)
    obtain ⟨I, hI⟩ : ∃ x, x = intE 1 := ⟨_, rfl⟩
    have okI : I.Ok := by rw [hI]; exact one_ok
    obtain ⟨Y2, hY2⟩ : ∃ x, x = mulE E E := ⟨_, rfl⟩
    have okY2 : Y2.Ok := by rw [hY2]; exact mul_ok okE okE
    obtain ⟨U, hU⟩ : ∃ x, x = subE Y2 I := ⟨_, rfl⟩
    have okU : U.Ok := by rw [hU]; exact sub_ok okY2 okI
    obtain ⟨DY, hDY⟩ : ∃ x, x = mulE Y2 D := ⟨_, rfl⟩
    have okDY : DY.Ok := by rw [hDY]; exact mul_ok okY2 KD.out
    obtain ⟨V, hV⟩ : ∃ x, x = addE DY I := ⟨_, rfl⟩
    have okV : V.Ok := by rw [hV]; exact add_ok okDY okI
    obtain ⟨X, hX⟩ : ∃ x, x = rootE U V := ⟨_, rfl⟩
    have okX : X.Ok := by rw [hX]; exact rootE_ok okU okV
    obtain ⟨ok, hok⟩ : ∃ x, x = rootB U V := ⟨_, rfl⟩
    obtain ⟨ob, hob⟩ : ∃ x, x = oddE X := ⟨_, rfl⟩
    obtain ⟨zb, hzb⟩ : ∃ x, x = eqB X zE := ⟨_, rfl⟩
    obtain ⟨NX, hNX⟩ : ∃ x, x = subE zE X := ⟨_, rfl⟩
    have okNX : NX.Ok := by rw [hNX]; exact sub_ok zE_ok okX
    obtain ⟨Q1, hQ1⟩ : ∃ x, x = ofP X E := ⟨_, rfl⟩
    obtain ⟨Q2, hQ2⟩ : ∃ x, x = ofP NX E := ⟨_, rfl⟩
    have hRR : crdR E D od = if ok then (if ob = od then (Q1, 0) else if zb then (zP, 2) else (Q2, 0)) else (zP, 2) := by
      rw [crdR, hQ2, hQ1, hNX, hzb, hob, hok, hX, hV, hU, hDY, hY2, hI]
      rfl
    have CI := Lib.hid (show ∀ u, Calls Try.prog 50 #[.int .i64 1] u (ElemPost I u) from fun u => by rw [hI]; exact int1_c u)
    have CY2 := Lib.hid (show ∀ u, Calls Try.prog 38 #[.agg (eV E), .agg (eV E)] u (ElemPost Y2 u) from fun u => by rw [hY2]; exact mul_c _ _ _ okE okE)
    have CU := Lib.hid (show ∀ u, Calls Try.prog 48 #[.agg (eV Y2), .agg (eV I)] u (ElemPost U u) from fun u => by rw [hU]; exact sub_c _ _ _ okY2 okI)
    have CDY := Lib.hid (show ∀ u, Calls Try.prog 38 #[.agg (eV Y2), .agg (eV D)] u (ElemPost DY u) from fun u => by rw [hDY]; exact mul_c _ _ _ okY2 KD.out)
    have CV := Lib.hid (show ∀ u, Calls Try.prog 32 #[.agg (eV DY), .agg (eV I)] u (ElemPost V u) from fun u => by rw [hV]; exact add_c _ _ _ okDY okI)
    have CRT := Lib.hid (show ∀ u, Calls Try.prog 53 #[.agg (eV U), .agg (eV V)] u (CRootPost X ok u) from fun u => by rw [hX, hok]; exact croot_any _ _ _ okU okV)
    have COD := Lib.hid (show ∀ u, Calls Try.prog 40 #[.agg (eV X)] u (BoolPost ob u) from fun u => by rw [hob]; exact odd_c X okX u)
    have CZB := Lib.hid (show ∀ u, Calls Try.prog 47 #[.agg (eV X), .agg (eV zE)] u (BoolPost zb u) from fun u => by rw [hzb]; exact equal_c _ _ _ okX zE_ok)
    have CNX := Lib.hid (show ∀ u, Calls Try.prog 48 #[.agg #[.int .u64 0, .int .u64 0, .int .u64 0, .int .u64 0, .int .u64 0], .agg (eV X)] u (ElemPost NX u) from fun u => by rw [hNX]; exact sub_z _ okX _)
    have CO1 := Lib.hid (show ∀ u, Calls Try.prog 30 #[.agg (eV X), .agg (eV E)] u (PtPost Q1 u) from fun u => by rw [hQ1]; exact pof_any _ _ okX okE u)
    have CO2 := Lib.hid (show ∀ u, Calls Try.prog 30 #[.agg (eV NX), .agg (eV E)] u (PtPost Q2 u) from fun u => by rw [hQ2]; exact pof_any _ _ okNX okE u)
    have HRR := Lib.hid hRR
    have HF := Lib.hid hF2
    clear hI okI hY2 okY2 hU okU hDY okDY hV okV hX okX hok hob hzb hNX okNX hQ1 hQ2 hRR hF2
    have HA := Lib.hid (rd_next hr HB.out)
    have HR := Lib.hid hR3
    have KE := Lib.hid okE
    have HMS := Lib.hid hMs
    have HQV := Lib.hid hqv
    have HLL := Lib.hid hLl
    have HDD := Lib.hid hd
    have hand := and8_127 d hd256
    have hge : (od = true ∧ (d : Int) / 128 = 1) ∨ (od = false ∧ (d : Int) / 128 = 0) := by
      rw [hod2]
      by_cases h : 128 ≤ d
      · left; exact ⟨decide_eq_true h, by omega⟩
      · right; exact ⟨decide_eq_false h, by omega⟩
    clear hR hR2 hR3 hr hc hmax hn h32 hD hL hLl hd hM hMs hq hqv hql hmay hmq hE hF hFF hEE okE hod hod2
    go_enter Try.func27, Try.ntmps27
    go_wp2_with fail
    refine calls_then (CCL.out _ HA.out) ?_
    rintro e w1 ⟨A1, c1, rfl, hown, hb1⟩
    obtain ⟨g1, ys, rfl, hg1, hc1, hblk⟩ := hown.blk (by decide)
    have HP1 := Lib.hid (HP.out.below hb1 HP.out.lt)
    have HB1 := Lib.hid (HB.out.trans (hb1.mono HB.out.size))
    have HG1 := Lib.hid (Nat.le_trans HB.out.size hg1)
    have HNE := Lib.hid (show w.heap.size ≠ g1 from Nat.ne_of_lt (Nat.lt_of_lt_of_le HP.out.lt hg1))
    have HQ := Lib.hid hblk
    have HC1 := Lib.hid hc1
    clear hown hb1 hg1 hc1 hblk HP HA HB
    have hb2 : (d : Int) < 256 := by omega
    have dl := HQ.out.cell 31
    rw [show (bnV L ++ ys).toArray[31]? = some (.int .u8 (d : Int)) by
      rw [List.getElem?_toArray, List.getElem?_append_left (by rw [bnVl, HLL.out]; decide), ← List.getElem?_toArray, bnV_get (by rw [HLL.out]; decide), HDD.out]] at dl
    have hfr := HQ.out.free 31
    rcases hge with ⟨rfl, hge⟩ | ⟨rfl, hge⟩
    · go_wp2_with (refine wpList_put_cell (x := .tmp 26) (i := 31) (v := .int .u8 ((d % 128 : Nat) : Int)) HQ.out rfl rfl rfl rfl u8_size (by rw [List.size_toArray, List.length_append, bnVl, HLL.out]; omega) rfl ?_; intro w5 hb5 hw5; have HB5 := Lib.hid hb5; have HW5 := Lib.hid hw5; clear hb5 hw5)
      have hq := HB5.out
      rw [set_front (by rw [bnVl, HLL.out]; decide), show (bnV L).set 31 (.int .u8 ((d % 128 : Nat) : Int)) = bnV (L.set 31 (d % 128)) by simp [bnV, List.map_set], HMS.out, ← HQV.out] at hq
      have HM5 := Lib.hid (Rd.of_blk hq hq.lt).front
      have HP5 := Lib.hid (HW5.out.blk HP1.out HNE.out)
      have HBB := Lib.hid (HW5.out.below HB1.out HG1.out HB1.out.size)
      clear hq dl hfr HB5 HW5 HQ HP1 HB1 hand hge hb2 hd256 HMS HQV HLL HDD HNE HG1
      refine calls_then (CRD.out _ _ _ HC1.out HM5.out) ?_
      rintro e w6 ⟨rfl, hb⟩
      have HST0 := Lib.hid (show Cs [.box w.heap.size 28 (ptV zP)] w w6 from ⟨⟨HP5.out.below hb HP5.out.lt, trivial⟩, HBB.out.trans (hb.mono HBB.out.size)⟩)
      clear hb HM5 HBB HP5
      generalize hg0 : w.heap.size = g0 at HST0 ⊢
      have HG0 := Lib.hid hg0
      clear hg0
      cases may
      · obtain rfl : F = 2 := HF.out
        go_wp2_with (first | (refine wpList_put_box (x := .tmp 6) (cells := eV E) (Blk.new _ _ _) rfl rfl rfl rfl elem_size rfl (by simp [eV, wV, limbs, Value.oneCell']) ?_; intro w7 hb hw; have hk := box_low hw; have HST1 := Lib.hid (show Cs [.box w6.heap.size 26 (eV E), .box g0 28 (ptV zP)] w w7 from ⟨⟨hb, (HST0.out.next hk).1⟩, (HST0.out.next hk).2⟩); clear hb hw hk HST0) | (refine wpList_put_box (x := .tmp 2) (cells := ptV zP) (HST1.out.1.2.1) rfl rfl rfl rfl point_size rfl (by simp [ptV, zP, wV, limbs, Value.oneCell']) ?_; intro w9 hb9 hw9; have HR9 := Lib.hid hb9; have HW9 := Lib.hid hw9; clear hb9 hw9))
        refine bodyPost_ret (results_box_tmp (P := Try.prog) rfl rfl HR9.out hp rfl point_size) rfl ?_
        have eR : R = (zP, 2) := by simpa [HRR.out] using HR.out
        rw [eR]
        exact ⟨rfl, HW9.out.below HST1.out.2 (Nat.le_of_eq HG0.out) HST1.out.2.size⟩
      · obtain rfl : F = 0 := HF.out
        go_wp2_with (first | (refine wpList_put_box (x := .tmp 6) (cells := eV E) (Blk.new _ _ _) rfl rfl rfl rfl elem_size rfl (by simp [eV, wV, limbs, Value.oneCell']) ?_; intro w7 hb hw; have hk := box_low hw; have HST1 := Lib.hid (show Cs [.box w6.heap.size 26 (eV E), .box g0 28 (ptV zP)] w w7 from ⟨⟨hb, (HST0.out.next hk).1⟩, (HST0.out.next hk).2⟩); clear hb hw hk HST0) | (refine wpList_get_box (x := .tmp 6) (HST1.out.1.1) rfl rfl rfl hu rfl elem_size ?_))
        generalize w6.heap.size = g6 at *
        refine calls_then (CY2.out _) ?_
        rintro e w8 ⟨rfl, hb⟩
        have HST2 := Lib.hid (HST1.out.next hb)
        clear hb HST1
        go_wp2_with (refine wpList_put_box (x := .tmp 8) (cells := eV Y2) (Blk.new _ _ _) rfl rfl rfl rfl elem_size rfl (by simp [eV, wV, limbs, Value.oneCell']) ?_; intro v9 hb hw; have hk := box_low hw; have HST3 := Lib.hid (show Cs [.box w8.heap.size 26 (eV Y2), .box g6 26 (eV E), .box g0 28 (ptV zP)] w v9 from ⟨⟨hb, (HST2.out.next hk).1⟩, (HST2.out.next hk).2⟩); clear hb hw hk HST2)
        generalize w8.heap.size = g8 at *
        have HC0 : Below v9.heap.size v9 v9.drew := (Below.refl _ _).drew
        refine wp_region_list (fun u => Below v9.heap.size v9 u) (fun | false => (fun _ => True) | true => (fun _ => True)) (fun | false, _ => false | true, _ => false)
          [fun z _ => z 0 = .agg (eV Y2),
           fun z _ => z 1 = .agg (eV I),
           fun z _ => z 2 = .agg (eV U),
           fun z _ => z 3 = .agg (eV Y2),
           fun z _ => z 4 = .agg (eV D),
           fun z _ => z 5 = .agg (eV DY),
           fun z _ => z 6 = .agg (eV I),
           fun z _ => z 7 = .agg (eV V),
           fun z _ => z 8 = .tuple #[.agg (eV X), .bool ok],
           fun z _ => z 9 = .tuple #[.agg (eV X), .bool ok],
           fun z _ => z 10 = .agg (eV X),
           fun z _ => z 11 = .bool ok,
           fun z u => (NewBox v9.heap.size 26 (eV zE)) (z 12) u,
           fun z u => NewBox v9.heap.size 26 (eV X) (z 12) u,
           fun z _ => z 14 = .bool ok]
          [Eq, fun u u' => Below u.heap.size u u', fun u u' => Below u.heap.size u u', Eq, fun u u' => Below u.heap.size u u', fun u u' => Below u.heap.size u u', fun u u' => Below u.heap.size u u', fun u u' => Below u.heap.size u u', fun u u' => Below u.heap.size u u', Eq, Eq, Eq, fun u u' => Below u.heap.size u u', fun _ _ => True, Eq]
          (fun i k => (i == 13 && k == 12)) [(0, some 40), (1, some 41), (2, some 42), (3, some 43), (4, some 44), (5, some 45), (6, some 46), (7, some 47), (8, some 48), (9, some 39), (10, some 49), (11, some 50), (12, some 9), (13, none), (14, some 10)] (by kernel_rfl) (by kernel_rfl) rfl (fun _ => rfl) ?_ ?_ ?_ ?_ ?_ ?_
        · exact HC0
        · intro m; cases m; exact trivial; exact trivial
        · intro m; cases m
          · exact ⟨.inr (fun _ _ h h0 => h ▸ h0), .inr (fun _ _ _ h => h), .inr (fun _ _ _ h => h), .inr (fun _ _ h h0 => h ▸ h0), .inr (fun _ _ _ h => h), .inr (fun _ _ _ h => h), .inr (fun _ _ _ h => h), .inr (fun _ _ _ h => h), .inr (fun _ _ _ h => h), .inr (fun _ _ h h0 => h ▸ h0), .inr (fun _ _ h h0 => h ▸ h0), .inr (fun _ _ h h0 => h ▸ h0), .inr (fun _ _ _ h => h), .inr (fun _ _ _ h => h), .inr (fun _ _ h h0 => h ▸ h0), trivial⟩
          · exact ⟨.inr (fun _ _ h h0 => h ▸ h0), .inr (fun _ _ _ h => h), .inr (fun _ _ _ h => h), .inr (fun _ _ h h0 => h ▸ h0), .inr (fun _ _ _ h => h), .inr (fun _ _ _ h => h), .inr (fun _ _ _ h => h), .inr (fun _ _ _ h => h), .inr (fun _ _ _ h => h), .inr (fun _ _ h h0 => h ▸ h0), .inr (fun _ _ h h0 => h ▸ h0), .inr (fun _ _ h h0 => h ▸ h0), .inr (fun _ _ _ h => h), .inr (fun _ _ _ h => h), .inr (fun _ _ h h0 => h ▸ h0), trivial⟩
        · exact ⟨⟨.inl rfl, .inr (.inr (.inr (fun _ _ _ _ _ h => h))), .inr (.inr (.inl rfl)), .inr (.inr (.inr (fun _ _ _ _ _ h => h))), .inr (.inr (.inl rfl)), .inr (.inr (.inl rfl)), .inr (.inr (.inr (fun _ _ _ _ _ h => h))), .inr (.inr (.inr (fun _ _ _ _ _ h => h))), .inr (.inr (.inl rfl)), .inr (.inr (.inl rfl)), .inr (.inr (.inr (fun _ _ _ _ _ h => h))), .inr (.inr (.inr (fun _ _ _ _ _ h => h))), .inr (.inr (.inr (fun _ _ _ _ h h0 => by cases h; exact h0))), .inr (.inr (.inl rfl)), .inr (.inr (.inl rfl)), trivial⟩,
            ⟨.inr (.inr (.inr (fun _ _ _ _ _ h => h))), .inl rfl, .inr (.inr (.inl rfl)), .inr (.inr (.inr (fun _ _ _ _ _ h => h))), .inr (.inr (.inl rfl)), .inr (.inr (.inl rfl)), .inr (.inr (.inr (fun _ _ _ _ _ h => h))), .inr (.inr (.inr (fun _ _ _ _ _ h => h))), .inr (.inr (.inl rfl)), .inr (.inr (.inl rfl)), .inr (.inr (.inr (fun _ _ _ _ _ h => h))), .inr (.inr (.inr (fun _ _ _ _ _ h => h))), .inr (.inr (.inr (fun _ _ _ _ h h0 => h0.next h))), .inr (.inr (.inl rfl)), .inr (.inr (.inl rfl)), trivial⟩,
            ⟨.inr (.inr (.inr (fun _ _ _ _ _ h => h))), .inr (.inr (.inr (fun _ _ _ _ _ h => h))), .inl rfl, .inr (.inr (.inr (fun _ _ _ _ _ h => h))), .inr (.inr (.inl rfl)), .inr (.inr (.inl rfl)), .inr (.inr (.inl rfl)), .inr (.inr (.inl rfl)), .inr (.inr (.inl rfl)), .inr (.inr (.inl rfl)), .inr (.inr (.inl rfl)), .inr (.inr (.inl rfl)), .inr (.inr (.inr (fun _ _ _ _ h h0 => h0.next h))), .inr (.inr (.inl rfl)), .inr (.inr (.inl rfl)), trivial⟩,
            ⟨.inr (.inr (.inr (fun _ _ _ _ _ h => h))), .inr (.inr (.inr (fun _ _ _ _ _ h => h))), .inr (.inr (.inr (fun _ _ _ _ _ h => h))), .inl rfl, .inr (.inr (.inr (fun _ _ _ _ _ h => h))), .inr (.inr (.inl rfl)), .inr (.inr (.inl rfl)), .inr (.inr (.inl rfl)), .inr (.inr (.inl rfl)), .inr (.inr (.inr (fun _ _ _ _ _ h => h))), .inr (.inr (.inr (fun _ _ _ _ _ h => h))), .inr (.inr (.inr (fun _ _ _ _ _ h => h))), .inr (.inr (.inr (fun _ _ _ _ h h0 => by cases h; exact h0))), .inr (.inr (.inl rfl)), .inr (.inr (.inl rfl)), trivial⟩,
            ⟨.inr (.inr (.inr (fun _ _ _ _ _ h => h))), .inr (.inr (.inr (fun _ _ _ _ _ h => h))), .inr (.inr (.inr (fun _ _ _ _ _ h => h))), .inr (.inr (.inr (fun _ _ _ _ _ h => h))), .inl rfl, .inr (.inr (.inl rfl)), .inr (.inr (.inl rfl)), .inr (.inr (.inl rfl)), .inr (.inr (.inl rfl)), .inr (.inr (.inr (fun _ _ _ _ _ h => h))), .inr (.inr (.inr (fun _ _ _ _ _ h => h))), .inr (.inr (.inr (fun _ _ _ _ _ h => h))), .inr (.inr (.inr (fun _ _ _ _ h h0 => h0.next h))), .inr (.inr (.inl rfl)), .inr (.inr (.inl rfl)), trivial⟩,
            ⟨.inr (.inr (.inr (fun _ _ _ _ _ h => h))), .inr (.inr (.inr (fun _ _ _ _ _ h => h))), .inr (.inr (.inr (fun _ _ _ _ _ h => h))), .inr (.inr (.inr (fun _ _ _ _ _ h => h))), .inr (.inr (.inr (fun _ _ _ _ _ h => h))), .inl rfl, .inr (.inr (.inl rfl)), .inr (.inr (.inl rfl)), .inr (.inr (.inl rfl)), .inr (.inr (.inl rfl)), .inr (.inr (.inr (fun _ _ _ _ _ h => h))), .inr (.inr (.inr (fun _ _ _ _ _ h => h))), .inr (.inr (.inr (fun _ _ _ _ h h0 => h0.next h))), .inr (.inr (.inl rfl)), .inr (.inr (.inl rfl)), trivial⟩,
            ⟨.inr (.inr (.inr (fun _ _ _ _ _ h => h))), .inr (.inr (.inr (fun _ _ _ _ _ h => h))), .inr (.inr (.inr (fun _ _ _ _ _ h => h))), .inr (.inr (.inr (fun _ _ _ _ _ h => h))), .inr (.inr (.inr (fun _ _ _ _ _ h => h))), .inr (.inr (.inr (fun _ _ _ _ _ h => h))), .inl rfl, .inr (.inr (.inl rfl)), .inr (.inr (.inl rfl)), .inr (.inr (.inl rfl)), .inr (.inr (.inr (fun _ _ _ _ _ h => h))), .inr (.inr (.inr (fun _ _ _ _ _ h => h))), .inr (.inr (.inr (fun _ _ _ _ h h0 => h0.next h))), .inr (.inr (.inl rfl)), .inr (.inr (.inl rfl)), trivial⟩,
            ⟨.inr (.inr (.inr (fun _ _ _ _ _ h => h))), .inr (.inr (.inr (fun _ _ _ _ _ h => h))), .inr (.inr (.inr (fun _ _ _ _ _ h => h))), .inr (.inr (.inr (fun _ _ _ _ _ h => h))), .inr (.inr (.inr (fun _ _ _ _ _ h => h))), .inr (.inr (.inr (fun _ _ _ _ _ h => h))), .inr (.inr (.inr (fun _ _ _ _ _ h => h))), .inl rfl, .inr (.inr (.inl rfl)), .inr (.inr (.inl rfl)), .inr (.inr (.inl rfl)), .inr (.inr (.inl rfl)), .inr (.inr (.inr (fun _ _ _ _ h h0 => h0.next h))), .inr (.inr (.inl rfl)), .inr (.inr (.inl rfl)), trivial⟩,
            ⟨.inr (.inr (.inr (fun _ _ _ _ _ h => h))), .inr (.inr (.inr (fun _ _ _ _ _ h => h))), .inr (.inr (.inr (fun _ _ _ _ _ h => h))), .inr (.inr (.inr (fun _ _ _ _ _ h => h))), .inr (.inr (.inr (fun _ _ _ _ _ h => h))), .inr (.inr (.inr (fun _ _ _ _ _ h => h))), .inr (.inr (.inr (fun _ _ _ _ _ h => h))), .inr (.inr (.inr (fun _ _ _ _ _ h => h))), .inl rfl, .inr (.inr (.inl rfl)), .inr (.inr (.inl rfl)), .inr (.inr (.inl rfl)), .inr (.inr (.inr (fun _ _ _ _ h h0 => h0.next h))), .inr (.inr (.inl rfl)), .inr (.inr (.inl rfl)), trivial⟩,
            ⟨.inr (.inr (.inr (fun _ _ _ _ _ h => h))), .inr (.inr (.inr (fun _ _ _ _ _ h => h))), .inr (.inr (.inr (fun _ _ _ _ _ h => h))), .inr (.inr (.inr (fun _ _ _ _ _ h => h))), .inr (.inr (.inr (fun _ _ _ _ _ h => h))), .inr (.inr (.inr (fun _ _ _ _ _ h => h))), .inr (.inr (.inr (fun _ _ _ _ _ h => h))), .inr (.inr (.inr (fun _ _ _ _ _ h => h))), .inr (.inr (.inr (fun _ _ _ _ _ h => h))), .inl rfl, .inr (.inr (.inl rfl)), .inr (.inr (.inl rfl)), .inr (.inr (.inr (fun _ _ _ _ h h0 => by cases h; exact h0))), .inr (.inr (.inl rfl)), .inr (.inr (.inl rfl)), trivial⟩,
            ⟨.inr (.inr (.inr (fun _ _ _ _ _ h => h))), .inr (.inr (.inr (fun _ _ _ _ _ h => h))), .inr (.inr (.inr (fun _ _ _ _ _ h => h))), .inr (.inr (.inr (fun _ _ _ _ _ h => h))), .inr (.inr (.inr (fun _ _ _ _ _ h => h))), .inr (.inr (.inr (fun _ _ _ _ _ h => h))), .inr (.inr (.inr (fun _ _ _ _ _ h => h))), .inr (.inr (.inr (fun _ _ _ _ _ h => h))), .inr (.inr (.inr (fun _ _ _ _ _ h => h))), .inr (.inr (.inr (fun _ _ _ _ _ h => h))), .inl rfl, .inr (.inr (.inr (fun _ _ _ _ _ h => h))), .inr (.inr (.inr (fun _ _ _ _ h h0 => by cases h; exact h0))), .inr (.inr (.inl rfl)), .inr (.inr (.inl rfl)), trivial⟩,
            ⟨.inr (.inr (.inr (fun _ _ _ _ _ h => h))), .inr (.inr (.inr (fun _ _ _ _ _ h => h))), .inr (.inr (.inr (fun _ _ _ _ _ h => h))), .inr (.inr (.inr (fun _ _ _ _ _ h => h))), .inr (.inr (.inr (fun _ _ _ _ _ h => h))), .inr (.inr (.inr (fun _ _ _ _ _ h => h))), .inr (.inr (.inr (fun _ _ _ _ _ h => h))), .inr (.inr (.inr (fun _ _ _ _ _ h => h))), .inr (.inr (.inr (fun _ _ _ _ _ h => h))), .inr (.inr (.inr (fun _ _ _ _ _ h => h))), .inr (.inr (.inr (fun _ _ _ _ _ h => h))), .inl rfl, .inr (.inr (.inr (fun _ _ _ _ h h0 => by cases h; exact h0))), .inr (.inr (.inr (fun _ _ _ _ h h0 => by cases h; exact h0))), .inr (.inr (.inl rfl)), trivial⟩,
            ⟨.inr (.inr (.inr (fun _ _ _ _ _ h => h))), .inr (.inr (.inr (fun _ _ _ _ _ h => h))), .inr (.inr (.inr (fun _ _ _ _ _ h => h))), .inr (.inr (.inr (fun _ _ _ _ _ h => h))), .inr (.inr (.inr (fun _ _ _ _ _ h => h))), .inr (.inr (.inr (fun _ _ _ _ _ h => h))), .inr (.inr (.inr (fun _ _ _ _ _ h => h))), .inr (.inr (.inr (fun _ _ _ _ _ h => h))), .inr (.inr (.inr (fun _ _ _ _ _ h => h))), .inr (.inr (.inr (fun _ _ _ _ _ h => h))), .inr (.inr (.inr (fun _ _ _ _ _ h => h))), .inr (.inr (.inr (fun _ _ _ _ _ h => h))), .inl rfl, .inr (.inr (.inl rfl)), .inr (.inr (.inl rfl)), trivial⟩,
            ⟨.inr (.inr (.inr (fun _ _ _ _ _ h => h))), .inr (.inr (.inr (fun _ _ _ _ _ h => h))), .inr (.inr (.inr (fun _ _ _ _ _ h => h))), .inr (.inr (.inr (fun _ _ _ _ _ h => h))), .inr (.inr (.inr (fun _ _ _ _ _ h => h))), .inr (.inr (.inr (fun _ _ _ _ _ h => h))), .inr (.inr (.inr (fun _ _ _ _ _ h => h))), .inr (.inr (.inr (fun _ _ _ _ _ h => h))), .inr (.inr (.inr (fun _ _ _ _ _ h => h))), .inr (.inr (.inr (fun _ _ _ _ _ h => h))), .inr (.inr (.inr (fun _ _ _ _ _ h => h))), .inr (.inr (.inr (fun _ _ _ _ _ h => h))), .inr (.inl rfl), .inl rfl, .inr (.inr (.inl rfl)), trivial⟩,
            ⟨.inr (.inr (.inr (fun _ _ _ _ _ h => h))), .inr (.inr (.inr (fun _ _ _ _ _ h => h))), .inr (.inr (.inr (fun _ _ _ _ _ h => h))), .inr (.inr (.inr (fun _ _ _ _ _ h => h))), .inr (.inr (.inr (fun _ _ _ _ _ h => h))), .inr (.inr (.inr (fun _ _ _ _ _ h => h))), .inr (.inr (.inr (fun _ _ _ _ _ h => h))), .inr (.inr (.inr (fun _ _ _ _ _ h => h))), .inr (.inr (.inr (fun _ _ _ _ _ h => h))), .inr (.inr (.inr (fun _ _ _ _ _ h => h))), .inr (.inr (.inr (fun _ _ _ _ _ h => h))), .inr (.inr (.inr (fun _ _ _ _ _ h => h))), .inr (.inr (.inr (fun _ _ _ _ h h0 => by cases h; exact h0))), .inr (.inr (.inr (fun _ _ _ _ h h0 => by cases h; exact h0))), .inl rfl, trivial⟩, trivial⟩
        · refine ⟨?_, ?_, ?_, ?_, ?_, ?_, ?_, ?_, ?_, ?_, ?_, ?_, ?_, ?_, ?_, trivial⟩
          · -- 0: Op.load 26 (Operand.tmp 8)
            refine step_plain [] (fun _ => rfl) rfl ?_
            intro w1 vals hC1 hi0 hf E hE
            clear hi0
            clear hf
            have hs := HST3.out.next hC1
            simp only [puts, act_put, act_put_none, List.setIfInBounds_toArray, List.set_cons_zero, List.set_cons_succ] at hE ⊢
            refine wpList_get_box (hs.1.1) rfl rfl rfl hu rfl elem_size ?_
            go_wp2_with fail
            exact .mk (hE _ _ rfl hC1 rfl)
          · -- 1: Op.call { callee := Callee.value (Operand.func 50), args := #[Operand.const (Value.int IntKind.i64 1)], argTyp
            refine step_plain [] (fun _ => rfl) rfl ?_
            intro w1 vals hC1 hi0 hf E hE
            clear hi0
            clear hf
            simp only [puts, act_put, act_put_none, List.setIfInBounds_toArray, List.set_cons_zero, List.set_cons_succ] at hE ⊢
            go_wp2_with fail
            refine calls_then (CI.out _) ?_
            rintro e w2 ⟨rfl, hb2⟩
            go_wp2_with fail
            exact .mk (hE _ _ rfl (hC1.trans (hb2.mono hC1.size)) hb2)
          · -- 2: Op.call { callee := Callee.value (Operand.func 48), args := #[Operand.tmp 40, Operand.tmp 41], argTypes := #[2
            refine step_plain [(0, some 40), (1, some 41), (1, some 41)] (fun _ => rfl) rfl ?_
            intro w1 vals hC1 hi0 hf E hE
            clear hi0
            have f0 : vals 0 = .agg (eV Y2) := hf 0 rfl
            have f1 : vals 1 = .agg (eV I) := hf 1 rfl
            try dsimp only at f0 f1
            clear hf
            simp only [puts, act_put, act_put_none, List.setIfInBounds_toArray, List.set_cons_zero, List.set_cons_succ, f0, f1] at hE ⊢
            clear f0 f1
            go_wp2_with fail
            refine calls_then (CU.out _) ?_
            rintro e w2 ⟨rfl, hb2⟩
            go_wp2_with fail
            exact .mk (hE _ _ rfl (hC1.trans (hb2.mono hC1.size)) hb2)
          · -- 3: Op.load 26 (Operand.tmp 8)
            refine step_plain [] (fun _ => rfl) rfl ?_
            intro w1 vals hC1 hi0 hf E hE
            clear hi0
            clear hf
            have hs := HST3.out.next hC1
            simp only [puts, act_put, act_put_none, List.setIfInBounds_toArray, List.set_cons_zero, List.set_cons_succ] at hE ⊢
            refine wpList_get_box (hs.1.1) rfl rfl rfl hu rfl elem_size ?_
            go_wp2_with fail
            exact .mk (hE _ _ rfl hC1 rfl)
          · -- 4: Op.call { callee := Callee.value (Operand.func 31), args := #[], argTypes := #[] }
            refine step_plain [(2, some 42)] (fun _ => rfl) rfl ?_
            intro w1 vals hC1 hi0 hf E hE
            clear hi0
            have f2 : vals 2 = .agg (eV U) := hf 2 rfl
            try dsimp only at f2
            clear hf
            simp only [puts, act_put, act_put_none, List.setIfInBounds_toArray, List.set_cons_zero, List.set_cons_succ, f2] at hE ⊢
            clear f2
            go_wp2_with fail
            refine calls_then (CD.out _) ?_
            rintro e w2 ⟨rfl, hb2⟩
            go_wp2_with fail
            exact .mk (hE _ _ rfl (hC1.trans (hb2.mono hC1.size)) hb2)
          · -- 5: Op.call { callee := Callee.value (Operand.func 38), args := #[Operand.tmp 43, Operand.tmp 44], argTypes := #[2
            refine step_plain [(3, some 43), (4, some 44), (4, some 44)] (fun _ => rfl) rfl ?_
            intro w1 vals hC1 hi0 hf E hE
            clear hi0
            have f3 : vals 3 = .agg (eV Y2) := hf 3 rfl
            have f4 : vals 4 = .agg (eV D) := hf 4 rfl
            try dsimp only at f3 f4
            clear hf
            simp only [puts, act_put, act_put_none, List.setIfInBounds_toArray, List.set_cons_zero, List.set_cons_succ, f3, f4] at hE ⊢
            clear f3 f4
            go_wp2_with fail
            refine calls_then (CDY.out _) ?_
            rintro e w2 ⟨rfl, hb2⟩
            go_wp2_with fail
            exact .mk (hE _ _ rfl (hC1.trans (hb2.mono hC1.size)) hb2)
          · -- 6: Op.call { callee := Callee.value (Operand.func 50), args := #[Operand.const (Value.int IntKind.i64 1)], argTyp
            refine step_plain [(5, some 45)] (fun _ => rfl) rfl ?_
            intro w1 vals hC1 hi0 hf E hE
            clear hi0
            have f5 : vals 5 = .agg (eV DY) := hf 5 rfl
            try dsimp only at f5
            clear hf
            simp only [puts, act_put, act_put_none, List.setIfInBounds_toArray, List.set_cons_zero, List.set_cons_succ, f5] at hE ⊢
            clear f5
            go_wp2_with fail
            refine calls_then (CI.out _) ?_
            rintro e w2 ⟨rfl, hb2⟩
            go_wp2_with fail
            exact .mk (hE _ _ rfl (hC1.trans (hb2.mono hC1.size)) hb2)
          · -- 7: Op.call { callee := Callee.value (Operand.func 32), args := #[Operand.tmp 45, Operand.tmp 46], argTypes := #[2
            refine step_plain [(5, some 45), (6, some 46), (6, some 46)] (fun _ => rfl) rfl ?_
            intro w1 vals hC1 hi0 hf E hE
            clear hi0
            have f5 : vals 5 = .agg (eV DY) := hf 5 rfl
            have f6 : vals 6 = .agg (eV I) := hf 6 rfl
            try dsimp only at f5 f6
            clear hf
            simp only [puts, act_put, act_put_none, List.setIfInBounds_toArray, List.set_cons_zero, List.set_cons_succ, f5, f6] at hE ⊢
            clear f5 f6
            go_wp2_with fail
            refine calls_then (CV.out _) ?_
            rintro e w2 ⟨rfl, hb2⟩
            go_wp2_with fail
            exact .mk (hE _ _ rfl (hC1.trans (hb2.mono hC1.size)) hb2)
          · -- 8: Op.call { callee := Callee.value (Operand.func 53), args := #[Operand.tmp 42, Operand.tmp 47], argTypes := #[2
            refine step_plain [(2, some 42), (7, some 47), (7, some 47)] (fun _ => rfl) rfl ?_
            intro w1 vals hC1 hi0 hf E hE
            clear hi0
            have f2 : vals 2 = .agg (eV U) := hf 2 rfl
            have f7 : vals 7 = .agg (eV V) := hf 7 rfl
            try dsimp only at f2 f7
            clear hf
            simp only [puts, act_put, act_put_none, List.setIfInBounds_toArray, List.set_cons_zero, List.set_cons_succ, f2, f7] at hE ⊢
            clear f2 f7
            go_wp2_with fail
            refine calls_then (CRT.out _) ?_
            rintro e w2 ⟨rfl, hb2⟩
            go_wp2_with fail
            exact .mk (hE _ _ rfl (hC1.trans (hb2.mono hC1.size)) hb2)
          · -- 9: Op.move (Operand.tmp 48)
            refine step_plain [(8, some 48)] (fun _ => rfl) rfl ?_
            intro w1 vals hC1 hi0 hf E hE
            clear hi0
            have f8 : vals 8 = .tuple #[.agg (eV X), .bool ok] := hf 8 rfl
            try dsimp only at f8
            clear hf
            simp only [puts, act_put, act_put_none, List.setIfInBounds_toArray, List.set_cons_zero, List.set_cons_succ, f8] at hE ⊢
            clear f8
            go_wp2
            exact .mk (hE _ _ rfl hC1 rfl)
          · -- 10: Op.extract (Operand.tmp 39) 0
            refine step_plain [(9, some 39)] (fun _ => rfl) rfl ?_
            intro w1 vals hC1 hi0 hf E hE
            clear hi0
            have f9 : vals 9 = .tuple #[.agg (eV X), .bool ok] := hf 9 rfl
            try dsimp only at f9
            clear hf
            simp only [puts, act_put, act_put_none, List.setIfInBounds_toArray, List.set_cons_zero, List.set_cons_succ, f9] at hE ⊢
            clear f9
            go_wp2
            exact .mk (hE _ _ rfl hC1 rfl)
          · -- 11: Op.extract (Operand.tmp 39) 1
            refine step_plain [(9, some 39)] (fun _ => rfl) rfl ?_
            intro w1 vals hC1 hi0 hf E hE
            clear hi0
            have f9 : vals 9 = .tuple #[.agg (eV X), .bool ok] := hf 9 rfl
            try dsimp only at f9
            clear hf
            simp only [puts, act_put, act_put_none, List.setIfInBounds_toArray, List.set_cons_zero, List.set_cons_succ, f9] at hE ⊢
            clear f9
            go_wp2
            exact .mk (hE _ _ rfl hC1 rfl)
          · -- 12: Op.alloc 26
            refine step_plain [] (fun _ => rfl) rfl ?_
            intro w1 vals hC1 hi0 hf E hE
            clear hi0
            clear hf
            simp only [puts, act_put, act_put_none, List.setIfInBounds_toArray, List.set_cons_zero, List.set_cons_succ] at hE ⊢
            go_wp2
            exact .mk (hE _ _ (NewBox.of hC1.size) (hC1.alloc hC1.size _) (below_new _ _))
          · -- 13: Op.store 26 (Operand.tmp 9) (Operand.tmp 49)
            refine step_plain [(12, some 9), (10, some 49), (8, some 48), (0, some 40), (1, some 41), (2, some 42), (3, some 43), (4, some 44), (5, some 45), (6, some 46), (7, some 47), (8, some 48), (9, some 39), (10, some 49), (12, some 9)] (fun _ => rfl) rfl ?_
            intro w1 vals hC1 hi0 hf E hE
            clear hi0
            have f0 : vals 0 = .agg (eV Y2) := hf 0 rfl
            have f1 : vals 1 = .agg (eV I) := hf 1 rfl
            have f2 : vals 2 = .agg (eV U) := hf 2 rfl
            have f3 : vals 3 = .agg (eV Y2) := hf 3 rfl
            have f4 : vals 4 = .agg (eV D) := hf 4 rfl
            have f5 : vals 5 = .agg (eV DY) := hf 5 rfl
            have f6 : vals 6 = .agg (eV I) := hf 6 rfl
            have f7 : vals 7 = .agg (eV V) := hf 7 rfl
            have f8 : vals 8 = .tuple #[.agg (eV X), .bool ok] := hf 8 rfl
            have f9 : vals 9 = .tuple #[.agg (eV X), .bool ok] := hf 9 rfl
            have f10 : vals 10 = .agg (eV X) := hf 10 rfl
            have f12 : (NewBox v9.heap.size 26 (eV zE)) (vals 12) w1 := hf 12 rfl
            try dsimp only at f0 f1 f2 f3 f4 f5 f6 f7 f8 f9 f10 f12
            clear hf
            obtain ⟨o, hx, ho, hblk⟩ := f12
            have hx' := hx
            simp only [puts, act_put, act_put_none, List.setIfInBounds_toArray, List.set_cons_zero, List.set_cons_succ, f0, f1, f2, f3, f4, f5, f6, f7, f8, f9, f10, hx] at hE ⊢
            clear f0 f1 f2 f3 f4 f5 f6 f7 f8 f9 f10
            clear hx
            refine wpList_put_box (cells := eV X) hblk rfl rfl rfl rfl elem_size rfl (by simp [eV, wV, limbs, Value.oneCell']) ?_
            intro w2 hb2 hw2
            go_wp2_with fail
            exact .mk (hE undef _ ⟨o, hx', ho, hb2⟩ (hw2.below hC1 ho hC1.size) trivial)
          · -- 14: Op.assign (Operand.tmp 50)
            refine step_plain [(11, some 50), (13, none), (0, some 40), (1, some 41), (2, some 42), (3, some 43), (4, some 44), (5, some 45), (6, some 46), (7, some 47), (8, some 48), (9, some 39), (10, some 49), (11, some 50), (12, some 9), (13, none)] (fun _ => rfl) rfl ?_
            intro w1 vals hC1 hi0 hf E hE
            clear hi0
            have f0 : vals 0 = .agg (eV Y2) := hf 0 rfl
            have f1 : vals 1 = .agg (eV I) := hf 1 rfl
            have f2 : vals 2 = .agg (eV U) := hf 2 rfl
            have f3 : vals 3 = .agg (eV Y2) := hf 3 rfl
            have f4 : vals 4 = .agg (eV D) := hf 4 rfl
            have f5 : vals 5 = .agg (eV DY) := hf 5 rfl
            have f6 : vals 6 = .agg (eV I) := hf 6 rfl
            have f7 : vals 7 = .agg (eV V) := hf 7 rfl
            have f8 : vals 8 = .tuple #[.agg (eV X), .bool ok] := hf 8 rfl
            have f9 : vals 9 = .tuple #[.agg (eV X), .bool ok] := hf 9 rfl
            have f10 : vals 10 = .agg (eV X) := hf 10 rfl
            have f11 : vals 11 = .bool ok := hf 11 rfl
            have f13 : (fun z u => NewBox v9.heap.size 26 (eV X) (z 12) u) vals w1 := hf 13 rfl
            try dsimp only at f0 f1 f2 f3 f4 f5 f6 f7 f8 f9 f10 f11 f13
            clear hf
            simp only [puts, act_put, act_put_none, List.setIfInBounds_toArray, List.set_cons_zero, List.set_cons_succ, f0, f1, f2, f3, f4, f5, f6, f7, f8, f9, f10, f11] at hE ⊢
            clear f0 f1 f2 f3 f4 f5 f6 f7 f8 f9 f10 f11
            go_wp2
            exact .mk (hE _ _ rfl hC1 rfl)
        intro w1 vals hC1 hf
        have f0 : vals 0 = .agg (eV Y2) := hf 0 (by decide) rfl
        have f1 : vals 1 = .agg (eV I) := hf 1 (by decide) rfl
        have f2 : vals 2 = .agg (eV U) := hf 2 (by decide) rfl
        have f3 : vals 3 = .agg (eV Y2) := hf 3 (by decide) rfl
        have f4 : vals 4 = .agg (eV D) := hf 4 (by decide) rfl
        have f5 : vals 5 = .agg (eV DY) := hf 5 (by decide) rfl
        have f6 : vals 6 = .agg (eV I) := hf 6 (by decide) rfl
        have f7 : vals 7 = .agg (eV V) := hf 7 (by decide) rfl
        have f8 : vals 8 = .tuple #[.agg (eV X), .bool ok] := hf 8 (by decide) rfl
        have f9 : vals 9 = .tuple #[.agg (eV X), .bool ok] := hf 9 (by decide) rfl
        have f10 : vals 10 = .agg (eV X) := hf 10 (by decide) rfl
        have f11 : vals 11 = .bool ok := hf 11 (by decide) rfl
        have f13 : (fun z u => NewBox v9.heap.size 26 (eV X) (z 12) u) vals w1 := hf 13 (by decide) rfl
        have f14 : vals 14 = .bool ok := hf 14 (by decide) rfl
        try dsimp only at f0 f1 f2 f3 f4 f5 f6 f7 f8 f9 f10 f11 f13 f14
        clear hf
        simp only [puts, act_put, act_put_none, List.setIfInBounds_toArray, List.set_cons_zero, List.set_cons_succ, f0, f1, f2, f3, f4, f5, f6, f7, f8, f9, f10, f11, f14]
        clear f0 f1 f2 f3 f4 f5 f6 f7 f8 f9 f10 f11 f14
        generalize vals 12 = x12 at *
        obtain ⟨o9, rfl, hlo, hblk⟩ := f13
        have HST4 := Lib.hid (show Cs [.box o9 26 (eV X), .box g8 26 (eV Y2), .box g6 26 (eV E), .box g0 28 (ptV zP)] w w1 from ⟨⟨hblk, (HST3.out.next hC1).1⟩, (HST3.out.next hC1).2⟩)
        clear hC1 HC0 hblk hlo HST3
        obtain ⟨y1, rfl⟩ : ∃ x, x = w1 := ⟨_, rfl⟩
        cases ok
        · go_wp2_with (refine wpList_put_box (x := .tmp 2) (cells := ptV zP) (HST4.out.1.2.2.2.1) rfl rfl rfl rfl point_size rfl (by simp [ptV, zP, wV, limbs, Value.oneCell']) ?_; intro w9 hb9 hw9; have HR9 := Lib.hid hb9; have HW9 := Lib.hid hw9; clear hb9 hw9)
          refine bodyPost_ret (results_box_tmp (P := Try.prog) rfl rfl HR9.out hp rfl point_size) rfl ?_
          have eR : R = (zP, 2) := by simpa [HRR.out] using HR.out
          rw [eR]
          exact ⟨rfl, HW9.out.below HST4.out.2 (Nat.le_of_eq HG0.out) HST4.out.2.size⟩
        · go_wp2_with (refine wpList_get_box (x := .tmp 9) (HST4.out.1.1) rfl rfl rfl hu rfl elem_size ?_)
          refine calls_then (COD.out _) ?_
          rintro e w10 ⟨rfl, hb⟩
          have HST5 := Lib.hid (HST4.out.next hb)
          clear hb HST4
          cases ob
          · go_wp2_with (refine wpList_get_box (x := .tmp 9) (HST5.out.1.1) rfl rfl rfl hu rfl elem_size ?_)
            refine calls_then (CZB.out _) ?_
            rintro e w11 ⟨rfl, hb⟩
            have HST6 := Lib.hid (HST5.out.next hb)
            clear hb HST5
            cases zb
            · go_wp2_with fail
              have HC0 := HST6.out.drew
              clear HST6
              refine wp_region_tailq (fun u => Cs [.box o9 26 (eV X), .box g8 26 (eV Y2), .box g6 26 (eV E), .box g0 28 (ptV zP)] w u) (fun _ => false) 5 [(0, some 68), (1, some 69), (2, some 70), (3, some 71), (4, some 72), (5, none), (6, some 3)] (by kernel_rfl) (by kernel_rfl) (by decide) (by kernel_rfl) (fun _ => rfl) HC0 ?_
              apply DetQ.next
              · -- 0: Op.build 26 #[]
                apply detStepQ_of
                apply detStep_plain []
                exact fun _ => rfl
                rfl
                rintro vals - w1 hC1 E hE
                simp only [puts, act_put, act_put_none, List.setIfInBounds_toArray, List.set_cons_zero, List.set_cons_succ] at hE ⊢
                go_wp2
                exact .mk (hE _ hC1)
              apply DetQ.next
              · -- 1: Op.load 26 (Operand.tmp 9)
                apply detStepQ_of
                apply detStep_plain []
                exact fun _ => rfl
                rfl
                rintro vals ⟨-, -⟩ w1 hC1 E hE
                simp only [puts, act_put, act_put_none, List.setIfInBounds_toArray, List.set_cons_zero, List.set_cons_succ] at hE ⊢
                refine wpList_get_box (hC1.1.1) rfl rfl rfl hu rfl elem_size ?_
                go_wp2_with fail
                exact .mk (hE _ hC1)
              apply DetQ.next
              · -- 2: Op.call { callee := Callee.value (Operand.func 48), args := #[Operand.tmp 68, Operand.tmp 69], argTypes := #[2
                apply detStepQ_of
                apply detStep_plain [(0, some 68), (1, some 69)]
                exact fun _ => rfl
                rfl
                rintro vals ⟨⟨-, f0⟩, f1⟩ w1 hC1 E hE
                simp only [puts, act_put, act_put_none, List.setIfInBounds_toArray, List.set_cons_zero, List.set_cons_succ, f0, f1] at hE ⊢
                clear f0 f1
                go_wp2_with fail
                refine calls_then (CNX.out _) ?_
                rintro e w2 ⟨rfl, hb2⟩
                go_wp2_with fail
                exact .mk (hE _ (hC1.next hb2))
              apply DetQ.next
              · -- 3: Op.load 26 (Operand.tmp 6)
                apply detStepQ_of
                apply detStep_plain []
                exact fun _ => rfl
                rfl
                rintro vals ⟨⟨⟨-, -⟩, -⟩, -⟩ w1 hC1 E hE
                simp only [puts, act_put, act_put_none, List.setIfInBounds_toArray, List.set_cons_zero, List.set_cons_succ] at hE ⊢
                refine wpList_get_box (hC1.1.2.2.1) rfl rfl rfl hu rfl elem_size ?_
                go_wp2_with fail
                exact .mk (hE _ hC1)
              apply DetQ.next
              · -- 4: Op.call { callee := Callee.value (Operand.func 30), args := #[Operand.tmp 70, Operand.tmp 71], argTypes := #[2
                apply detStepQ_of
                apply detStep_plain [(2, some 70), (3, some 71), (2, some 70)]
                exact fun _ => rfl
                rfl
                rintro vals ⟨⟨⟨⟨-, -⟩, -⟩, f2⟩, f3⟩ w1 hC1 E hE
                simp only [puts, act_put, act_put_none, List.setIfInBounds_toArray, List.set_cons_zero, List.set_cons_succ, f2, f3] at hE ⊢
                clear f2 f3
                go_wp2_with fail
                refine calls_then (CO2.out _) ?_
                rintro e w2 ⟨rfl, hb2⟩
                go_wp2_with fail
                exact .mk (hE _ (hC1.next hb2))
              apply DetQ.done
              rintro vals ⟨⟨⟨⟨⟨-, f0⟩, f1⟩, f2⟩, f3⟩, f4⟩ w1 hC1
              -- 5: Op.store 28 (Operand.tmp 2) (Operand.tmp 72)
              refine tail_step [(4, some 72), (4, some 72), (0, some 68), (1, some 69), (2, some 70), (3, some 71), (4, some 72)] (fun _ => rfl) rfl ?_
              intro E hE
              simp only [puts, act_put, act_put_none, List.setIfInBounds_toArray, List.set_cons_zero, List.set_cons_succ, f0, f1, f2, f3, f4] at hE ⊢
              refine wpList_put_box (x := .tmp 2) (cells := ptV Q2) (hC1.1.2.2.2.1) rfl rfl rfl rfl point_size rfl (by simp [ptV, wV, limbs, Value.oneCell']) ?_
              intro y9 hb9 hw9
              have HR9 := Lib.hid hb9
              have HW9 := Lib.hid hw9
              clear hb9 hw9
              go_wp2_with fail
              refine .mk (hE undef _ ?_)
              clear hE E
              generalize hval : upd _ 5 _ = vals5
              replace f0 := (congrFun hval 0).symm.trans ((upd_ne (by decide)).trans f0)
              replace f1 := (congrFun hval 1).symm.trans ((upd_ne (by decide)).trans f1)
              replace f2 := (congrFun hval 2).symm.trans ((upd_ne (by decide)).trans f2)
              replace f3 := (congrFun hval 3).symm.trans ((upd_ne (by decide)).trans f3)
              replace f4 := (congrFun hval 4).symm.trans ((upd_ne (by decide)).trans f4)
              have f5 := (congrFun hval 5).symm.trans (upd_self _ _ _)
              clear hval
              -- 6: Op.assign (Operand.const (Value.int IntKind.i64 0))
              refine tail_step [(5, none), (0, some 68), (1, some 69), (2, some 70), (3, some 71), (4, some 72), (5, none)] (fun _ => rfl) rfl ?_
              intro E hE
              simp only [puts, act_put, act_put_none, List.setIfInBounds_toArray, List.set_cons_zero, List.set_cons_succ, f0, f1, f2, f3, f4, f5] at hE ⊢
              go_wp2
              refine .mk (hE _ _ ?_)
              clear hE E
              generalize hval : upd _ 6 _ = vals6
              replace f0 := (congrFun hval 0).symm.trans ((upd_ne (by decide)).trans f0)
              replace f1 := (congrFun hval 1).symm.trans ((upd_ne (by decide)).trans f1)
              replace f2 := (congrFun hval 2).symm.trans ((upd_ne (by decide)).trans f2)
              replace f3 := (congrFun hval 3).symm.trans ((upd_ne (by decide)).trans f3)
              replace f4 := (congrFun hval 4).symm.trans ((upd_ne (by decide)).trans f4)
              replace f5 := (congrFun hval 5).symm.trans ((upd_ne (by decide)).trans f5)
              have f6 := (congrFun hval 6).symm.trans (upd_self _ _ _)
              clear hval
              refine tail_end ?_
              simp only [puts, act_put, act_put_none, List.setIfInBounds_toArray, List.set_cons_zero, List.set_cons_succ, f0, f1, f2, f3, f4, f5, f6]
              clear f0 f1 f2 f3 f4 f5 f6
              have HST7 := Lib.hid hC1
              clear hC1 HC0
              go_wp2_with fail
              refine bodyPost_ret (results_box_tmp (P := Try.prog) rfl rfl HR9.out hp rfl point_size) rfl ?_
              have eR : R = (Q2, 0) := by simpa [HRR.out] using HR.out
              rw [eR]
              exact ⟨rfl, HW9.out.below HST7.out.2 (Nat.le_of_eq HG0.out) HST7.out.2.size⟩
            · go_wp2_with (refine wpList_put_box (x := .tmp 2) (cells := ptV zP) (HST6.out.1.2.2.2.1) rfl rfl rfl rfl point_size rfl (by simp [ptV, zP, wV, limbs, Value.oneCell']) ?_; intro w9 hb9 hw9; have HR9 := Lib.hid hb9; have HW9 := Lib.hid hw9; clear hb9 hw9)
              refine bodyPost_ret (results_box_tmp (P := Try.prog) rfl rfl HR9.out hp rfl point_size) rfl ?_
              have eR : R = (zP, 2) := by simpa [HRR.out] using HR.out
              rw [eR]
              exact ⟨rfl, HW9.out.below HST6.out.2 (Nat.le_of_eq HG0.out) HST6.out.2.size⟩
          · go_wp2_with (first | (refine wpList_get_box (x := .tmp 9) (HST5.out.1.1) rfl rfl rfl hu rfl elem_size ?_) | (refine wpList_get_box (x := .tmp 6) (HST5.out.1.2.2.1) rfl rfl rfl hu rfl elem_size ?_))
            refine calls_then (CO1.out _) ?_
            rintro e w11 ⟨rfl, hb⟩
            have HST6 := Lib.hid (HST5.out.next hb)
            clear hb HST5
            go_wp2_with (refine wpList_put_box (x := .tmp 2) (cells := ptV Q1) (HST6.out.1.2.2.2.1) rfl rfl rfl rfl point_size rfl (by simp [ptV, wV, limbs, Value.oneCell']) ?_; intro w9 hb9 hw9; have HR9 := Lib.hid hb9; have HW9 := Lib.hid hw9; clear hb9 hw9)
            refine bodyPost_ret (results_box_tmp (P := Try.prog) rfl rfl HR9.out hp rfl point_size) rfl ?_
            have eR : R = (Q1, 0) := by simpa [HRR.out] using HR.out
            rw [eR]
            exact ⟨rfl, HW9.out.below HST6.out.2 (Nat.le_of_eq HG0.out) HST6.out.2.size⟩
    · go_wp2_with (refine wpList_put_cell (x := .tmp 26) (i := 31) (v := .int .u8 ((d % 128 : Nat) : Int)) HQ.out rfl rfl rfl rfl u8_size (by rw [List.size_toArray, List.length_append, bnVl, HLL.out]; omega) rfl ?_; intro w5 hb5 hw5; have HB5 := Lib.hid hb5; have HW5 := Lib.hid hw5; clear hb5 hw5)
      have hq := HB5.out
      rw [set_front (by rw [bnVl, HLL.out]; decide), show (bnV L).set 31 (.int .u8 ((d % 128 : Nat) : Int)) = bnV (L.set 31 (d % 128)) by simp [bnV, List.map_set], HMS.out, ← HQV.out] at hq
      have HM5 := Lib.hid (Rd.of_blk hq hq.lt).front
      have HP5 := Lib.hid (HW5.out.blk HP1.out HNE.out)
      have HBB := Lib.hid (HW5.out.below HB1.out HG1.out HB1.out.size)
      clear hq dl hfr HB5 HW5 HQ HP1 HB1 hand hge hb2 hd256 HMS HQV HLL HDD HNE HG1
      refine calls_then (CRD.out _ _ _ HC1.out HM5.out) ?_
      rintro e w6 ⟨rfl, hb⟩
      have HST0 := Lib.hid (show Cs [.box w.heap.size 28 (ptV zP)] w w6 from ⟨⟨HP5.out.below hb HP5.out.lt, trivial⟩, HBB.out.trans (hb.mono HBB.out.size)⟩)
      clear hb HM5 HBB HP5
      generalize hg0 : w.heap.size = g0 at HST0 ⊢
      have HG0 := Lib.hid hg0
      clear hg0
      cases may
      · obtain rfl : F = 2 := HF.out
        go_wp2_with (first | (refine wpList_put_box (x := .tmp 6) (cells := eV E) (Blk.new _ _ _) rfl rfl rfl rfl elem_size rfl (by simp [eV, wV, limbs, Value.oneCell']) ?_; intro w7 hb hw; have hk := box_low hw; have HST1 := Lib.hid (show Cs [.box w6.heap.size 26 (eV E), .box g0 28 (ptV zP)] w w7 from ⟨⟨hb, (HST0.out.next hk).1⟩, (HST0.out.next hk).2⟩); clear hb hw hk HST0) | (refine wpList_put_box (x := .tmp 2) (cells := ptV zP) (HST1.out.1.2.1) rfl rfl rfl rfl point_size rfl (by simp [ptV, zP, wV, limbs, Value.oneCell']) ?_; intro w9 hb9 hw9; have HR9 := Lib.hid hb9; have HW9 := Lib.hid hw9; clear hb9 hw9))
        refine bodyPost_ret (results_box_tmp (P := Try.prog) rfl rfl HR9.out hp rfl point_size) rfl ?_
        have eR : R = (zP, 2) := by simpa [HRR.out] using HR.out
        rw [eR]
        exact ⟨rfl, HW9.out.below HST1.out.2 (Nat.le_of_eq HG0.out) HST1.out.2.size⟩
      · obtain rfl : F = 0 := HF.out
        go_wp2_with (first | (refine wpList_put_box (x := .tmp 6) (cells := eV E) (Blk.new _ _ _) rfl rfl rfl rfl elem_size rfl (by simp [eV, wV, limbs, Value.oneCell']) ?_; intro w7 hb hw; have hk := box_low hw; have HST1 := Lib.hid (show Cs [.box w6.heap.size 26 (eV E), .box g0 28 (ptV zP)] w w7 from ⟨⟨hb, (HST0.out.next hk).1⟩, (HST0.out.next hk).2⟩); clear hb hw hk HST0) | (refine wpList_get_box (x := .tmp 6) (HST1.out.1.1) rfl rfl rfl hu rfl elem_size ?_))
        generalize w6.heap.size = g6 at *
        refine calls_then (CY2.out _) ?_
        rintro e w8 ⟨rfl, hb⟩
        have HST2 := Lib.hid (HST1.out.next hb)
        clear hb HST1
        go_wp2_with (refine wpList_put_box (x := .tmp 8) (cells := eV Y2) (Blk.new _ _ _) rfl rfl rfl rfl elem_size rfl (by simp [eV, wV, limbs, Value.oneCell']) ?_; intro v9 hb hw; have hk := box_low hw; have HST3 := Lib.hid (show Cs [.box w8.heap.size 26 (eV Y2), .box g6 26 (eV E), .box g0 28 (ptV zP)] w v9 from ⟨⟨hb, (HST2.out.next hk).1⟩, (HST2.out.next hk).2⟩); clear hb hw hk HST2)
        generalize w8.heap.size = g8 at *
        have HC0 : Below v9.heap.size v9 v9.drew := (Below.refl _ _).drew
        refine wp_region_list (fun u => Below v9.heap.size v9 u) (fun | false => (fun _ => True) | true => (fun _ => True)) (fun | false, _ => false | true, _ => false)
          [fun z _ => z 0 = .agg (eV Y2),
           fun z _ => z 1 = .agg (eV I),
           fun z _ => z 2 = .agg (eV U),
           fun z _ => z 3 = .agg (eV Y2),
           fun z _ => z 4 = .agg (eV D),
           fun z _ => z 5 = .agg (eV DY),
           fun z _ => z 6 = .agg (eV I),
           fun z _ => z 7 = .agg (eV V),
           fun z _ => z 8 = .tuple #[.agg (eV X), .bool ok],
           fun z _ => z 9 = .tuple #[.agg (eV X), .bool ok],
           fun z _ => z 10 = .agg (eV X),
           fun z _ => z 11 = .bool ok,
           fun z u => (NewBox v9.heap.size 26 (eV zE)) (z 12) u,
           fun z u => NewBox v9.heap.size 26 (eV X) (z 12) u,
           fun z _ => z 14 = .bool ok]
          [Eq, fun u u' => Below u.heap.size u u', fun u u' => Below u.heap.size u u', Eq, fun u u' => Below u.heap.size u u', fun u u' => Below u.heap.size u u', fun u u' => Below u.heap.size u u', fun u u' => Below u.heap.size u u', fun u u' => Below u.heap.size u u', Eq, Eq, Eq, fun u u' => Below u.heap.size u u', fun _ _ => True, Eq]
          (fun i k => (i == 13 && k == 12)) [(0, some 40), (1, some 41), (2, some 42), (3, some 43), (4, some 44), (5, some 45), (6, some 46), (7, some 47), (8, some 48), (9, some 39), (10, some 49), (11, some 50), (12, some 9), (13, none), (14, some 10)] (by kernel_rfl) (by kernel_rfl) rfl (fun _ => rfl) ?_ ?_ ?_ ?_ ?_ ?_
        · exact HC0
        · intro m; cases m; exact trivial; exact trivial
        · intro m; cases m
          · exact ⟨.inr (fun _ _ h h0 => h ▸ h0), .inr (fun _ _ _ h => h), .inr (fun _ _ _ h => h), .inr (fun _ _ h h0 => h ▸ h0), .inr (fun _ _ _ h => h), .inr (fun _ _ _ h => h), .inr (fun _ _ _ h => h), .inr (fun _ _ _ h => h), .inr (fun _ _ _ h => h), .inr (fun _ _ h h0 => h ▸ h0), .inr (fun _ _ h h0 => h ▸ h0), .inr (fun _ _ h h0 => h ▸ h0), .inr (fun _ _ _ h => h), .inr (fun _ _ _ h => h), .inr (fun _ _ h h0 => h ▸ h0), trivial⟩
          · exact ⟨.inr (fun _ _ h h0 => h ▸ h0), .inr (fun _ _ _ h => h), .inr (fun _ _ _ h => h), .inr (fun _ _ h h0 => h ▸ h0), .inr (fun _ _ _ h => h), .inr (fun _ _ _ h => h), .inr (fun _ _ _ h => h), .inr (fun _ _ _ h => h), .inr (fun _ _ _ h => h), .inr (fun _ _ h h0 => h ▸ h0), .inr (fun _ _ h h0 => h ▸ h0), .inr (fun _ _ h h0 => h ▸ h0), .inr (fun _ _ _ h => h), .inr (fun _ _ _ h => h), .inr (fun _ _ h h0 => h ▸ h0), trivial⟩
        · exact ⟨⟨.inl rfl, .inr (.inr (.inr (fun _ _ _ _ _ h => h))), .inr (.inr (.inl rfl)), .inr (.inr (.inr (fun _ _ _ _ _ h => h))), .inr (.inr (.inl rfl)), .inr (.inr (.inl rfl)), .inr (.inr (.inr (fun _ _ _ _ _ h => h))), .inr (.inr (.inr (fun _ _ _ _ _ h => h))), .inr (.inr (.inl rfl)), .inr (.inr (.inl rfl)), .inr (.inr (.inr (fun _ _ _ _ _ h => h))), .inr (.inr (.inr (fun _ _ _ _ _ h => h))), .inr (.inr (.inr (fun _ _ _ _ h h0 => by cases h; exact h0))), .inr (.inr (.inl rfl)), .inr (.inr (.inl rfl)), trivial⟩,
            ⟨.inr (.inr (.inr (fun _ _ _ _ _ h => h))), .inl rfl, .inr (.inr (.inl rfl)), .inr (.inr (.inr (fun _ _ _ _ _ h => h))), .inr (.inr (.inl rfl)), .inr (.inr (.inl rfl)), .inr (.inr (.inr (fun _ _ _ _ _ h => h))), .inr (.inr (.inr (fun _ _ _ _ _ h => h))), .inr (.inr (.inl rfl)), .inr (.inr (.inl rfl)), .inr (.inr (.inr (fun _ _ _ _ _ h => h))), .inr (.inr (.inr (fun _ _ _ _ _ h => h))), .inr (.inr (.inr (fun _ _ _ _ h h0 => h0.next h))), .inr (.inr (.inl rfl)), .inr (.inr (.inl rfl)), trivial⟩,
            ⟨.inr (.inr (.inr (fun _ _ _ _ _ h => h))), .inr (.inr (.inr (fun _ _ _ _ _ h => h))), .inl rfl, .inr (.inr (.inr (fun _ _ _ _ _ h => h))), .inr (.inr (.inl rfl)), .inr (.inr (.inl rfl)), .inr (.inr (.inl rfl)), .inr (.inr (.inl rfl)), .inr (.inr (.inl rfl)), .inr (.inr (.inl rfl)), .inr (.inr (.inl rfl)), .inr (.inr (.inl rfl)), .inr (.inr (.inr (fun _ _ _ _ h h0 => h0.next h))), .inr (.inr (.inl rfl)), .inr (.inr (.inl rfl)), trivial⟩,
            ⟨.inr (.inr (.inr (fun _ _ _ _ _ h => h))), .inr (.inr (.inr (fun _ _ _ _ _ h => h))), .inr (.inr (.inr (fun _ _ _ _ _ h => h))), .inl rfl, .inr (.inr (.inr (fun _ _ _ _ _ h => h))), .inr (.inr (.inl rfl)), .inr (.inr (.inl rfl)), .inr (.inr (.inl rfl)), .inr (.inr (.inl rfl)), .inr (.inr (.inr (fun _ _ _ _ _ h => h))), .inr (.inr (.inr (fun _ _ _ _ _ h => h))), .inr (.inr (.inr (fun _ _ _ _ _ h => h))), .inr (.inr (.inr (fun _ _ _ _ h h0 => by cases h; exact h0))), .inr (.inr (.inl rfl)), .inr (.inr (.inl rfl)), trivial⟩,
            ⟨.inr (.inr (.inr (fun _ _ _ _ _ h => h))), .inr (.inr (.inr (fun _ _ _ _ _ h => h))), .inr (.inr (.inr (fun _ _ _ _ _ h => h))), .inr (.inr (.inr (fun _ _ _ _ _ h => h))), .inl rfl, .inr (.inr (.inl rfl)), .inr (.inr (.inl rfl)), .inr (.inr (.inl rfl)), .inr (.inr (.inl rfl)), .inr (.inr (.inr (fun _ _ _ _ _ h => h))), .inr (.inr (.inr (fun _ _ _ _ _ h => h))), .inr (.inr (.inr (fun _ _ _ _ _ h => h))), .inr (.inr (.inr (fun _ _ _ _ h h0 => h0.next h))), .inr (.inr (.inl rfl)), .inr (.inr (.inl rfl)), trivial⟩,
            ⟨.inr (.inr (.inr (fun _ _ _ _ _ h => h))), .inr (.inr (.inr (fun _ _ _ _ _ h => h))), .inr (.inr (.inr (fun _ _ _ _ _ h => h))), .inr (.inr (.inr (fun _ _ _ _ _ h => h))), .inr (.inr (.inr (fun _ _ _ _ _ h => h))), .inl rfl, .inr (.inr (.inl rfl)), .inr (.inr (.inl rfl)), .inr (.inr (.inl rfl)), .inr (.inr (.inl rfl)), .inr (.inr (.inr (fun _ _ _ _ _ h => h))), .inr (.inr (.inr (fun _ _ _ _ _ h => h))), .inr (.inr (.inr (fun _ _ _ _ h h0 => h0.next h))), .inr (.inr (.inl rfl)), .inr (.inr (.inl rfl)), trivial⟩,
            ⟨.inr (.inr (.inr (fun _ _ _ _ _ h => h))), .inr (.inr (.inr (fun _ _ _ _ _ h => h))), .inr (.inr (.inr (fun _ _ _ _ _ h => h))), .inr (.inr (.inr (fun _ _ _ _ _ h => h))), .inr (.inr (.inr (fun _ _ _ _ _ h => h))), .inr (.inr (.inr (fun _ _ _ _ _ h => h))), .inl rfl, .inr (.inr (.inl rfl)), .inr (.inr (.inl rfl)), .inr (.inr (.inl rfl)), .inr (.inr (.inr (fun _ _ _ _ _ h => h))), .inr (.inr (.inr (fun _ _ _ _ _ h => h))), .inr (.inr (.inr (fun _ _ _ _ h h0 => h0.next h))), .inr (.inr (.inl rfl)), .inr (.inr (.inl rfl)), trivial⟩,
            ⟨.inr (.inr (.inr (fun _ _ _ _ _ h => h))), .inr (.inr (.inr (fun _ _ _ _ _ h => h))), .inr (.inr (.inr (fun _ _ _ _ _ h => h))), .inr (.inr (.inr (fun _ _ _ _ _ h => h))), .inr (.inr (.inr (fun _ _ _ _ _ h => h))), .inr (.inr (.inr (fun _ _ _ _ _ h => h))), .inr (.inr (.inr (fun _ _ _ _ _ h => h))), .inl rfl, .inr (.inr (.inl rfl)), .inr (.inr (.inl rfl)), .inr (.inr (.inl rfl)), .inr (.inr (.inl rfl)), .inr (.inr (.inr (fun _ _ _ _ h h0 => h0.next h))), .inr (.inr (.inl rfl)), .inr (.inr (.inl rfl)), trivial⟩,
            ⟨.inr (.inr (.inr (fun _ _ _ _ _ h => h))), .inr (.inr (.inr (fun _ _ _ _ _ h => h))), .inr (.inr (.inr (fun _ _ _ _ _ h => h))), .inr (.inr (.inr (fun _ _ _ _ _ h => h))), .inr (.inr (.inr (fun _ _ _ _ _ h => h))), .inr (.inr (.inr (fun _ _ _ _ _ h => h))), .inr (.inr (.inr (fun _ _ _ _ _ h => h))), .inr (.inr (.inr (fun _ _ _ _ _ h => h))), .inl rfl, .inr (.inr (.inl rfl)), .inr (.inr (.inl rfl)), .inr (.inr (.inl rfl)), .inr (.inr (.inr (fun _ _ _ _ h h0 => h0.next h))), .inr (.inr (.inl rfl)), .inr (.inr (.inl rfl)), trivial⟩,
            ⟨.inr (.inr (.inr (fun _ _ _ _ _ h => h))), .inr (.inr (.inr (fun _ _ _ _ _ h => h))), .inr (.inr (.inr (fun _ _ _ _ _ h => h))), .inr (.inr (.inr (fun _ _ _ _ _ h => h))), .inr (.inr (.inr (fun _ _ _ _ _ h => h))), .inr (.inr (.inr (fun _ _ _ _ _ h => h))), .inr (.inr (.inr (fun _ _ _ _ _ h => h))), .inr (.inr (.inr (fun _ _ _ _ _ h => h))), .inr (.inr (.inr (fun _ _ _ _ _ h => h))), .inl rfl, .inr (.inr (.inl rfl)), .inr (.inr (.inl rfl)), .inr (.inr (.inr (fun _ _ _ _ h h0 => by cases h; exact h0))), .inr (.inr (.inl rfl)), .inr (.inr (.inl rfl)), trivial⟩,
            ⟨.inr (.inr (.inr (fun _ _ _ _ _ h => h))), .inr (.inr (.inr (fun _ _ _ _ _ h => h))), .inr (.inr (.inr (fun _ _ _ _ _ h => h))), .inr (.inr (.inr (fun _ _ _ _ _ h => h))), .inr (.inr (.inr (fun _ _ _ _ _ h => h))), .inr (.inr (.inr (fun _ _ _ _ _ h => h))), .inr (.inr (.inr (fun _ _ _ _ _ h => h))), .inr (.inr (.inr (fun _ _ _ _ _ h => h))), .inr (.inr (.inr (fun _ _ _ _ _ h => h))), .inr (.inr (.inr (fun _ _ _ _ _ h => h))), .inl rfl, .inr (.inr (.inr (fun _ _ _ _ _ h => h))), .inr (.inr (.inr (fun _ _ _ _ h h0 => by cases h; exact h0))), .inr (.inr (.inl rfl)), .inr (.inr (.inl rfl)), trivial⟩,
            ⟨.inr (.inr (.inr (fun _ _ _ _ _ h => h))), .inr (.inr (.inr (fun _ _ _ _ _ h => h))), .inr (.inr (.inr (fun _ _ _ _ _ h => h))), .inr (.inr (.inr (fun _ _ _ _ _ h => h))), .inr (.inr (.inr (fun _ _ _ _ _ h => h))), .inr (.inr (.inr (fun _ _ _ _ _ h => h))), .inr (.inr (.inr (fun _ _ _ _ _ h => h))), .inr (.inr (.inr (fun _ _ _ _ _ h => h))), .inr (.inr (.inr (fun _ _ _ _ _ h => h))), .inr (.inr (.inr (fun _ _ _ _ _ h => h))), .inr (.inr (.inr (fun _ _ _ _ _ h => h))), .inl rfl, .inr (.inr (.inr (fun _ _ _ _ h h0 => by cases h; exact h0))), .inr (.inr (.inr (fun _ _ _ _ h h0 => by cases h; exact h0))), .inr (.inr (.inl rfl)), trivial⟩,
            ⟨.inr (.inr (.inr (fun _ _ _ _ _ h => h))), .inr (.inr (.inr (fun _ _ _ _ _ h => h))), .inr (.inr (.inr (fun _ _ _ _ _ h => h))), .inr (.inr (.inr (fun _ _ _ _ _ h => h))), .inr (.inr (.inr (fun _ _ _ _ _ h => h))), .inr (.inr (.inr (fun _ _ _ _ _ h => h))), .inr (.inr (.inr (fun _ _ _ _ _ h => h))), .inr (.inr (.inr (fun _ _ _ _ _ h => h))), .inr (.inr (.inr (fun _ _ _ _ _ h => h))), .inr (.inr (.inr (fun _ _ _ _ _ h => h))), .inr (.inr (.inr (fun _ _ _ _ _ h => h))), .inr (.inr (.inr (fun _ _ _ _ _ h => h))), .inl rfl, .inr (.inr (.inl rfl)), .inr (.inr (.inl rfl)), trivial⟩,
            ⟨.inr (.inr (.inr (fun _ _ _ _ _ h => h))), .inr (.inr (.inr (fun _ _ _ _ _ h => h))), .inr (.inr (.inr (fun _ _ _ _ _ h => h))), .inr (.inr (.inr (fun _ _ _ _ _ h => h))), .inr (.inr (.inr (fun _ _ _ _ _ h => h))), .inr (.inr (.inr (fun _ _ _ _ _ h => h))), .inr (.inr (.inr (fun _ _ _ _ _ h => h))), .inr (.inr (.inr (fun _ _ _ _ _ h => h))), .inr (.inr (.inr (fun _ _ _ _ _ h => h))), .inr (.inr (.inr (fun _ _ _ _ _ h => h))), .inr (.inr (.inr (fun _ _ _ _ _ h => h))), .inr (.inr (.inr (fun _ _ _ _ _ h => h))), .inr (.inl rfl), .inl rfl, .inr (.inr (.inl rfl)), trivial⟩,
            ⟨.inr (.inr (.inr (fun _ _ _ _ _ h => h))), .inr (.inr (.inr (fun _ _ _ _ _ h => h))), .inr (.inr (.inr (fun _ _ _ _ _ h => h))), .inr (.inr (.inr (fun _ _ _ _ _ h => h))), .inr (.inr (.inr (fun _ _ _ _ _ h => h))), .inr (.inr (.inr (fun _ _ _ _ _ h => h))), .inr (.inr (.inr (fun _ _ _ _ _ h => h))), .inr (.inr (.inr (fun _ _ _ _ _ h => h))), .inr (.inr (.inr (fun _ _ _ _ _ h => h))), .inr (.inr (.inr (fun _ _ _ _ _ h => h))), .inr (.inr (.inr (fun _ _ _ _ _ h => h))), .inr (.inr (.inr (fun _ _ _ _ _ h => h))), .inr (.inr (.inr (fun _ _ _ _ h h0 => by cases h; exact h0))), .inr (.inr (.inr (fun _ _ _ _ h h0 => by cases h; exact h0))), .inl rfl, trivial⟩, trivial⟩
        · refine ⟨?_, ?_, ?_, ?_, ?_, ?_, ?_, ?_, ?_, ?_, ?_, ?_, ?_, ?_, ?_, trivial⟩
          · -- 0: Op.load 26 (Operand.tmp 8)
            refine step_plain [] (fun _ => rfl) rfl ?_
            intro w1 vals hC1 hi0 hf E hE
            clear hi0
            clear hf
            have hs := HST3.out.next hC1
            simp only [puts, act_put, act_put_none, List.setIfInBounds_toArray, List.set_cons_zero, List.set_cons_succ] at hE ⊢
            refine wpList_get_box (hs.1.1) rfl rfl rfl hu rfl elem_size ?_
            go_wp2_with fail
            exact .mk (hE _ _ rfl hC1 rfl)
          · -- 1: Op.call { callee := Callee.value (Operand.func 50), args := #[Operand.const (Value.int IntKind.i64 1)], argTyp
            refine step_plain [] (fun _ => rfl) rfl ?_
            intro w1 vals hC1 hi0 hf E hE
            clear hi0
            clear hf
            simp only [puts, act_put, act_put_none, List.setIfInBounds_toArray, List.set_cons_zero, List.set_cons_succ] at hE ⊢
            go_wp2_with fail
            refine calls_then (CI.out _) ?_
            rintro e w2 ⟨rfl, hb2⟩
            go_wp2_with fail
            exact .mk (hE _ _ rfl (hC1.trans (hb2.mono hC1.size)) hb2)
          · -- 2: Op.call { callee := Callee.value (Operand.func 48), args := #[Operand.tmp 40, Operand.tmp 41], argTypes := #[2
            refine step_plain [(0, some 40), (1, some 41), (1, some 41)] (fun _ => rfl) rfl ?_
            intro w1 vals hC1 hi0 hf E hE
            clear hi0
            have f0 : vals 0 = .agg (eV Y2) := hf 0 rfl
            have f1 : vals 1 = .agg (eV I) := hf 1 rfl
            try dsimp only at f0 f1
            clear hf
            simp only [puts, act_put, act_put_none, List.setIfInBounds_toArray, List.set_cons_zero, List.set_cons_succ, f0, f1] at hE ⊢
            clear f0 f1
            go_wp2_with fail
            refine calls_then (CU.out _) ?_
            rintro e w2 ⟨rfl, hb2⟩
            go_wp2_with fail
            exact .mk (hE _ _ rfl (hC1.trans (hb2.mono hC1.size)) hb2)
          · -- 3: Op.load 26 (Operand.tmp 8)
            refine step_plain [] (fun _ => rfl) rfl ?_
            intro w1 vals hC1 hi0 hf E hE
            clear hi0
            clear hf
            have hs := HST3.out.next hC1
            simp only [puts, act_put, act_put_none, List.setIfInBounds_toArray, List.set_cons_zero, List.set_cons_succ] at hE ⊢
            refine wpList_get_box (hs.1.1) rfl rfl rfl hu rfl elem_size ?_
            go_wp2_with fail
            exact .mk (hE _ _ rfl hC1 rfl)
          · -- 4: Op.call { callee := Callee.value (Operand.func 31), args := #[], argTypes := #[] }
            refine step_plain [(2, some 42)] (fun _ => rfl) rfl ?_
            intro w1 vals hC1 hi0 hf E hE
            clear hi0
            have f2 : vals 2 = .agg (eV U) := hf 2 rfl
            try dsimp only at f2
            clear hf
            simp only [puts, act_put, act_put_none, List.setIfInBounds_toArray, List.set_cons_zero, List.set_cons_succ, f2] at hE ⊢
            clear f2
            go_wp2_with fail
            refine calls_then (CD.out _) ?_
            rintro e w2 ⟨rfl, hb2⟩
            go_wp2_with fail
            exact .mk (hE _ _ rfl (hC1.trans (hb2.mono hC1.size)) hb2)
          · -- 5: Op.call { callee := Callee.value (Operand.func 38), args := #[Operand.tmp 43, Operand.tmp 44], argTypes := #[2
            refine step_plain [(3, some 43), (4, some 44), (4, some 44)] (fun _ => rfl) rfl ?_
            intro w1 vals hC1 hi0 hf E hE
            clear hi0
            have f3 : vals 3 = .agg (eV Y2) := hf 3 rfl
            have f4 : vals 4 = .agg (eV D) := hf 4 rfl
            try dsimp only at f3 f4
            clear hf
            simp only [puts, act_put, act_put_none, List.setIfInBounds_toArray, List.set_cons_zero, List.set_cons_succ, f3, f4] at hE ⊢
            clear f3 f4
            go_wp2_with fail
            refine calls_then (CDY.out _) ?_
            rintro e w2 ⟨rfl, hb2⟩
            go_wp2_with fail
            exact .mk (hE _ _ rfl (hC1.trans (hb2.mono hC1.size)) hb2)
          · -- 6: Op.call { callee := Callee.value (Operand.func 50), args := #[Operand.const (Value.int IntKind.i64 1)], argTyp
            refine step_plain [(5, some 45)] (fun _ => rfl) rfl ?_
            intro w1 vals hC1 hi0 hf E hE
            clear hi0
            have f5 : vals 5 = .agg (eV DY) := hf 5 rfl
            try dsimp only at f5
            clear hf
            simp only [puts, act_put, act_put_none, List.setIfInBounds_toArray, List.set_cons_zero, List.set_cons_succ, f5] at hE ⊢
            clear f5
            go_wp2_with fail
            refine calls_then (CI.out _) ?_
            rintro e w2 ⟨rfl, hb2⟩
            go_wp2_with fail
            exact .mk (hE _ _ rfl (hC1.trans (hb2.mono hC1.size)) hb2)
          · -- 7: Op.call { callee := Callee.value (Operand.func 32), args := #[Operand.tmp 45, Operand.tmp 46], argTypes := #[2
            refine step_plain [(5, some 45), (6, some 46), (6, some 46)] (fun _ => rfl) rfl ?_
            intro w1 vals hC1 hi0 hf E hE
            clear hi0
            have f5 : vals 5 = .agg (eV DY) := hf 5 rfl
            have f6 : vals 6 = .agg (eV I) := hf 6 rfl
            try dsimp only at f5 f6
            clear hf
            simp only [puts, act_put, act_put_none, List.setIfInBounds_toArray, List.set_cons_zero, List.set_cons_succ, f5, f6] at hE ⊢
            clear f5 f6
            go_wp2_with fail
            refine calls_then (CV.out _) ?_
            rintro e w2 ⟨rfl, hb2⟩
            go_wp2_with fail
            exact .mk (hE _ _ rfl (hC1.trans (hb2.mono hC1.size)) hb2)
          · -- 8: Op.call { callee := Callee.value (Operand.func 53), args := #[Operand.tmp 42, Operand.tmp 47], argTypes := #[2
            refine step_plain [(2, some 42), (7, some 47), (7, some 47)] (fun _ => rfl) rfl ?_
            intro w1 vals hC1 hi0 hf E hE
            clear hi0
            have f2 : vals 2 = .agg (eV U) := hf 2 rfl
            have f7 : vals 7 = .agg (eV V) := hf 7 rfl
            try dsimp only at f2 f7
            clear hf
            simp only [puts, act_put, act_put_none, List.setIfInBounds_toArray, List.set_cons_zero, List.set_cons_succ, f2, f7] at hE ⊢
            clear f2 f7
            go_wp2_with fail
            refine calls_then (CRT.out _) ?_
            rintro e w2 ⟨rfl, hb2⟩
            go_wp2_with fail
            exact .mk (hE _ _ rfl (hC1.trans (hb2.mono hC1.size)) hb2)
          · -- 9: Op.move (Operand.tmp 48)
            refine step_plain [(8, some 48)] (fun _ => rfl) rfl ?_
            intro w1 vals hC1 hi0 hf E hE
            clear hi0
            have f8 : vals 8 = .tuple #[.agg (eV X), .bool ok] := hf 8 rfl
            try dsimp only at f8
            clear hf
            simp only [puts, act_put, act_put_none, List.setIfInBounds_toArray, List.set_cons_zero, List.set_cons_succ, f8] at hE ⊢
            clear f8
            go_wp2
            exact .mk (hE _ _ rfl hC1 rfl)
          · -- 10: Op.extract (Operand.tmp 39) 0
            refine step_plain [(9, some 39)] (fun _ => rfl) rfl ?_
            intro w1 vals hC1 hi0 hf E hE
            clear hi0
            have f9 : vals 9 = .tuple #[.agg (eV X), .bool ok] := hf 9 rfl
            try dsimp only at f9
            clear hf
            simp only [puts, act_put, act_put_none, List.setIfInBounds_toArray, List.set_cons_zero, List.set_cons_succ, f9] at hE ⊢
            clear f9
            go_wp2
            exact .mk (hE _ _ rfl hC1 rfl)
          · -- 11: Op.extract (Operand.tmp 39) 1
            refine step_plain [(9, some 39)] (fun _ => rfl) rfl ?_
            intro w1 vals hC1 hi0 hf E hE
            clear hi0
            have f9 : vals 9 = .tuple #[.agg (eV X), .bool ok] := hf 9 rfl
            try dsimp only at f9
            clear hf
            simp only [puts, act_put, act_put_none, List.setIfInBounds_toArray, List.set_cons_zero, List.set_cons_succ, f9] at hE ⊢
            clear f9
            go_wp2
            exact .mk (hE _ _ rfl hC1 rfl)
          · -- 12: Op.alloc 26
            refine step_plain [] (fun _ => rfl) rfl ?_
            intro w1 vals hC1 hi0 hf E hE
            clear hi0
            clear hf
            simp only [puts, act_put, act_put_none, List.setIfInBounds_toArray, List.set_cons_zero, List.set_cons_succ] at hE ⊢
            go_wp2
            exact .mk (hE _ _ (NewBox.of hC1.size) (hC1.alloc hC1.size _) (below_new _ _))
          · -- 13: Op.store 26 (Operand.tmp 9) (Operand.tmp 49)
            refine step_plain [(12, some 9), (10, some 49), (8, some 48), (0, some 40), (1, some 41), (2, some 42), (3, some 43), (4, some 44), (5, some 45), (6, some 46), (7, some 47), (8, some 48), (9, some 39), (10, some 49), (12, some 9)] (fun _ => rfl) rfl ?_
            intro w1 vals hC1 hi0 hf E hE
            clear hi0
            have f0 : vals 0 = .agg (eV Y2) := hf 0 rfl
            have f1 : vals 1 = .agg (eV I) := hf 1 rfl
            have f2 : vals 2 = .agg (eV U) := hf 2 rfl
            have f3 : vals 3 = .agg (eV Y2) := hf 3 rfl
            have f4 : vals 4 = .agg (eV D) := hf 4 rfl
            have f5 : vals 5 = .agg (eV DY) := hf 5 rfl
            have f6 : vals 6 = .agg (eV I) := hf 6 rfl
            have f7 : vals 7 = .agg (eV V) := hf 7 rfl
            have f8 : vals 8 = .tuple #[.agg (eV X), .bool ok] := hf 8 rfl
            have f9 : vals 9 = .tuple #[.agg (eV X), .bool ok] := hf 9 rfl
            have f10 : vals 10 = .agg (eV X) := hf 10 rfl
            have f12 : (NewBox v9.heap.size 26 (eV zE)) (vals 12) w1 := hf 12 rfl
            try dsimp only at f0 f1 f2 f3 f4 f5 f6 f7 f8 f9 f10 f12
            clear hf
            obtain ⟨o, hx, ho, hblk⟩ := f12
            have hx' := hx
            simp only [puts, act_put, act_put_none, List.setIfInBounds_toArray, List.set_cons_zero, List.set_cons_succ, f0, f1, f2, f3, f4, f5, f6, f7, f8, f9, f10, hx] at hE ⊢
            clear f0 f1 f2 f3 f4 f5 f6 f7 f8 f9 f10
            clear hx
            refine wpList_put_box (cells := eV X) hblk rfl rfl rfl rfl elem_size rfl (by simp [eV, wV, limbs, Value.oneCell']) ?_
            intro w2 hb2 hw2
            go_wp2_with fail
            exact .mk (hE undef _ ⟨o, hx', ho, hb2⟩ (hw2.below hC1 ho hC1.size) trivial)
          · -- 14: Op.assign (Operand.tmp 50)
            refine step_plain [(11, some 50), (13, none), (0, some 40), (1, some 41), (2, some 42), (3, some 43), (4, some 44), (5, some 45), (6, some 46), (7, some 47), (8, some 48), (9, some 39), (10, some 49), (11, some 50), (12, some 9), (13, none)] (fun _ => rfl) rfl ?_
            intro w1 vals hC1 hi0 hf E hE
            clear hi0
            have f0 : vals 0 = .agg (eV Y2) := hf 0 rfl
            have f1 : vals 1 = .agg (eV I) := hf 1 rfl
            have f2 : vals 2 = .agg (eV U) := hf 2 rfl
            have f3 : vals 3 = .agg (eV Y2) := hf 3 rfl
            have f4 : vals 4 = .agg (eV D) := hf 4 rfl
            have f5 : vals 5 = .agg (eV DY) := hf 5 rfl
            have f6 : vals 6 = .agg (eV I) := hf 6 rfl
            have f7 : vals 7 = .agg (eV V) := hf 7 rfl
            have f8 : vals 8 = .tuple #[.agg (eV X), .bool ok] := hf 8 rfl
            have f9 : vals 9 = .tuple #[.agg (eV X), .bool ok] := hf 9 rfl
            have f10 : vals 10 = .agg (eV X) := hf 10 rfl
            have f11 : vals 11 = .bool ok := hf 11 rfl
            have f13 : (fun z u => NewBox v9.heap.size 26 (eV X) (z 12) u) vals w1 := hf 13 rfl
            try dsimp only at f0 f1 f2 f3 f4 f5 f6 f7 f8 f9 f10 f11 f13
            clear hf
            simp only [puts, act_put, act_put_none, List.setIfInBounds_toArray, List.set_cons_zero, List.set_cons_succ, f0, f1, f2, f3, f4, f5, f6, f7, f8, f9, f10, f11] at hE ⊢
            clear f0 f1 f2 f3 f4 f5 f6 f7 f8 f9 f10 f11
            go_wp2
            exact .mk (hE _ _ rfl hC1 rfl)
        intro w1 vals hC1 hf
        have f0 : vals 0 = .agg (eV Y2) := hf 0 (by decide) rfl
        have f1 : vals 1 = .agg (eV I) := hf 1 (by decide) rfl
        have f2 : vals 2 = .agg (eV U) := hf 2 (by decide) rfl
        have f3 : vals 3 = .agg (eV Y2) := hf 3 (by decide) rfl
        have f4 : vals 4 = .agg (eV D) := hf 4 (by decide) rfl
        have f5 : vals 5 = .agg (eV DY) := hf 5 (by decide) rfl
        have f6 : vals 6 = .agg (eV I) := hf 6 (by decide) rfl
        have f7 : vals 7 = .agg (eV V) := hf 7 (by decide) rfl
        have f8 : vals 8 = .tuple #[.agg (eV X), .bool ok] := hf 8 (by decide) rfl
        have f9 : vals 9 = .tuple #[.agg (eV X), .bool ok] := hf 9 (by decide) rfl
        have f10 : vals 10 = .agg (eV X) := hf 10 (by decide) rfl
        have f11 : vals 11 = .bool ok := hf 11 (by decide) rfl
        have f13 : (fun z u => NewBox v9.heap.size 26 (eV X) (z 12) u) vals w1 := hf 13 (by decide) rfl
        have f14 : vals 14 = .bool ok := hf 14 (by decide) rfl
        try dsimp only at f0 f1 f2 f3 f4 f5 f6 f7 f8 f9 f10 f11 f13 f14
        clear hf
        simp only [puts, act_put, act_put_none, List.setIfInBounds_toArray, List.set_cons_zero, List.set_cons_succ, f0, f1, f2, f3, f4, f5, f6, f7, f8, f9, f10, f11, f14]
        clear f0 f1 f2 f3 f4 f5 f6 f7 f8 f9 f10 f11 f14
        generalize vals 12 = x12 at *
        obtain ⟨o9, rfl, hlo, hblk⟩ := f13
        have HST4 := Lib.hid (show Cs [.box o9 26 (eV X), .box g8 26 (eV Y2), .box g6 26 (eV E), .box g0 28 (ptV zP)] w w1 from ⟨⟨hblk, (HST3.out.next hC1).1⟩, (HST3.out.next hC1).2⟩)
        clear hC1 HC0 hblk hlo HST3
        obtain ⟨y1, rfl⟩ : ∃ x, x = w1 := ⟨_, rfl⟩
        cases ok
        · go_wp2_with (refine wpList_put_box (x := .tmp 2) (cells := ptV zP) (HST4.out.1.2.2.2.1) rfl rfl rfl rfl point_size rfl (by simp [ptV, zP, wV, limbs, Value.oneCell']) ?_; intro w9 hb9 hw9; have HR9 := Lib.hid hb9; have HW9 := Lib.hid hw9; clear hb9 hw9)
          refine bodyPost_ret (results_box_tmp (P := Try.prog) rfl rfl HR9.out hp rfl point_size) rfl ?_
          have eR : R = (zP, 2) := by simpa [HRR.out] using HR.out
          rw [eR]
          exact ⟨rfl, HW9.out.below HST4.out.2 (Nat.le_of_eq HG0.out) HST4.out.2.size⟩
        · go_wp2_with (refine wpList_get_box (x := .tmp 9) (HST4.out.1.1) rfl rfl rfl hu rfl elem_size ?_)
          refine calls_then (COD.out _) ?_
          rintro e w10 ⟨rfl, hb⟩
          have HST5 := Lib.hid (HST4.out.next hb)
          clear hb HST4
          cases ob
          · go_wp2_with (first | (refine wpList_get_box (x := .tmp 9) (HST5.out.1.1) rfl rfl rfl hu rfl elem_size ?_) | (refine wpList_get_box (x := .tmp 6) (HST5.out.1.2.2.1) rfl rfl rfl hu rfl elem_size ?_))
            refine calls_then (CO1.out _) ?_
            rintro e w11 ⟨rfl, hb⟩
            have HST6 := Lib.hid (HST5.out.next hb)
            clear hb HST5
            go_wp2_with (refine wpList_put_box (x := .tmp 2) (cells := ptV Q1) (HST6.out.1.2.2.2.1) rfl rfl rfl rfl point_size rfl (by simp [ptV, wV, limbs, Value.oneCell']) ?_; intro w9 hb9 hw9; have HR9 := Lib.hid hb9; have HW9 := Lib.hid hw9; clear hb9 hw9)
            refine bodyPost_ret (results_box_tmp (P := Try.prog) rfl rfl HR9.out hp rfl point_size) rfl ?_
            have eR : R = (Q1, 0) := by simpa [HRR.out] using HR.out
            rw [eR]
            exact ⟨rfl, HW9.out.below HST6.out.2 (Nat.le_of_eq HG0.out) HST6.out.2.size⟩
          · go_wp2_with (refine wpList_get_box (x := .tmp 9) (HST5.out.1.1) rfl rfl rfl hu rfl elem_size ?_)
            refine calls_then (CZB.out _) ?_
            rintro e w11 ⟨rfl, hb⟩
            have HST6 := Lib.hid (HST5.out.next hb)
            clear hb HST5
            cases zb
            · go_wp2_with fail
              have HC0 := HST6.out.drew
              clear HST6
              refine wp_region_tailq (fun u => Cs [.box o9 26 (eV X), .box g8 26 (eV Y2), .box g6 26 (eV E), .box g0 28 (ptV zP)] w u) (fun _ => false) 5 [(0, some 68), (1, some 69), (2, some 70), (3, some 71), (4, some 72), (5, none), (6, some 3)] (by kernel_rfl) (by kernel_rfl) (by decide) (by kernel_rfl) (fun _ => rfl) HC0 ?_
              apply DetQ.next
              · -- 0: Op.build 26 #[]
                apply detStepQ_of
                apply detStep_plain []
                exact fun _ => rfl
                rfl
                rintro vals - w1 hC1 E hE
                simp only [puts, act_put, act_put_none, List.setIfInBounds_toArray, List.set_cons_zero, List.set_cons_succ] at hE ⊢
                go_wp2
                exact .mk (hE _ hC1)
              apply DetQ.next
              · -- 1: Op.load 26 (Operand.tmp 9)
                apply detStepQ_of
                apply detStep_plain []
                exact fun _ => rfl
                rfl
                rintro vals ⟨-, -⟩ w1 hC1 E hE
                simp only [puts, act_put, act_put_none, List.setIfInBounds_toArray, List.set_cons_zero, List.set_cons_succ] at hE ⊢
                refine wpList_get_box (hC1.1.1) rfl rfl rfl hu rfl elem_size ?_
                go_wp2_with fail
                exact .mk (hE _ hC1)
              apply DetQ.next
              · -- 2: Op.call { callee := Callee.value (Operand.func 48), args := #[Operand.tmp 68, Operand.tmp 69], argTypes := #[2
                apply detStepQ_of
                apply detStep_plain [(0, some 68), (1, some 69)]
                exact fun _ => rfl
                rfl
                rintro vals ⟨⟨-, f0⟩, f1⟩ w1 hC1 E hE
                simp only [puts, act_put, act_put_none, List.setIfInBounds_toArray, List.set_cons_zero, List.set_cons_succ, f0, f1] at hE ⊢
                clear f0 f1
                go_wp2_with fail
                refine calls_then (CNX.out _) ?_
                rintro e w2 ⟨rfl, hb2⟩
                go_wp2_with fail
                exact .mk (hE _ (hC1.next hb2))
              apply DetQ.next
              · -- 3: Op.load 26 (Operand.tmp 6)
                apply detStepQ_of
                apply detStep_plain []
                exact fun _ => rfl
                rfl
                rintro vals ⟨⟨⟨-, -⟩, -⟩, -⟩ w1 hC1 E hE
                simp only [puts, act_put, act_put_none, List.setIfInBounds_toArray, List.set_cons_zero, List.set_cons_succ] at hE ⊢
                refine wpList_get_box (hC1.1.2.2.1) rfl rfl rfl hu rfl elem_size ?_
                go_wp2_with fail
                exact .mk (hE _ hC1)
              apply DetQ.next
              · -- 4: Op.call { callee := Callee.value (Operand.func 30), args := #[Operand.tmp 70, Operand.tmp 71], argTypes := #[2
                apply detStepQ_of
                apply detStep_plain [(2, some 70), (3, some 71), (2, some 70)]
                exact fun _ => rfl
                rfl
                rintro vals ⟨⟨⟨⟨-, -⟩, -⟩, f2⟩, f3⟩ w1 hC1 E hE
                simp only [puts, act_put, act_put_none, List.setIfInBounds_toArray, List.set_cons_zero, List.set_cons_succ, f2, f3] at hE ⊢
                clear f2 f3
                go_wp2_with fail
                refine calls_then (CO2.out _) ?_
                rintro e w2 ⟨rfl, hb2⟩
                go_wp2_with fail
                exact .mk (hE _ (hC1.next hb2))
              apply DetQ.done
              rintro vals ⟨⟨⟨⟨⟨-, f0⟩, f1⟩, f2⟩, f3⟩, f4⟩ w1 hC1
              -- 5: Op.store 28 (Operand.tmp 2) (Operand.tmp 72)
              refine tail_step [(4, some 72), (4, some 72), (0, some 68), (1, some 69), (2, some 70), (3, some 71), (4, some 72)] (fun _ => rfl) rfl ?_
              intro E hE
              simp only [puts, act_put, act_put_none, List.setIfInBounds_toArray, List.set_cons_zero, List.set_cons_succ, f0, f1, f2, f3, f4] at hE ⊢
              refine wpList_put_box (x := .tmp 2) (cells := ptV Q2) (hC1.1.2.2.2.1) rfl rfl rfl rfl point_size rfl (by simp [ptV, wV, limbs, Value.oneCell']) ?_
              intro y9 hb9 hw9
              have HR9 := Lib.hid hb9
              have HW9 := Lib.hid hw9
              clear hb9 hw9
              go_wp2_with fail
              refine .mk (hE undef _ ?_)
              clear hE E
              generalize hval : upd _ 5 _ = vals5
              replace f0 := (congrFun hval 0).symm.trans ((upd_ne (by decide)).trans f0)
              replace f1 := (congrFun hval 1).symm.trans ((upd_ne (by decide)).trans f1)
              replace f2 := (congrFun hval 2).symm.trans ((upd_ne (by decide)).trans f2)
              replace f3 := (congrFun hval 3).symm.trans ((upd_ne (by decide)).trans f3)
              replace f4 := (congrFun hval 4).symm.trans ((upd_ne (by decide)).trans f4)
              have f5 := (congrFun hval 5).symm.trans (upd_self _ _ _)
              clear hval
              -- 6: Op.assign (Operand.const (Value.int IntKind.i64 0))
              refine tail_step [(5, none), (0, some 68), (1, some 69), (2, some 70), (3, some 71), (4, some 72), (5, none)] (fun _ => rfl) rfl ?_
              intro E hE
              simp only [puts, act_put, act_put_none, List.setIfInBounds_toArray, List.set_cons_zero, List.set_cons_succ, f0, f1, f2, f3, f4, f5] at hE ⊢
              go_wp2
              refine .mk (hE _ _ ?_)
              clear hE E
              generalize hval : upd _ 6 _ = vals6
              replace f0 := (congrFun hval 0).symm.trans ((upd_ne (by decide)).trans f0)
              replace f1 := (congrFun hval 1).symm.trans ((upd_ne (by decide)).trans f1)
              replace f2 := (congrFun hval 2).symm.trans ((upd_ne (by decide)).trans f2)
              replace f3 := (congrFun hval 3).symm.trans ((upd_ne (by decide)).trans f3)
              replace f4 := (congrFun hval 4).symm.trans ((upd_ne (by decide)).trans f4)
              replace f5 := (congrFun hval 5).symm.trans ((upd_ne (by decide)).trans f5)
              have f6 := (congrFun hval 6).symm.trans (upd_self _ _ _)
              clear hval
              refine tail_end ?_
              simp only [puts, act_put, act_put_none, List.setIfInBounds_toArray, List.set_cons_zero, List.set_cons_succ, f0, f1, f2, f3, f4, f5, f6]
              clear f0 f1 f2 f3 f4 f5 f6
              have HST7 := Lib.hid hC1
              clear hC1 HC0
              go_wp2_with fail
              refine bodyPost_ret (results_box_tmp (P := Try.prog) rfl rfl HR9.out hp rfl point_size) rfl ?_
              have eR : R = (Q2, 0) := by simpa [HRR.out] using HR.out
              rw [eR]
              exact ⟨rfl, HW9.out.below HST7.out.2 (Nat.le_of_eq HG0.out) HST7.out.2.size⟩
            · go_wp2_with (refine wpList_put_box (x := .tmp 2) (cells := ptV zP) (HST6.out.1.2.2.2.1) rfl rfl rfl rfl point_size rfl (by simp [ptV, zP, wV, limbs, Value.oneCell']) ?_; intro w9 hb9 hw9; have HR9 := Lib.hid hb9; have HW9 := Lib.hid hw9; clear hb9 hw9)
              refine bodyPost_ret (results_box_tmp (P := Try.prog) rfl rfl HR9.out hp rfl point_size) rfl ?_
              have eR : R = (zP, 2) := by simpa [HRR.out] using HR.out
              rw [eR]
              exact ⟨rfl, HW9.out.below HST6.out.2 (Nat.le_of_eq HG0.out) HST6.out.2.size⟩
  · have hR2 : R = (zP, 2) := by rw [hR, crd, if_neg h32]
    have h32' : ¬ (n : Int) = 32 := by omega
    rw [← hn]
    subst hR2
    clear hn hmax hr hc h32 hR
    go_enter Try.func27, Try.ntmps27
    go_wp2_with (refine wpList_put_box (x := .tmp 2) (cells := ptV zP) HP.out rfl rfl rfl rfl point_size rfl (by simp [ptV, zP, wV, limbs, Value.oneCell']) ?_; intro w7 hb7 hw7; have HP7 := Lib.hid hb7; have HW7 := Lib.hid hw7; clear hb7 hw7)
    refine bodyPost_ret (results_box_tmp (P := Try.prog) rfl rfl HP7.out hp rfl point_size) rfl ?_
    exact ⟨rfl, HW7.out.below HB.out (Nat.le_refl _) HB.out.size⟩
end Go.Proofs.Ytbeokfpbhemcfaa
