/-
  Joined texts: Rf Rg Ri Dge Rw Rv Rn Rr Ro Rq Rbz.
-/
import Derived.Test.YtbeokfpbhemcfaaJ8
import Derived.Test.YtbeokfpbhemcfaaJ4
import Derived.Test.YtbeokfpbhemcfaaJ7
/-
  Walk: the reference's Fold.
-/
namespace Go.Proofs.Ytbeokfpbhemcfaa
set_option linter.unusedSimpArgs false
set_option linter.unusedVariables false
open Go.RowKit

def lenF : Value → Nat | .slice _ n _ => n | _ => 0
theorem add32 (ad : Addr) : some (⟨ad.block, ad.off + 32, none⟩ : Addr) = some (ad.add 32) := by simp [Addr.add]
theorem rd_digs {w : World} {B n : Nat} {A : Option Addr} {l : List Nat} (h : Rd w B A (dV l)) : Rd w B A (dV (l.take n)) := by
  have h1 := rd_take h n
  rw [dV, ← List.map_take] at h1
  exact h1
theorem rd_digs_drop {w : World} {B n : Nat} {ad : Addr} {l : List Nat} (h : Rd w B (some ad) (dV l)) : Rd w B (some (ad.add n)) (dV (l.drop n)) := by
  have h1 := rd_drop h n
  rw [dV, ← List.map_drop] at h1
  exact h1
theorem digVal_take {u : World} {B n : Nat} {A : Option Addr} {l : List Nat} (c : Nat) (h : Rd u B A (dV l)) (hn : n ≤ l.length) : digVal (.slice A n c) u = leV (l.take n) := by
  have h1 := digVal_rd (l := l.take n) c (rd_digs h)
  rw [List.length_take, Nat.min_eq_left hn] at h1
  exact h1
set_option maxRecDepth 100000 in
set_option maxHeartbeats 4000000 in
theorem fold_any (a : List Nat) (ha : Dg a) (A : Option Addr) (c : Nat) (w : World) (hra : Rd w w.heap.size A (dV a)) (hc : a.length ≤ c) (hla : a.length ≤ 1000000) :
    Calls Try.prog 62 #[.slice A a.length c] w (DigPost (digN 32 (leV a % PN)) w) := by
  obtain ⟨n, hn⟩ : ∃ n, n = a.length := ⟨_, rfl⟩
  obtain ⟨N0, hN0⟩ : ∃ N, N = leV a := ⟨_, rfl⟩
  rw [← hn, ← hN0]
  have hst0 : ∃ (l : List Nat) (A1 : Option Addr) (c1 : Nat), Value.slice A n c = .slice A1 l.length c1 ∧ Dg l ∧ l.length ≤ 1000000 ∧ l.length ≤ c1 ∧ leV l % PN = N0 % PN ∧ Rd w w.heap.size A1 (dV l) ∧ Below w.heap.size w w :=
    ⟨a, A, c, by rw [hn], ha, hla, hc, by rw [hN0], hra, Below.refl _ _⟩
  have HST0 := Lib.hid hst0
  clear hst0 hn hN0 ha hra hc hla
  go_enter Try.func62, Try.ntmps62
  go_wp2_with fail
  generalize hg : w.heap.size = g at HST0 ⊢
  have HG := Lib.hid hg
  clear hg
  go_loopw [0] (fun v wr => ∃ (l : List Nat) (A1 : Option Addr) (c1 : Nat), v = .slice A1 l.length c1 ∧ Dg l ∧ l.length ≤ 1000000 ∧ l.length ≤ c1 ∧ leV l % PN = N0 % PN ∧ Rd wr wr.heap.size A1 (dV l) ∧ Below g w wr) (fun v wr => digVal v wr)
  case atStart => have h := HST0.out; rw [HG.out]; exact h
  case round =>
    clear HST0
    obtain ⟨l, A1, c1, rfl, hl, hlen, hlc, hmod, hrd, hbel⟩ := hrel
    obtain ⟨m, hm⟩ : ∃ m, m = l.length := ⟨_, rfl⟩
    rw [← hm]
    have hm63 : (m : Int) ≤ 1000000 := by omega
    have hmc : (m : Int) ≤ (c1 : Int) := by omega
    have hin0 : leV (l.take m) = leV l := by rw [hm, List.take_length]
    have HL := Lib.hid hl
    have HM := Lib.hid hm
    have HMOD := Lib.hid hmod
    have HRD := Lib.hid hrd
    have HBEL := Lib.hid hbel
    have HIN0 := Lib.hid hin0
    clear hl hlen hlc hm hmod hrd hbel hin0
    go_wp2_with fail
    go_loop [0] (fun v => ∃ k : Nat, k ≤ m ∧ v = .slice A1 k c1 ∧ leV (l.take k) = leV l) (fun v => lenF v)
    case atStart => exact ⟨m, Nat.le_refl _, rfl, HIN0.out⟩
    case round =>
      clear HIN0
      obtain ⟨k, hk, rfl, hin⟩ := hrel
      by_cases h32 : 32 < k
      · have h32' : (k : Int) > 32 := by omega
        obtain ⟨p, hp⟩ : ∃ p, k = p + 1 := ⟨k - 1, by omega⟩
        have hpi : (k : Int) - 1 = (p : Int) := by omega
        obtain ⟨ad, rfl, hcell⟩ := dig_cell HRD.out (k := p) (by rw [← HM.out]; omega)
        obtain ⟨x, hx⟩ : ∃ x, x = l.getD p 0 := ⟨_, rfl⟩
        rw [← hx] at hcell
        have hpk : (p : Int) < (k : Int) := by omega
        have hkm : (k : Int) ≤ (m : Int) := by omega
        by_cases hx0 : x = 0
        · subst hx0
          have hnext : leV (l.take p) = leV l := by
            rw [← hin, hp, leV_take_step, ← hx]; simp
          have HNEXT := Lib.hid hnext
          have HK := Lib.hid hk
          have HP := Lib.hid hp
          clear hnext hx hin hk hp h32
          go_wp2_with fail
          exact ⟨⟨p, by have := HK.out; have := HP.out; omega, rfl, HNEXT.out⟩, by have := HP.out; simp [lenF]; omega⟩
        · have hx0' : ¬ (x : Int) = 0 := by omega
          obtain ⟨q, hq⟩ : ∃ q, k = q + 32 := ⟨k - 32, by omega⟩
          have hqi : (k : Int) - 32 = (q : Int) := by omega
          have hkc : (k : Int) ≤ (c1 : Int) := by omega
          obtain ⟨L, hL⟩ : ∃ L, L = l.take k := ⟨_, rfl⟩
          have hLl : L.length = k := by rw [hL, List.length_take, Nat.min_eq_left (by rw [← HM.out]; exact hk)]
          have hLd : Dg L := by rw [hL]; exact dg_take HL.out k
          have hrL : Rd wr wr.heap.size (some ad) (dV L) := by rw [hL]; exact rd_digs HRD.out
          obtain ⟨l1, hl1⟩ : ∃ l1, l1 = digN (q + 1 + 1) (leV (L.drop 32) * leV [38]) := ⟨_, rfl⟩
          have h38 : Dg [38] := by unfold Dg; decide
          have hdl : (L.drop 32).length = q := by rw [List.length_drop]; omega
          have htl : (L.take 32).length = 32 := by rw [List.length_take]; omega
          have hl1v : leV l1 = leV (L.drop 32) * 38 := by
            have h := times_val (dg_drop hLd 32) h38
            rw [hdl] at h
            rw [hl1]; exact h
          have hl1d : Dg l1 := by rw [hl1]; exact digN_dg _ _
          have hl1l : l1.length = q + 2 := by rw [hl1, digN_length]
          obtain ⟨l2, hl2⟩ : ∃ l2, l2 = digN (max 32 (q + 2) + 1) (leV (L.take 32) + leV l1) := ⟨_, rfl⟩
          have hl2v : leV l2 = leV (L.take 32) + leV (L.drop 32) * 38 := by
            have h := plus_val (dg_take hLd 32) hl1d
            rw [htl, hl1l, hl1v] at h
            rw [hl2, hl1v]; exact h
          have hl2d : Dg l2 := by rw [hl2]; exact digN_dg _ _
          have hl2l : l2.length ≤ k := by rw [hl2, digN_length]; omega
          have hless := fold_less L hLd (by omega) (by rw [hLl, hL, List.getD_eq_getElem?_getD, List.getElem?_take, if_pos (by omega), show k - 1 = p by omega, ← List.getD_eq_getElem?_getD, ← hx]; exact hx0)
          rw [← hl2v, hL, hin] at hless
          have hmod2 : leV l2 % PN = N0 % PN := by
            rw [hl2v, fold_mod, ← fold_split L (by omega), hL, hin]; exact HMOD.out
          have c1' : ∀ u, Below wr.heap.size wr u → ∀ A3 c3 A4 c4, Rd u u.heap.size A4 (dV [38]) → A3 = some (ad.add 32) → Calls Try.prog 63 #[.slice A3 q c3, .slice A4 1 c4] u (DigPost l1 u) := fun u hu A3 c3 A4 c4 h4 hA3 => by
            have h := times_any (L.drop 32) [38] (dg_drop hLd 32) h38 A3 A4 c3 c4 u (by rw [hA3]; exact rd_digs_drop ((hrL.below hu).mono hu.size)) h4 (by omega) (by decide)
            rw [hdl] at h
            rw [hl1]; exact h
          have c2' : ∀ u, Below wr.heap.size wr u → ∀ c3 A4 c4, Rd u u.heap.size A4 (dV l1) → Calls Try.prog 20 #[.slice (some ad) 32 c3, .slice A4 (q + 2) c4] u (DigPost l2 u) := fun u hu c3 A4 c4 h4 => by
            have h := rplus_any (L.take 32) l1 (dg_take hLd 32) hl1d (some ad) A4 c3 c4 u (rd_digs ((hrL.below hu).mono hu.size)) h4 (by omega) (by omega)
            rw [htl, hl1l] at h
            rw [hl2]; exact h
          have HKQ := Lib.hid (show k - 32 = q by omega)
          have CT := Lib.hid c1'
          have CP := Lib.hid c2'
          have HL2 := Lib.hid (show l2.length ≤ 1000000 by omega)
          have HLESS := Lib.hid hless
          have HMOD2 := Lib.hid hmod2
          have HD2 := Lib.hid hl2d
          have HL1L := Lib.hid hl1l
          have HIN := Lib.hid hin
          have HK := Lib.hid hk
          have HC0 : Below g w wr.drew ∧ Below wr.heap.size wr wr.drew ∧ g ≤ wr.heap.size := ⟨HBEL.out.drew, (Below.refl _ _).drew, by have h := HBEL.out; rw [← HG.out] at h ⊢; exact h.size⟩
          clear hx0 hq hL hLl hLd hrL hl1 h38 hdl htl hl1v hl1d hl1l hl2 hl2v hl2d hl2l hless hmod2 c1' c2' hin hk hx hp h32
          go_wp2_with fail
          refine wp_region_list (fun u => Below g w u ∧ Below wr.heap.size wr u ∧ g ≤ wr.heap.size) (fun | false => (fun _ => True) | true => (fun _ => True)) (fun | false, _ => false | true, _ => false)
            [fun z _ => z 0 = .slice (some ad) k c1,
             fun z _ => z 1 = .slice (some ad) 32 c1,
             fun z _ => z 2 = .slice (some ad) k c1,
             fun z u => (fun v u => ∃ c3, v = .slice (some ⟨ad.block, ad.off + 32, none⟩) q c3) (z 3) u,
             fun z u => (RdV 1 (dV [38])) (z 4) u,
             fun z u => (RdV l1.length (dV l1)) (z 5) u,
             fun z u => (RdV l2.length (dV l2)) (z 6) u,
             fun z u => (RdV l2.length (dV l2)) (z 7) u]
            [Eq, Eq, Eq, Eq, fun u u' => Below u.heap.size u u', fun u u' => Below u.heap.size u u', fun u u' => Below u.heap.size u u', Eq]
            (fun _ _ => false) [(0, some 26), (1, some 27), (2, some 28), (3, some 29), (4, some 30), (5, some 31), (6, some 32), (7, some 0)] (by kernel_rfl) (by kernel_rfl) rfl (fun _ => rfl) ?_ ?_ ?_ ?_ ?_ ?_
          · exact HC0
          · intro m; cases m; exact trivial; exact trivial
          · intro m; cases m
            · exact ⟨.inr (fun _ _ h h0 => h ▸ h0), .inr (fun _ _ h h0 => h ▸ h0), .inr (fun _ _ h h0 => h ▸ h0), .inr (fun _ _ h h0 => h ▸ h0), .inr (fun _ _ _ h => h), .inr (fun _ _ _ h => h), .inr (fun _ _ _ h => h), .inr (fun _ _ h h0 => h ▸ h0), trivial⟩
            · exact ⟨.inr (fun _ _ h h0 => h ▸ h0), .inr (fun _ _ h h0 => h ▸ h0), .inr (fun _ _ h h0 => h ▸ h0), .inr (fun _ _ h h0 => h ▸ h0), .inr (fun _ _ _ h => h), .inr (fun _ _ _ h => h), .inr (fun _ _ _ h => h), .inr (fun _ _ h h0 => h ▸ h0), trivial⟩
          · exact ⟨⟨.inl rfl, .inr (.inr (.inl rfl)), .inr (.inr (.inr (fun _ _ _ _ _ h => h))), .inr (.inr (.inr (fun _ _ _ _ h h0 => by cases h; exact h0))), .inr (.inr (.inr (fun _ _ _ _ h h0 => by cases h; exact h0))), .inr (.inr (.inr (fun _ _ _ _ h h0 => by cases h; exact h0))), .inr (.inr (.inl rfl)), .inr (.inr (.inl rfl)), trivial⟩,
              ⟨.inr (.inr (.inr (fun _ _ _ _ _ h => h))), .inl rfl, .inr (.inr (.inr (fun _ _ _ _ _ h => h))), .inr (.inr (.inr (fun _ _ _ _ h h0 => by cases h; exact h0))), .inr (.inr (.inr (fun _ _ _ _ h h0 => by cases h; exact h0))), .inr (.inr (.inr (fun _ _ _ _ h h0 => by cases h; exact h0))), .inr (.inr (.inl rfl)), .inr (.inr (.inl rfl)), trivial⟩,
              ⟨.inr (.inr (.inr (fun _ _ _ _ _ h => h))), .inr (.inr (.inr (fun _ _ _ _ _ h => h))), .inl rfl, .inr (.inr (.inl rfl)), .inr (.inr (.inr (fun _ _ _ _ h h0 => by cases h; exact h0))), .inr (.inr (.inl rfl)), .inr (.inr (.inl rfl)), .inr (.inr (.inl rfl)), trivial⟩,
              ⟨.inr (.inr (.inr (fun _ _ _ _ _ h => h))), .inr (.inr (.inr (fun _ _ _ _ _ h => h))), .inr (.inr (.inr (fun _ _ _ _ _ h => h))), .inl rfl, .inr (.inr (.inr (fun _ _ _ _ h h0 => by cases h; exact h0))), .inr (.inr (.inl rfl)), .inr (.inr (.inl rfl)), .inr (.inr (.inl rfl)), trivial⟩,
              ⟨.inr (.inr (.inr (fun _ _ _ _ _ h => h))), .inr (.inr (.inr (fun _ _ _ _ _ h => h))), .inr (.inr (.inr (fun _ _ _ _ _ h => h))), .inr (.inr (.inr (fun _ _ _ _ h h0 => h0))), .inl rfl, .inr (.inr (.inl rfl)), .inr (.inr (.inl rfl)), .inr (.inr (.inl rfl)), trivial⟩,
              ⟨.inr (.inr (.inr (fun _ _ _ _ _ h => h))), .inr (.inr (.inr (fun _ _ _ _ _ h => h))), .inr (.inr (.inr (fun _ _ _ _ _ h => h))), .inr (.inr (.inr (fun _ _ _ _ h h0 => h0))), .inr (.inr (.inr (fun _ _ _ _ h h0 => h0.next h))), .inl rfl, .inr (.inr (.inl rfl)), .inr (.inr (.inl rfl)), trivial⟩,
              ⟨.inr (.inr (.inr (fun _ _ _ _ _ h => h))), .inr (.inr (.inr (fun _ _ _ _ _ h => h))), .inr (.inr (.inr (fun _ _ _ _ _ h => h))), .inr (.inr (.inr (fun _ _ _ _ h h0 => h0))), .inr (.inr (.inr (fun _ _ _ _ h h0 => h0.next h))), .inr (.inr (.inr (fun _ _ _ _ h h0 => h0.next h))), .inl rfl, .inr (.inr (.inl rfl)), trivial⟩,
              ⟨.inr (.inr (.inr (fun _ _ _ _ _ h => h))), .inr (.inr (.inr (fun _ _ _ _ _ h => h))), .inr (.inr (.inr (fun _ _ _ _ _ h => h))), .inr (.inr (.inr (fun _ _ _ _ h h0 => by cases h; exact h0))), .inr (.inr (.inr (fun _ _ _ _ h h0 => by cases h; exact h0))), .inr (.inr (.inr (fun _ _ _ _ h h0 => by cases h; exact h0))), .inr (.inr (.inr (fun _ _ _ _ h h0 => by cases h; exact h0))), .inl rfl, trivial⟩, trivial⟩
          · refine ⟨?_, ?_, ?_, ?_, ?_, ?_, ?_, ?_, trivial⟩
            · -- 0: Op.move (Operand.tmp 0)
              refine step_plain [] (fun _ => rfl) rfl ?_
              intro w1 vals hC1 hi0 hf E hE
              clear hi0
              clear hf
              simp only [puts, act_put, act_put_none, List.setIfInBounds_toArray, List.set_cons_zero, List.set_cons_succ] at hE ⊢
              go_wp2
              exact .mk (hE _ _ rfl hC1 rfl)
            · -- 1: Op.slice 32 (Operand.tmp 26) none (some (Operand.const (Value.int IntKind.i64 32))) none
              refine step_plain [(0, some 26)] (fun _ => rfl) rfl ?_
              intro w1 vals hC1 hi0 hf E hE
              clear hi0
              have f0 : vals 0 = .slice (some ad) k c1 := hf 0 rfl
              try dsimp only at f0
              clear hf
              simp only [puts, act_put, act_put_none, List.setIfInBounds_toArray, List.set_cons_zero, List.set_cons_succ, f0] at hE ⊢
              clear f0
              go_wp2
              exact .mk (hE _ _ rfl hC1 rfl)
            · -- 2: Op.move (Operand.tmp 0)
              refine step_plain [] (fun _ => rfl) rfl ?_
              intro w1 vals hC1 hi0 hf E hE
              clear hi0
              clear hf
              simp only [puts, act_put, act_put_none, List.setIfInBounds_toArray, List.set_cons_zero, List.set_cons_succ] at hE ⊢
              go_wp2
              exact .mk (hE _ _ rfl hC1 rfl)
            · -- 3: Op.slice 32 (Operand.tmp 28) (some (Operand.const (Value.int IntKind.i64 32))) none none
              refine step_plain [(2, some 28)] (fun _ => rfl) rfl ?_
              intro w1 vals hC1 hi0 hf E hE
              clear hi0
              have f2 : vals 2 = .slice (some ad) k c1 := hf 2 rfl
              try dsimp only at f2
              clear hf
              simp only [puts, act_put, act_put_none, List.setIfInBounds_toArray, List.set_cons_zero, List.set_cons_succ, f2] at hE ⊢
              clear f2
              go_wp2
              rw [HKQ.out]
              exact .mk (hE _ _ ⟨_, rfl⟩ hC1 rfl)
            · -- 4: Op.buildSlice 32 1 #[(0, Operand.const (Value.int IntKind.i64 38))]
              refine step_plain [] (fun _ => rfl) rfl ?_
              intro w1 vals hC1 hi0 hf E hE
              clear hi0
              clear hf
              simp only [puts, act_put, act_put_none, List.setIfInBounds_toArray, List.set_cons_zero, List.set_cons_succ] at hE ⊢
              go_wp2
              have hnew := Blk.new w1 3 (dV [38]).toArray
              exact .mk (hE _ _ ⟨_, 1, rfl, Nat.le_refl _, Rd.of_blk hnew hnew.lt⟩ ⟨hC1.1.alloc (Nat.le_trans hC1.2.2 hC1.2.1.size) _, hC1.2.1.alloc hC1.2.1.size _, hC1.2.2⟩ (below_new _ _))
            · -- 5: Op.call { callee := Callee.value (Operand.func 63), args := #[Operand.tmp 29, Operand.tmp 30], argTypes := #[3
              refine step_plain [(3, some 29), (4, some 30)] (fun _ => rfl) rfl ?_
              intro w1 vals hC1 hi0 hf E hE
              clear hi0
              have f3 : (fun v u => ∃ c3, v = .slice (some ⟨ad.block, ad.off + 32, none⟩) q c3) (vals 3) w1 := hf 3 rfl
              have f4 : (RdV 1 (dV [38])) (vals 4) w1 := hf 4 rfl
              try dsimp only at f3 f4
              clear hf
              obtain ⟨c3, hx3⟩ := f3
              obtain ⟨A4, c4, hx4, hc4, hr4⟩ := f4
              simp only [puts, act_put, act_put_none, List.setIfInBounds_toArray, List.set_cons_zero, List.set_cons_succ, hx3, hx4] at hE ⊢
              clear hx3 hx4
              go_wp2_with fail
              refine calls_then (CT.out _ hC1.2.1 _ _ _ _ hr4 (add32 ad)) ?_
              rintro e w2 ⟨A5, c5, rfl, hc5, hr5, hb5⟩
              go_wp2_with fail
              exact .mk (hE _ _ ⟨A5, c5, rfl, hc5, hr5⟩ ⟨hC1.1.trans (hb5.mono (Nat.le_trans hC1.2.2 hC1.2.1.size)), hC1.2.1.trans (hb5.mono hC1.2.1.size), hC1.2.2⟩ hb5)
            · -- 6: Op.call { callee := Callee.value (Operand.func 20), args := #[Operand.tmp 27, Operand.tmp 31], argTypes := #[3
              refine step_plain [(1, some 27), (5, some 31), (5, some 31)] (fun _ => rfl) rfl ?_
              intro w1 vals hC1 hi0 hf E hE
              clear hi0
              have f1 : vals 1 = .slice (some ad) 32 c1 := hf 1 rfl
              have f5 : (RdV l1.length (dV l1)) (vals 5) w1 := hf 5 rfl
              try dsimp only at f1 f5
              clear hf
              obtain ⟨A4, c4, hx4, hc4, hr4⟩ := f5
              rw [HL1L.out] at hx4
              simp only [puts, act_put, act_put_none, List.setIfInBounds_toArray, List.set_cons_zero, List.set_cons_succ, f1, hx4] at hE ⊢
              clear f1
              clear hx4
              go_wp2_with fail
              refine calls_then (CP.out _ hC1.2.1 _ _ _ hr4) ?_
              rintro e w2 ⟨A5, c5, rfl, hc5, hr5, hb5⟩
              go_wp2_with fail
              exact .mk (hE _ _ ⟨A5, c5, rfl, hc5, hr5⟩ ⟨hC1.1.trans (hb5.mono (Nat.le_trans hC1.2.2 hC1.2.1.size)), hC1.2.1.trans (hb5.mono hC1.2.1.size), hC1.2.2⟩ hb5)
            · -- 7: Op.assign (Operand.tmp 32)
              refine step_plain [(6, some 32), (6, some 32), (0, some 26), (1, some 27), (2, some 28), (3, some 29), (4, some 30), (5, some 31), (6, some 32)] (fun _ => rfl) rfl ?_
              intro w1 vals hC1 hi0 hf E hE
              clear hi0
              have f0 : vals 0 = .slice (some ad) k c1 := hf 0 rfl
              have f1 : vals 1 = .slice (some ad) 32 c1 := hf 1 rfl
              have f2 : vals 2 = .slice (some ad) k c1 := hf 2 rfl
              have f3 : (fun v u => ∃ c3, v = .slice (some ⟨ad.block, ad.off + 32, none⟩) q c3) (vals 3) w1 := hf 3 rfl
              have f4 : (RdV 1 (dV [38])) (vals 4) w1 := hf 4 rfl
              have f5 : (RdV l1.length (dV l1)) (vals 5) w1 := hf 5 rfl
              have f6 : (RdV l2.length (dV l2)) (vals 6) w1 := hf 6 rfl
              try dsimp only at f0 f1 f2 f3 f4 f5 f6
              clear hf
              obtain ⟨A4, c4, hx4, hc4, hr4⟩ := f6
              simp only [puts, act_put, act_put_none, List.setIfInBounds_toArray, List.set_cons_zero, List.set_cons_succ, f0, f1, f2, hx4] at hE ⊢
              clear f0 f1 f2
              clear hx4
              go_wp2
              exact .mk (hE _ _ ⟨A4, c4, rfl, hc4, hr4⟩ hC1 rfl)
          intro w1 vals hC1 hf
          have f0 : vals 0 = .slice (some ad) k c1 := hf 0 (by decide) rfl
          have f1 : vals 1 = .slice (some ad) 32 c1 := hf 1 (by decide) rfl
          have f2 : vals 2 = .slice (some ad) k c1 := hf 2 (by decide) rfl
          have f3 : (fun v u => ∃ c3, v = .slice (some ⟨ad.block, ad.off + 32, none⟩) q c3) (vals 3) w1 := hf 3 (by decide) rfl
          have f4 : (RdV 1 (dV [38])) (vals 4) w1 := hf 4 (by decide) rfl
          have f5 : (RdV l1.length (dV l1)) (vals 5) w1 := hf 5 (by decide) rfl
          have f6 : (RdV l2.length (dV l2)) (vals 6) w1 := hf 6 (by decide) rfl
          have f7 : (RdV l2.length (dV l2)) (vals 7) w1 := hf 7 (by decide) rfl
          try dsimp only at f0 f1 f2 f3 f4 f5 f6 f7
          clear hf
          simp only [puts, act_put, act_put_none, List.setIfInBounds_toArray, List.set_cons_zero, List.set_cons_succ, f0, f1, f2]
          clear f0 f1 f2
          generalize vals 3 = x3 at *
          generalize vals 4 = x4 at *
          generalize vals 5 = x5 at *
          generalize vals 6 = x6 at *
          generalize vals 7 = x7 at *
          obtain ⟨A5, c5, rfl, hc5, hr5⟩ := f7
          have HC1 := Lib.hid hC1
          have HC5 := Lib.hid hc5
          have HR5 := Lib.hid hr5
          clear hC1 hc5 hr5 HC0
          go_wp2_with fail
          refine ⟨⟨l2, A5, c5, rfl, HD2.out, HL2.out, HC5.out, HMOD2.out, HR5.out, HC1.out.1⟩, ?_⟩
          have hm2 := digVal_rd c1 HRD.out
          rw [← HM.out] at hm2
          rw [digVal_rd c5 HR5.out, hm2]
          exact HLESS.out
      · have h32' : ¬ (k : Int) > 32 := by omega
        have h32'' : (k : Int) ≤ 32 := by omega
        obtain ⟨L, hL⟩ : ∃ L, L = l.take k := ⟨_, rfl⟩
        have hLl : L.length = k := by rw [hL, List.length_take, Nat.min_eq_left (by rw [← HM.out]; exact hk)]
        have hLd : Dg L := by rw [hL]; exact dg_take HL.out k
        have hrL : Rd wr wr.heap.size A1 (dV L) := by rw [hL]; exact rd_digs HRD.out
        have hLv : leV L % PN = N0 % PN := by rw [hL, hin]; exact HMOD.out
        have hmk := make_ints 32 (by decide)
        have hmk' : ∀ u : World, (Instr.makeSlice 32 (.int .i64 32) (.int .i64 32)).run Try.prog u = .ok (.slice (some ⟨u.heap.size, 0, none⟩) 32 32) (u.alloc (.cells (dV (partL (L.take 0) 32)).toArray 3)) := hmk
        have hgs : g ≤ wr.heap.size := by have h := HBEL.out; rw [← HG.out] at h ⊢; exact h.size
        have hst0 : D1 wr wr.heap.size (partL (L.take 0) 32) _ := d1_new (partL (L.take 0) 32) (Below.refl wr.heap.size wr)
        have HST0 := Lib.hid hst0
        have HLL := Lib.hid hLl
        have HLD := Lib.hid hLd
        have HRL := Lib.hid hrL
        have HLV := Lib.hid hLv
        have HGS := Lib.hid hgs
        clear hmk hst0 hL hLl hLd hrL hLv hgs hin hk h32 hm63 hmc
        go_wp2_with fail
        generalize ho : wr.heap.size = o at HST0 HRL HGS ⊢
        have HO := Lib.hid ho
        clear ho hmk'
        obtain ⟨wo, rfl⟩ : ∃ x, x = wr := ⟨_, rfl⟩
        go_loopw [4] (fun i wr => ∃ j : Nat, j ≤ k ∧ i = .int .i64 j ∧ D1 wo o (partL (L.take j) 32) wr) (fun i _ => k - (intOf i).toNat)
        case atStart => exact ⟨0, by omega, rfl, HST0.out⟩
        case round =>
          clear HST0
          obtain ⟨j, hj, rfl, hst⟩ := hrel
          have hel : Below o wo wr := by have h := hst.bel; rw [HO.out] at h; exact h
          by_cases hlt : j < k
          · have hlt' : (j : Int) < (k : Int) := by omega
            obtain ⟨ad, rfl, hca⟩ := dig_cell ((HRL.out.below hel).mono (by rw [← HO.out]; exact hst.bel.size)) (k := j) (by rw [HLL.out]; exact hlt)
            obtain ⟨x, hx⟩ : ∃ x, x = L.getD j 0 := ⟨_, rfl⟩
            rw [← hx] at hca
            have htl : (L.take j).length = j := by rw [List.length_take, HLL.out]; omega
            have hset := partL_set (L.take j) 32 j x htl (by omega)
            have hnext : L.take j ++ [x] = L.take (j + 1) := by
              rw [take_snoc (by rw [HLL.out]; exact hlt), hx, List.getD_eq_getElem?_getD, List.getElem?_eq_getElem (by rw [HLL.out]; exact hlt)]; rfl
            rw [hnext] at hset
            have d0 := hst.out.cell j
            rw [dV_cell (by rw [partL_length _ _ (by rw [htl]; omega)]; omega)] at d0
            have q0 := hst.out.free j
            have HSET := Lib.hid hset
            have HST := Lib.hid hst
            have hj32 : (j : Int) < 32 := by omega
            clear hset hst htl hnext hx hel
            go_wp2_with fail
            exact ⟨⟨j + 1, by omega, by go_num, HST.out.put (wrote_setCell_at _ _ _ _) (by have h := blk_setCell_at (i := j) HST.out.out (.int .i64 (x : Int)); rw [dV_set, HSET.out] at h; exact h)⟩, by simp [intOf]; omega⟩
          · obtain rfl : j = k := by omega
            have hfull : dV (partL (L.take j) 32) = dV (digN 32 (leV L)) := by
              congr 1
              have e1 : L.take j = L := by rw [List.take_of_length_le (by rw [HLL.out]; exact Nat.le_refl _)]
              rw [e1]
              refine digN_eq ?_ (partL_length _ _ (by rw [HLL.out]; omega)) ?_
              · intro d hd
                rcases List.mem_append.1 hd with h | h
                · exact HLD.out d h
                · rw [List.eq_of_mem_replicate h]; decide
              · rw [partL, leV_append, leV_replicate, Nat.mul_zero, Nat.add_zero]
            have hblk := hst.out
            rw [hfull] at hblk
            have hrd : Rd wr wr.heap.size (some ⟨o, 0, none⟩) (dV (digN 32 (leV L))) := Rd.of_blk hblk hblk.lt
            have hbig : leV L < 256 ^ 32 := leV_big HLD.out (by rw [HLL.out]; omega)
            have hbel : Below g w wr := HBEL.out.trans (hel.mono HGS.out)
            have hfin0 : ∃ (V : Nat) (A3 : Option Addr) (c3 : Nat), Value.slice (some ⟨o, 0, none⟩) 32 32 = .slice A3 32 c3 ∧ 32 ≤ c3 ∧ V < 256 ^ 32 ∧ V % PN = N0 % PN ∧ Rd wr wr.heap.size A3 (dV (digN 32 V)) ∧ Below g w wr := ⟨leV L, _, 32, rfl, Nat.le_refl _, hbig, HLV.out, hrd, hbel⟩
            have HFIN0 := Lib.hid hfin0
            have HHR : Hid (g ≤ wr.heap.size) := Lib.hid (by have h := hbel; rw [← HG.out] at h ⊢; exact h.size)
            clear hst hel hfull hblk hrd hbig hbel hfin0 hlt hj
            go_wp2_with fail
            obtain ⟨wq, rfl⟩ : ∃ x, x = wr := ⟨_, rfl⟩
            go_loopw [3] (fun v wr => ∃ (V : Nat) (A3 : Option Addr) (c3 : Nat), v = .slice A3 32 c3 ∧ 32 ≤ c3 ∧ V < 256 ^ 32 ∧ V % PN = N0 % PN ∧ Rd wr wr.heap.size A3 (dV (digN 32 V)) ∧ Below g w wr) (fun v wr => digVal v wr)
            case atStart => exact HFIN0.out
            case round =>
              clear HFIN0
              obtain ⟨V, A3, c3, rfl, hc3, hV, hVm, hrV, hbel⟩ := hrel
              have HC3 := Lib.hid hc3
              clear hc3
              have hgw : g ≤ wr.heap.size := by have h := hbel; rw [← HG.out] at h ⊢; exact h.size
              have HV := Lib.hid hV
              have HVM := Lib.hid hVm
              have HRV := Lib.hid hrV
              have HBW := Lib.hid hbel
              have HGW := Lib.hid hgw
              clear hV hVm hrV hbel hgw
              go_wp2_with fail
              refine calls_then (p_any _) ?_
              rintro e w4 ⟨A4, c4, rfl, hc4, hr4, hb4⟩
              have hless := less_any (digN 32 V) pL (digN_dg _ _) pL_dg A3 A4 c3 c4 w4 ((HRV.out.below hb4).mono hb4.size) hr4 (by rw [digN_length]; decide) (by rw [pL_len]; decide)
              rw [digN_val _ _ HV.out, pL_val, digN_length] at hless
              have HLS := Lib.hid hless
              have HB4 := Lib.hid (HBW.out.trans (hb4.mono HGW.out))
              have HR4 := Lib.hid ((HRV.out.below hb4).mono hb4.size)
              have HG4 := Lib.hid (Nat.le_trans HGW.out hb4.size)
              clear hc4 hr4 hb4 hless
              by_cases hlp : V < PN
              · have hls2 := HLS.out
                rw [decide_eq_true hlp] at hls2
                have HLS2 := Lib.hid hls2
                have HFV := Lib.hid (mod_less HVM.out hlp)
                clear hls2 HLS hlp
                go_wp2_with fail
                refine calls_then HLS2.out ?_
                rintro e w5 ⟨rfl, rfl⟩
                go_wp2_with fail
                go_ret
                rw [← HFV.out]
                exact ⟨A3, c3, by rw [digN_length]; rfl, by rw [digN_length]; exact HC3.out, HR4.out, by rw [HG.out]; exact HB4.out⟩
              · have hls2 := HLS.out
                rw [decide_eq_false hlp] at hls2
                have HLS2 := Lib.hid hls2
                have HPV := Lib.hid (Nat.le_of_not_lt hlp)
                clear hls2 HLS hlp
                go_wp2_with fail
                refine calls_then HLS2.out ?_
                rintro e w5 ⟨rfl, rfl⟩
                go_wp2_with fail
                refine calls_then (p_any _) ?_
                rintro e w6 ⟨A6, c6, rfl, hc6, hr6, hb6⟩
                have hmin := minus_any (digN 32 V) pL (digN_dg _ _) pL_dg (by rw [pL_val, digN_val _ _ HV.out]; exact HPV.out) A3 A6 c3 c6 w6 ((HR4.out.below hb6).mono hb6.size) hr6 (by rw [digN_length]; decide) (by rw [pL_len]; decide)
                rw [digN_val _ _ HV.out, pL_val, digN_length] at hmin
                have HMIN := Lib.hid hmin
                have HB6 := Lib.hid (HB4.out.trans (hb6.mono HG4.out))
                have HG6 := Lib.hid (Nat.le_trans HG4.out hb6.size)
                clear hc6 hr6 hb6 hmin
                go_wp2_with fail
                refine calls_then HMIN.out ?_
                rintro e w7 ⟨A7, c7, rfl, hc7, hr7, hb7⟩
                rw [digN_length] at hc7
                rw [digN_length]
                have HC7 := Lib.hid hc7
                have HB7 := Lib.hid (HB6.out.trans (hb7.mono HG6.out))
                have HR7 := Lib.hid hr7
                clear hc7 hr7 hb7
                go_wp2_with fail
                refine ⟨⟨V - PN, A7, c7, rfl, HC7.out, Nat.lt_of_le_of_lt (Nat.sub_le _ _) HV.out, by rw [sub_mod HPV.out]; exact HVM.out, HR7.out, HB7.out⟩, ?_⟩
                have e1 := digVal_rd c7 HR7.out
                have e2 := digVal_rd c3 HRV.out
                rw [digN_length, digN_val _ _ (Nat.lt_of_le_of_lt (Nat.sub_le _ _) HV.out)] at e1
                rw [digN_length, digN_val _ _ HV.out] at e2
                rw [e1, e2]
                exact Nat.sub_lt (Nat.lt_of_lt_of_le (by decide) HPV.out) (by decide)
end Go.Proofs.Ytbeokfpbhemcfaa
/-
  Walks: the reference's Add, Sub, Mul.
-/
namespace Go.Proofs.Ytbeokfpbhemcfaa
set_option linter.unusedSimpArgs false
set_option linter.unusedVariables false
open Go.RowKit

set_option maxHeartbeats 1000000 in
theorem radd_any (a b : List Nat) (ha : Dg a) (hb : Dg b) (A B : Option Addr) (c d : Nat) (w : World) (hra : Rd w w.heap.size A (dV a)) (hrb : Rd w w.heap.size B (dV b)) (hla : a.length ≤ 100000) (hlb : b.length ≤ 100000) :
    Calls Try.prog 44 #[.slice A a.length c, .slice B b.length d] w (DigPost (digN 32 ((leV a + leV b) % PN)) w) := by
  have hp := rplus_any a b ha hb A B c d w hra hrb (by omega) (by omega)
  obtain ⟨S, hS⟩ : ∃ S, S = digN (max a.length b.length + 1) (leV a + leV b) := ⟨_, rfl⟩
  have hSv : leV S = leV a + leV b := by rw [hS]; exact plus_val ha hb
  have hSd : Dg S := by rw [hS]; exact digN_dg _ _
  have hSl : S.length ≤ 1000000 := by rw [hS, digN_length]; omega
  rw [← hS] at hp
  rw [← hSv]
  have HP := Lib.hid hp
  have HSD := Lib.hid hSd
  have HSL := Lib.hid hSl
  generalize a.length = n at *
  generalize b.length = m at *
  clear hp hS hSv hSd hSl hra hrb hla hlb ha hb
  go_enter Try.func44, Try.ntmps44
  go_wp2_with fail
  refine calls_then HP.out ?_
  rintro e w2 ⟨A2, c2, rfl, hc2, hr2, hb2⟩
  have hf := fold_any S HSD.out A2 c2 w2 hr2 hc2 HSL.out
  have HF := Lib.hid hf
  have HB2 := Lib.hid hb2
  clear hc2 hr2 hf hb2
  go_wp2_with fail
  refine calls_then HF.out ?_
  rintro e w3 ⟨A3, c3, rfl, hc3, hr3, hb3⟩
  have HC := Lib.hid hc3
  have HR := Lib.hid hr3
  have HB3 := Lib.hid (HB2.out.trans (hb3.mono HB2.out.size))
  clear hc3 hr3 hb3
  go_wp2_with fail
  go_ret
  exact ⟨A3, c3, rfl, HC.out, HR.out, HB3.out⟩
set_option maxHeartbeats 1000000 in
theorem rmul_any (a b : List Nat) (ha : Dg a) (hb : Dg b) (A B : Option Addr) (c d : Nat) (w : World) (hra : Rd w w.heap.size A (dV a)) (hrb : Rd w w.heap.size B (dV b)) (hla : a.length ≤ 100000) (hlb : b.length ≤ 100000) :
    Calls Try.prog 42 #[.slice A a.length c, .slice B b.length d] w (DigPost (digN 32 (leV a * leV b % PN)) w) := by
  have hp := times_any a b ha hb A B c d w hra hrb (by omega) (by omega)
  obtain ⟨S, hS⟩ : ∃ S, S = digN (a.length + b.length + 1) (leV a * leV b) := ⟨_, rfl⟩
  have hSv : leV S = leV a * leV b := by rw [hS]; exact times_val ha hb
  have hSd : Dg S := by rw [hS]; exact digN_dg _ _
  have hSl : S.length ≤ 1000000 := by rw [hS, digN_length]; omega
  rw [← hS] at hp
  rw [← hSv]
  have HP := Lib.hid hp
  have HSD := Lib.hid hSd
  have HSL := Lib.hid hSl
  generalize a.length = n at *
  generalize b.length = m at *
  clear hp hS hSv hSd hSl hra hrb hla hlb ha hb
  go_enter Try.func42, Try.ntmps42
  go_wp2_with fail
  refine calls_then HP.out ?_
  rintro e w2 ⟨A2, c2, rfl, hc2, hr2, hb2⟩
  have hf := fold_any S HSD.out A2 c2 w2 hr2 hc2 HSL.out
  have HF := Lib.hid hf
  have HB2 := Lib.hid hb2
  clear hc2 hr2 hf hb2
  go_wp2_with fail
  refine calls_then HF.out ?_
  rintro e w3 ⟨A3, c3, rfl, hc3, hr3, hb3⟩
  have HC := Lib.hid hc3
  have HR := Lib.hid hr3
  have HB3 := Lib.hid (HB2.out.trans (hb3.mono HB2.out.size))
  clear hc3 hr3 hb3
  go_wp2_with fail
  go_ret
  exact ⟨A3, c3, rfl, HC.out, HR.out, HB3.out⟩
set_option maxHeartbeats 1000000 in
theorem rsub_any (a b : List Nat) (ha : Dg a) (hb : Dg b) (hle : leV b ≤ leV a + PN) (A B : Option Addr) (c d : Nat) (w : World) (hra : Rd w w.heap.size A (dV a)) (hrb : Rd w w.heap.size B (dV b)) (hla : a.length ≤ 100000) (hlb : b.length ≤ 100000) :
    Calls Try.prog 46 #[.slice A a.length c, .slice B b.length d] w (DigPost (digN 32 ((leV a + PN - leV b) % PN)) w) := by
  obtain ⟨S, hS⟩ : ∃ S, S = digN (max a.length pL.length + 1) (leV a + leV pL) := ⟨_, rfl⟩
  have hSv : leV S = leV a + PN := by rw [hS, plus_val ha pL_dg, pL_val]
  have hSd : Dg S := by rw [hS]; exact digN_dg _ _
  have hSl : S.length ≤ 1000000 := by rw [hS, digN_length, pL_len]; omega
  have hp : ∀ u, Below w.heap.size w u → ∀ A4 c4, Rd u u.heap.size A4 (dV pL) → Calls Try.prog 20 #[.slice A a.length c, .slice A4 pL.length c4] u (DigPost S u) := fun u hu A4 c4 h4 => by
    rw [hS]
    exact rplus_any a pL ha pL_dg A A4 c c4 u ((hra.below hu).mono hu.size) h4 (by omega) (by decide)
  obtain ⟨D, hD⟩ : ∃ D, D = digN S.length (leV S - leV b) := ⟨_, rfl⟩
  have hDv : leV D = leV a + PN - leV b := by
    rw [hD, digN_val, hSv]
    have h := leV_lt S hSd
    omega
  have hDd : Dg D := by rw [hD]; exact digN_dg _ _
  have hDl : D.length ≤ 1000000 := by rw [hD, digN_length]; exact hSl
  have hm : ∀ u, Below w.heap.size w u → ∀ A4 c4, Rd u u.heap.size A4 (dV S) → Calls Try.prog 65 #[.slice A4 S.length c4, .slice B b.length d] u (DigPost D u) := fun u hu A4 c4 h4 => by
    rw [hD]
    exact minus_any S b hSd hb (by rw [hSv]; exact hle) A4 B c4 d u h4 ((hrb.below hu).mono hu.size) hSl (by omega)
  rw [← hDv]
  have HP := Lib.hid hp
  have HMI := Lib.hid hm
  have HDD := Lib.hid hDd
  have HDL := Lib.hid hDl
  generalize a.length = n at *
  generalize b.length = m at *
  clear hp hm hS hSv hSd hSl hD hDv hDd hDl hra hrb hla hlb ha hb hle
  go_enter Try.func46, Try.ntmps46
  go_wp2_with fail
  refine calls_then (p_any _) ?_
  rintro e w1 ⟨A1, c1, rfl, hc1, hr1, hb1⟩
  have HC1 := Lib.hid (HP.out w1 hb1 A1 c1 hr1)
  have HB1 := Lib.hid hb1
  clear hc1 hr1 hb1
  go_wp2_with fail
  refine calls_then HC1.out ?_
  rintro e w2 ⟨A2, c2, rfl, hc2, hr2, hb2⟩
  have HB2 := Lib.hid (HB1.out.trans (hb2.mono HB1.out.size))
  have HC2 := Lib.hid (HMI.out w2 HB2.out A2 c2 hr2)
  clear hc2 hr2 hb2
  go_wp2_with fail
  refine calls_then HC2.out ?_
  rintro e w3 ⟨A3, c3, rfl, hc3, hr3, hb3⟩
  have HB3 := Lib.hid (HB2.out.trans (hb3.mono HB2.out.size))
  have hf := fold_any D HDD.out A3 c3 w3 hr3 hc3 HDL.out
  have HF := Lib.hid hf
  clear hc3 hr3 hb3 hf
  go_wp2_with fail
  refine calls_then HF.out ?_
  rintro e w4 ⟨A4, c4, rfl, hc4, hr4, hb4⟩
  have HC := Lib.hid hc4
  have HR := Lib.hid hr4
  have HB4 := Lib.hid (HB3.out.trans (hb4.mono HB3.out.size))
  clear hc4 hr4 hb4
  go_wp2_with fail
  go_ret
  exact ⟨A4, c4, rfl, HC.out, HR.out, HB4.out⟩
end Go.Proofs.Ytbeokfpbhemcfaa
/-
  Walk: the reference's Int.
-/
namespace Go.Proofs.Ytbeokfpbhemcfaa
set_option linter.unusedSimpArgs false
set_option linter.unusedVariables false
open Go.RowKit

theorem int_step {d : List Nat} {k m N : Nat} (hl : d.length = k) (h : leV d + 256 ^ k * m = N) : leV (d ++ [m % 256]) + 256 ^ (k + 1) * (m / 256) = N := by
  rw [leV_snoc, hl, Nat.pow_succ]
  have e : 256 ^ k * (m % 256) + 256 ^ k * 256 * (m / 256) = 256 ^ k * m := by
    rw [Nat.mul_assoc, ← Nat.mul_add, Nat.mod_add_div]
  omega
set_option maxRecDepth 100000 in
set_option maxHeartbeats 2000000 in
theorem rint_nat (N : Nat) (hN : N < 9223372036854775808) (w : World) :
    Calls Try.prog 41 #[.int .i64 (N : Int)] w (DigPost (digN 32 (N % PN)) w) := by
  have hbig : N < 256 ^ 9 := Nat.lt_trans hN (by decide)
  have hpos : ¬ (N : Int) < 0 := by omega
  have hs0 : ∃ (k m : Nat) (A : Option Addr) (c : Nat) (d : List Nat), k ≤ 9 ∧ Value.int .i64 (N : Int) = .int .i64 (m : Int) ∧ Value.slice none 0 0 = .slice A k c ∧ d.length = k ∧ Dg d ∧ leV d + 256 ^ k * m = N ∧ m ≤ N ∧ OwnX w w.heap.size 3 1 (.slice A k c) k (dV d) ∧ Below w.heap.size w w :=
    ⟨0, N, none, 0, [], by omega, rfl, rfl, rfl, by unfold Dg; simp, by simp [leV], Nat.le_refl _, OwnX.nil _ _ _ _, Below.refl _ _⟩
  have HS0 := Lib.hid hs0
  have HBIG := Lib.hid hbig
  have HNL := Lib.hid hN
  clear hs0 hbig hN
  go_enter Try.func41, Try.ntmps41
  go_wp2_with fail
  generalize hg : w.heap.size = g at HS0 ⊢
  have HG := Lib.hid hg
  clear hg
  go_loopw [0, 3] (fun n v wr => ∃ (k m : Nat) (A : Option Addr) (c : Nat) (d : List Nat), k ≤ 9 ∧ n = .int .i64 (m : Int) ∧ v = .slice A k c ∧ d.length = k ∧ Dg d ∧ leV d + 256 ^ k * m = N ∧ m ≤ N ∧ OwnX wr g 3 1 (.slice A k c) k (dV d) ∧ Below g w wr) (fun n _ _ => (intOf n).toNat)
  case atStart => exact HS0.out
  case round =>
    clear HS0
    obtain ⟨k, m, A, c, d, hk, rfl, rfl, hdl, hdd, heq, hmN, hown, hbel⟩ := hrel
    have hsz : g ≤ wr.heap.size := by have h := hbel; rw [← HG.out] at h ⊢; exact h.size
    by_cases hm0 : 0 < m
    · have hm0' : ¬ (m : Int) = 0 := by omega
      have hk9 := times_room heq HBIG.out hm0
      obtain ⟨x, hx⟩ : ∃ x, m % 256 = x := ⟨_, rfl⟩
      obtain ⟨q, hq⟩ : ∃ q, m / 256 = q := ⟨_, rfl⟩
      have hxi : (m : Int) % 256 = (x : Int) := by omega
      have hqi : (m : Int) / 256 = (q : Int) := by omega
      have hx0 : ¬ (x : Int) < 0 := by omega
      have hstep := int_step hdl heq
      rw [hx, hq] at hstep
      have HSTEP := Lib.hid hstep
      have HDD := Lib.hid (dg_snoc hdd (show x < 256 by omega))
      have HDL := Lib.hid (show (d ++ [x]).length = k + 1 by rw [List.length_append, hdl]; rfl)
      have HQM := Lib.hid (show q < m by omega)
      have HMN := Lib.hid hmN
      have HK9 := Lib.hid hk9
      have HOWN := Lib.hid hown
      have HBEL := Lib.hid hbel
      have HSZ := Lib.hid hsz
      have hm63 : (m : Int) ≤ 9223372036854775807 := by have := HNL.out; omega
      clear hstep hdl hdd heq hmN hown hbel hsz hm0 hx hq hk hk9
      go_wp2_with (refine wpList_append_one sl_ints rfl rfl HOWN.out rfl rfl rfl rfl (by have := HK9.out; unfold maxLen; omega) (by have := HK9.out; omega) HSZ.out ?_; intro A2 c2 w2 hown2 hg2 hn2; have HOWN2 := Lib.hid hown2; have HG2 := Lib.hid hg2; clear hown2 hg2 hn2)
      refine ⟨⟨k + 1, q, A2, c2, d ++ [x], HK9.out, rfl, rfl, HDL.out, HDD.out, HSTEP.out, by have := HQM.out; have := HMN.out; omega, ?_, below_grow HBEL.out HOWN.out HSZ.out HG2.out⟩, by have := HQM.out; simp [intOf]; omega⟩
      rw [dV_append]
      exact HOWN2.out
    · obtain rfl : m = 0 := by omega
      have hv : leV d = N := by rw [← heq]; simp
      have hf := fold_any d hdd A c wr (Rd.of_own hown (Nat.le_refl _)) (by rw [hdl]; exact hown.le_cap) (by rw [hdl]; omega)
      rw [hdl, hv] at hf
      have HF := Lib.hid hf
      have HBEL := Lib.hid hbel
      have HSZ := Lib.hid hsz
      clear hf hbel hsz hown heq hdd hdl hv hk hmN hm0
      go_wp2_with fail
      refine calls_then HF.out ?_
      rintro e w3 ⟨A3, c3, rfl, hc3, hr3, hb3⟩
      have HC := Lib.hid hc3
      have HR := Lib.hid hr3
      have HB3 := Lib.hid (HBEL.out.trans (hb3.mono HSZ.out))
      clear hc3 hr3 hb3
      go_wp2_with fail
      go_ret
      exact ⟨A3, c3, rfl, HC.out, HR.out, by rw [HG.out]; exact HB3.out⟩
set_option maxRecDepth 100000 in
set_option maxHeartbeats 2000000 in
theorem rint_neg (N : Nat) (hN : N ≤ 9223372036854775808) (h0 : 0 < N) (w : World) :
    Calls Try.prog 41 #[.int .i64 (-(N : Int))] w (DigPost (digN 32 ((PN - N % PN) % PN)) w) := by
  have hbig : N < 256 ^ 9 := Nat.lt_of_le_of_lt hN (by decide)
  have hpos : -(N : Int) < 0 := by omega
  have hs0 : ∃ (k m : Nat) (A : Option Addr) (c : Nat) (d : List Nat), k ≤ 9 ∧ Value.int .i64 (-(N : Int)) = .int .i64 (-(m : Int)) ∧ Value.slice none 0 0 = .slice A k c ∧ d.length = k ∧ Dg d ∧ leV d + 256 ^ k * m = N ∧ m ≤ N ∧ OwnX w w.heap.size 3 1 (.slice A k c) k (dV d) ∧ Below w.heap.size w w :=
    ⟨0, N, none, 0, [], by omega, rfl, rfl, rfl, by unfold Dg; simp, by simp [leV], Nat.le_refl _, OwnX.nil _ _ _ _, Below.refl _ _⟩
  have HS0 := Lib.hid hs0
  have HBIG := Lib.hid hbig
  have HNL := Lib.hid hN
  clear hs0 hbig hN h0
  go_enter Try.func41, Try.ntmps41
  go_wp2_with fail
  generalize hg : w.heap.size = g at HS0 ⊢
  have HG := Lib.hid hg
  clear hg
  go_loopw [0, 3] (fun n v wr => ∃ (k m : Nat) (A : Option Addr) (c : Nat) (d : List Nat), k ≤ 9 ∧ n = .int .i64 (-(m : Int)) ∧ v = .slice A k c ∧ d.length = k ∧ Dg d ∧ leV d + 256 ^ k * m = N ∧ m ≤ N ∧ OwnX wr g 3 1 (.slice A k c) k (dV d) ∧ Below g w wr) (fun n _ _ => (-(intOf n)).toNat)
  case atStart => exact HS0.out
  case round =>
    clear HS0
    obtain ⟨k, m, A, c, d, hk, rfl, rfl, hdl, hdd, heq, hmN, hown, hbel⟩ := hrel
    have hsz : g ≤ wr.heap.size := by have h := hbel; rw [← HG.out] at h ⊢; exact h.size
    by_cases hm0 : 0 < m
    · have hm0' : ¬ (m : Int) = 0 := by omega
      have hk9 := times_room heq HBIG.out hm0
      obtain ⟨x, hx⟩ : ∃ x, m % 256 = x := ⟨_, rfl⟩
      obtain ⟨q, hq⟩ : ∃ q, m / 256 = q := ⟨_, rfl⟩
      have hxi : (m : Int) % 256 = (x : Int) := by omega
      have hqi : (m : Int) / 256 = (q : Int) := by omega
      have hstep := int_step hdl heq
      rw [hx, hq] at hstep
      have HSTEP := Lib.hid hstep
      have HDD := Lib.hid (dg_snoc hdd (show x < 256 by omega))
      have HDL := Lib.hid (show (d ++ [x]).length = k + 1 by rw [List.length_append, hdl]; rfl)
      have HQM := Lib.hid (show q < m by omega)
      have HMN := Lib.hid hmN
      have HK9 := Lib.hid hk9
      have HOWN := Lib.hid hown
      have HBEL := Lib.hid hbel
      have HSZ := Lib.hid hsz
      have hm63 : (m : Int) ≤ 9223372036854775808 := by have := HNL.out; omega
      clear hstep hdl hdd heq hmN hown hbel hsz hm0 hx hq hk hk9
      by_cases hxz : x = 0
      · subst hxz
        go_wp2_with (refine wpList_append_one sl_ints rfl rfl HOWN.out rfl rfl rfl rfl (by have := HK9.out; unfold maxLen; omega) (by have := HK9.out; omega) HSZ.out ?_; intro A2 c2 w2 hown2 hg2 hn2; have HOWN2 := Lib.hid hown2; have HG2 := Lib.hid hg2; clear hown2 hg2 hn2)
        refine ⟨⟨k + 1, q, A2, c2, d ++ [0], HK9.out, rfl, rfl, HDL.out, HDD.out, HSTEP.out, by have := HQM.out; have := HMN.out; omega, ?_, below_grow HBEL.out HOWN.out HSZ.out HG2.out⟩, by have := HQM.out; simp [intOf]; omega⟩
        rw [dV_append]
        exact HOWN2.out
      · have hxp : 0 < x := Nat.pos_of_ne_zero hxz
        clear hxz
        go_wp2_with (refine wpList_append_one sl_ints rfl rfl HOWN.out rfl rfl rfl rfl (by have := HK9.out; unfold maxLen; omega) (by have := HK9.out; omega) HSZ.out ?_; intro A2 c2 w2 hown2 hg2 hn2; have HOWN2 := Lib.hid hown2; have HG2 := Lib.hid hg2; clear hown2 hg2 hn2)
        refine ⟨⟨k + 1, q, A2, c2, d ++ [x], HK9.out, rfl, rfl, HDL.out, HDD.out, HSTEP.out, by have := HQM.out; have := HMN.out; omega, ?_, below_grow HBEL.out HOWN.out HSZ.out HG2.out⟩, by have := HQM.out; simp [intOf]; omega⟩
        rw [dV_append]
        exact HOWN2.out
    · obtain rfl : m = 0 := by omega
      have hv : leV d = N := by rw [← heq]; simp
      have hf := fold_any d hdd A c wr (Rd.of_own hown (Nat.le_refl _)) (by rw [hdl]; exact hown.le_cap) (by rw [hdl]; omega)
      rw [hdl, hv] at hf
      have HF := Lib.hid hf
      have HBEL := Lib.hid hbel
      have HSZ := Lib.hid hsz
      clear hf hbel hsz hown heq hdd hdl hv hk hmN hm0
      go_wp2_with fail
      refine calls_then HF.out ?_
      rintro e w3 ⟨A3, c3, rfl, hc3, hr3, hb3⟩
      have HC := Lib.hid hc3
      have HR := Lib.hid hr3
      have HB3 := Lib.hid (HBEL.out.trans (hb3.mono HSZ.out))
      clear hc3 hr3 hb3
      have hz32 : DigPost (digN 32 ((PN - N % PN) % PN)) = DigPost (digN 32 ((leV (partL [] 32) + PN - leV (digN 32 (N % PN))) % PN)) := by
        rw [partL_nil, leV_replicate, digN_val _ _ (Nat.lt_trans (Nat.mod_lt _ (by decide)) (by decide : PN < 256 ^ 32)), Nat.zero_add]
      have HZ := Lib.hid hz32
      have hmk := make_ints 32 (by decide)
      have hmk' : ∀ u : World, (Instr.makeSlice 32 (.int .i64 32) (.int .i64 32)).run Try.prog u = .ok (.slice (some ⟨u.heap.size, 0, none⟩) 32 32) (u.alloc (.cells (dV (partL [] 32)).toArray 3)) := hmk
      have hnew := Blk.new w3 3 (dV (partL [] 32)).toArray
      have hbn : Below w3.heap.size w3 (w3.alloc (.cells (dV (partL [] 32)).toArray 3)) := below_new _ _
      have hsub := rsub_any (partL [] 32) (digN 32 (N % PN)) (fun d h => by rw [List.eq_of_mem_replicate h]; decide) (digN_dg _ _) (by
        rw [digN_val _ _ (Nat.lt_trans (Nat.mod_lt _ (by decide)) (by decide : PN < 256 ^ 32))]
        have := Nat.mod_lt N (show 0 < PN by decide)
        omega) (some ⟨w3.heap.size, 0, none⟩) A3 32 c3 _ (Rd.of_blk hnew hnew.lt) ((HR.out.below hbn).mono hbn.size) (by rw [partL_length _ _ (Nat.zero_le _)]; decide) (by rw [digN_length]; decide)
      rw [partL_length _ _ (Nat.zero_le _), digN_length] at hsub
      have HSUB := Lib.hid hsub
      have HBN := Lib.hid (HB3.out.trans (hbn.mono (by have h := HB3.out; rw [← HG.out] at h ⊢; exact h.size)))
      clear hz32 hmk hnew hbn hsub
      go_wp2_with fail
      rw [digN_length]
      refine calls_then HSUB.out ?_
      rintro e w5 ⟨A5, c5, rfl, hc5, hr5, hb5⟩
      have HC5 := Lib.hid hc5
      have HR5 := Lib.hid hr5
      have HB5 := Lib.hid (HBN.out.trans (hb5.mono (by have h := HBN.out; rw [← HG.out] at h ⊢; exact h.size)))
      clear hc5 hr5 hb5
      go_wp2_with fail
      go_ret
      rw [HZ.out]
      exact ⟨A5, c5, rfl, HC5.out, HR5.out, by rw [HG.out]; exact HB5.out⟩
end Go.Proofs.Ytbeokfpbhemcfaa
/-
  The reference's Same; an element's digits, and its contracts by them.
-/
namespace Go.Proofs.Ytbeokfpbhemcfaa
set_option linter.unusedSimpArgs false
set_option linter.unusedVariables false
open Go.RowKit

theorem refB_dig (V : Nat) : refB (digN 32 V) = byB V := by
  rw [refB, byB, byN_dig]
  apply List.ext_getElem?
  intro j
  by_cases hj : j < 32
  · rw [List.getElem?_map, List.getElem?_map, List.getElem?_range hj, List.getElem?_eq_getElem (by rw [digN_length]; exact hj)]
    simp [List.getD_eq_getElem?_getD, List.getElem?_eq_getElem (show j < (digN 32 V).length by rw [digN_length]; exact hj)]
  · rw [List.getElem?_eq_none (by simp; omega), List.getElem?_eq_none (by simp [digN_length]; omega)]
theorem intE_neg {m : Nat} (hm : m ≤ 9223372036854775808) : (subE zE (natE m)).val % PN = (PN - m % PN) % PN := by
  have h := sub_val (x := zE) (y := natE m) (natE_ok hm)
  rw [natE_val, show zE.val = 0 from rfl] at h
  obtain ⟨v, hv⟩ : ∃ v, v = (subE zE (natE m)).val := ⟨_, rfl⟩
  rw [← hv] at h ⊢
  simp only [PN] at *
  omega
theorem zero_int : eqB zE (intE 0) = true := eqB_true zE_ok (intE_ok (by decide) (by decide)) (by rw [show intE 0 = natE 0 from intE_nat 0, natE_val]; rfl)
theorem mod_lt_big (N : Nat) : N % PN < 256 ^ 32 := Nat.lt_trans (Nat.mod_lt _ (by decide)) (by decide)
/-- what the law asks of a number -/
theorem int_parts (n : Int) (h1 : -9223372036854775808 ≤ n) (h2 : n < 9223372036854775808) : ∃ V, (intE n).val % PN = V % PN ∧ ∀ w, Calls Try.prog 41 #[.int .i64 n] w (DigPost (digN 32 (V % PN)) w) := by
  by_cases hn : n < 0
  · obtain ⟨m, rfl⟩ : ∃ m : Nat, n = -(m : Int) := ⟨n.natAbs, by omega⟩
    refine ⟨PN - m % PN, ?_, fun w => rint_neg m (by omega) (by omega) w⟩
    have e : intE (-(m : Int)) = subE zE (natE m) := by
      unfold intE
      rw [if_pos hn, Int.natAbs_neg, Int.natAbs_natCast]
    rw [e]
    exact intE_neg (by omega)
  · obtain ⟨m, rfl⟩ : ∃ m : Nat, n = (m : Int) := ⟨n.natAbs, by omega⟩
    refine ⟨m, by rw [intE_nat, natE_val], fun w => rint_nat m (by omega) w⟩
set_option maxRecDepth 100000 in
set_option maxHeartbeats 2000000 in
theorem same_any (a b : List Nat) (ha : Dg a) (hb : Dg b) (hla : a.length = 32) (hlb : b.length = 32) (A B : Option Addr) (c d : Nat) (w : World) (hra : Rd w w.heap.size A (dV a)) (hrb : Rd w w.heap.size B (dV b)) (hc : 32 ≤ c) (hd : 32 ≤ d) :
    Calls Try.prog 54 #[.slice A 32 c, .slice B 32 d] w (BoolPost (refB a == refB b) w) := by
  obtain ⟨Y, hY⟩ : ∃ Y, Y = refB a := ⟨_, rfl⟩
  obtain ⟨Z, hZ⟩ : ∃ Z, Z = refB b := ⟨_, rfl⟩
  have hYl : Y.length = 32 := by rw [hY, refB_length]
  have hZl : Z.length = 32 := by rw [hZ, refB_length]
  have cY : ∀ u, Below w.heap.size w u → Calls Try.prog 19 #[.slice A 32 c] u (OwnPost 5 32 (bytesV Y) u) := fun u hu => by
    have h := rbytes_any a ha A c u ((hra.below hu).mono hu.size) (by omega) (by omega)
    rw [hla, ← hY] at h; exact h
  have cZ : ∀ u, Below w.heap.size w u → Calls Try.prog 19 #[.slice B 32 d] u (OwnPost 5 32 (bytesV Z) u) := fun u hu => by
    have h := rbytes_any b hb B d u ((hrb.below hu).mono hu.size) (by omega) (by omega)
    rw [hlb, ← hZ] at h; exact h
  rw [← hY, ← hZ]
  have CY := Lib.hid cY
  have CZ := Lib.hid cZ
  have HYL := Lib.hid hYl
  have HZL := Lib.hid hZl
  clear hra hrb ha hb hla hlb hc hd hY hZ hYl hZl cY cZ
  go_enter Try.func54, Try.ntmps54
  go_wp2_with fail
  have HC0 : Below w.heap.size w w.drew := (Below.refl _ _).drew
  refine wp_region_list (fun u => Below w.heap.size w u) (fun | false => (fun _ => True) | true => (fun _ => True)) (fun | false, _ => false | true, _ => false)
    [fun z _ => z 0 = .slice A 32 c,
     fun z u => (RdV 32 (bytesV Y)) (z 1) u,
     fun z _ => z 2 = .string ⟨Y.toArray⟩,
     fun z _ => z 3 = .slice B 32 d,
     fun z u => (RdV 32 (bytesV Z)) (z 4) u,
     fun z _ => z 5 = .string ⟨Z.toArray⟩,
     fun z _ => z 6 = .bool (Y == Z),
     fun z _ => z 7 = .bool (Y == Z)]
    [Eq, fun u u' => Below u.heap.size u u', Eq, Eq, fun u u' => Below u.heap.size u u', Eq, Eq, Eq]
    (fun _ _ => false) [(0, some 5), (1, some 6), (2, some 7), (3, some 8), (4, some 9), (5, some 10), (6, some 11), (7, some 4)] (by kernel_rfl) (by kernel_rfl) rfl (fun _ => rfl) ?_ ?_ ?_ ?_ ?_ ?_
  · exact HC0
  · intro m; cases m; exact trivial; exact trivial
  · intro m; cases m
    · exact ⟨.inr (fun _ _ h h0 => h ▸ h0), .inr (fun _ _ _ h => h), .inr (fun _ _ h h0 => h ▸ h0), .inr (fun _ _ h h0 => h ▸ h0), .inr (fun _ _ _ h => h), .inr (fun _ _ h h0 => h ▸ h0), .inr (fun _ _ h h0 => h ▸ h0), .inr (fun _ _ h h0 => h ▸ h0), trivial⟩
    · exact ⟨.inr (fun _ _ h h0 => h ▸ h0), .inr (fun _ _ _ h => h), .inr (fun _ _ h h0 => h ▸ h0), .inr (fun _ _ h h0 => h ▸ h0), .inr (fun _ _ _ h => h), .inr (fun _ _ h h0 => h ▸ h0), .inr (fun _ _ h h0 => h ▸ h0), .inr (fun _ _ h h0 => h ▸ h0), trivial⟩
  · exact ⟨⟨.inl rfl, .inr (.inr (.inl rfl)), .inr (.inr (.inl rfl)), .inr (.inr (.inr (fun _ _ _ _ _ h => h))), .inr (.inr (.inl rfl)), .inr (.inr (.inl rfl)), .inr (.inr (.inl rfl)), .inr (.inr (.inl rfl)), trivial⟩,
      ⟨.inr (.inr (.inr (fun _ _ _ _ _ h => h))), .inl rfl, .inr (.inr (.inl rfl)), .inr (.inr (.inr (fun _ _ _ _ _ h => h))), .inr (.inr (.inl rfl)), .inr (.inr (.inl rfl)), .inr (.inr (.inl rfl)), .inr (.inr (.inl rfl)), trivial⟩,
      ⟨.inr (.inr (.inr (fun _ _ _ _ _ h => h))), .inr (.inr (.inr (fun _ _ _ _ h h0 => by cases h; exact h0))), .inl rfl, .inr (.inr (.inr (fun _ _ _ _ _ h => h))), .inr (.inr (.inr (fun _ _ _ _ h h0 => by cases h; exact h0))), .inr (.inr (.inr (fun _ _ _ _ _ h => h))), .inr (.inr (.inl rfl)), .inr (.inr (.inl rfl)), trivial⟩,
      ⟨.inr (.inr (.inr (fun _ _ _ _ _ h => h))), .inr (.inr (.inr (fun _ _ _ _ h h0 => by cases h; exact h0))), .inr (.inr (.inr (fun _ _ _ _ _ h => h))), .inl rfl, .inr (.inr (.inl rfl)), .inr (.inr (.inl rfl)), .inr (.inr (.inl rfl)), .inr (.inr (.inl rfl)), trivial⟩,
      ⟨.inr (.inr (.inr (fun _ _ _ _ _ h => h))), .inr (.inr (.inr (fun _ _ _ _ h h0 => h0.next h))), .inr (.inr (.inr (fun _ _ _ _ _ h => h))), .inr (.inr (.inr (fun _ _ _ _ _ h => h))), .inl rfl, .inr (.inr (.inl rfl)), .inr (.inr (.inl rfl)), .inr (.inr (.inl rfl)), trivial⟩,
      ⟨.inr (.inr (.inr (fun _ _ _ _ _ h => h))), .inr (.inr (.inr (fun _ _ _ _ h h0 => by cases h; exact h0))), .inr (.inr (.inr (fun _ _ _ _ _ h => h))), .inr (.inr (.inr (fun _ _ _ _ _ h => h))), .inr (.inr (.inr (fun _ _ _ _ h h0 => by cases h; exact h0))), .inl rfl, .inr (.inr (.inl rfl)), .inr (.inr (.inl rfl)), trivial⟩,
      ⟨.inr (.inr (.inr (fun _ _ _ _ _ h => h))), .inr (.inr (.inr (fun _ _ _ _ h h0 => by cases h; exact h0))), .inr (.inr (.inr (fun _ _ _ _ _ h => h))), .inr (.inr (.inr (fun _ _ _ _ _ h => h))), .inr (.inr (.inr (fun _ _ _ _ h h0 => by cases h; exact h0))), .inr (.inr (.inr (fun _ _ _ _ _ h => h))), .inl rfl, .inr (.inr (.inl rfl)), trivial⟩,
      ⟨.inr (.inr (.inr (fun _ _ _ _ _ h => h))), .inr (.inr (.inr (fun _ _ _ _ h h0 => by cases h; exact h0))), .inr (.inr (.inr (fun _ _ _ _ _ h => h))), .inr (.inr (.inr (fun _ _ _ _ _ h => h))), .inr (.inr (.inr (fun _ _ _ _ h h0 => by cases h; exact h0))), .inr (.inr (.inr (fun _ _ _ _ _ h => h))), .inr (.inr (.inr (fun _ _ _ _ _ h => h))), .inl rfl, trivial⟩, trivial⟩
  · refine ⟨?_, ?_, ?_, ?_, ?_, ?_, ?_, ?_, trivial⟩
    · -- 0: Op.move (Operand.tmp 0)
      refine step_plain [] (fun _ => rfl) rfl ?_
      intro w1 vals hC1 hi0 hf E hE
      clear hi0
      clear hf
      simp only [puts, act_put, act_put_none, List.setIfInBounds_toArray, List.set_cons_zero, List.set_cons_succ] at hE ⊢
      go_wp2
      exact .mk (hE _ _ rfl hC1 rfl)
    · -- 1: Op.call { callee := Callee.value (Operand.func 19), args := #[Operand.tmp 5], argTypes := #[32] }
      refine step_plain [(0, some 5)] (fun _ => rfl) rfl ?_
      intro w1 vals hC1 hi0 hf E hE
      clear hi0
      have f0 : vals 0 = .slice A 32 c := hf 0 rfl
      try dsimp only at f0
      clear hf
      simp only [puts, act_put, act_put_none, List.setIfInBounds_toArray, List.set_cons_zero, List.set_cons_succ, f0] at hE ⊢
      clear f0
      go_wp2_with fail
      refine calls_then (CY.out _ hC1) ?_
      rintro e w2 ⟨A2, c2, rfl, hown, hb2⟩
      have hrv := RdV.of_own hown
      go_wp2_with fail
      exact .mk (hE _ _ hrv (hC1.trans (hb2.mono hC1.size)) hb2)
    · -- 2: Op.convert 22 9 (Operand.tmp 6)
      refine step_plain [(1, some 6)] (fun _ => rfl) rfl ?_
      intro w1 vals hC1 hi0 hf E hE
      clear hi0
      have f1 : (RdV 32 (bytesV Y)) (vals 1) w1 := hf 1 rfl
      try dsimp only at f1
      clear hf
      obtain ⟨A2, c2, hx2, hc2, hrd⟩ := f1
      simp only [puts, act_put, act_put_none, List.setIfInBounds_toArray, List.set_cons_zero, List.set_cons_succ, hx2] at hE ⊢
      clear hx2
      refine wpList_str_of (l := Y) hrd Try.underlying22 Try.underlying5 Try.underlying9 rfl rfl (len_eq HYL.out _ _) ?_
      go_wp2_with fail
      exact .mk (hE _ _ rfl hC1 rfl)
    · -- 3: Op.move (Operand.tmp 1)
      refine step_plain [] (fun _ => rfl) rfl ?_
      intro w1 vals hC1 hi0 hf E hE
      clear hi0
      clear hf
      simp only [puts, act_put, act_put_none, List.setIfInBounds_toArray, List.set_cons_zero, List.set_cons_succ] at hE ⊢
      go_wp2
      exact .mk (hE _ _ rfl hC1 rfl)
    · -- 4: Op.call { callee := Callee.value (Operand.func 19), args := #[Operand.tmp 8], argTypes := #[32] }
      refine step_plain [(3, some 8), (1, some 6)] (fun _ => rfl) rfl ?_
      intro w1 vals hC1 hi0 hf E hE
      clear hi0
      have f1 : (RdV 32 (bytesV Y)) (vals 1) w1 := hf 1 rfl
      have f3 : vals 3 = .slice B 32 d := hf 3 rfl
      try dsimp only at f1 f3
      clear hf
      simp only [puts, act_put, act_put_none, List.setIfInBounds_toArray, List.set_cons_zero, List.set_cons_succ, f3] at hE ⊢
      clear f3
      go_wp2_with fail
      refine calls_then (CZ.out _ hC1) ?_
      rintro e w2 ⟨A2, c2, rfl, hown, hb2⟩
      have hrv := RdV.of_own hown
      go_wp2_with fail
      exact .mk (hE _ _ hrv (hC1.trans (hb2.mono hC1.size)) hb2)
    · -- 5: Op.convert 22 9 (Operand.tmp 9)
      refine step_plain [(4, some 9)] (fun _ => rfl) rfl ?_
      intro w1 vals hC1 hi0 hf E hE
      clear hi0
      have f4 : (RdV 32 (bytesV Z)) (vals 4) w1 := hf 4 rfl
      try dsimp only at f4
      clear hf
      obtain ⟨A2, c2, hx2, hc2, hrd⟩ := f4
      simp only [puts, act_put, act_put_none, List.setIfInBounds_toArray, List.set_cons_zero, List.set_cons_succ, hx2] at hE ⊢
      clear hx2
      refine wpList_str_of (l := Z) hrd Try.underlying22 Try.underlying5 Try.underlying9 rfl rfl (len_eq HZL.out _ _) ?_
      go_wp2_with fail
      exact .mk (hE _ _ rfl hC1 rfl)
    · -- 6: Op.binOp BinOp.eql 9 (Operand.tmp 7) (Operand.tmp 10) 9
      refine step_plain [(2, some 7), (5, some 10)] (fun _ => rfl) rfl ?_
      intro w1 vals hC1 hi0 hf E hE
      clear hi0
      have f2 : vals 2 = .string ⟨Y.toArray⟩ := hf 2 rfl
      have f5 : vals 5 = .string ⟨Z.toArray⟩ := hf 5 rfl
      try dsimp only at f2 f5
      clear hf
      simp only [puts, act_put, act_put_none, List.setIfInBounds_toArray, List.set_cons_zero, List.set_cons_succ, f2, f5] at hE ⊢
      clear f2 f5
      go_wp2
      exact .mk (hE _ _ rfl hC1 rfl)
    · -- 7: Op.assign (Operand.tmp 11)
      refine step_plain [(6, some 11), (4, some 9), (0, some 5), (1, some 6), (2, some 7), (3, some 8), (4, some 9), (5, some 10), (6, some 11)] (fun _ => rfl) rfl ?_
      intro w1 vals hC1 hi0 hf E hE
      clear hi0
      have f0 : vals 0 = .slice A 32 c := hf 0 rfl
      have f1 : (RdV 32 (bytesV Y)) (vals 1) w1 := hf 1 rfl
      have f2 : vals 2 = .string ⟨Y.toArray⟩ := hf 2 rfl
      have f3 : vals 3 = .slice B 32 d := hf 3 rfl
      have f4 : (RdV 32 (bytesV Z)) (vals 4) w1 := hf 4 rfl
      have f5 : vals 5 = .string ⟨Z.toArray⟩ := hf 5 rfl
      have f6 : vals 6 = .bool (Y == Z) := hf 6 rfl
      try dsimp only at f0 f1 f2 f3 f4 f5 f6
      clear hf
      simp only [puts, act_put, act_put_none, List.setIfInBounds_toArray, List.set_cons_zero, List.set_cons_succ, f0, f2, f3, f5, f6] at hE ⊢
      clear f0 f2 f3 f5 f6
      go_wp2
      exact .mk (hE _ _ rfl hC1 rfl)
  intro w1 vals hC1 hf
  have f0 : vals 0 = .slice A 32 c := hf 0 (by decide) rfl
  have f1 : (RdV 32 (bytesV Y)) (vals 1) w1 := hf 1 (by decide) rfl
  have f2 : vals 2 = .string ⟨Y.toArray⟩ := hf 2 (by decide) rfl
  have f3 : vals 3 = .slice B 32 d := hf 3 (by decide) rfl
  have f4 : (RdV 32 (bytesV Z)) (vals 4) w1 := hf 4 (by decide) rfl
  have f5 : vals 5 = .string ⟨Z.toArray⟩ := hf 5 (by decide) rfl
  have f6 : vals 6 = .bool (Y == Z) := hf 6 (by decide) rfl
  have f7 : vals 7 = .bool (Y == Z) := hf 7 (by decide) rfl
  try dsimp only at f0 f1 f2 f3 f4 f5 f6 f7
  clear hf
  simp only [puts, act_put, act_put_none, List.setIfInBounds_toArray, List.set_cons_zero, List.set_cons_succ, f0, f2, f3, f5, f6, f7]
  clear f0 f2 f3 f5 f6 f7
  generalize vals 1 = x1 at *
  generalize vals 4 = x4 at *
  clear HC0 f1 f4
  go_wp2_with fail
  go_ret
  exact ⟨rfl, hC1⟩
/-- an element's digits -/
def dgE (x : E5) : List Nat := digN 32 (x.val % PN)
theorem dgE_dg (x : E5) : Dg (dgE x) := digN_dg _ _
theorem dgE_length (x : E5) : (dgE x).length = 32 := digN_length _ _
theorem dgE_val (x : E5) : leV (dgE x) = x.val % PN := digN_val _ _ (mod_lt_big _)
theorem dgE_lt (x : E5) : leV (dgE x) < PN := by rw [dgE_val]; exact Nat.mod_lt _ (by decide)
theorem sm_mod (x : E5) : Sm x.val (leV (dgE x)) := by rw [dgE_val]; exact (Nat.mod_mod _ _).symm
section
variable {x y : E5} {A B : Option Addr} {c d : Nat} {u : World}
theorem sum_add (hr : Rd u u.heap.size A (dV (dgE x))) (hs : Rd u u.heap.size B (dV (dgE y))) : Calls Try.prog 44 #[.slice A 32 c, .slice B 32 d] u (DigPost (dgE (addE x y)) u) := by
  have h := radd_any (dgE x) (dgE y) (dgE_dg x) (dgE_dg y) A B c d u hr hs (by rw [dgE_length]; decide) (by rw [dgE_length]; decide)
  have e : (leV (dgE x) + leV (dgE y)) % PN = (addE x y).val % PN := (((sm_mod x).symm.add (sm_mod y).symm).trans (sm_add x y).symm)
  rw [dgE_length, dgE_length, e] at h
  exact h
theorem sum_mul (hr : Rd u u.heap.size A (dV (dgE x))) (hs : Rd u u.heap.size B (dV (dgE y))) : Calls Try.prog 42 #[.slice A 32 c, .slice B 32 d] u (DigPost (dgE (mulE x y)) u) := by
  have h := rmul_any (dgE x) (dgE y) (dgE_dg x) (dgE_dg y) A B c d u hr hs (by rw [dgE_length]; decide) (by rw [dgE_length]; decide)
  have e : leV (dgE x) * leV (dgE y) % PN = (mulE x y).val % PN := (((sm_mod x).symm.mul (sm_mod y).symm).trans (sm_mul x y).symm)
  rw [dgE_length, dgE_length, e] at h
  exact h
theorem sum_sub (hy : y.Ok) (hr : Rd u u.heap.size A (dV (dgE x))) (hs : Rd u u.heap.size B (dV (dgE y))) : Calls Try.prog 46 #[.slice A 32 c, .slice B 32 d] u (DigPost (dgE (subE x y)) u) := by
  have hlt := dgE_lt y
  have h := rsub_any (dgE x) (dgE y) (dgE_dg x) (dgE_dg y) (by omega) A B c d u hr hs (by rw [dgE_length]; decide) (by rw [dgE_length]; decide)
  have e : Sm (leV (dgE x) + PN - leV (dgE y)) (subE x y).val := by
    refine Sm.back (c := leV (dgE y)) ?_
    rw [show leV (dgE x) + PN - leV (dgE y) + leV (dgE y) = leV (dgE x) + PN by omega]
    refine Sm.trans (b := leV (dgE x)) (Nat.add_mod_right _ _) ?_
    exact (sm_mod x).symm.trans ((sm_sub hy).symm.trans ((Sm.refl _).add (sm_mod y)))
  rw [dgE_length, dgE_length, show (leV (dgE x) + PN - leV (dgE y)) % PN = (subE x y).val % PN from e] at h
  exact h
theorem sum_same (hx : x.Ok) (hy : y.Ok) (hr : Rd u u.heap.size A (dV (dgE x))) (hs : Rd u u.heap.size B (dV (dgE y))) (hc : 32 ≤ c) (hd : 32 ≤ d) : Calls Try.prog 54 #[.slice A 32 c, .slice B 32 d] u (BoolPost (eqB x y) u) := by
  have h := same_any (dgE x) (dgE y) (dgE_dg x) (dgE_dg y) (dgE_length x) (dgE_length y) A B c d u hr hs hc hd
  have e : (refB (dgE x) == refB (dgE y)) = eqB x y := by
    rw [eqB, eqE hx.big hy.big, dgE, dgE, refB_dig, refB_dig, Bool.eq_iff_iff, beq_iff_eq, decide_eq_true_iff]
    constructor
    · intro h
      have h2 := congrArg (fun l => leV (digs l)) h
      rw [digs_byB, digs_byB, leV_byN _ (mod_lt_big _), leV_byN _ (mod_lt_big _)] at h2
      exact h2
    · intro h; rw [h]
  rw [e] at h
  exact h
end
end Go.Proofs.Ytbeokfpbhemcfaa
/-
  Walk: the reference's Pow.
-/
namespace Go.Proofs.Ytbeokfpbhemcfaa
set_option linter.unusedSimpArgs false
set_option linter.unusedVariables false
open Go.RowKit

theorem half_pow (b k : Nat) (h : k < 8) : b / 2 ^ (8 - k) = b / 2 ^ (7 - k) / 2 := by
  rw [show 8 - k = (7 - k) + 1 by omega, Nat.pow_succ, Nat.div_div_eq_div_mul]
theorem expo_step (E b k : Nat) (h : k < 8) : E * 2 ^ (k + 1) + b / 2 ^ (8 - (k + 1)) = 2 * (E * 2 ^ k + b / 2 ^ (8 - k)) + b / 2 ^ (7 - k) % 2 := by
  rw [half_pow b k h, show 8 - (k + 1) = 7 - k by omega, Nat.pow_succ, Nat.mul_add, ← Nat.mul_assoc E, Nat.mul_comm 2 (E * 2 ^ k)]
  omega
theorem sq_mod (x n : Nat) : (x ^ n % PN) * (x ^ n % PN) % PN = x ^ (2 * n) % PN := by rw [pow_mod_mul, Nat.two_mul]
theorem mul_mod_pow (x n : Nat) : (x ^ n % PN) * x % PN = x ^ (n + 1) % PN := by rw [Nat.mod_mul_mod, Nat.pow_succ]
theorem drop_val (e : List Nat) (p : Nat) (h : p < e.length) : leV (e.drop p) = e.getD p 0 + 256 * leV (e.drop (p + 1)) := by
  rw [List.drop_eq_getElem_cons h, leV, List.getD_eq_getElem?_getD, List.getElem?_eq_getElem h]; rfl
set_option maxRecDepth 100000 in
set_option maxHeartbeats 4000000 in
theorem rpow_any (a e : List Nat) (ha : Dg a) (he : Dg e) (A B : Option Addr) (c d : Nat) (w : World) (hra : Rd w w.heap.size A (dV a)) (hrb : Rd w w.heap.size B (dV e)) (hla : a.length ≤ 100000) (hlb : e.length ≤ 100000) :
    Calls Try.prog 64 #[.slice A a.length c, .slice B e.length d] w (DigPost (digN 32 (leV a ^ leV e % PN)) w) := by
  obtain ⟨n, hn⟩ : ∃ n, n = a.length := ⟨_, rfl⟩
  obtain ⟨m, hm⟩ : ∃ m, m = e.length := ⟨_, rfl⟩
  obtain ⟨x, hx⟩ : ∃ x, x = leV a := ⟨_, rfl⟩
  rw [← hn, ← hm, ← hx]
  have hm63 : (m : Int) ≤ 100000 := by omega
  have hmulS : ∀ u, Below w.heap.size w u → ∀ V, V < PN → ∀ A1 c1, Rd u u.heap.size A1 (dV (digN 32 V)) → Calls Try.prog 42 #[.slice A1 32 c1, .slice A1 32 c1] u (DigPost (digN 32 (V * V % PN)) u) := fun u hu V hV A1 c1 h1 => by
    have h := rmul_any (digN 32 V) (digN 32 V) (digN_dg _ _) (digN_dg _ _) A1 A1 c1 c1 u h1 h1 (by rw [digN_length]; decide) (by rw [digN_length]; decide)
    rw [digN_val _ _ (Nat.lt_trans hV (by decide)), digN_length] at h
    exact h
  have hmulA : ∀ u, Below w.heap.size w u → ∀ V, V < PN → ∀ A1 c1, Rd u u.heap.size A1 (dV (digN 32 V)) → Calls Try.prog 42 #[.slice A1 32 c1, .slice A n c] u (DigPost (digN 32 (V * x % PN)) u) := fun u hu V hV A1 c1 h1 => by
    have h := rmul_any (digN 32 V) a (digN_dg _ _) ha A1 A c1 c u h1 (rd_shape hra hu) (by rw [digN_length]; decide) hla
    rw [digN_val _ _ (Nat.lt_trans hV (by decide)), digN_length, ← hn, ← hx] at h
    exact h
  have hcell : ∀ u, Below w.heap.size w u → ∀ p, p < m → ∃ ad, B = some ad ∧ u.cell? (ad.add p) = some (.int .i64 ((e.getD p 0 : Nat) : Int)) := fun u hu p hp => dig_cell (rd_shape hrb hu) (by rw [← hm]; exact hp)
  have h1 := rint_nat 1 (by decide)
  have MS := Lib.hid hmulS
  have MA := Lib.hid hmulA
  have HCELL := Lib.hid hcell
  have HE := Lib.hid he
  have HM := Lib.hid hm
  have H1 := Lib.hid h1
  clear hmulS hmulA hcell ha he hra hrb hla hlb hn hm hx h1
  go_enter Try.func64, Try.ntmps64
  go_wp2_with fail
  refine calls_then (H1.out _) ?_
  rintro e1 w1 ⟨A1, c1, rfl, hc1, hr1, hb1⟩
  rw [digN_length] at hc1
  rw [digN_length]
  have hs0 : ∃ (j : Nat) (A1' : Option Addr) (c1' : Nat), j ≤ m ∧ Value.slice A1 32 c1 = .slice A1' 32 c1' ∧ 32 ≤ c1' ∧ Value.int .i64 ((m : Int) - 1) = .int .i64 ((m : Int) - 1 - (j : Int)) ∧ Rd w1 w1.heap.size A1' (dV (digN 32 (x ^ leV (e.drop (m - j)) % PN))) ∧ Below w.heap.size w w1 :=
    ⟨0, A1, c1, Nat.zero_le _, rfl, hc1, by simp, by rw [Nat.sub_zero, HM.out, List.drop_length]; exact hr1, hb1⟩
  have HS0 := Lib.hid hs0
  clear hc1 hr1 hb1 hs0
  go_wp2_with fail
  go_loopw [5, 6] (fun v i wr => ∃ (j : Nat) (A1' : Option Addr) (c1' : Nat), j ≤ m ∧ v = .slice A1' 32 c1' ∧ 32 ≤ c1' ∧ i = .int .i64 ((m : Int) - 1 - (j : Int)) ∧ Rd wr wr.heap.size A1' (dV (digN 32 (x ^ leV (e.drop (m - j)) % PN))) ∧ Below w.heap.size w wr) (fun _ i _ => (intOf i + 1).toNat)
  case atStart => exact HS0.out
  case round =>
    clear HS0
    obtain ⟨j, A2, c2, hj, rfl, hc2, rfl, hrd, hbel⟩ := hrel
    by_cases hlt : j < m
    · obtain ⟨p, hp⟩ : ∃ p, p + 1 + j = m := ⟨m - 1 - j, by omega⟩
      have hpi : (m : Int) - 1 - (j : Int) = (p : Int) := by omega
      rw [hpi]
      obtain ⟨E, hE⟩ : ∃ E, E = leV (e.drop (m - j)) := ⟨_, rfl⟩
      obtain ⟨b, hb⟩ : ∃ b, b = e.getD p 0 := ⟨_, rfl⟩
      have hbl : b < 256 := by rw [hb]; exact dg_getD HE.out p
      have hs0 : ∃ (k : Nat) (A1' : Option Addr) (c1' : Nat), k ≤ 8 ∧ Value.slice A2 32 c2 = .slice A1' 32 c1' ∧ 32 ≤ c1' ∧ Value.int .i64 128 = .int .i64 ((2 ^ (7 - k) : Nat) : Int) ∧ Value.int .i64 0 = .int .i64 (k : Int) ∧ Rd wr wr.heap.size A1' (dV (digN 32 (x ^ (E * 2 ^ k + b / 2 ^ (8 - k)) % PN))) ∧ Below w.heap.size w wr :=
        ⟨0, A2, c2, by omega, rfl, hc2, rfl, rfl, by rw [Nat.pow_zero, Nat.mul_one, show b / 2 ^ (8 - 0) = 0 from Nat.div_eq_of_lt hbl, Nat.add_zero, hE]; exact hrd, hbel⟩
      have HS0 := Lib.hid hs0
      have HEE := Lib.hid hE
      have HB := Lib.hid hb
      have HBL := Lib.hid hbl
      have HP := Lib.hid hp
      have HLT := Lib.hid hlt
      have hpm : (p : Int) < (m : Int) := by omega
      clear hs0 hE hb hbl hp hlt hrd hbel hj hc2 hpi
      go_wp2_with fail
      obtain ⟨wo, rfl⟩ : ∃ x, x = wr := ⟨_, rfl⟩
      go_loopw [5, 7, 8] (fun v dv kv wr => ∃ (k : Nat) (A1' : Option Addr) (c1' : Nat), k ≤ 8 ∧ v = .slice A1' 32 c1' ∧ 32 ≤ c1' ∧ dv = .int .i64 ((2 ^ (7 - k) : Nat) : Int) ∧ kv = .int .i64 (k : Int) ∧ Rd wr wr.heap.size A1' (dV (digN 32 (x ^ (E * 2 ^ k + b / 2 ^ (8 - k)) % PN))) ∧ Below w.heap.size w wr) (fun _ _ kv _ => 8 - (intOf kv).toNat)
      case atStart => exact HS0.out
      case round =>
        clear HS0
        obtain ⟨k, A3, c3, hk, rfl, hc3, rfl, rfl, hrd, hbel⟩ := hrel
        by_cases hltk : k < 8
        · have hltk' : (k : Int) < 8 := by omega
          obtain ⟨dd, hdd⟩ : ∃ dd, dd = 2 ^ (7 - k) := ⟨_, rfl⟩
          have hd1 : 1 ≤ dd := by rw [hdd]; exact Nat.two_pow_pos _
          have hd128 : dd ≤ 128 := by rw [hdd]; exact Nat.pow_le_pow_right (n := 2) (by decide) (show 7 - k ≤ 7 by omega)
          obtain ⟨bq, hbq⟩ : ∃ bq, bq = b / dd := ⟨_, rfl⟩
          have hbqi : (b : Int) / (dd : Int) = (bq : Int) := by rw [hbq]; simp
          obtain ⟨bit, hbit⟩ : ∃ t, t = bq % 2 := ⟨_, rfl⟩
          have hbiti : (bq : Int) % 2 = (bit : Int) := by omega
          obtain ⟨V, hV⟩ : ∃ V, V = x ^ (E * 2 ^ k + b / 2 ^ (8 - k)) % PN := ⟨_, rfl⟩
          have hVl : V < PN := by rw [hV]; exact Nat.mod_lt _ (by decide)
          have hsq : V * V % PN = x ^ (2 * (E * 2 ^ k + b / 2 ^ (8 - k))) % PN := by rw [hV, sq_mod]
          have hex := expo_step E b k hltk
          rw [← hdd, ← hbq, ← hbit] at hex
          rw [← hV] at hrd
          rw [← hdd]
          obtain ⟨V2, hV2⟩ : ∃ V2, V2 = V * V % PN := ⟨_, rfl⟩
          have hV2l : V2 < PN := by rw [hV2]; exact Nat.mod_lt _ (by decide)
          have hd2 : (if 1 < dd then dd / 2 else dd) = 2 ^ (7 - (k + 1)) := by
            by_cases h7 : k = 7
            · rw [hdd, h7]; decide
            · have e7 : dd = 2 ^ (7 - (k + 1)) * 2 := by rw [hdd, ← Nat.pow_succ]; congr 1; omega
              have e8 : 0 < 2 ^ (7 - (k + 1)) := Nat.two_pow_pos _
              rw [if_pos (by omega), e7]
              omega
          have hlt8 : (b : Int) < 256 := by have := HBL.out; omega
          have hbql : (bq : Int) < 256 := by have h := Nat.div_le_self b dd; rw [← hbq] at h; omega
          have hpm2 : p < m := by omega
          obtain ⟨bd, rfl, _⟩ := HCELL.out wr hbel p hpm2
          have CALL := Lib.hid (MS.out wr hbel V hVl A3 c3 hrd)
          rw [← hV2] at CALL
          have HV2 := Lib.hid hV2
          have HV2L := Lib.hid hV2l
          have HSQ := Lib.hid hsq
          have HEX := Lib.hid hex
          have HBEL := Lib.hid hbel
          have HPM := Lib.hid hpm2
          have HK8 := Lib.hid (show k + 1 ≤ 8 by omega)
          have hd1' : ¬ (dd : Int) = 0 := by omega
          have hd1'' : (0 : Int) < (dd : Int) := by omega
          have hd128' : (dd : Int) ≤ 128 := by omega
          have hbitl : bit < 2 := by omega
          clear hV2 hV2l hsq hex hbel hpm2 hV hVl hrd hdd hbq hk hltk hc3
          by_cases hbitn : bit = 1 <;> by_cases hgtn : 1 < dd
          · have hbit1 : (bq : Int) % 2 = 1 := by omega
            have hdi : (dd : Int) > 1 := by omega
            obtain ⟨d2, hd2e⟩ : ∃ d2, d2 = dd / 2 := ⟨_, rfl⟩
            have hd2i : (dd : Int) / 2 = (d2 : Int) := by omega
            rw [if_pos (show 1 < dd by omega), ← hd2e] at hd2
            have HD2 := Lib.hid hd2
            clear hd2 hd2e
            have hbb : bit = 1 := by omega
            have hfin : V2 * x % PN = x ^ (E * 2 ^ (k + 1) + b / 2 ^ (8 - (k + 1))) % PN := by rw [HEX.out, hbb, HV2.out, HSQ.out, mul_mod_pow]
            have HFIN := Lib.hid hfin
            clear hfin hbb
            clear hbitn hgtn hbiti
            go_wp2_with fail
            refine calls_then CALL.out ?_
            rintro e3 w3 ⟨A4, c4, rfl, hc4, hr4, hb4⟩
            rw [digN_length] at hc4
            rw [digN_length]
            have HB4 := Lib.hid (HBEL.out.trans (hb4.mono HBEL.out.size))
            obtain ⟨ad2, h1, hca⟩ := HCELL.out w3 HB4.out p HPM.out
            injection h1 with h1
            subst h1
            rw [← HB.out] at hca
            have HC4 := Lib.hid hc4
            have HR4 := Lib.hid hr4
            have HMA := Lib.hid (MA.out w3 HB4.out V2 HV2L.out A4 c4 hr4)
            clear hc4 hr4 hb4
            go_wp2_with fail
            refine calls_then HMA.out ?_
            rintro e5 w5 ⟨A5, c5, rfl, hc5, hr5, hb5⟩
            rw [digN_length] at hc5
            rw [digN_length]
            rw [HFIN.out] at hr5
            have HB5 := Lib.hid (HB4.out.trans (hb5.mono HB4.out.size))
            have HC5 := Lib.hid hc5
            have HR5 := Lib.hid hr5
            clear hc5 hr5 hb5
            go_wp2_with fail
            refine ⟨⟨k + 1, A5, c5, HK8.out, rfl, HC5.out, by rw [← HD2.out], by go_num, HR5.out, HB5.out⟩, by have := HK8.out; simp [intOf]; omega⟩
          · have hbit1 : (bq : Int) % 2 = 1 := by omega
            have hdi : ¬ (dd : Int) > 1 := by omega
            rw [if_neg (show ¬ 1 < dd by omega)] at hd2
            have HD2 := Lib.hid hd2
            clear hd2
            have hbb : bit = 1 := by omega
            have hfin : V2 * x % PN = x ^ (E * 2 ^ (k + 1) + b / 2 ^ (8 - (k + 1))) % PN := by rw [HEX.out, hbb, HV2.out, HSQ.out, mul_mod_pow]
            have HFIN := Lib.hid hfin
            clear hfin hbb
            clear hbitn hgtn hbiti
            go_wp2_with fail
            refine calls_then CALL.out ?_
            rintro e3 w3 ⟨A4, c4, rfl, hc4, hr4, hb4⟩
            rw [digN_length] at hc4
            rw [digN_length]
            have HB4 := Lib.hid (HBEL.out.trans (hb4.mono HBEL.out.size))
            obtain ⟨ad2, h1, hca⟩ := HCELL.out w3 HB4.out p HPM.out
            injection h1 with h1
            subst h1
            rw [← HB.out] at hca
            have HC4 := Lib.hid hc4
            have HR4 := Lib.hid hr4
            have HMA := Lib.hid (MA.out w3 HB4.out V2 HV2L.out A4 c4 hr4)
            clear hc4 hr4 hb4
            go_wp2_with fail
            refine calls_then HMA.out ?_
            rintro e5 w5 ⟨A5, c5, rfl, hc5, hr5, hb5⟩
            rw [digN_length] at hc5
            rw [digN_length]
            rw [HFIN.out] at hr5
            have HB5 := Lib.hid (HB4.out.trans (hb5.mono HB4.out.size))
            have HC5 := Lib.hid hc5
            have HR5 := Lib.hid hr5
            clear hc5 hr5 hb5
            go_wp2_with fail
            refine ⟨⟨k + 1, A5, c5, HK8.out, rfl, HC5.out, by rw [← HD2.out], by go_num, HR5.out, HB5.out⟩, by have := HK8.out; simp [intOf]; omega⟩
          · have hbit1 : (bq : Int) % 2 = 0 := by omega
            have hbz : ¬ (bq : Int) % 2 = 1 := by omega
            have hdi : (dd : Int) > 1 := by omega
            obtain ⟨d2, hd2e⟩ : ∃ d2, d2 = dd / 2 := ⟨_, rfl⟩
            have hd2i : (dd : Int) / 2 = (d2 : Int) := by omega
            rw [if_pos (show 1 < dd by omega), ← hd2e] at hd2
            have HD2 := Lib.hid hd2
            clear hd2 hd2e
            have hbb : bit = 0 := by omega
            have hfin : V2 = x ^ (E * 2 ^ (k + 1) + b / 2 ^ (8 - (k + 1))) % PN := by rw [HEX.out, hbb, HV2.out, HSQ.out, Nat.add_zero]
            have HFIN := Lib.hid hfin
            clear hfin hbb
            clear hbitn hgtn hbiti
            go_wp2_with fail
            refine calls_then CALL.out ?_
            rintro e3 w3 ⟨A4, c4, rfl, hc4, hr4, hb4⟩
            rw [digN_length] at hc4
            rw [digN_length]
            have HB4 := Lib.hid (HBEL.out.trans (hb4.mono HBEL.out.size))
            obtain ⟨ad2, h1, hca⟩ := HCELL.out w3 HB4.out p HPM.out
            injection h1 with h1
            subst h1
            rw [← HB.out] at hca
            have HC4 := Lib.hid hc4
            have HR4 := Lib.hid hr4
            clear hc4 hr4 hb4
            go_wp2_with fail
            have hr5 := HR4.out
            rw [HFIN.out] at hr5
            refine ⟨⟨k + 1, A4, c4, HK8.out, rfl, HC4.out, by rw [← HD2.out], by go_num, hr5, HB4.out⟩, by have := HK8.out; simp [intOf]; omega⟩
          · have hbit1 : (bq : Int) % 2 = 0 := by omega
            have hbz : ¬ (bq : Int) % 2 = 1 := by omega
            have hdi : ¬ (dd : Int) > 1 := by omega
            rw [if_neg (show ¬ 1 < dd by omega)] at hd2
            have HD2 := Lib.hid hd2
            clear hd2
            have hbb : bit = 0 := by omega
            have hfin : V2 = x ^ (E * 2 ^ (k + 1) + b / 2 ^ (8 - (k + 1))) % PN := by rw [HEX.out, hbb, HV2.out, HSQ.out, Nat.add_zero]
            have HFIN := Lib.hid hfin
            clear hfin hbb
            clear hbitn hgtn hbiti
            go_wp2_with fail
            refine calls_then CALL.out ?_
            rintro e3 w3 ⟨A4, c4, rfl, hc4, hr4, hb4⟩
            rw [digN_length] at hc4
            rw [digN_length]
            have HB4 := Lib.hid (HBEL.out.trans (hb4.mono HBEL.out.size))
            obtain ⟨ad2, h1, hca⟩ := HCELL.out w3 HB4.out p HPM.out
            injection h1 with h1
            subst h1
            rw [← HB.out] at hca
            have HC4 := Lib.hid hc4
            have HR4 := Lib.hid hr4
            clear hc4 hr4 hb4
            go_wp2_with fail
            have hr5 := HR4.out
            rw [HFIN.out] at hr5
            refine ⟨⟨k + 1, A4, c4, HK8.out, rfl, HC4.out, by rw [← HD2.out], by go_num, hr5, HB4.out⟩, by have := HK8.out; simp [intOf]; omega⟩
        · obtain rfl : k = 8 := by omega
          have hval : x ^ (E * 2 ^ 8 + b / 2 ^ (8 - 8)) = x ^ leV (e.drop (m - (j + 1))) := by
            have hp := HP.out
            rw [show m - (j + 1) = p by omega, drop_val e p (by rw [← HM.out]; omega), ← HB.out, show p + 1 = m - j by omega, ← HEE.out]
            congr 1
            rw [show (2 : Nat) ^ 8 = 256 from rfl, Nat.sub_self, Nat.pow_zero, Nat.div_one]
            omega
          rw [hval] at hrd
          have HRD := Lib.hid hrd
          have HBEL := Lib.hid hbel
          have HC3 := Lib.hid hc3
          have hp1 : (p : Int) - 1 = (m : Int) - 1 - ((j + 1 : Nat) : Int) := by have := HP.out; omega
          have HP1 := Lib.hid hp1
          clear hval hrd hbel hc3 hk hltk hp1
          go_wp2_with fail
          exact ⟨⟨j + 1, A3, c3, HLT.out, rfl, HC3.out, by rw [HP1.out], HRD.out, HBEL.out⟩, by simp [intOf]⟩
    · obtain rfl : j = m := by omega
      rw [Nat.sub_self, List.drop_zero] at hrd
      have HRD := Lib.hid hrd
      have HBEL := Lib.hid hbel
      have HC := Lib.hid hc2
      have hpi : (j : Int) - 1 - (j : Int) = -1 := by omega
      rw [hpi]
      clear hrd hbel hc2 hpi hlt
      go_wp2_with fail
      go_ret
      exact ⟨A2, c2, by rw [digN_length]; rfl, by rw [digN_length]; exact HC.out, HRD.out, HBEL.out⟩
end Go.Proofs.Ytbeokfpbhemcfaa
/-
  Walk: the reference's Inv.
-/
namespace Go.Proofs.Ytbeokfpbhemcfaa
set_option linter.unusedSimpArgs false
set_option linter.unusedVariables false
open Go.RowKit

theorem two_val : leV [2] = 2 := rfl
theorem two_dg : Dg [2] := by unfold Dg; decide
theorem inv_exp : leV (digN 32 (leV pL - leV [2])) = PN - 2 := by rw [pL_val, two_val, digN_val _ _ (by decide)]
set_option maxRecDepth 100000 in
set_option maxHeartbeats 2000000 in
theorem rinv_any (a : List Nat) (ha : Dg a) (A : Option Addr) (c : Nat) (w : World) (hra : Rd w w.heap.size A (dV a)) (hla : a.length ≤ 100000) :
    Calls Try.prog 45 #[.slice A a.length c] w (DigPost (digN 32 (leV a ^ (PN - 2) % PN)) w) := by
  have cM : ∀ u A1 c1 A2 c2, Rd u u.heap.size A1 (dV pL) → Rd u u.heap.size A2 (dV [2]) → Calls Try.prog 65 #[.slice A1 32 c1, .slice A2 1 c2] u (DigPost (digN 32 (leV pL - leV [2])) u) := fun u A1 c1 A2 c2 h1 h2 => by
    have h := minus_any pL [2] pL_dg two_dg (by rw [pL_val, two_val]; decide) A1 A2 c1 c2 u h1 h2 (by rw [pL_len]; decide) (by decide)
    rw [pL_len] at h; exact h
  have cP : ∀ u, Below w.heap.size w u → ∀ A1 c1, Rd u u.heap.size A1 (dV (digN 32 (leV pL - leV [2]))) → Calls Try.prog 64 #[.slice A a.length c, .slice A1 32 c1] u (DigPost (digN 32 (leV a ^ (PN - 2) % PN)) u) := fun u hu A1 c1 h1 => by
    have h := rpow_any a (digN 32 (leV pL - leV [2])) ha (digN_dg _ _) A A1 c c1 u (rd_shape hra hu) h1 hla (by rw [digN_length]; decide)
    rw [inv_exp, digN_length] at h; exact h
  generalize a.length = n at *
  have CM := Lib.hid cM
  have CP := Lib.hid cP
  generalize digN 32 (leV a ^ (PN - 2) % PN) = R at *
  have hmm : (digN 32 (leV pL - leV [2])).length = 32 := digN_length _ _
  generalize digN 32 (leV pL - leV [2]) = E at *
  have HEL := Lib.hid hmm
  clear ha hra hla cM cP hmm
  go_enter Try.func45, Try.ntmps45
  go_wp2_with fail
  refine calls_then (p_any _) ?_
  rintro e w1 ⟨A1, c1, rfl, hc1, hr1, hb1⟩
  have hnew := Blk.new w1 3 (dV [2]).toArray
  have hbn : Below w1.heap.size w1 (w1.alloc (.cells (dV [2]).toArray 3)) := below_new _ _
  have HCM := Lib.hid (CM.out (w1.alloc (.cells (dV [2]).toArray 3)) A1 c1 (some ⟨w1.heap.size, 0, none⟩) 1 (rd_shape hr1 hbn) (Rd.of_blk hnew hnew.lt))
  have HB1 := Lib.hid (hb1.trans (hbn.mono hb1.size))
  clear hc1 hr1 hb1 hnew hbn
  rw [pL_len]
  go_wp2_with fail
  refine calls_then HCM.out ?_
  rintro e w2 ⟨A2, c2, rfl, hc2, hr2, hb2⟩
  rw [HEL.out]
  have HB2 := Lib.hid (HB1.out.trans (hb2.mono HB1.out.size))
  have HCP := Lib.hid (CP.out w2 HB2.out A2 c2 hr2)
  clear hc2 hr2 hb2
  go_wp2_with fail
  refine calls_then HCP.out ?_
  rintro e w3 ⟨A3, c3, rfl, hc3, hr3, hb3⟩
  have HC := Lib.hid hc3
  have HR := Lib.hid hr3
  have HB3 := Lib.hid (HB2.out.trans (hb3.mono HB2.out.size))
  clear hc3 hr3 hb3
  go_wp2_with fail
  go_ret
  exact ⟨A3, c3, rfl, HC.out, HR.out, HB3.out⟩
end Go.Proofs.Ytbeokfpbhemcfaa
/-
  Walks: the reference's numbers modulo p, by their values.
-/
namespace Go.Proofs.Ytbeokfpbhemcfaa
set_option linter.unusedSimpArgs false
set_option linter.unusedVariables false
open Go.RowKit

/-- the 32 digits of a number, as values -/
def DN (v : Nat) : List Value := dV (digN 32 v)
def NumPost (v : Nat) (w : World) (e : Ending) (w' : World) : Prop := ∃ A c, e = .returned (.slice A 32 c) ∧ 32 ≤ c ∧ Rd w' w'.heap.size A (DN v) ∧ Below w.heap.size w w'
theorem num_of {v : Nat} {w : World} {e : Ending} {w' : World} (h : DigPost (digN 32 v) w e w') : NumPost v w e w' := by
  obtain ⟨A, c, h1, h2, h3, h4⟩ := h
  rw [digN_length] at h1 h2
  exact ⟨A, c, h1, h2, h3, h4⟩
theorem pn_pos : 0 < PN := by decide
theorem pn_big : PN < 256 ^ 32 := by decide
theorem lev_n {a : Nat} (h : a < PN) : leV (digN 32 a) = a := digN_val 32 a (Nat.lt_trans h pn_big)
theorem nmul {a b : Nat} (ha : a < PN) (hb : b < PN) {A B : Option Addr} {c d : Nat} {u : World} (h : Rd u u.heap.size A (DN a)) (k : Rd u u.heap.size B (DN b)) :
    Calls Try.prog 42 #[.slice A 32 c, .slice B 32 d] u (NumPost (a * b % PN) u) := by
  have e := rmul_any (digN 32 a) (digN 32 b) (digN_dg _ _) (digN_dg _ _) A B c d u h k (by rw [digN_length]; decide) (by rw [digN_length]; decide)
  rw [lev_n ha, lev_n hb, digN_length, digN_length] at e
  exact e.mono fun _ _ h => num_of h
theorem nadd {a b : Nat} (ha : a < PN) (hb : b < PN) {A B : Option Addr} {c d : Nat} {u : World} (h : Rd u u.heap.size A (DN a)) (k : Rd u u.heap.size B (DN b)) :
    Calls Try.prog 44 #[.slice A 32 c, .slice B 32 d] u (NumPost ((a + b) % PN) u) := by
  have e := radd_any (digN 32 a) (digN 32 b) (digN_dg _ _) (digN_dg _ _) A B c d u h k (by rw [digN_length]; decide) (by rw [digN_length]; decide)
  rw [lev_n ha, lev_n hb, digN_length, digN_length] at e
  exact e.mono fun _ _ h => num_of h
theorem nsub {a b : Nat} (ha : a < PN) (hb : b < PN) {A B : Option Addr} {c d : Nat} {u : World} (h : Rd u u.heap.size A (DN a)) (k : Rd u u.heap.size B (DN b)) :
    Calls Try.prog 46 #[.slice A 32 c, .slice B 32 d] u (NumPost ((a + PN - b) % PN) u) := by
  have e := rsub_any (digN 32 a) (digN 32 b) (digN_dg _ _) (digN_dg _ _) (by rw [lev_n ha, lev_n hb]; omega) A B c d u h k (by rw [digN_length]; decide) (by rw [digN_length]; decide)
  rw [lev_n ha, lev_n hb, digN_length, digN_length] at e
  exact e.mono fun _ _ h => num_of h
theorem ninv {a : Nat} (ha : a < PN) {A : Option Addr} {c : Nat} {u : World} (h : Rd u u.heap.size A (DN a)) :
    Calls Try.prog 45 #[.slice A 32 c] u (NumPost (a ^ (PN - 2) % PN) u) := by
  have e := rinv_any (digN 32 a) (digN_dg _ _) A c u h (by rw [digN_length]; decide)
  rw [lev_n ha, digN_length] at e
  exact e.mono fun _ _ h => num_of h
theorem npow {a : Nat} {e : List Nat} (ha : a < PN) (he : Dg e) (hl : e.length = 32) {A B : Option Addr} {c d : Nat} {u : World} (h : Rd u u.heap.size A (DN a)) (k : Rd u u.heap.size B (dV e)) :
    Calls Try.prog 64 #[.slice A 32 c, .slice B 32 d] u (NumPost (a ^ leV e % PN) u) := by
  have q := rpow_any (digN 32 a) e (digN_dg _ _) he A B c d u h k (by rw [digN_length]; decide) (by rw [hl]; decide)
  rw [lev_n ha, digN_length, hl] at q
  exact q.mono fun _ _ h => num_of h
theorem nint (N : Nat) (hN : N < 1000000) (u : World) : Calls Try.prog 41 #[.int .i64 (N : Int)] u (NumPost N u) := by
  have q := rint_nat N (by omega) u
  rw [Nat.mod_eq_of_lt (Nat.lt_of_lt_of_le hN (show 1000000 ≤ PN by decide))] at q
  exact q.mono fun _ _ h => num_of h
theorem nneg (N : Nat) (hN : N < 1000000) (h0 : 0 < N) (u : World) : Calls Try.prog 41 #[.int .i64 (-(N : Int))] u (NumPost (PN - N) u) := by
  have q := rint_neg N (by omega) h0 u
  have hP : 1000000 ≤ PN := by decide
  rw [Nat.mod_eq_of_lt (Nat.lt_of_lt_of_le hN hP), Nat.mod_eq_of_lt (by omega)] at q
  exact q.mono fun _ _ h => num_of h
theorem nsame {a b : Nat} (ha : a < PN) (hb : b < PN) {A B : Option Addr} {c d : Nat} {u : World} (h : Rd u u.heap.size A (DN a)) (k : Rd u u.heap.size B (DN b)) (hc : 32 ≤ c) (hd : 32 ≤ d) :
    Calls Try.prog 54 #[.slice A 32 c, .slice B 32 d] u (BoolPost (decide (a = b)) u) := by
  have q := same_any (digN 32 a) (digN 32 b) (digN_dg _ _) (digN_dg _ _) (digN_length _ _) (digN_length _ _) A B c d u h k hc hd
  have e : (refB (digN 32 a) == refB (digN 32 b)) = decide (a = b) := by
    rw [refB_dig, refB_dig, Bool.eq_iff_iff, beq_iff_eq, decide_eq_true_iff]
    constructor
    · intro h
      have h1 : digs (byB a) = digs (byB b) := by rw [h]
      rw [digs_byB, digs_byB] at h1
      exact byN_inj (Nat.lt_trans ha pn_big) (Nat.lt_trans hb pn_big) h1
    · rintro rfl; rfl
  rw [e] at q
  exact q
theorem rd_next {A : Option Addr} {xs : List Value} {u u' : World} (h : Rd u u.heap.size A xs) (hb : Below u.heap.size u u') : Rd u' u'.heap.size A xs := (h.below hb).mono hb.size
/-- the curve's number -/
theorem d_num : (PN - 121665) * (121666 ^ (PN - 2) % PN) % PN = dN := by
  rw [← invL_val, ← pm_eq]
  decide
set_option maxRecDepth 100000 in
theorem nd_any (w : World) : Calls Try.prog 43 #[] w (NumPost dN w) := by
  obtain ⟨a, ha⟩ : ∃ a, a = PN - 121665 := ⟨_, rfl⟩
  obtain ⟨i, hi⟩ : ∃ i, i = 121666 ^ (PN - 2) % PN := ⟨_, rfl⟩
  have la : a < PN := by rw [ha]; decide
  have li : i < PN := by rw [hi]; exact Nat.mod_lt _ pn_pos
  have e : a * i % PN = dN := by rw [ha, hi]; exact d_num
  have C1 := Lib.hid (show ∀ u, Calls Try.prog 41 #[.int .i64 (-121665)] u (NumPost a u) from fun u => by rw [ha]; exact nneg 121665 (by decide) (by decide) u)
  have C2 := Lib.hid (show ∀ u, Calls Try.prog 41 #[.int .i64 121666] u (NumPost 121666 u) from fun u => nint 121666 (by decide) u)
  have C3 := Lib.hid (show ∀ u A c, Rd u u.heap.size A (DN 121666) → Calls Try.prog 45 #[.slice A 32 c] u (NumPost i u) from fun u A c h => by rw [hi]; exact ninv (by decide) h)
  have C4 := Lib.hid (show ∀ u A c B d, Rd u u.heap.size A (DN a) → Rd u u.heap.size B (DN i) → Calls Try.prog 42 #[.slice A 32 c, .slice B 32 d] u (NumPost dN u) from fun u A c B d h k => by rw [← e]; exact nmul la li h k)
  clear ha hi la li e
  generalize dN = D at *
  go_enter Try.func43, Try.ntmps43
  go_wp2_with fail
  refine calls_then (C1.out _) ?_
  rintro e w1 ⟨A1, c1, rfl, hc1, hr1, hb1⟩
  have H1 := Lib.hid hr1
  have HB1 := Lib.hid hb1
  clear hr1 hb1 hc1
  go_wp2_with fail
  refine calls_then (C2.out _) ?_
  rintro e w2 ⟨A2, c2, rfl, hc2, hr2, hb2⟩
  have H1 := Lib.hid (rd_next H1.out hb2)
  have H2 := Lib.hid hr2
  have HB2 := Lib.hid (HB1.out.trans (hb2.mono HB1.out.size))
  clear hr2 hb2 hc2 HB1
  go_wp2_with fail
  refine calls_then (C3.out _ _ _ H2.out) ?_
  rintro e w3 ⟨A3, c3, rfl, hc3, hr3, hb3⟩
  have H1 := Lib.hid (rd_next H1.out hb3)
  have H3 := Lib.hid hr3
  have HB3 := Lib.hid (HB2.out.trans (hb3.mono HB2.out.size))
  clear hr3 hb3 hc3 HB2
  go_wp2_with fail
  refine calls_then (C4.out _ _ _ _ _ H1.out H3.out) ?_
  rintro e w4 ⟨A4, c4, rfl, hc4, hr4, hb4⟩
  have H4 := Lib.hid hr4
  have HB4 := Lib.hid (HB3.out.trans (hb4.mono HB3.out.size))
  have HC4 := Lib.hid hc4
  clear hr4 hb4 hc4 HB3 H1 H2 H3
  go_wp2_with fail
  go_ret
  exact ⟨A4, c4, rfl, HC4.out, H4.out, HB4.out⟩
end Go.Proofs.Ytbeokfpbhemcfaa
/-
  Walk: the reference's Root.
-/
namespace Go.Proofs.Ytbeokfpbhemcfaa
set_option linter.unusedSimpArgs false
set_option linter.unusedVariables false
open Go.RowKit

def e1L : List Nat := 254 :: (List.replicate 30 255 ++ [15])
def e2L : List Nat := 251 :: (List.replicate 30 255 ++ [31])
theorem e1L_end : ((fillL 32).set 0 254).set 31 15 = e1L := by decide
theorem e2L_end : ((fillL 32).set 0 251).set 31 31 = e2L := by decide
theorem e1L_dg : Dg e1L := by unfold Dg; decide
theorem e2L_dg : Dg e2L := by unfold Dg; decide
theorem e1L_len : e1L.length = 32 := by decide
theorem e2L_len : e2L.length = 32 := by decide
/-- a root of a number, as the reference reckons it: x its power, q a root of -1 -/
def rtV (a x q : Nat) : Nat := if decide (x * x % PN = a) then x else x * q % PN
def rtB (a x q : Nat) : Bool := if decide (x * x % PN = a) then true else decide (x * q % PN * (x * q % PN) % PN = a)
def RootPost (v : Nat) (b : Bool) (w : World) (e : Ending) (w' : World) : Prop := ∃ A c, e = .returned (.tuple #[.slice A 32 c, .bool b]) ∧ 32 ≤ c ∧ Rd w' w'.heap.size A (DN v) ∧ Below w.heap.size w w'
set_option maxRecDepth 100000 in
set_option maxHeartbeats 4000000 in
theorem nroot_any {a x q : Nat} (ha : a < PN) (hx : x = a ^ leV e1L % PN) (hq : q = 2 ^ leV e2L % PN) {A : Option Addr} {c : Nat} (hc : 32 ≤ c) {w : World} (h : Rd w w.heap.size A (DN a)) :
    Calls Try.prog 57 #[.slice A 32 c] w (RootPost (rtV a x q) (rtB a x q) w) := by
  have hmk : ∀ u : World, (Instr.makeSlice 32 (.int .i64 32) (.int .i64 32)).run Try.prog u = .ok (.slice (some ⟨u.heap.size, 0, none⟩) 32 32) (u.alloc (.cells (dV (fillL 0)).toArray 3)) := fun _ => by kernel_rfl
  obtain ⟨x2, hx2⟩ : ∃ y, y = x * x % PN := ⟨_, rfl⟩
  obtain ⟨y, hy⟩ : ∃ y, y = x * q % PN := ⟨_, rfl⟩
  obtain ⟨y2, hy2⟩ : ∃ z, z = y * y % PN := ⟨_, rfl⟩
  have lx : x < PN := by rw [hx]; exact Nat.mod_lt _ pn_pos
  have lq : q < PN := by rw [hq]; exact Nat.mod_lt _ pn_pos
  have lx2 : x2 < PN := by rw [hx2]; exact Nat.mod_lt _ pn_pos
  have ly : y < PN := by rw [hy]; exact Nat.mod_lt _ pn_pos
  have ly2 : y2 < PN := by rw [hy2]; exact Nat.mod_lt _ pn_pos
  obtain ⟨s1, hs1⟩ : ∃ s, s = decide (x2 = a) := ⟨_, rfl⟩
  obtain ⟨s2, hs2⟩ : ∃ s, s = decide (y2 = a) := ⟨_, rfl⟩
  have hv : rtV a x q = if s1 then x else y := by rw [hs1, hx2, hy]; rfl
  have hb : rtB a x q = if s1 then true else s2 := by rw [hs1, hs2, hy2, hx2, hy]; rfl
  generalize rtV a x q = V at *
  generalize rtB a x q = b at *
  have HV := Lib.hid hv
  have HB := Lib.hid hb
  have C1 := Lib.hid (show ∀ u B d, Rd u u.heap.size A (DN a) → Rd u u.heap.size B (dV e1L) → Calls Try.prog 64 #[.slice A 32 c, .slice B 32 d] u (NumPost x u) from fun u B d h k => by rw [hx]; exact npow ha e1L_dg e1L_len h k)
  have C2 := Lib.hid (show ∀ u B d, Rd u u.heap.size B (DN x) → Calls Try.prog 42 #[.slice B 32 d, .slice B 32 d] u (NumPost x2 u) from fun u B d k => by rw [hx2]; exact nmul lx lx k k)
  have C3 := Lib.hid (show ∀ u B d, Rd u u.heap.size B (DN x2) → Rd u u.heap.size A (DN a) → 32 ≤ d → Calls Try.prog 54 #[.slice B 32 d, .slice A 32 c] u (BoolPost s1 u) from fun u B d h k hd => by rw [hs1]; exact nsame lx2 ha h k hd hc)
  have C4 := Lib.hid (show ∀ u, Calls Try.prog 41 #[.int .i64 2] u (NumPost 2 u) from fun u => nint 2 (by decide) u)
  have C5 := Lib.hid (show ∀ u B d D e, Rd u u.heap.size B (DN 2) → Rd u u.heap.size D (dV e2L) → Calls Try.prog 64 #[.slice B 32 d, .slice D 32 e] u (NumPost q u) from fun u B d D e h k => by rw [hq]; exact npow (by decide) e2L_dg e2L_len h k)
  have C6 := Lib.hid (show ∀ u B d D e, Rd u u.heap.size B (DN x) → Rd u u.heap.size D (DN q) → Calls Try.prog 42 #[.slice B 32 d, .slice D 32 e] u (NumPost y u) from fun u B d D e h k => by rw [hy]; exact nmul lx lq h k)
  have C7 := Lib.hid (show ∀ u B d, Rd u u.heap.size B (DN y) → Calls Try.prog 42 #[.slice B 32 d, .slice B 32 d] u (NumPost y2 u) from fun u B d k => by rw [hy2]; exact nmul ly ly k k)
  have C8 := Lib.hid (show ∀ u B d, Rd u u.heap.size B (DN y2) → Rd u u.heap.size A (DN a) → 32 ≤ d → Calls Try.prog 54 #[.slice B 32 d, .slice A 32 c] u (BoolPost s2 u) from fun u B d h k hd => by rw [hs2]; exact nsame ly2 ha h k hd hc)
  have HA := Lib.hid h
  have hst0 := d1_new (fillL 0) (Below.refl w.heap.size w)
  have HST0 := Lib.hid hst0
  clear hst0 h hx hq hx2 hy hy2 lx lq lx2 ly ly2 hs1 hs2 hv hb hc ha
  go_enter Try.func57, Try.ntmps57
  go_wp2_with fail
  generalize ho : w.heap.size = o at HST0 ⊢
  have HMK := Lib.hid hmk
  have HO := Lib.hid ho
  clear ho hmk
  go_loopw [5] (fun i wr => ∃ k : Nat, k ≤ 32 ∧ i = .int .i64 k ∧ D1 w o (fillL k) wr) (fun i _ => 32 - (intOf i).toNat)
  case atStart => exact ⟨0, by omega, rfl, HST0.out⟩
  case round =>
    clear HST0
    obtain ⟨k, hk, rfl, hst⟩ := hrel
    by_cases hlt : k < 32
    · have hlt' : (k : Int) < 32 := by omega
      have HST := Lib.hid hst
      clear hst
      go_wp2_with (refine wpList_put_cell (x := .tmp 18) (i := k) (v := .int .i64 255) HST.out.out rfl rfl rfl rfl int_size (by rw [dig_len, fill_len k (by omega)]; exact hlt) rfl ?_; intro w5 hb5 hw5; have hst5 := HST.out.put (l' := fillL (k + 1)) hw5 (by rw [show (Value.int IntKind.i64 255) = .int .i64 ((255 : Nat) : Int) from rfl, dV_set, fill_set k hlt] at hb5; exact hb5); have HST5 := Lib.hid hst5; clear hst5 hb5 hw5)
      exact ⟨⟨k + 1, by omega, by go_num, HST5.out⟩, by simp [intOf]; omega⟩
    · obtain rfl : k = 32 := by omega
      have HST := Lib.hid hst
      clear hst hk hlt
      go_wp2_with (first
        | (refine wpList_put_cell (x := .tmp 20) (i := 0) (v := .int .i64 254) HST.out.out rfl rfl rfl rfl int_size (by rw [dig_len, fill_len 32 (by omega)]; decide) rfl ?_; intro w5 hb5 hw5; have hst5 := HST.out.put (l' := (fillL 32).set 0 254) hw5 (by rw [show (Value.int IntKind.i64 254) = .int .i64 ((254 : Nat) : Int) from rfl, dV_set] at hb5; exact hb5); have HST5 := Lib.hid hst5; clear hst5 hb5 hw5)
        | (refine wpList_put_cell (x := .tmp 22) (i := 31) (v := .int .i64 15) HST5.out.out rfl rfl rfl rfl int_size (by rw [dig_len, List.length_set, fill_len 32 (by omega)]; decide) rfl ?_; intro w6 hb6 hw6; have hst6 := HST5.out.put (l' := e1L) hw6 (by rw [show (Value.int IntKind.i64 15) = .int .i64 ((15 : Nat) : Int) from rfl, dV_set, e1L_end] at hb6; exact hb6); have HST6 := Lib.hid hst6; clear hst6 hb6 hw6))
      have HA6 := Lib.hid (rd_next HA.out HST6.out.bel)
      have HB6 := Lib.hid HST6.out.bel
      have HE6 := Lib.hid (Rd.of_blk HST6.out.out HST6.out.out.lt)
      clear HST HST5 HST6 HA
      refine calls_then (C1.out _ _ _ HA6.out HE6.out) ?_
      rintro e w7 ⟨A7, c7, rfl, hc7, hr7, hb7⟩
      have HA7 := Lib.hid (rd_next HA6.out hb7)
      have HB7 := Lib.hid (HB6.out.trans (hb7.mono HB6.out.size))
      have HX7 := Lib.hid hr7
      have HC7 := Lib.hid hc7
      clear hc7 hr7 hb7 HA6 HB6 HE6
      go_wp2_with fail
      refine calls_then (C2.out _ _ _ HX7.out) ?_
      rintro e w8 ⟨A8, c8, rfl, hc8, hr8, hb8⟩
      have HA8 := Lib.hid (rd_next HA7.out hb8)
      have HB8 := Lib.hid (HB7.out.trans (hb8.mono HB7.out.size))
      have HX8 := Lib.hid (rd_next HX7.out hb8)
      have HS8 := Lib.hid (C3.out w8 A8 c8 hr8 HA8.out hc8)
      clear hc8 hr8 hb8 HA7 HB7 HX7
      go_wp2_with fail
      refine calls_then HS8.out ?_
      rintro e w9 ⟨rfl, hb9⟩
      have HA9 := Lib.hid (rd_next HA8.out hb9)
      have HB9 := Lib.hid (HB8.out.trans (hb9.mono HB8.out.size))
      have HX9 := Lib.hid (rd_next HX8.out hb9)
      clear hb9 HA8 HB8 HX8 HS8
      cases s1
      · have hst0 := d1_new (fillL 0) (Below.refl w9.heap.size w9)
        have HST0 := Lib.hid hst0
        have hmk := HMK.out
        clear hst0 HMK
        go_wp2_with fail
        generalize ho9 : w9.heap.size = o9 at HST0 ⊢
        have HO9 := Lib.hid ho9
        clear ho9 hmk
        go_loopw [9] (fun i wr => ∃ k : Nat, k ≤ 32 ∧ i = .int .i64 k ∧ D1 w9 o9 (fillL k) wr) (fun i _ => 32 - (intOf i).toNat)
        case atStart => exact ⟨0, by omega, rfl, HST0.out⟩
        case round =>
          clear HST0
          obtain ⟨k, hk, rfl, hst⟩ := hrel
          by_cases hlt : k < 32
          · have hlt' : (k : Int) < 32 := by omega
            have HST := Lib.hid hst
            clear hst
            go_wp2_with (refine wpList_put_cell (x := .tmp 40) (i := k) (v := .int .i64 255) HST.out.out rfl rfl rfl rfl int_size (by rw [dig_len, fill_len k (by omega)]; exact hlt) rfl ?_; intro w5 hb5 hw5; have hst5 := HST.out.put (l' := fillL (k + 1)) hw5 (by rw [show (Value.int IntKind.i64 255) = .int .i64 ((255 : Nat) : Int) from rfl, dV_set, fill_set k hlt] at hb5; exact hb5); have HST5 := Lib.hid hst5; clear hst5 hb5 hw5)
            exact ⟨⟨k + 1, by omega, by go_num, HST5.out⟩, by simp [intOf]; omega⟩
          · obtain rfl : k = 32 := by omega
            have HST := Lib.hid hst
            clear hst hk hlt
            go_wp2_with (first
              | (refine wpList_put_cell (x := .tmp 42) (i := 0) (v := .int .i64 251) HST.out.out rfl rfl rfl rfl int_size (by rw [dig_len, fill_len 32 (by omega)]; decide) rfl ?_; intro w5 hb5 hw5; have hst5 := HST.out.put (l' := (fillL 32).set 0 251) hw5 (by rw [show (Value.int IntKind.i64 251) = .int .i64 ((251 : Nat) : Int) from rfl, dV_set] at hb5; exact hb5); have HST5 := Lib.hid hst5; clear hst5 hb5 hw5)
              | (refine wpList_put_cell (x := .tmp 44) (i := 31) (v := .int .i64 31) HST5.out.out rfl rfl rfl rfl int_size (by rw [dig_len, List.length_set, fill_len 32 (by omega)]; decide) rfl ?_; intro w6 hb6 hw6; have hst6 := HST5.out.put (l' := e2L) hw6 (by rw [show (Value.int IntKind.i64 31) = .int .i64 ((31 : Nat) : Int) from rfl, dV_set, e2L_end] at hb6; exact hb6); have HST6 := Lib.hid hst6; clear hst6 hb6 hw6))
            have HA6 := Lib.hid (rd_next HA9.out HST6.out.bel)
            have HX6 := Lib.hid (rd_next HX9.out HST6.out.bel)
            have HB6 := Lib.hid (HB9.out.trans (HST6.out.bel.mono HB9.out.size))
            have HE6 := Lib.hid (Rd.of_blk HST6.out.out HST6.out.out.lt)
            clear HST HST5 HST6 HA9 HB9 HX9
            refine calls_then (C4.out _) ?_
            rintro e w10 ⟨A10, c10, rfl, hc10, hr10, hb10⟩
            have HA10 := Lib.hid (rd_next HA6.out hb10)
            have HX10 := Lib.hid (rd_next HX6.out hb10)
            have HB10 := Lib.hid (HB6.out.trans (hb10.mono HB6.out.size))
            have HE10 := Lib.hid (rd_next HE6.out hb10)
            have HT10 := Lib.hid hr10
            clear hc10 hr10 hb10 HA6 HX6 HB6 HE6
            go_wp2_with fail
            refine calls_then (C5.out _ _ _ _ _ HT10.out HE10.out) ?_
            rintro e w11 ⟨A11, c11, rfl, hc11, hr11, hb11⟩
            have HA11 := Lib.hid (rd_next HA10.out hb11)
            have HX11 := Lib.hid (rd_next HX10.out hb11)
            have HB11 := Lib.hid (HB10.out.trans (hb11.mono HB10.out.size))
            have HQ11 := Lib.hid hr11
            clear hc11 hr11 hb11 HA10 HX10 HB10 HE10 HT10
            go_wp2_with fail
            refine calls_then (C6.out _ _ _ _ _ HX11.out HQ11.out) ?_
            rintro e w12 ⟨A12, c12, rfl, hc12, hr12, hb12⟩
            have HA12 := Lib.hid (rd_next HA11.out hb12)
            have HB12 := Lib.hid (HB11.out.trans (hb12.mono HB11.out.size))
            have HY12 := Lib.hid hr12
            have HC12 := Lib.hid hc12
            clear hc12 hr12 hb12 HA11 HX11 HB11 HQ11
            go_wp2_with fail
            refine calls_then (C7.out _ _ _ HY12.out) ?_
            rintro e w13 ⟨A13, c13, rfl, hc13, hr13, hb13⟩
            have HA13 := Lib.hid (rd_next HA12.out hb13)
            have HB13 := Lib.hid (HB12.out.trans (hb13.mono HB12.out.size))
            have HY13 := Lib.hid (rd_next HY12.out hb13)
            have HS13 := Lib.hid (C8.out w13 A13 c13 hr13 HA13.out hc13)
            clear hc13 hr13 hb13 HA12 HB12 HY12
            go_wp2_with fail
            refine calls_then HS13.out ?_
            rintro e w14 ⟨rfl, hb14⟩
            have HB14 := Lib.hid (HB13.out.trans (hb14.mono HB13.out.size))
            have HY14 := Lib.hid (rd_next HY13.out hb14)
            clear hb14 HA13 HB13 HY13 HS13
            go_wp2_with fail
            refine bodyPost_ret (results_tmp2 rfl _ _ _) rfl ?_
            have e1 : V = y := HV.out
            have e2 : b = s2 := HB.out
            rw [e1, e2]
            exact ⟨A12, c12, rfl, HC12.out, HY14.out, HB14.out⟩
      · go_wp2_with fail
        refine bodyPost_ret (results_tmp2 rfl _ _ _) rfl ?_
        have e1 : V = x := HV.out
        have e2 : b = true := HB.out
        rw [e1, e2]
        exact ⟨A7, c7, rfl, HC7.out, HX9.out, HB9.out⟩
end Go.Proofs.Ytbeokfpbhemcfaa
/-
  Walks: the reference's Of, Base, Add, On, Bytes, Read of points.
-/
namespace Go.Proofs.Ytbeokfpbhemcfaa
set_option linter.unusedSimpArgs false
set_option linter.unusedVariables false
open Go.RowKit

theorem one_lt : 1 < PN := by decide
theorem zero_lt : 0 < PN := by decide
theorem dN_lt : dN < PN := by decide
theorem mod_lt' (a : Nat) : a % PN < PN := Nat.mod_lt _ pn_pos
/-- a pair of slices -/
def pairV (A B : Value) : Array Value := #[A, B]
def nilS : Value := .slice none 0 0
theorem pair_size : (Try.prog.info? 34).map (·.size) = some 2 := by kernel_rfl
/-- what Of reckons -/
structure OfW (y y2 u t v i a x q : Nat) : Prop where
  hy2 : y2 = y * y % PN
  hu : u = (y2 + PN - 1) % PN
  ht : t = dN * y2 % PN
  hv : v = (t + 1) % PN
  hi : i = v ^ (PN - 2) % PN
  ha : a = u * i % PN
  hx : x = a ^ leV e1L % PN
  hq : q = 2 ^ leV e2L % PN
def ofR (r : Nat) (ok odd : Bool) : Option Nat := if ok then (if decide (r % 2 = 1) = odd then some r else if r = 0 then none else some ((0 + PN - r) % PN)) else none
def OfNPost (o : Option Nat) (Y : Value) (w : World) (e : Ending) (w' : World) : Prop :=
  Below w.heap.size w w' ∧ match o with
    | none => e = .returned (.tuple #[.agg (pairV nilS nilS), .bool false])
    | some x => ∃ B d, e = .returned (.tuple #[.agg (pairV (.slice B 32 d) Y), .bool true]) ∧ 32 ≤ d ∧ Rd w' w'.heap.size B (DN x)
theorem digit0 {r : Nat} (h : r < PN) {A : Option Addr} {u : World} (k : Rd u u.heap.size A (DN r)) : ∃ ad, A = some ad ∧ u.cell? (ad.add 0) = some (.int .i64 ((r % 256 : Nat) : Int)) := by
  obtain ⟨ad, h1, _, h3⟩ := k.at_ (k := 0) (by rw [DN, dV_length, digN_length]; decide)
  refine ⟨ad, h1, ?_⟩
  rw [h3, show (DN r)[0]'(by rw [DN, dV_length, digN_length]; decide) = _ from dV_at (l := digN 32 r) (j := 0) (by rw [digN_length]; decide)]
  rw [show (digN 32 r)[0]'(by rw [digN_length]; decide) = r % 256 by simp [digN]]
theorem Rd.wrote {w w' : World} {B g : Nat} {A : Option Addr} {xs : List Value} {t : TypeId} {cs : Array Value} (h : Rd w B A xs) (hg : Blk w g t cs) (hw : Wrote g w w') (hne : ∀ v ∈ xs, ∀ j : Nat, cs[j]? ≠ some v) : Rd w' B A xs := fun i u hi => by
  obtain ⟨ad, ha, hlt, hc⟩ := h i u hi
  refine ⟨ad, ha, hlt, ?_⟩
  by_cases hb : ad.block = g
  · exfalso
    unfold World.cell? at hc
    rw [block_of_add, hb, show w.heap[g]? = _ from hg] at hc
    by_cases hs : (ad.add i).spot.isSome = true
    · simp [hs] at hc
    · simp only [hs, if_false] at hc
      exact hne u (List.mem_of_getElem? hi) _ hc
  · have hl : ad.block < w.heap.size := by
      unfold World.cell? at hc
      rw [block_of_add] at hc
      by_cases hl : ad.block < w.heap.size
      · exact hl
      · rw [Array.getElem?_eq_none (by omega)] at hc
        simp at hc
    have e : w'.heap[ad.block]? = w.heap[ad.block]? := hw.grown.block ad.block hl (by simpa using hb)
    unfold World.cell? at hc ⊢
    rw [block_of_add] at hc ⊢
    rw [e]; exact hc
theorem dn_int {x : Nat} {v : Value} (h : v ∈ DN x) : ∃ n : Int, v = .int .i64 n := by
  obtain ⟨n, _, e⟩ := List.mem_map.1 (show v ∈ (digN 32 x).map (fun n => Value.int .i64 ((n : Nat) : Int)) from h)
  exact ⟨_, e.symm⟩
theorem pair_ne {x : Nat} {A C : Option Addr} {a b c d : Nat} : ∀ v ∈ DN x, ∀ j : Nat, (pairV (.slice A a b) (.slice C c d))[j]? ≠ some v := fun v hv j => by
  obtain ⟨n, rfl⟩ := dn_int hv
  match j with
  | 0 => simp [pairV]
  | 1 => simp [pairV]
  | j + 2 => simp [pairV]
theorem Rd.pair {w w' : World} {B g x : Nat} {X : Option Addr} {t : TypeId} {A C : Option Addr} {a b c d : Nat} (h : Rd w B X (DN x)) (hg : Blk w g t (pairV (.slice A a b) (.slice C c d))) (hw : Wrote g w w') : Rd w' B X (DN x) := h.wrote hg hw pair_ne
theorem rd_size {A : Option Addr} {xs : List Value} {u u' : World} (h : Rd u' u.heap.size A xs) (e : u'.heap.size = u.heap.size) : Rd u' u'.heap.size A xs := by rw [e]; exact h
set_option maxRecDepth 100000 in
set_option maxHeartbeats 4000000 in
theorem nof_any {y y2 u t v i a x q : Nat} (W : OfW y y2 u t v i a x q) (ly : y < PN) (odd : Bool) {A : Option Addr} {c : Nat} (hc : 32 ≤ c) {w : World} (h : Rd w w.heap.size A (DN y)) :
    Calls Try.prog 36 #[.slice A 32 c, .bool odd] w (OfNPost (ofR (rtV a x q) (rtB a x q) odd) (.slice A 32 c) w) := by
  have hpt := Try.underlying34
  obtain ⟨hy2, hu, ht, hv, hi, ha, hx, hq⟩ := W
  have ly2 : y2 < PN := by rw [hy2]; exact mod_lt' _
  have lu : u < PN := by rw [hu]; exact mod_lt' _
  have lt : t < PN := by rw [ht]; exact mod_lt' _
  have lv : v < PN := by rw [hv]; exact mod_lt' _
  have li : i < PN := by rw [hi]; exact mod_lt' _
  have la : a < PN := by rw [ha]; exact mod_lt' _
  obtain ⟨r, hr⟩ : ∃ r, r = rtV a x q := ⟨_, rfl⟩
  obtain ⟨ok, hok⟩ : ∃ b, b = rtB a x q := ⟨_, rfl⟩
  have lr : r < PN := by
    rw [hr, rtV]
    split
    · rw [hx]; exact mod_lt' _
    · exact mod_lt' _
  have CR := Lib.hid (show ∀ u A c, 32 ≤ c → Rd u u.heap.size A (DN a) → Calls Try.prog 57 #[.slice A 32 c] u (RootPost r ok u) from fun u A c hc h => by rw [hr, hok]; exact nroot_any la hx hq hc h)
  rw [← hr, ← hok]
  clear hr hok hx hq
  obtain ⟨z, hz⟩ : ∃ z, z = (0 + PN - r) % PN := ⟨_, rfl⟩
  obtain ⟨s, hs⟩ : ∃ s, s = decide (r = 0) := ⟨_, rfl⟩
  obtain ⟨R, hR⟩ : ∃ R, R = ofR r ok odd := ⟨_, rfl⟩
  have hR' : R = if ok then (if decide (r % 2 = 1) = odd then some r else if s then none else some z) else none := by
    rw [hR, ofR, hs, hz]
    by_cases h0 : r = 0
    · simp [h0]
    · simp [h0]
  rw [← hR]
  have HR := Lib.hid hR'
  clear hR hR'
  have C1 := Lib.hid (show ∀ u, Calls Try.prog 41 #[.int .i64 1] u (NumPost 1 u) from fun u => nint 1 (by decide) u)
  have C2 := Lib.hid (show ∀ ww A c B d, Rd ww ww.heap.size A (DN y) → Rd ww ww.heap.size B (DN y) → Calls Try.prog 42 #[.slice A 32 c, .slice B 32 d] ww (NumPost y2 ww) from fun ww A c B d h k => by rw [hy2]; exact nmul ly ly h k)
  have C3 := Lib.hid (show ∀ ww A c B d, Rd ww ww.heap.size A (DN y2) → Rd ww ww.heap.size B (DN 1) → Calls Try.prog 46 #[.slice A 32 c, .slice B 32 d] ww (NumPost u ww) from fun ww A c B d h k => by rw [hu]; exact nsub ly2 one_lt h k)
  have C4 := Lib.hid (show ∀ u, Calls Try.prog 43 #[] u (NumPost dN u) from fun u => nd_any u)
  have C5 := Lib.hid (show ∀ ww A c B d, Rd ww ww.heap.size A (DN dN) → Rd ww ww.heap.size B (DN y2) → Calls Try.prog 42 #[.slice A 32 c, .slice B 32 d] ww (NumPost t ww) from fun ww A c B d h k => by rw [ht]; exact nmul dN_lt ly2 h k)
  have C6 := Lib.hid (show ∀ ww A c B d, Rd ww ww.heap.size A (DN t) → Rd ww ww.heap.size B (DN 1) → Calls Try.prog 44 #[.slice A 32 c, .slice B 32 d] ww (NumPost v ww) from fun ww A c B d h k => by rw [hv]; exact nadd lt one_lt h k)
  have C7 := Lib.hid (show ∀ ww A c, Rd ww ww.heap.size A (DN v) → Calls Try.prog 45 #[.slice A 32 c] ww (NumPost i ww) from fun ww A c h => by rw [hi]; exact ninv lv h)
  have C8 := Lib.hid (show ∀ ww A c B d, Rd ww ww.heap.size A (DN u) → Rd ww ww.heap.size B (DN i) → Calls Try.prog 42 #[.slice A 32 c, .slice B 32 d] ww (NumPost a ww) from fun ww A c B d h k => by rw [ha]; exact nmul lu li h k)
  have C9 := Lib.hid (show ∀ u, Calls Try.prog 41 #[.int .i64 0] u (NumPost 0 u) from fun u => nint 0 (by decide) u)
  have C10 := Lib.hid (show ∀ ww A c B d, Rd ww ww.heap.size A (DN r) → Rd ww ww.heap.size B (DN 0) → 32 ≤ c → 32 ≤ d → Calls Try.prog 54 #[.slice A 32 c, .slice B 32 d] ww (BoolPost s ww) from fun ww A c B d h k hc hd => by rw [hs]; exact nsame lr zero_lt h k hc hd)
  have C11 := Lib.hid (show ∀ ww A c B d, Rd ww ww.heap.size A (DN 0) → Rd ww ww.heap.size B (DN r) → Calls Try.prog 46 #[.slice A 32 c, .slice B 32 d] ww (NumPost z ww) from fun ww A c B d h k => by rw [hz]; exact nsub zero_lt lr h k)
  generalize dN = D at *
  have hr2 : r % 256 % 2 = r % 2 := Nat.mod_mod_of_dvd r (by decide)
  have LY := Lib.hid hc
  have RY := Lib.hid h
  have LR := Lib.hid lr
  have HB := Lib.hid (below_new w (.cells (pairV nilS nilS) 34))
  have HP := Lib.hid (Blk.new w 34 (pairV nilS nilS))
  have H2 := Lib.hid hr2
  replace RY := Lib.hid (rd_next RY.out HB.out)
  clear hy2 hu ht hv hi ha ly ly2 lu lt lv li la lr hz hs hc h hr2
  go_enter Try.func36, Try.ntmps36
  go_wp2_with fail
  refine calls_then (C1.out _) ?_
  rintro e u1 ⟨Aw1, cw1, rfl, hc, hr, hb⟩
  replace HB := Lib.hid (HB.out.trans (hb.mono HB.out.size))
  replace RY := Lib.hid (rd_next RY.out hb)
  replace HP := Lib.hid (HP.out.below hb HP.out.lt)
  have Rw1 := Lib.hid hr
  have LEw1 := Lib.hid hc
  clear hr hc hb
  generalize hg : w.heap.size = g at HP ⊢
  have HG := Lib.hid hg
  clear hg
  go_wp2_with fail
  refine calls_then (C2.out _ _ _ _ _ RY.out RY.out) ?_
  rintro e u2 ⟨Ay2, cy2, rfl, hc, hr, hb⟩
  replace HB := Lib.hid (HB.out.trans (hb.mono HB.out.size))
  replace RY := Lib.hid (rd_next RY.out hb)
  replace Rw1 := Lib.hid (rd_next Rw1.out hb)
  replace HP := Lib.hid (HP.out.below hb HP.out.lt)
  have Ry2 := Lib.hid hr
  have LEy2 := Lib.hid hc
  clear hr hc hb
  go_wp2_with fail
  refine calls_then (C3.out _ _ _ _ _ Ry2.out Rw1.out) ?_
  rintro e u3 ⟨Au, cu, rfl, hc, hr, hb⟩
  replace HB := Lib.hid (HB.out.trans (hb.mono HB.out.size))
  replace RY := Lib.hid (rd_next RY.out hb)
  replace Rw1 := Lib.hid (rd_next Rw1.out hb)
  replace Ry2 := Lib.hid (rd_next Ry2.out hb)
  replace HP := Lib.hid (HP.out.below hb HP.out.lt)
  have Ru := Lib.hid hr
  have LEu := Lib.hid hc
  clear hr hc hb
  go_wp2_with fail
  refine calls_then (C4.out _) ?_
  rintro e u4 ⟨AD, cD, rfl, hc, hr, hb⟩
  replace HB := Lib.hid (HB.out.trans (hb.mono HB.out.size))
  replace RY := Lib.hid (rd_next RY.out hb)
  replace Rw1 := Lib.hid (rd_next Rw1.out hb)
  replace Ry2 := Lib.hid (rd_next Ry2.out hb)
  replace Ru := Lib.hid (rd_next Ru.out hb)
  replace HP := Lib.hid (HP.out.below hb HP.out.lt)
  have RD := Lib.hid hr
  have LED := Lib.hid hc
  clear hr hc hb
  go_wp2_with fail
  refine calls_then (C5.out _ _ _ _ _ RD.out Ry2.out) ?_
  rintro e u5 ⟨At, ct, rfl, hc, hr, hb⟩
  clear RD
  replace HB := Lib.hid (HB.out.trans (hb.mono HB.out.size))
  replace RY := Lib.hid (rd_next RY.out hb)
  replace Rw1 := Lib.hid (rd_next Rw1.out hb)
  replace Ry2 := Lib.hid (rd_next Ry2.out hb)
  replace Ru := Lib.hid (rd_next Ru.out hb)
  replace HP := Lib.hid (HP.out.below hb HP.out.lt)
  have Rt := Lib.hid hr
  have LEt := Lib.hid hc
  clear hr hc hb
  go_wp2_with fail
  refine calls_then (C6.out _ _ _ _ _ Rt.out Rw1.out) ?_
  rintro e u6 ⟨Av, cv, rfl, hc, hr, hb⟩
  clear Rt
  clear Ry2
  replace HB := Lib.hid (HB.out.trans (hb.mono HB.out.size))
  replace RY := Lib.hid (rd_next RY.out hb)
  replace Rw1 := Lib.hid (rd_next Rw1.out hb)
  replace Ru := Lib.hid (rd_next Ru.out hb)
  replace HP := Lib.hid (HP.out.below hb HP.out.lt)
  have Rv := Lib.hid hr
  have LEv := Lib.hid hc
  clear hr hc hb
  go_wp2_with fail
  refine calls_then (C7.out _ _ _ Rv.out) ?_
  rintro e u7 ⟨Ai, ci, rfl, hc, hr, hb⟩
  clear Rv
  clear Rw1
  replace HB := Lib.hid (HB.out.trans (hb.mono HB.out.size))
  replace RY := Lib.hid (rd_next RY.out hb)
  replace Ru := Lib.hid (rd_next Ru.out hb)
  replace HP := Lib.hid (HP.out.below hb HP.out.lt)
  have Ri := Lib.hid hr
  have LEi := Lib.hid hc
  clear hr hc hb
  go_wp2_with fail
  refine calls_then (C8.out _ _ _ _ _ Ru.out Ri.out) ?_
  rintro e u8 ⟨Aa, ca, rfl, hc, hr, hb⟩
  clear Ri
  clear Ru
  replace HB := Lib.hid (HB.out.trans (hb.mono HB.out.size))
  replace RY := Lib.hid (rd_next RY.out hb)
  replace HP := Lib.hid (HP.out.below hb HP.out.lt)
  have Ra := Lib.hid hr
  have LEa := Lib.hid hc
  clear hr hc hb
  go_wp2_with fail
  refine calls_then (CR.out _ _ _ LEa.out Ra.out) ?_
  rintro e u20 ⟨Ar, cr, rfl, hc, hr, hb⟩
  clear Ra
  replace HB := Lib.hid (HB.out.trans (hb.mono HB.out.size))
  replace RY := Lib.hid (rd_next RY.out hb)
  replace HP := Lib.hid (HP.out.below hb HP.out.lt)
  have Rr := Lib.hid hr
  have LEr := Lib.hid hc
  clear hr hc hb
  obtain ⟨ad, had, d0⟩ := digit0 LR.out Rr.out
  subst had
  rw [show ad.add 0 = ad from rfl] at d0
  cases ok
  · go_wp2_with (refine wpList_put_box (x := .tmp 4) (cells := pairV nilS nilS) HP.out rfl rfl rfl rfl pair_size rfl (by simp [pairV, nilS, Value.oneCell']) ?_; intro u30 hb30 hw30; have HP30 := Lib.hid hb30; have HW30 := Lib.hid hw30; clear hb30 hw30)
    refine bodyPost_ret (results_box_tmp (P := Try.prog) rfl rfl HP30.out hpt rfl pair_size) rfl ⟨HW30.out.below HB.out (Nat.le_of_eq HG.out) HB.out.size, ?_⟩
    rw [HR.out]
    rfl
  · obtain ⟨m, hm⟩ : ∃ m, m = r % 256 := ⟨_, rfl⟩
    rw [← hm] at d0
    have hm2 : m % 2 = r % 2 := by rw [hm]; exact H2.out
    have hm256 : m < 256 := by rw [hm]; exact Nat.mod_lt _ (by decide)
    by_cases ho : decide (r % 2 = 1) = odd
    · have hodd : decide ((m : Int) % 2 = 1) = odd := by rw [← ho]; exact decide_eq_decide.mpr (by omega)
      have HR2 : R = some r := by rw [HR.out, if_pos ho]; rfl
      clear ho hm hm2
      cases odd
      · have hmi : (m : Int) % 2 = 0 := by simp at hodd; omega
        have HR2 := Lib.hid HR2
        clear hodd
        go_wp2_with (refine wpList_put_box (x := .tmp 4) (cells := pairV (.slice (some ad) 32 cr) (.slice A 32 c)) HP.out rfl rfl rfl rfl pair_size rfl (by simp [pairV, nilS, Value.oneCell']) ?_; intro u30 hb30 hw30; have HP30 := Lib.hid hb30; have HW30 := Lib.hid hw30; clear hb30 hw30)
        refine bodyPost_ret (results_box_tmp (P := Try.prog) rfl rfl HP30.out hpt rfl pair_size) rfl ⟨HW30.out.below HB.out (Nat.le_of_eq HG.out) HB.out.size, ?_⟩
        rw [HR2.out]
        exact ⟨_, _, rfl, LEr.out, rd_size (Rr.out.pair HP.out HW30.out) HW30.out.size⟩
      · have hmi : (m : Int) % 2 = 1 := by simp at hodd; omega
        have HR2 := Lib.hid HR2
        clear hodd
        go_wp2_with (refine wpList_put_box (x := .tmp 4) (cells := pairV (.slice (some ad) 32 cr) (.slice A 32 c)) HP.out rfl rfl rfl rfl pair_size rfl (by simp [pairV, nilS, Value.oneCell']) ?_; intro u30 hb30 hw30; have HP30 := Lib.hid hb30; have HW30 := Lib.hid hw30; clear hb30 hw30)
        refine bodyPost_ret (results_box_tmp (P := Try.prog) rfl rfl HP30.out hpt rfl pair_size) rfl ⟨HW30.out.below HB.out (Nat.le_of_eq HG.out) HB.out.size, ?_⟩
        rw [HR2.out]
        exact ⟨_, _, rfl, LEr.out, rd_size (Rr.out.pair HP.out HW30.out) HW30.out.size⟩
    · have HR2 : R = if s then none else some z := by rw [HR.out, if_neg ho]; rfl
      have HR3 := Lib.hid HR2
      clear HR2
      have hmi : ((m : Int) % 2 = 1 ∧ odd = false) ∨ ((m : Int) % 2 = 0 ∧ odd = true) := by
        cases odd
        · simp at ho; left; exact ⟨by omega, rfl⟩
        · simp at ho; right; exact ⟨by omega, rfl⟩
      clear ho hm hm2
      rcases hmi with ⟨hmi, rfl⟩ | ⟨hmi, rfl⟩
      · go_wp2_with fail
        clear d0 hmi
        refine calls_then (C9.out _) ?_
        rintro e u9 ⟨Aw0, cw0, rfl, hc, hr, hb⟩
        replace HB := Lib.hid (HB.out.trans (hb.mono HB.out.size))
        replace RY := Lib.hid (rd_next RY.out hb)
        replace Rr := Lib.hid (rd_next Rr.out hb)
        replace HP := Lib.hid (HP.out.below hb HP.out.lt)
        have Rw0 := Lib.hid hr
        have LEw0 := Lib.hid hc
        clear hr hc hb
        go_wp2_with fail
        refine calls_then (C10.out _ _ _ _ _ Rr.out Rw0.out LEr.out LEw0.out) ?_
        rintro e u10 ⟨rfl, hb⟩
        replace HB := Lib.hid (HB.out.trans (hb.mono HB.out.size))
        replace RY := Lib.hid (rd_next RY.out hb)
        replace Rr := Lib.hid (rd_next Rr.out hb)
        replace Rw0 := Lib.hid (rd_next Rw0.out hb)
        replace HP := Lib.hid (HP.out.below hb HP.out.lt)
        clear hb
        cases s
        · go_wp2_with fail
          clear Rw0 LEw0
          refine calls_then (C9.out _) ?_
          rintro e u11 ⟨Aw0, cw0, rfl, hc, hr, hb⟩
          replace HB := Lib.hid (HB.out.trans (hb.mono HB.out.size))
          replace RY := Lib.hid (rd_next RY.out hb)
          replace Rr := Lib.hid (rd_next Rr.out hb)
          replace HP := Lib.hid (HP.out.below hb HP.out.lt)
          have Rw0 := Lib.hid hr
          have LEw0 := Lib.hid hc
          clear hr hc hb
          go_wp2_with fail
          refine calls_then (C11.out _ _ _ _ _ Rw0.out Rr.out) ?_
          rintro e u12 ⟨Az, cz, rfl, hc, hr, hb⟩
          replace HB := Lib.hid (HB.out.trans (hb.mono HB.out.size))
          replace RY := Lib.hid (rd_next RY.out hb)
          replace Rr := Lib.hid (rd_next Rr.out hb)
          replace Rw0 := Lib.hid (rd_next Rw0.out hb)
          replace HP := Lib.hid (HP.out.below hb HP.out.lt)
          have Rz := Lib.hid hr
          have LEz := Lib.hid hc
          clear hr hc hb
          go_wp2_with (refine wpList_put_box (x := .tmp 4) (cells := pairV (.slice Az 32 cz) (.slice A 32 c)) HP.out rfl rfl rfl rfl pair_size rfl (by simp [pairV, nilS, Value.oneCell']) ?_; intro u30 hb30 hw30; have HP30 := Lib.hid hb30; have HW30 := Lib.hid hw30; clear hb30 hw30)
          refine bodyPost_ret (results_box_tmp (P := Try.prog) rfl rfl HP30.out hpt rfl pair_size) rfl ⟨HW30.out.below HB.out (Nat.le_of_eq HG.out) HB.out.size, ?_⟩
          rw [HR3.out]
          exact ⟨_, _, rfl, LEz.out, rd_size (Rz.out.pair HP.out HW30.out) HW30.out.size⟩
        · go_wp2_with (refine wpList_put_box (x := .tmp 4) (cells := pairV nilS nilS) HP.out rfl rfl rfl rfl pair_size rfl (by simp [pairV, nilS, Value.oneCell']) ?_; intro u30 hb30 hw30; have HP30 := Lib.hid hb30; have HW30 := Lib.hid hw30; clear hb30 hw30)
          refine bodyPost_ret (results_box_tmp (P := Try.prog) rfl rfl HP30.out hpt rfl pair_size) rfl ⟨HW30.out.below HB.out (Nat.le_of_eq HG.out) HB.out.size, ?_⟩
          rw [HR3.out]
          rfl
      · go_wp2_with fail
        clear d0 hmi
        refine calls_then (C9.out _) ?_
        rintro e u13 ⟨Aw0, cw0, rfl, hc, hr, hb⟩
        replace HB := Lib.hid (HB.out.trans (hb.mono HB.out.size))
        replace RY := Lib.hid (rd_next RY.out hb)
        replace Rr := Lib.hid (rd_next Rr.out hb)
        replace HP := Lib.hid (HP.out.below hb HP.out.lt)
        have Rw0 := Lib.hid hr
        have LEw0 := Lib.hid hc
        clear hr hc hb
        go_wp2_with fail
        refine calls_then (C10.out _ _ _ _ _ Rr.out Rw0.out LEr.out LEw0.out) ?_
        rintro e u14 ⟨rfl, hb⟩
        replace HB := Lib.hid (HB.out.trans (hb.mono HB.out.size))
        replace RY := Lib.hid (rd_next RY.out hb)
        replace Rr := Lib.hid (rd_next Rr.out hb)
        replace Rw0 := Lib.hid (rd_next Rw0.out hb)
        replace HP := Lib.hid (HP.out.below hb HP.out.lt)
        clear hb
        cases s
        · go_wp2_with fail
          clear Rw0 LEw0
          refine calls_then (C9.out _) ?_
          rintro e u15 ⟨Aw0, cw0, rfl, hc, hr, hb⟩
          replace HB := Lib.hid (HB.out.trans (hb.mono HB.out.size))
          replace RY := Lib.hid (rd_next RY.out hb)
          replace Rr := Lib.hid (rd_next Rr.out hb)
          replace HP := Lib.hid (HP.out.below hb HP.out.lt)
          have Rw0 := Lib.hid hr
          have LEw0 := Lib.hid hc
          clear hr hc hb
          go_wp2_with fail
          refine calls_then (C11.out _ _ _ _ _ Rw0.out Rr.out) ?_
          rintro e u16 ⟨Az, cz, rfl, hc, hr, hb⟩
          replace HB := Lib.hid (HB.out.trans (hb.mono HB.out.size))
          replace RY := Lib.hid (rd_next RY.out hb)
          replace Rr := Lib.hid (rd_next Rr.out hb)
          replace Rw0 := Lib.hid (rd_next Rw0.out hb)
          replace HP := Lib.hid (HP.out.below hb HP.out.lt)
          have Rz := Lib.hid hr
          have LEz := Lib.hid hc
          clear hr hc hb
          go_wp2_with (refine wpList_put_box (x := .tmp 4) (cells := pairV (.slice Az 32 cz) (.slice A 32 c)) HP.out rfl rfl rfl rfl pair_size rfl (by simp [pairV, nilS, Value.oneCell']) ?_; intro u30 hb30 hw30; have HP30 := Lib.hid hb30; have HW30 := Lib.hid hw30; clear hb30 hw30)
          refine bodyPost_ret (results_box_tmp (P := Try.prog) rfl rfl HP30.out hpt rfl pair_size) rfl ⟨HW30.out.below HB.out (Nat.le_of_eq HG.out) HB.out.size, ?_⟩
          rw [HR3.out]
          exact ⟨_, _, rfl, LEz.out, rd_size (Rz.out.pair HP.out HW30.out) HW30.out.size⟩
        · go_wp2_with (refine wpList_put_box (x := .tmp 4) (cells := pairV nilS nilS) HP.out rfl rfl rfl rfl pair_size rfl (by simp [pairV, nilS, Value.oneCell']) ?_; intro u30 hb30 hw30; have HP30 := Lib.hid hb30; have HW30 := Lib.hid hw30; clear hb30 hw30)
          refine bodyPost_ret (results_box_tmp (P := Try.prog) rfl rfl HP30.out hpt rfl pair_size) rfl ⟨HW30.out.below HB.out (Nat.le_of_eq HG.out) HB.out.size, ?_⟩
          rw [HR3.out]
          rfl
end Go.Proofs.Ytbeokfpbhemcfaa
/-
  Walks: the reference's On and Add of points.
-/
namespace Go.Proofs.Ytbeokfpbhemcfaa
set_option linter.unusedSimpArgs false
set_option linter.unusedVariables false
open Go.RowKit

/-- is a pair on the curve? -/
def onB (x y : Nat) : Bool := decide ((y * y % PN + PN - x * x % PN) % PN = (1 + dN * (x * x % PN * (y * y % PN) % PN) % PN) % PN)
set_option maxRecDepth 100000 in
set_option maxHeartbeats 4000000 in
theorem non_any {x y : Nat} (lx : x < PN) (ly : y < PN) {X Y : Option Addr} {cx cy : Nat} {w : World} (hx : Rd w w.heap.size X (DN x)) (hy : Rd w w.heap.size Y (DN y)) :
    Calls Try.prog 28 #[.agg (pairV (.slice X 32 cx) (.slice Y 32 cy))] w (BoolPost (onB x y) w) := by
  have hpt := Try.underlying34
  obtain ⟨x2, e1⟩ : ∃ n, n = x * x % PN := ⟨_, rfl⟩
  obtain ⟨y2, e2⟩ : ∃ n, n = y * y % PN := ⟨_, rfl⟩
  obtain ⟨l, e3⟩ : ∃ n, n = (y2 + PN - x2) % PN := ⟨_, rfl⟩
  obtain ⟨m, e4⟩ : ∃ n, n = x2 * y2 % PN := ⟨_, rfl⟩
  obtain ⟨k, e5⟩ : ∃ n, n = dN * m % PN := ⟨_, rfl⟩
  obtain ⟨r, e6⟩ : ∃ n, n = (1 + k) % PN := ⟨_, rfl⟩
  obtain ⟨s, e7⟩ : ∃ s, s = decide (l = r) := ⟨_, rfl⟩
  have es : onB x y = s := by rw [e7, e6, e5, e4, e3, e2, e1]; rfl
  have l1 : x2 < PN := by rw [e1]; exact mod_lt' _
  have l2 : y2 < PN := by rw [e2]; exact mod_lt' _
  have l3 : l < PN := by rw [e3]; exact mod_lt' _
  have l4 : m < PN := by rw [e4]; exact mod_lt' _
  have l5 : k < PN := by rw [e5]; exact mod_lt' _
  have l6 : r < PN := by rw [e6]; exact mod_lt' _
  rw [es]
  have C1 := Lib.hid (show ∀ ww XA xc XB xd, Rd ww ww.heap.size XA (DN x) → Rd ww ww.heap.size XB (DN x) → Calls Try.prog 42 #[.slice XA 32 xc, .slice XB 32 xd] ww (NumPost x2 ww) from fun ww XA xc XB xd xh xk => by rw [e1]; exact nmul lx lx xh xk)
  have C2 := Lib.hid (show ∀ ww XA xc XB xd, Rd ww ww.heap.size XA (DN y) → Rd ww ww.heap.size XB (DN y) → Calls Try.prog 42 #[.slice XA 32 xc, .slice XB 32 xd] ww (NumPost y2 ww) from fun ww XA xc XB xd xh xk => by rw [e2]; exact nmul ly ly xh xk)
  have C3 := Lib.hid (show ∀ ww XA xc XB xd, Rd ww ww.heap.size XA (DN y2) → Rd ww ww.heap.size XB (DN x2) → Calls Try.prog 46 #[.slice XA 32 xc, .slice XB 32 xd] ww (NumPost l ww) from fun ww XA xc XB xd xh xk => by rw [e3]; exact nsub l2 l1 xh xk)
  have C4 := Lib.hid (show ∀ u, Calls Try.prog 41 #[.int .i64 1] u (NumPost 1 u) from fun u => nint 1 (by decide) u)
  have C5 := Lib.hid (show ∀ u, Calls Try.prog 43 #[] u (NumPost dN u) from fun u => nd_any u)
  have C6 := Lib.hid (show ∀ ww XA xc XB xd, Rd ww ww.heap.size XA (DN x2) → Rd ww ww.heap.size XB (DN y2) → Calls Try.prog 42 #[.slice XA 32 xc, .slice XB 32 xd] ww (NumPost m ww) from fun ww XA xc XB xd xh xk => by rw [e4]; exact nmul l1 l2 xh xk)
  have C7 := Lib.hid (show ∀ ww XA xc XB xd, Rd ww ww.heap.size XA (DN dN) → Rd ww ww.heap.size XB (DN m) → Calls Try.prog 42 #[.slice XA 32 xc, .slice XB 32 xd] ww (NumPost k ww) from fun ww XA xc XB xd xh xk => by rw [e5]; exact nmul dN_lt l4 xh xk)
  have C8 := Lib.hid (show ∀ ww XA xc XB xd, Rd ww ww.heap.size XA (DN 1) → Rd ww ww.heap.size XB (DN k) → Calls Try.prog 44 #[.slice XA 32 xc, .slice XB 32 xd] ww (NumPost r ww) from fun ww XA xc XB xd xh xk => by rw [e6]; exact nadd one_lt l5 xh xk)
  have C9 := Lib.hid (show ∀ ww XA xc XB xd, Rd ww ww.heap.size XA (DN l) → Rd ww ww.heap.size XB (DN r) → 32 ≤ xc → 32 ≤ xd → Calls Try.prog 54 #[.slice XA 32 xc, .slice XB 32 xd] ww (BoolPost s ww) from fun ww XA xc XB xd xh xk hc hd => by rw [e7]; exact nsame l3 l6 xh xk hc hd)
  generalize dN = D at *
  have RX := Lib.hid hx
  have RY := Lib.hid hy
  have HB := Lib.hid (below_new w (.cells (pairV (.slice X 32 cx) (.slice Y 32 cy)) 34))
  have HP := Lib.hid (Blk.new w 34 (pairV (.slice X 32 cx) (.slice Y 32 cy)))
  replace RX := Lib.hid (rd_next RX.out HB.out)
  replace RY := Lib.hid (rd_next RY.out HB.out)
  clear e1 e2 e3 e4 e5 e6 e7 es l1 l2 l3 l4 l5 l6 lx ly hx hy
  have d0 := (HP.out.cell 0).trans (show (pairV (.slice X 32 cx) (.slice Y 32 cy))[0]? = some (.slice X 32 cx) from rfl)
  have d1 := (HP.out.cell 1).trans (show (pairV (.slice X 32 cx) (.slice Y 32 cy))[1]? = some (.slice Y 32 cy) from rfl)
  go_enter Try.func28, Try.ntmps28
  go_wp2_with fail
  clear d0 d1
  refine calls_then (C1.out _ _ _ _ _ RX.out RX.out) ?_
  rintro e u1 ⟨Ax2, cx2, rfl, hc, hr, hb⟩
  clear RX
  replace HB := Lib.hid (HB.out.trans (hb.mono HB.out.size))
  replace RY := Lib.hid (rd_next RY.out hb)
  replace HP := Lib.hid (HP.out.below hb HP.out.lt)
  have Rx2 := Lib.hid hr
  have LEx2 := Lib.hid hc
  clear hr hc hb
  generalize hg : w.heap.size = g at HP ⊢
  clear hg
  have d0 := (HP.out.cell 0).trans (show (pairV (.slice X 32 cx) (.slice Y 32 cy))[0]? = some (.slice X 32 cx) from rfl)
  have d1 := (HP.out.cell 1).trans (show (pairV (.slice X 32 cx) (.slice Y 32 cy))[1]? = some (.slice Y 32 cy) from rfl)
  go_wp2_with fail
  clear d0 d1
  refine calls_then (C2.out _ _ _ _ _ RY.out RY.out) ?_
  rintro e u2 ⟨Ay2, cy2, rfl, hc, hr, hb⟩
  clear RY
  clear HP
  replace HB := Lib.hid (HB.out.trans (hb.mono HB.out.size))
  replace Rx2 := Lib.hid (rd_next Rx2.out hb)
  have Ry2 := Lib.hid hr
  have LEy2 := Lib.hid hc
  clear hr hc hb
  go_wp2_with fail
  refine calls_then (C3.out _ _ _ _ _ Ry2.out Rx2.out) ?_
  rintro e u3 ⟨Al, cl, rfl, hc, hr, hb⟩
  replace HB := Lib.hid (HB.out.trans (hb.mono HB.out.size))
  replace Rx2 := Lib.hid (rd_next Rx2.out hb)
  replace Ry2 := Lib.hid (rd_next Ry2.out hb)
  have Rl := Lib.hid hr
  have LEl := Lib.hid hc
  clear hr hc hb
  go_wp2_with fail
  refine calls_then (C4.out _) ?_
  rintro e u4 ⟨Aw1, cw1, rfl, hc, hr, hb⟩
  replace HB := Lib.hid (HB.out.trans (hb.mono HB.out.size))
  replace Rx2 := Lib.hid (rd_next Rx2.out hb)
  replace Ry2 := Lib.hid (rd_next Ry2.out hb)
  replace Rl := Lib.hid (rd_next Rl.out hb)
  have Rw1 := Lib.hid hr
  have LEw1 := Lib.hid hc
  clear hr hc hb
  go_wp2_with fail
  refine calls_then (C5.out _) ?_
  rintro e u5 ⟨AD, cD, rfl, hc, hr, hb⟩
  replace HB := Lib.hid (HB.out.trans (hb.mono HB.out.size))
  replace Rx2 := Lib.hid (rd_next Rx2.out hb)
  replace Ry2 := Lib.hid (rd_next Ry2.out hb)
  replace Rl := Lib.hid (rd_next Rl.out hb)
  replace Rw1 := Lib.hid (rd_next Rw1.out hb)
  have RD := Lib.hid hr
  have LED := Lib.hid hc
  clear hr hc hb
  go_wp2_with fail
  refine calls_then (C6.out _ _ _ _ _ Rx2.out Ry2.out) ?_
  rintro e u6 ⟨Am, cm, rfl, hc, hr, hb⟩
  clear Rx2
  clear Ry2
  replace HB := Lib.hid (HB.out.trans (hb.mono HB.out.size))
  replace Rl := Lib.hid (rd_next Rl.out hb)
  replace Rw1 := Lib.hid (rd_next Rw1.out hb)
  replace RD := Lib.hid (rd_next RD.out hb)
  have Rm := Lib.hid hr
  have LEm := Lib.hid hc
  clear hr hc hb
  go_wp2_with fail
  refine calls_then (C7.out _ _ _ _ _ RD.out Rm.out) ?_
  rintro e u7 ⟨Ak, ck, rfl, hc, hr, hb⟩
  clear RD
  clear Rm
  replace HB := Lib.hid (HB.out.trans (hb.mono HB.out.size))
  replace Rl := Lib.hid (rd_next Rl.out hb)
  replace Rw1 := Lib.hid (rd_next Rw1.out hb)
  have Rk := Lib.hid hr
  have LEk := Lib.hid hc
  clear hr hc hb
  go_wp2_with fail
  refine calls_then (C8.out _ _ _ _ _ Rw1.out Rk.out) ?_
  rintro e u8 ⟨Ar, cr, rfl, hc, hr, hb⟩
  clear Rw1
  clear Rk
  replace HB := Lib.hid (HB.out.trans (hb.mono HB.out.size))
  replace Rl := Lib.hid (rd_next Rl.out hb)
  have Rr := Lib.hid hr
  have LEr := Lib.hid hc
  clear hr hc hb
  go_wp2_with fail
  refine calls_then (C9.out _ _ _ _ _ Rl.out Rr.out LEl.out LEr.out) ?_
  rintro e u9 ⟨rfl, hb⟩
  replace HB := Lib.hid (HB.out.trans (hb.mono HB.out.size))
  replace Rl := Lib.hid (rd_next Rl.out hb)
  replace Rr := Lib.hid (rd_next Rr.out hb)
  clear hb
  go_wp2_with fail
  go_ret
  exact ⟨rfl, HB.out⟩
/-- what the reference's Add reckons -/
structure AddW (x1 y1 x2 y2 a b c e m k s ka ia x t kb ib y : Nat) : Prop where
  h1 : a = x1 * y2 % PN
  h2 : b = y1 * x2 % PN
  h3 : c = y1 * y2 % PN
  h4 : e = x1 * x2 % PN
  h5 : m = e * c % PN
  h6 : k = dN * m % PN
  h7 : s = (a + b) % PN
  h8 : ka = (1 + k) % PN
  h9 : ia = ka ^ (PN - 2) % PN
  h10 : x = s * ia % PN
  h11 : t = (c + e) % PN
  h12 : kb = (1 + PN - k) % PN
  h13 : ib = kb ^ (PN - 2) % PN
  h14 : y = t * ib % PN
def PairPost (x y : Nat) (w : World) (e : Ending) (w' : World) : Prop := ∃ A c B d, e = .returned (.agg (pairV (.slice A 32 c) (.slice B 32 d))) ∧ 32 ≤ c ∧ 32 ≤ d ∧ Rd w' w'.heap.size A (DN x) ∧ Rd w' w'.heap.size B (DN y) ∧ Below w.heap.size w w'
set_option maxRecDepth 100000 in
set_option maxHeartbeats 4000000 in
theorem nadd_any {x1 y1 x2 y2 a b c e m k s ka ia x t kb ib y : Nat} (W : AddW x1 y1 x2 y2 a b c e m k s ka ia x t kb ib y) (p1 : x1 < PN) (p2 : y1 < PN) (p3 : x2 < PN) (p4 : y2 < PN) {A1 B1 A2 B2 : Option Addr} {c1 d1 c2 d2 : Nat} {w : World}
    (r1 : Rd w w.heap.size A1 (DN x1)) (r2 : Rd w w.heap.size B1 (DN y1)) (r3 : Rd w w.heap.size A2 (DN x2)) (r4 : Rd w w.heap.size B2 (DN y2)) :
    Calls Try.prog 15 #[.agg (pairV (.slice A1 32 c1) (.slice B1 32 d1)), .agg (pairV (.slice A2 32 c2) (.slice B2 32 d2))] w (PairPost x y w) := by
  have hpt := Try.underlying34
  obtain ⟨h1, h2, h3, h4, h5, h6, h7, h8, h9, h10, h11, h12, h13, h14⟩ := W
  have l1 : a < PN := by rw [h1]; exact mod_lt' _
  have l2 : b < PN := by rw [h2]; exact mod_lt' _
  have l3 : c < PN := by rw [h3]; exact mod_lt' _
  have l4 : e < PN := by rw [h4]; exact mod_lt' _
  have l5 : m < PN := by rw [h5]; exact mod_lt' _
  have l6 : k < PN := by rw [h6]; exact mod_lt' _
  have l7 : s < PN := by rw [h7]; exact mod_lt' _
  have l8 : ka < PN := by rw [h8]; exact mod_lt' _
  have l9 : ia < PN := by rw [h9]; exact mod_lt' _
  have l10 : x < PN := by rw [h10]; exact mod_lt' _
  have l11 : t < PN := by rw [h11]; exact mod_lt' _
  have l12 : kb < PN := by rw [h12]; exact mod_lt' _
  have l13 : ib < PN := by rw [h13]; exact mod_lt' _
  have l14 : y < PN := by rw [h14]; exact mod_lt' _
  have C0 := Lib.hid (show ∀ u, Calls Try.prog 41 #[.int .i64 1] u (NumPost 1 u) from fun u => nint 1 (by decide) u)
  have C1 := Lib.hid (show ∀ ww XA xc XB xd, Rd ww ww.heap.size XA (DN x1) → Rd ww ww.heap.size XB (DN y2) → Calls Try.prog 42 #[.slice XA 32 xc, .slice XB 32 xd] ww (NumPost a ww) from fun ww XA xc XB xd xh xk => by rw [h1]; exact nmul p1 p4 xh xk)
  have C2 := Lib.hid (show ∀ ww XA xc XB xd, Rd ww ww.heap.size XA (DN y1) → Rd ww ww.heap.size XB (DN x2) → Calls Try.prog 42 #[.slice XA 32 xc, .slice XB 32 xd] ww (NumPost b ww) from fun ww XA xc XB xd xh xk => by rw [h2]; exact nmul p2 p3 xh xk)
  have C3 := Lib.hid (show ∀ ww XA xc XB xd, Rd ww ww.heap.size XA (DN y1) → Rd ww ww.heap.size XB (DN y2) → Calls Try.prog 42 #[.slice XA 32 xc, .slice XB 32 xd] ww (NumPost c ww) from fun ww XA xc XB xd xh xk => by rw [h3]; exact nmul p2 p4 xh xk)
  have C4 := Lib.hid (show ∀ ww XA xc XB xd, Rd ww ww.heap.size XA (DN x1) → Rd ww ww.heap.size XB (DN x2) → Calls Try.prog 42 #[.slice XA 32 xc, .slice XB 32 xd] ww (NumPost e ww) from fun ww XA xc XB xd xh xk => by rw [h4]; exact nmul p1 p3 xh xk)
  have CD := Lib.hid (show ∀ u, Calls Try.prog 43 #[] u (NumPost dN u) from fun u => nd_any u)
  have C5 := Lib.hid (show ∀ ww XA xc XB xd, Rd ww ww.heap.size XA (DN e) → Rd ww ww.heap.size XB (DN c) → Calls Try.prog 42 #[.slice XA 32 xc, .slice XB 32 xd] ww (NumPost m ww) from fun ww XA xc XB xd xh xk => by rw [h5]; exact nmul l4 l3 xh xk)
  have C6 := Lib.hid (show ∀ ww XA xc XB xd, Rd ww ww.heap.size XA (DN dN) → Rd ww ww.heap.size XB (DN m) → Calls Try.prog 42 #[.slice XA 32 xc, .slice XB 32 xd] ww (NumPost k ww) from fun ww XA xc XB xd xh xk => by rw [h6]; exact nmul dN_lt l5 xh xk)
  have C7 := Lib.hid (show ∀ ww XA xc XB xd, Rd ww ww.heap.size XA (DN a) → Rd ww ww.heap.size XB (DN b) → Calls Try.prog 44 #[.slice XA 32 xc, .slice XB 32 xd] ww (NumPost s ww) from fun ww XA xc XB xd xh xk => by rw [h7]; exact nadd l1 l2 xh xk)
  have C8 := Lib.hid (show ∀ ww XA xc XB xd, Rd ww ww.heap.size XA (DN 1) → Rd ww ww.heap.size XB (DN k) → Calls Try.prog 44 #[.slice XA 32 xc, .slice XB 32 xd] ww (NumPost ka ww) from fun ww XA xc XB xd xh xk => by rw [h8]; exact nadd one_lt l6 xh xk)
  have C9 := Lib.hid (show ∀ ww XA xc, Rd ww ww.heap.size XA (DN ka) → Calls Try.prog 45 #[.slice XA 32 xc] ww (NumPost ia ww) from fun ww XA xc xh => by rw [h9]; exact ninv l8 xh)
  have C10 := Lib.hid (show ∀ ww XA xc XB xd, Rd ww ww.heap.size XA (DN s) → Rd ww ww.heap.size XB (DN ia) → Calls Try.prog 42 #[.slice XA 32 xc, .slice XB 32 xd] ww (NumPost x ww) from fun ww XA xc XB xd xh xk => by rw [h10]; exact nmul l7 l9 xh xk)
  have C11 := Lib.hid (show ∀ ww XA xc XB xd, Rd ww ww.heap.size XA (DN c) → Rd ww ww.heap.size XB (DN e) → Calls Try.prog 44 #[.slice XA 32 xc, .slice XB 32 xd] ww (NumPost t ww) from fun ww XA xc XB xd xh xk => by rw [h11]; exact nadd l3 l4 xh xk)
  have C12 := Lib.hid (show ∀ ww XA xc XB xd, Rd ww ww.heap.size XA (DN 1) → Rd ww ww.heap.size XB (DN k) → Calls Try.prog 46 #[.slice XA 32 xc, .slice XB 32 xd] ww (NumPost kb ww) from fun ww XA xc XB xd xh xk => by rw [h12]; exact nsub one_lt l6 xh xk)
  have C13 := Lib.hid (show ∀ ww XA xc, Rd ww ww.heap.size XA (DN kb) → Calls Try.prog 45 #[.slice XA 32 xc] ww (NumPost ib ww) from fun ww XA xc xh => by rw [h13]; exact ninv l12 xh)
  have C14 := Lib.hid (show ∀ ww XA xc XB xd, Rd ww ww.heap.size XA (DN t) → Rd ww ww.heap.size XB (DN ib) → Calls Try.prog 42 #[.slice XA 32 xc, .slice XB 32 xd] ww (NumPost y ww) from fun ww XA xc XB xd xh xk => by rw [h14]; exact nmul l11 l13 xh xk)
  generalize dN = D at *
  obtain ⟨w0, hw0⟩ : ∃ w0, w0 = ((w.alloc (.cells (pairV (.slice A1 32 c1) (.slice B1 32 d1)) 34)).alloc (.cells (pairV (.slice A2 32 c2) (.slice B2 32 d2)) 34)).alloc (.cells (pairV nilS nilS) 34) := ⟨_, rfl⟩
  have hb0 : Below w.heap.size w w0 := by rw [hw0]; exact ((below_new _ _).alloc (by simp) _).alloc (by simp; try omega) _
  have hp1 : Blk w0 w.heap.size 34 (pairV (.slice A1 32 c1) (.slice B1 32 d1)) := by rw [hw0]; exact ((Blk.new _ _ _).alloc _).alloc _
  have hp2 : Blk w0 (w.heap.size + 1) 34 (pairV (.slice A2 32 c2) (.slice B2 32 d2)) := by rw [hw0]; exact (Blk.newAt (by simp)).alloc _
  have hp3 : Blk w0 (w.heap.size + 1 + 1) 34 (pairV nilS nilS) := by rw [hw0]; exact Blk.newAt (by simp)
  have HLR := Lib.hid (show w.heap.size ≤ w.heap.size + 1 + 1 by omega)
  have HB := Lib.hid hb0
  have HP1 := Lib.hid hp1
  have HP2 := Lib.hid hp2
  have HP := Lib.hid hp3
  have R1 := Lib.hid (rd_next r1 hb0)
  have R2 := Lib.hid (rd_next r2 hb0)
  have R3 := Lib.hid (rd_next r3 hb0)
  have R4 := Lib.hid (rd_next r4 hb0)
  have HW := Lib.hid hw0
  clear h1 h2 h3 h4 h5 h6 h7 h8 h9 h10 h11 h12 h13 h14 l1 l2 l3 l4 l5 l6 l7 l8 l9 l10 l11 l12 l13 l14 p1 p2 p3 p4 r1 r2 r3 r4 hw0 hb0 hp1 hp2 hp3
  go_enter Try.func15, Try.ntmps15
  go_wp2_with fail
  show Calls _ _ _ (((w.alloc (.cells (pairV (.slice A1 32 c1) (.slice B1 32 d1)) _)).alloc (.cells (pairV (.slice A2 32 c2) (.slice B2 32 d2)) _)).alloc (.cells (pairV nilS nilS) _)) _
  rw [← HW.out]
  generalize w.heap.size + 1 + 1 = g at *
  generalize w.heap.size + 1 = g2 at *
  generalize hg1 : w.heap.size = g1 at HP1 ⊢
  clear hg1 HW
  refine calls_then (C0.out _) ?_
  rintro e u1 ⟨Aw1, cw1, rfl, hc, hr, hb⟩
  replace HB := Lib.hid (HB.out.trans (hb.mono HB.out.size))
  replace R1 := Lib.hid (rd_next R1.out hb)
  replace R2 := Lib.hid (rd_next R2.out hb)
  replace R3 := Lib.hid (rd_next R3.out hb)
  replace R4 := Lib.hid (rd_next R4.out hb)
  replace HP1 := Lib.hid (HP1.out.below hb HP1.out.lt)
  replace HP2 := Lib.hid (HP2.out.below hb HP2.out.lt)
  replace HP := Lib.hid (HP.out.below hb HP.out.lt)
  have Rw1 := Lib.hid hr
  have LEw1 := Lib.hid hc
  clear hr hc hb
  have d0 := (HP1.out.cell 0).trans (show (pairV (.slice A1 32 c1) (.slice B1 32 d1))[0]? = some (.slice A1 32 c1) from rfl)
  have d1' := (HP1.out.cell 1).trans (show (pairV (.slice A1 32 c1) (.slice B1 32 d1))[1]? = some (.slice B1 32 d1) from rfl)
  have d2' := (HP2.out.cell 0).trans (show (pairV (.slice A2 32 c2) (.slice B2 32 d2))[0]? = some (.slice A2 32 c2) from rfl)
  have d3 := (HP2.out.cell 1).trans (show (pairV (.slice A2 32 c2) (.slice B2 32 d2))[1]? = some (.slice B2 32 d2) from rfl)
  go_wp2_with fail
  clear d0 d1' d2' d3
  refine calls_then (C1.out _ _ _ _ _ R1.out R4.out) ?_
  rintro e u2 ⟨Aa, ca, rfl, hc, hr, hb⟩
  replace HB := Lib.hid (HB.out.trans (hb.mono HB.out.size))
  replace R1 := Lib.hid (rd_next R1.out hb)
  replace R2 := Lib.hid (rd_next R2.out hb)
  replace R3 := Lib.hid (rd_next R3.out hb)
  replace R4 := Lib.hid (rd_next R4.out hb)
  replace Rw1 := Lib.hid (rd_next Rw1.out hb)
  replace HP1 := Lib.hid (HP1.out.below hb HP1.out.lt)
  replace HP2 := Lib.hid (HP2.out.below hb HP2.out.lt)
  replace HP := Lib.hid (HP.out.below hb HP.out.lt)
  have Ra := Lib.hid hr
  have LEa := Lib.hid hc
  clear hr hc hb
  have d0 := (HP1.out.cell 0).trans (show (pairV (.slice A1 32 c1) (.slice B1 32 d1))[0]? = some (.slice A1 32 c1) from rfl)
  have d1' := (HP1.out.cell 1).trans (show (pairV (.slice A1 32 c1) (.slice B1 32 d1))[1]? = some (.slice B1 32 d1) from rfl)
  have d2' := (HP2.out.cell 0).trans (show (pairV (.slice A2 32 c2) (.slice B2 32 d2))[0]? = some (.slice A2 32 c2) from rfl)
  have d3 := (HP2.out.cell 1).trans (show (pairV (.slice A2 32 c2) (.slice B2 32 d2))[1]? = some (.slice B2 32 d2) from rfl)
  go_wp2_with fail
  clear d0 d1' d2' d3
  refine calls_then (C2.out _ _ _ _ _ R2.out R3.out) ?_
  rintro e u3 ⟨Ab, cb, rfl, hc, hr, hb⟩
  replace HB := Lib.hid (HB.out.trans (hb.mono HB.out.size))
  replace R1 := Lib.hid (rd_next R1.out hb)
  replace R2 := Lib.hid (rd_next R2.out hb)
  replace R3 := Lib.hid (rd_next R3.out hb)
  replace R4 := Lib.hid (rd_next R4.out hb)
  replace Rw1 := Lib.hid (rd_next Rw1.out hb)
  replace Ra := Lib.hid (rd_next Ra.out hb)
  replace HP1 := Lib.hid (HP1.out.below hb HP1.out.lt)
  replace HP2 := Lib.hid (HP2.out.below hb HP2.out.lt)
  replace HP := Lib.hid (HP.out.below hb HP.out.lt)
  have Rb := Lib.hid hr
  have LEb := Lib.hid hc
  clear hr hc hb
  have d0 := (HP1.out.cell 0).trans (show (pairV (.slice A1 32 c1) (.slice B1 32 d1))[0]? = some (.slice A1 32 c1) from rfl)
  have d1' := (HP1.out.cell 1).trans (show (pairV (.slice A1 32 c1) (.slice B1 32 d1))[1]? = some (.slice B1 32 d1) from rfl)
  have d2' := (HP2.out.cell 0).trans (show (pairV (.slice A2 32 c2) (.slice B2 32 d2))[0]? = some (.slice A2 32 c2) from rfl)
  have d3 := (HP2.out.cell 1).trans (show (pairV (.slice A2 32 c2) (.slice B2 32 d2))[1]? = some (.slice B2 32 d2) from rfl)
  go_wp2_with fail
  clear d0 d1' d2' d3
  refine calls_then (C3.out _ _ _ _ _ R2.out R4.out) ?_
  rintro e u4 ⟨Ac, cc, rfl, hc, hr, hb⟩
  clear R2
  clear R4
  replace HB := Lib.hid (HB.out.trans (hb.mono HB.out.size))
  replace R1 := Lib.hid (rd_next R1.out hb)
  replace R3 := Lib.hid (rd_next R3.out hb)
  replace Rw1 := Lib.hid (rd_next Rw1.out hb)
  replace Ra := Lib.hid (rd_next Ra.out hb)
  replace Rb := Lib.hid (rd_next Rb.out hb)
  replace HP1 := Lib.hid (HP1.out.below hb HP1.out.lt)
  replace HP2 := Lib.hid (HP2.out.below hb HP2.out.lt)
  replace HP := Lib.hid (HP.out.below hb HP.out.lt)
  have Rc := Lib.hid hr
  have LEc := Lib.hid hc
  clear hr hc hb
  have d0 := (HP1.out.cell 0).trans (show (pairV (.slice A1 32 c1) (.slice B1 32 d1))[0]? = some (.slice A1 32 c1) from rfl)
  have d1' := (HP1.out.cell 1).trans (show (pairV (.slice A1 32 c1) (.slice B1 32 d1))[1]? = some (.slice B1 32 d1) from rfl)
  have d2' := (HP2.out.cell 0).trans (show (pairV (.slice A2 32 c2) (.slice B2 32 d2))[0]? = some (.slice A2 32 c2) from rfl)
  have d3 := (HP2.out.cell 1).trans (show (pairV (.slice A2 32 c2) (.slice B2 32 d2))[1]? = some (.slice B2 32 d2) from rfl)
  go_wp2_with fail
  clear d0 d1' d2' d3
  refine calls_then (C4.out _ _ _ _ _ R1.out R3.out) ?_
  rintro e u5 ⟨Ae, ce, rfl, hc, hr, hb⟩
  clear R1
  clear R3
  clear HP1
  clear HP2
  replace HB := Lib.hid (HB.out.trans (hb.mono HB.out.size))
  replace Rw1 := Lib.hid (rd_next Rw1.out hb)
  replace Ra := Lib.hid (rd_next Ra.out hb)
  replace Rb := Lib.hid (rd_next Rb.out hb)
  replace Rc := Lib.hid (rd_next Rc.out hb)
  replace HP := Lib.hid (HP.out.below hb HP.out.lt)
  have Re := Lib.hid hr
  have LEe := Lib.hid hc
  clear hr hc hb
  go_wp2_with fail
  refine calls_then (CD.out _) ?_
  rintro e u6 ⟨AD, cD, rfl, hc, hr, hb⟩
  replace HB := Lib.hid (HB.out.trans (hb.mono HB.out.size))
  replace Rw1 := Lib.hid (rd_next Rw1.out hb)
  replace Ra := Lib.hid (rd_next Ra.out hb)
  replace Rb := Lib.hid (rd_next Rb.out hb)
  replace Rc := Lib.hid (rd_next Rc.out hb)
  replace Re := Lib.hid (rd_next Re.out hb)
  replace HP := Lib.hid (HP.out.below hb HP.out.lt)
  have RD := Lib.hid hr
  have LED := Lib.hid hc
  clear hr hc hb
  go_wp2_with fail
  refine calls_then (C5.out _ _ _ _ _ Re.out Rc.out) ?_
  rintro e u7 ⟨Am, cm, rfl, hc, hr, hb⟩
  replace HB := Lib.hid (HB.out.trans (hb.mono HB.out.size))
  replace Rw1 := Lib.hid (rd_next Rw1.out hb)
  replace Ra := Lib.hid (rd_next Ra.out hb)
  replace Rb := Lib.hid (rd_next Rb.out hb)
  replace Rc := Lib.hid (rd_next Rc.out hb)
  replace Re := Lib.hid (rd_next Re.out hb)
  replace RD := Lib.hid (rd_next RD.out hb)
  replace HP := Lib.hid (HP.out.below hb HP.out.lt)
  have Rm := Lib.hid hr
  have LEm := Lib.hid hc
  clear hr hc hb
  go_wp2_with fail
  refine calls_then (C6.out _ _ _ _ _ RD.out Rm.out) ?_
  rintro e u8 ⟨Ak, ck, rfl, hc, hr, hb⟩
  clear RD
  clear Rm
  replace HB := Lib.hid (HB.out.trans (hb.mono HB.out.size))
  replace Rw1 := Lib.hid (rd_next Rw1.out hb)
  replace Ra := Lib.hid (rd_next Ra.out hb)
  replace Rb := Lib.hid (rd_next Rb.out hb)
  replace Rc := Lib.hid (rd_next Rc.out hb)
  replace Re := Lib.hid (rd_next Re.out hb)
  replace HP := Lib.hid (HP.out.below hb HP.out.lt)
  have Rk := Lib.hid hr
  have LEk := Lib.hid hc
  clear hr hc hb
  go_wp2_with fail
  refine calls_then (C7.out _ _ _ _ _ Ra.out Rb.out) ?_
  rintro e u9 ⟨As, cs, rfl, hc, hr, hb⟩
  clear Ra
  clear Rb
  replace HB := Lib.hid (HB.out.trans (hb.mono HB.out.size))
  replace Rw1 := Lib.hid (rd_next Rw1.out hb)
  replace Rc := Lib.hid (rd_next Rc.out hb)
  replace Re := Lib.hid (rd_next Re.out hb)
  replace Rk := Lib.hid (rd_next Rk.out hb)
  replace HP := Lib.hid (HP.out.below hb HP.out.lt)
  have Rs := Lib.hid hr
  have LEs := Lib.hid hc
  clear hr hc hb
  go_wp2_with fail
  refine calls_then (C8.out _ _ _ _ _ Rw1.out Rk.out) ?_
  rintro e u10 ⟨Aka, cka, rfl, hc, hr, hb⟩
  replace HB := Lib.hid (HB.out.trans (hb.mono HB.out.size))
  replace Rw1 := Lib.hid (rd_next Rw1.out hb)
  replace Rc := Lib.hid (rd_next Rc.out hb)
  replace Re := Lib.hid (rd_next Re.out hb)
  replace Rk := Lib.hid (rd_next Rk.out hb)
  replace Rs := Lib.hid (rd_next Rs.out hb)
  replace HP := Lib.hid (HP.out.below hb HP.out.lt)
  have Rka := Lib.hid hr
  have LEka := Lib.hid hc
  clear hr hc hb
  go_wp2_with fail
  refine calls_then (C9.out _ _ _ Rka.out) ?_
  rintro e u11 ⟨Aia, cia, rfl, hc, hr, hb⟩
  clear Rka
  replace HB := Lib.hid (HB.out.trans (hb.mono HB.out.size))
  replace Rw1 := Lib.hid (rd_next Rw1.out hb)
  replace Rc := Lib.hid (rd_next Rc.out hb)
  replace Re := Lib.hid (rd_next Re.out hb)
  replace Rk := Lib.hid (rd_next Rk.out hb)
  replace Rs := Lib.hid (rd_next Rs.out hb)
  replace HP := Lib.hid (HP.out.below hb HP.out.lt)
  have Ria := Lib.hid hr
  have LEia := Lib.hid hc
  clear hr hc hb
  go_wp2_with fail
  refine calls_then (C10.out _ _ _ _ _ Rs.out Ria.out) ?_
  rintro e u12 ⟨Ax, cx, rfl, hc, hr, hb⟩
  clear Rs
  clear Ria
  replace HB := Lib.hid (HB.out.trans (hb.mono HB.out.size))
  replace Rw1 := Lib.hid (rd_next Rw1.out hb)
  replace Rc := Lib.hid (rd_next Rc.out hb)
  replace Re := Lib.hid (rd_next Re.out hb)
  replace Rk := Lib.hid (rd_next Rk.out hb)
  replace HP := Lib.hid (HP.out.below hb HP.out.lt)
  have Rx := Lib.hid hr
  have LEx := Lib.hid hc
  clear hr hc hb
  go_wp2_with fail
  refine calls_then (C11.out _ _ _ _ _ Rc.out Re.out) ?_
  rintro e u13 ⟨At, ct, rfl, hc, hr, hb⟩
  clear Rc
  clear Re
  replace HB := Lib.hid (HB.out.trans (hb.mono HB.out.size))
  replace Rw1 := Lib.hid (rd_next Rw1.out hb)
  replace Rk := Lib.hid (rd_next Rk.out hb)
  replace Rx := Lib.hid (rd_next Rx.out hb)
  replace HP := Lib.hid (HP.out.below hb HP.out.lt)
  have Rt := Lib.hid hr
  have LEt := Lib.hid hc
  clear hr hc hb
  go_wp2_with fail
  refine calls_then (C12.out _ _ _ _ _ Rw1.out Rk.out) ?_
  rintro e u14 ⟨Akb, ckb, rfl, hc, hr, hb⟩
  clear Rw1
  clear Rk
  replace HB := Lib.hid (HB.out.trans (hb.mono HB.out.size))
  replace Rx := Lib.hid (rd_next Rx.out hb)
  replace Rt := Lib.hid (rd_next Rt.out hb)
  replace HP := Lib.hid (HP.out.below hb HP.out.lt)
  have Rkb := Lib.hid hr
  have LEkb := Lib.hid hc
  clear hr hc hb
  go_wp2_with fail
  refine calls_then (C13.out _ _ _ Rkb.out) ?_
  rintro e u15 ⟨Aib, cib, rfl, hc, hr, hb⟩
  clear Rkb
  replace HB := Lib.hid (HB.out.trans (hb.mono HB.out.size))
  replace Rx := Lib.hid (rd_next Rx.out hb)
  replace Rt := Lib.hid (rd_next Rt.out hb)
  replace HP := Lib.hid (HP.out.below hb HP.out.lt)
  have Rib := Lib.hid hr
  have LEib := Lib.hid hc
  clear hr hc hb
  go_wp2_with fail
  refine calls_then (C14.out _ _ _ _ _ Rt.out Rib.out) ?_
  rintro e u16 ⟨Ay, cy, rfl, hc, hr, hb⟩
  clear Rt
  clear Rib
  replace HB := Lib.hid (HB.out.trans (hb.mono HB.out.size))
  replace Rx := Lib.hid (rd_next Rx.out hb)
  replace HP := Lib.hid (HP.out.below hb HP.out.lt)
  have Ry := Lib.hid hr
  have LEy := Lib.hid hc
  clear hr hc hb
  go_wp2_with (refine wpList_put_box (x := .tmp 4) (cells := pairV (.slice Ax 32 cx) (.slice Ay 32 cy)) HP.out rfl rfl rfl rfl pair_size rfl (by simp [pairV, Value.oneCell']) ?_; intro u30 hb30 hw30; have HP30 := Lib.hid hb30; have HW30 := Lib.hid hw30; clear hb30 hw30)
  refine bodyPost_ret (results_box (P := Try.prog) rfl rfl HP30.out hpt rfl pair_size) rfl ?_
  exact ⟨_, _, _, _, rfl, LEx.out, LEy.out, rd_size (Rx.out.pair HP.out HW30.out) HW30.out.size, rd_size (Ry.out.pair HP.out HW30.out) HW30.out.size, HW30.out.below HB.out HLR.out HB.out.size⟩
end Go.Proofs.Ytbeokfpbhemcfaa
/-
  Walks: the reference's Digits and Bytes once more: what they make may be written to.
-/
namespace Go.Proofs.Ytbeokfpbhemcfaa
set_option linter.unusedSimpArgs false
set_option linter.unusedVariables false
open Go.RowKit

/-- a row that the call owns and may write to -/
def OwnZ (w : World) (base : Nat) (e : TypeId) (size : Nat) (v : Value) (n : Nat) (xs : List Value) : Prop := w.ownsRow base e size v n xs
theorem OwnZ.x {w : World} {base : Nat} {e : TypeId} {size : Nat} {v : Value} {n : Nat} {xs : List Value} (h : OwnZ w base e size v n xs) : OwnX w base e size v n xs := .of h
theorem OwnZ.nil (w : World) (base e size : Nat) : OwnZ w base e size (.slice none 0 0) 0 [] := ⟨by simp, .inl ⟨rfl, rfl⟩⟩
theorem OwnZ.blk {w : World} {base : Nat} {e : TypeId} {n c : Nat} {A : Option Addr} {xs : List Value} (h : OwnZ w base e 1 (.slice A n c) n xs) (hn : 0 < n) : ∃ g ys, A = some ⟨g, 0, none⟩ ∧ base ≤ g ∧ n ≤ c ∧ Blk w g e (xs ++ ys).toArray := by
  rcases h.2 with ⟨_, h0⟩ | ⟨g, cap, cur, h1, h2, h3, h4, h5, h6, h7⟩
  · omega
  · injection h1 with e1 e2 e3
    subst e3
    refine ⟨g, cur.toList.drop (n * 1), e1, h2, h4, ?_⟩
    rw [← h7, List.take_append_drop]
    exact h3
theorem Rd.front {w : World} {B : Nat} {A : Option Addr} {xs ys : List Value} (h : Rd w B A (xs ++ ys)) : Rd w B A xs := fun i u hi => by
  have hlt : i < xs.length := (List.getElem?_eq_some_iff.1 hi).1
  exact h i u (by rw [List.getElem?_append_left hlt]; exact hi)
theorem set_front {xs ys : List Value} {i : Nat} {v : Value} (h : i < xs.length) : (xs ++ ys).toArray.setIfInBounds i v = (xs.set i v ++ ys).toArray := by
  rw [List.setIfInBounds_toArray, List.set_append_left _ _ h]
def OwnPostZ (e0 : TypeId) (n : Nat) (xs : List Value) (w : World) (e : Ending) (w' : World) : Prop :=
  ∃ A c, e = .returned (.slice A n c) ∧ OwnZ w' w.heap.size e0 1 (.slice A n c) n xs ∧ Below w.heap.size w w'
theorem wpList_append_oneZ {P : Program} {w0 : World} {y : Value} {ops : Array Oper} {rest : List Oper} {o : Oper} {a : Act} {Q : Exit → Act → World → Prop} {s x : Operand} {t e : TypeId} {bytes : Nat} (T : SlT P t e 1 bytes)
    (hgd : o.guard = none) (ho : o.op = .call { callee := .builtin .append, args := #[s, x], argTypes := #[t, t] })
    {base n : Nat} {v : Value} {xs : List Value} {ad : Nat} (hown : OwnZ w0 base e 1 v n xs) (hs : a.eval s = v) (hx : a.eval x = .slice (some ⟨ad, 0, none⟩) 1 1) (had : ad = w0.heap.size)
    (hy : y.oneCell' = true)
    (h63 : n + 1 ≤ maxLen) (hbytes : (n + 1) * bytes ≤ 140737488355328) (hbase : base ≤ w0.heap.size)
    (h : ∀ A c w', OwnZ w' base e 1 (.slice A (n + 1) c) (n + 1) (xs ++ [y]) → w0.grownBy w' v.ownBlock → Next w0 v (.slice A (n + 1) c) → wpList P ops Q rest (a.put o.dst (.slice A (n + 1) c)) w') :
    wpList P ops Q (o :: rest) a (w0.alloc (.cells #[y] e)) := by
  subst had
  obtain ⟨i, z, hi, hz, hsz, hby, hzs⟩ := T.info
  have hown1 : (w0.alloc (.cells #[y] e)).ownsRow base e 1 v n xs := by
    refine ⟨hown.1, ?_⟩
    rcases hown.2 with h0 | ⟨g, cap, cur, h1, h2, h3, h4⟩
    · exact .inl h0
    · exact .inr ⟨g, cap, cur, h1, h2, (Below.heap_alloc w0 _ g (Array.getElem?_eq_some_iff.1 h3).1).trans h3, h4⟩
  obtain ⟨v', w', hr, h2, h3, _, h5⟩ := run_append_own_at (P := P) (w0.alloc (.cells #[y] e)) base t o.type e i z 1 bytes T.und hi hz hsz hby hzs T.pos v n xs hown1 ⟨w0.heap.size, 0, none⟩ 1 1 [y] rfl (fun j u hu => cell_one_new _ _ _ j u hu)
    (by intro u hu; simp at hu; subst hu; exact hy) h63 hbytes (by simp; omega)
  have hn : Next (w0.alloc (.cells #[y] e)) v v' := by
    rcases h5 with h5 | h5
    · exact .inl h5
    · exact .inr fun k hk => by rw [h5] at hk; simp at hk; simp; omega
  rcases h2.2 with ⟨_, h0⟩ | ⟨g, cap, cur, rfl, _⟩
  · omega
  · refine wpList_of_append (R := fun v1 w1 => v1 = .slice (some ⟨g, 0, none⟩) (n + 1) cap ∧ w1 = w') hgd ho hs hx ⟨_, _, hr, rfl, rfl⟩ ?_
    rintro v1 w1 ⟨rfl, rfl⟩
    exact h _ _ _ h2 ((World.grownBy_alloc w0 _ _).trans h3) (hn.back (by simp))
set_option maxRecDepth 100000 in
set_option maxHeartbeats 2000000 in
theorem digitsz_any (l : List UInt8) (A : Option Addr) (c : Nat) (w : World) (hr : Rd w w.heap.size A (bytesV l)) (hc : l.length ≤ c) (hl : l.length ≤ 1000000) :
    Calls Try.prog 21 #[.slice A l.length c] w (OwnPostZ 3 l.length (dV (digs l)) w) := by
  obtain ⟨n, hn⟩ : ∃ n, n = l.length := ⟨_, rfl⟩
  rw [← hn]
  have hn63 : (n : Int) ≤ 1000000 := by omega
  have hown0 : OwnZ w w.heap.size 3 1 (.slice none 0 0) 0 (dV ((digs l).take 0)) := OwnZ.nil _ _ _ _
  have HR := Lib.hid hr
  have HN := Lib.hid hn
  have HOWN0 := Lib.hid hown0
  clear hr hn hc hl hown0
  go_enter Try.func21, Try.ntmps21
  go_wp2_with fail
  generalize hg : w.heap.size = g at *
  have HHG := Lib.hid hg
  clear hg
  go_loopw [3, 4] (fun v i wr => ∃ (k : Nat) (A1 : Option Addr) (c1 : Nat), k ≤ n ∧ i = .int .i64 k ∧ v = .slice A1 k c1 ∧ OwnZ wr g 3 1 (.slice A1 k c1) k (dV ((digs l).take k)) ∧ Below g w wr) (fun _ i _ => n - (intOf i).toNat)
  case atStart => exact ⟨0, none, 0, by omega, rfl, rfl, HOWN0.out, Below.refl _ _⟩
  case round =>
    clear HOWN0
    obtain ⟨k, A1, c1, hk, rfl, rfl, hown, hbel⟩ := hrel
    by_cases hlt : k < n
    · have hlt' : (k : Int) < (n : Int) := by omega
      have hkl : k < l.length := by rw [← HN.out]; exact hlt
      have hrd := HR.out.below hbel
      obtain ⟨ad, rfl, hadl, hcell⟩ := hrd.at_ (k := k) (by rw [bytesV_length]; exact hkl)
      obtain ⟨b, hb⟩ : ∃ b, b = l[k].toNat := ⟨_, rfl⟩
      have hbl : (b : Int) < 256 := by have := l[k].toNat_lt; omega
      have hbv : (bytesV l)[k]'(by rw [bytesV_length]; exact hkl) = .int .u8 (b : Int) := by
        rw [hb]; simp [bytesV, byteV]
      rw [hbv] at hcell
      have hnext : (digs l).take (k + 1) = (digs l).take k ++ [b] := by
        rw [take_snoc (by rw [digs, List.length_map]; exact hkl), hb]
        simp [digs]
      have hsz : g ≤ wr.heap.size := by rw [← HHG.out]; exact (by rw [← HHG.out] at hbel; exact hbel.size)
      have HOWN := Lib.hid hown
      have HBEL := Lib.hid hbel
      have HNEXT := Lib.hid hnext
      have HSZ := Lib.hid hsz
      clear hown hbel hnext hrd hbv hb hkl hsz
      go_wp2_with (refine wpList_append_oneZ sl_ints rfl rfl HOWN.out rfl rfl rfl rfl (by unfold maxLen; omega) (by omega) HSZ.out ?_; intro A2 c2 w2 hown2 hg2 hn2; have HOWN2 := Lib.hid hown2; have HG2 := Lib.hid hg2; clear hown2 hg2 hn2)
      refine ⟨⟨k + 1, A2, c2, by omega, by go_num, rfl, ?_, below_grow HBEL.out HOWN.out.x HSZ.out HG2.out⟩, by simp [intOf]; omega⟩
      rw [HNEXT.out, dV_append]
      exact HOWN2.out
    · obtain rfl : k = n := by omega
      have HOWN := Lib.hid hown
      have HBEL := Lib.hid hbel
      clear hown hbel
      go_wp2_with fail
      go_ret
      refine ⟨A1, c1, rfl, ?_, by rw [HHG.out]; exact HBEL.out⟩
      rw [HHG.out]
      have h := HOWN.out
      rw [List.take_of_length_le (by rw [digs, List.length_map, HN.out]; exact Nat.le_refl _)] at h
      exact h
set_option maxRecDepth 100000 in
set_option maxHeartbeats 2000000 in
theorem rbytesz_any (l : List Nat) (hd : ∀ d ∈ l, d < 256) (A : Option Addr) (c : Nat) (w : World) (hr : Rd w w.heap.size A (dV l)) (hc : l.length ≤ c) (hl : l.length ≤ 1000000) :
    Calls Try.prog 19 #[.slice A l.length c] w (OwnPostZ 5 32 (bytesV (refB l)) w) := by
  obtain ⟨n, hn⟩ : ∃ n, n = l.length := ⟨_, rfl⟩
  rw [← hn]
  have hn63 : (n : Int) ≤ 1000000 := by omega
  have hown0 : OwnZ w w.heap.size 5 1 (.slice none 0 0) 0 (bytesV ((refB l).take 0)) := OwnZ.nil _ _ _ _
  have hd' : ∀ k, l.getD k 0 < 256 := fun k => by
    rw [List.getD_eq_getElem?_getD]
    by_cases h : k < l.length
    · rw [List.getElem?_eq_getElem h]; exact hd _ (List.getElem_mem h)
    · rw [List.getElem?_eq_none (by omega)]; decide
  have HR := Lib.hid hr
  have HN := Lib.hid hn
  have HD := Lib.hid hd'
  have HOWN0 := Lib.hid hown0
  clear hr hn hc hl hown0 hd hd'
  go_enter Try.func19, Try.ntmps19
  go_wp2_with fail
  generalize hg : w.heap.size = g at *
  have HHG := Lib.hid hg
  clear hg
  go_loopw [3, 4] (fun v i wr => ∃ (k : Nat) (A1 : Option Addr) (c1 : Nat), k ≤ 32 ∧ i = .int .i64 k ∧ v = .slice A1 k c1 ∧ OwnZ wr g 5 1 (.slice A1 k c1) k (bytesV ((refB l).take k)) ∧ Below g w wr) (fun _ i _ => 32 - (intOf i).toNat)
  case atStart => exact ⟨0, none, 0, by omega, rfl, rfl, HOWN0.out, Below.refl _ _⟩
  case round =>
    clear HOWN0
    obtain ⟨k, A1, c1, hk, rfl, rfl, hown, hbel⟩ := hrel
    by_cases hlt : k < 32
    · have hlt' : (k : Int) < 32 := by omega
      have hrd := HR.out.below hbel
      obtain ⟨b, hb⟩ : ∃ b, b = l.getD k 0 := ⟨_, rfl⟩
      have hbl : (b : Int) < 256 := by have := HD.out k; omega
      have hnext : (refB l).take (k + 1) = (refB l).take k ++ [UInt8.ofNat b] := by
        rw [take_snoc (by rw [refB, List.length_map, List.length_range]; exact hlt), hb]
        simp [refB]
      have hbv : byteV (UInt8.ofNat b) = .int .u8 (b : Int) := by
        rw [byteV, UInt8.toNat_ofNat', Nat.mod_eq_of_lt (by omega)]
      have hsz : g ≤ wr.heap.size := by rw [← HHG.out]; exact (by rw [← HHG.out] at hbel; exact hbel.size)
      have HOWN := Lib.hid hown
      have HBEL := Lib.hid hbel
      have HNEXT := Lib.hid hnext
      have HSZ := Lib.hid hsz
      have HBV := Lib.hid hbv
      by_cases hkn : k < n
      · have hkn' : (k : Int) < (n : Int) := by omega
        have hkl : k < l.length := by rw [← HN.out]; exact hkn
        obtain ⟨ad, rfl, hadl, hcell⟩ := hrd.at_ (k := k) (by rw [dV_length]; exact hkl)
        rw [dV_at hkl, show l[k] = b by rw [hb, List.getD_eq_getElem?_getD, List.getElem?_eq_getElem hkl]; rfl] at hcell
        clear hown hbel hnext hrd hb hkl hsz hbv
        go_wp2_with (refine wpList_append_oneZ sl_bytes rfl rfl HOWN.out rfl rfl rfl rfl (by unfold maxLen; omega) (by omega) HSZ.out ?_; intro A2 c2 w2 hown2 hg2 hn2; have HOWN2 := Lib.hid hown2; have HG2 := Lib.hid hg2; clear hown2 hg2 hn2)
        refine ⟨⟨k + 1, A2, c2, by omega, by go_num, rfl, ?_, below_grow HBEL.out HOWN.out.x HSZ.out HG2.out⟩, by simp [intOf]; omega⟩
        rw [HNEXT.out, bytesV_append, show bytesV [UInt8.ofNat b] = [byteV (UInt8.ofNat b)] from rfl, HBV.out]
        exact HOWN2.out
      · have hkn' : ¬ (k : Int) < (n : Int) := by omega
        have hb0 : b = 0 := by rw [hb, List.getD_eq_getElem?_getD, List.getElem?_eq_none (by rw [← HN.out]; omega)]; rfl
        subst hb0
        clear hown hbel hnext hrd hb hsz hbv
        go_wp2_with (refine wpList_append_oneZ sl_bytes rfl rfl HOWN.out rfl rfl rfl rfl (by unfold maxLen; omega) (by omega) HSZ.out ?_; intro A2 c2 w2 hown2 hg2 hn2; have HOWN2 := Lib.hid hown2; have HG2 := Lib.hid hg2; clear hown2 hg2 hn2)
        refine ⟨⟨k + 1, A2, c2, by omega, by go_num, rfl, ?_, below_grow HBEL.out HOWN.out.x HSZ.out HG2.out⟩, by simp [intOf]; omega⟩
        rw [HNEXT.out, bytesV_append]
        exact HOWN2.out
    · obtain rfl : k = 32 := by omega
      have HOWN := Lib.hid hown
      have HBEL := Lib.hid hbel
      clear hown hbel
      go_wp2_with fail
      go_ret
      refine ⟨A1, c1, rfl, ?_, by rw [HHG.out]; exact HBEL.out⟩
      rw [HHG.out]
      have h := HOWN.out
      rw [List.take_of_length_le (by rw [refB, List.length_map, List.length_range]; exact Nat.le_refl _)] at h
      exact h
end Go.Proofs.Ytbeokfpbhemcfaa
