/-
  Walk: the reference's Fold.
-/
import Derived.Test.YtngecbnbddoldaaFold
import Derived.Test.YtngecbnbddoldaaLk
namespace Go.Proofs.Ytngecbnbddoldaa
set_option linter.unusedSimpArgs false
set_option linter.unusedVariables false
open Go.RowKit

def lenF : Value → Nat | .slice _ n _ => n | _ => 0
theorem add32 (ad : Addr) : some (⟨ad.block, ad.off + 32, none⟩ : Addr) = some (ad.add 32) := by simp [Addr.add]
theorem rd_digs {w : World} {B n : Nat} {A : Option Addr} {l : List Nat} (h : Rd w B A (dV l)) : Rd w B A (dV (l.take n)) := by
  have h1 := rd_take h n
  rw [dV, ← List.map_take] at h1
  exact h1
theorem rd_digs_drop {w : World} {B n : Nat} {ad : Addr} {l : List Nat} (h : Rd w B (some ad) (dV l)) : Rd w B (some (ad.add n)) (dV (l.drop n)) := by
  have h1 := rd_drop h n
  rw [dV, ← List.map_drop] at h1
  exact h1
theorem digVal_take {u : World} {B n : Nat} {A : Option Addr} {l : List Nat} (c : Nat) (h : Rd u B A (dV l)) (hn : n ≤ l.length) : digVal (.slice A n c) u = leV (l.take n) := by
  have h1 := digVal_rd (l := l.take n) c (rd_digs h)
  rw [List.length_take, Nat.min_eq_left hn] at h1
  exact h1
set_option maxRecDepth 100000 in
set_option maxHeartbeats 4000000 in
theorem fold_any (a : List Nat) (ha : Dg a) (A : Option Addr) (c : Nat) (w : World) (hra : Rd w w.heap.size A (dV a)) (hc : a.length ≤ c) (hla : a.length ≤ 1000000) :
    Calls Try.prog 34 #[.slice A a.length c] w (DigPost (digN 32 (leV a % PN)) w) := by
  obtain ⟨n, hn⟩ : ∃ n, n = a.length := ⟨_, rfl⟩
  obtain ⟨N0, hN0⟩ : ∃ N, N = leV a := ⟨_, rfl⟩
  rw [← hn, ← hN0]
  have hst0 : ∃ (l : List Nat) (A1 : Option Addr) (c1 : Nat), Value.slice A n c = .slice A1 l.length c1 ∧ Dg l ∧ l.length ≤ 1000000 ∧ l.length ≤ c1 ∧ leV l % PN = N0 % PN ∧ Rd w w.heap.size A1 (dV l) ∧ Below w.heap.size w w :=
    ⟨a, A, c, by rw [hn], ha, hla, hc, by rw [hN0], hra, Below.refl _ _⟩
  have HST0 := Lib.hid hst0
  clear hst0 hn hN0 ha hra hc hla
  go_enter Try.func34, Try.ntmps34
  go_wp2_with fail
  generalize hg : w.heap.size = g at HST0 ⊢
  have HG := Lib.hid hg
  clear hg
  go_loopw [0] (fun v wr => ∃ (l : List Nat) (A1 : Option Addr) (c1 : Nat), v = .slice A1 l.length c1 ∧ Dg l ∧ l.length ≤ 1000000 ∧ l.length ≤ c1 ∧ leV l % PN = N0 % PN ∧ Rd wr wr.heap.size A1 (dV l) ∧ Below g w wr) (fun v wr => digVal v wr)
  case atStart => have h := HST0.out; rw [HG.out]; exact h
  case round =>
    clear HST0
    obtain ⟨l, A1, c1, rfl, hl, hlen, hlc, hmod, hrd, hbel⟩ := hrel
    obtain ⟨m, hm⟩ : ∃ m, m = l.length := ⟨_, rfl⟩
    rw [← hm]
    have hm63 : (m : Int) ≤ 1000000 := by omega
    have hmc : (m : Int) ≤ (c1 : Int) := by omega
    have hin0 : leV (l.take m) = leV l := by rw [hm, List.take_length]
    have HL := Lib.hid hl
    have HM := Lib.hid hm
    have HMOD := Lib.hid hmod
    have HRD := Lib.hid hrd
    have HBEL := Lib.hid hbel
    have HIN0 := Lib.hid hin0
    clear hl hlen hlc hm hmod hrd hbel hin0
    go_wp2_with fail
    go_loop [0] (fun v => ∃ k : Nat, k ≤ m ∧ v = .slice A1 k c1 ∧ leV (l.take k) = leV l) (fun v => lenF v)
    case atStart => exact ⟨m, Nat.le_refl _, rfl, HIN0.out⟩
    case round =>
      clear HIN0
      obtain ⟨k, hk, rfl, hin⟩ := hrel
      by_cases h32 : 32 < k
      · have h32' : (k : Int) > 32 := by omega
        obtain ⟨p, hp⟩ : ∃ p, k = p + 1 := ⟨k - 1, by omega⟩
        have hpi : (k : Int) - 1 = (p : Int) := by omega
        obtain ⟨ad, rfl, hcell⟩ := dig_cell HRD.out (k := p) (by rw [← HM.out]; omega)
        obtain ⟨x, hx⟩ : ∃ x, x = l.getD p 0 := ⟨_, rfl⟩
        rw [← hx] at hcell
        have hpk : (p : Int) < (k : Int) := by omega
        have hkm : (k : Int) ≤ (m : Int) := by omega
        by_cases hx0 : x = 0
        · subst hx0
          have hnext : leV (l.take p) = leV l := by
            rw [← hin, hp, leV_take_step, ← hx]; simp
          have HNEXT := Lib.hid hnext
          have HK := Lib.hid hk
          have HP := Lib.hid hp
          clear hnext hx hin hk hp h32
          go_wp2_with fail
          exact ⟨⟨p, by have := HK.out; have := HP.out; omega, rfl, HNEXT.out⟩, by have := HP.out; simp [lenF]; omega⟩
        · have hx0' : ¬ (x : Int) = 0 := by omega
          obtain ⟨q, hq⟩ : ∃ q, k = q + 32 := ⟨k - 32, by omega⟩
          have hqi : (k : Int) - 32 = (q : Int) := by omega
          have hkc : (k : Int) ≤ (c1 : Int) := by omega
          obtain ⟨L, hL⟩ : ∃ L, L = l.take k := ⟨_, rfl⟩
          have hLl : L.length = k := by rw [hL, List.length_take, Nat.min_eq_left (by rw [← HM.out]; exact hk)]
          have hLd : Dg L := by rw [hL]; exact dg_take HL.out k
          have hrL : Rd wr wr.heap.size (some ad) (dV L) := by rw [hL]; exact rd_digs HRD.out
          obtain ⟨l1, hl1⟩ : ∃ l1, l1 = digN (q + 1 + 1) (leV (L.drop 32) * leV [38]) := ⟨_, rfl⟩
          have h38 : Dg [38] := by unfold Dg; decide
          have hdl : (L.drop 32).length = q := by rw [List.length_drop]; omega
          have htl : (L.take 32).length = 32 := by rw [List.length_take]; omega
          have hl1v : leV l1 = leV (L.drop 32) * 38 := by
            have h := times_val (dg_drop hLd 32) h38
            rw [hdl] at h
            rw [hl1]; exact h
          have hl1d : Dg l1 := by rw [hl1]; exact digN_dg _ _
          have hl1l : l1.length = q + 2 := by rw [hl1, digN_length]
          obtain ⟨l2, hl2⟩ : ∃ l2, l2 = digN (max 32 (q + 2) + 1) (leV (L.take 32) + leV l1) := ⟨_, rfl⟩
          have hl2v : leV l2 = leV (L.take 32) + leV (L.drop 32) * 38 := by
            have h := plus_val (dg_take hLd 32) hl1d
            rw [htl, hl1l, hl1v] at h
            rw [hl2, hl1v]; exact h
          have hl2d : Dg l2 := by rw [hl2]; exact digN_dg _ _
          have hl2l : l2.length ≤ k := by rw [hl2, digN_length]; omega
          have hless := fold_less L hLd (by omega) (by rw [hLl, hL, List.getD_eq_getElem?_getD, List.getElem?_take, if_pos (by omega), show k - 1 = p by omega, ← List.getD_eq_getElem?_getD, ← hx]; exact hx0)
          rw [← hl2v, hL, hin] at hless
          have hmod2 : leV l2 % PN = N0 % PN := by
            rw [hl2v, fold_mod, ← fold_split L (by omega), hL, hin]; exact HMOD.out
          have c1' : ∀ u, Below wr.heap.size wr u → ∀ A3 c3 A4 c4, Rd u u.heap.size A4 (dV [38]) → A3 = some (ad.add 32) → Calls Try.prog 40 #[.slice A3 q c3, .slice A4 1 c4] u (DigPost l1 u) := fun u hu A3 c3 A4 c4 h4 hA3 => by
            have h := times_any (L.drop 32) [38] (dg_drop hLd 32) h38 A3 A4 c3 c4 u (by rw [hA3]; exact rd_digs_drop ((hrL.below hu).mono hu.size)) h4 (by omega) (by decide)
            rw [hdl] at h
            rw [hl1]; exact h
          have c2' : ∀ u, Below wr.heap.size wr u → ∀ c3 A4 c4, Rd u u.heap.size A4 (dV l1) → Calls Try.prog 25 #[.slice (some ad) 32 c3, .slice A4 (q + 2) c4] u (DigPost l2 u) := fun u hu c3 A4 c4 h4 => by
            have h := rplus_any (L.take 32) l1 (dg_take hLd 32) hl1d (some ad) A4 c3 c4 u (rd_digs ((hrL.below hu).mono hu.size)) h4 (by omega) (by omega)
            rw [htl, hl1l] at h
            rw [hl2]; exact h
          have HKQ := Lib.hid (show k - 32 = q by omega)
          have CT := Lib.hid c1'
          have CP := Lib.hid c2'
          have HL2 := Lib.hid (show l2.length ≤ 1000000 by omega)
          have HLESS := Lib.hid hless
          have HMOD2 := Lib.hid hmod2
          have HD2 := Lib.hid hl2d
          have HL1L := Lib.hid hl1l
          have HIN := Lib.hid hin
          have HK := Lib.hid hk
          have HC0 : Below g w wr.drew ∧ Below wr.heap.size wr wr.drew ∧ g ≤ wr.heap.size := ⟨HBEL.out.drew, (Below.refl _ _).drew, by have h := HBEL.out; rw [← HG.out] at h ⊢; exact h.size⟩
          clear hx0 hq hL hLl hLd hrL hl1 h38 hdl htl hl1v hl1d hl1l hl2 hl2v hl2d hl2l hless hmod2 c1' c2' hin hk hx hp h32
          go_wp2_with fail
          refine wp_region_list (fun u => Below g w u ∧ Below wr.heap.size wr u ∧ g ≤ wr.heap.size) (fun | false => (fun _ => True) | true => (fun _ => True)) (fun | false, _ => false | true, _ => false)
            [fun z _ => z 0 = .slice (some ad) k c1,
             fun z _ => z 1 = .slice (some ad) 32 c1,
             fun z _ => z 2 = .slice (some ad) k c1,
             fun z u => (fun v u => ∃ c3, v = .slice (some ⟨ad.block, ad.off + 32, none⟩) q c3) (z 3) u,
             fun z u => (RdV 1 (dV [38])) (z 4) u,
             fun z u => (RdV l1.length (dV l1)) (z 5) u,
             fun z u => (RdV l2.length (dV l2)) (z 6) u,
             fun z u => (RdV l2.length (dV l2)) (z 7) u]
            [Eq, Eq, Eq, Eq, fun u u' => Below u.heap.size u u', fun u u' => Below u.heap.size u u', fun u u' => Below u.heap.size u u', Eq]
            (fun _ _ => false) [(0, some 26), (1, some 27), (2, some 28), (3, some 29), (4, some 30), (5, some 31), (6, some 32), (7, some 0)] (by kernel_rfl) (by kernel_rfl) rfl (fun _ => rfl) ?_ ?_ ?_ ?_ ?_ ?_
          · exact HC0
          · intro m; cases m; exact trivial; exact trivial
          · intro m; cases m
            · exact ⟨.inr (fun _ _ h h0 => h ▸ h0), .inr (fun _ _ h h0 => h ▸ h0), .inr (fun _ _ h h0 => h ▸ h0), .inr (fun _ _ h h0 => h ▸ h0), .inr (fun _ _ _ h => h), .inr (fun _ _ _ h => h), .inr (fun _ _ _ h => h), .inr (fun _ _ h h0 => h ▸ h0), trivial⟩
            · exact ⟨.inr (fun _ _ h h0 => h ▸ h0), .inr (fun _ _ h h0 => h ▸ h0), .inr (fun _ _ h h0 => h ▸ h0), .inr (fun _ _ h h0 => h ▸ h0), .inr (fun _ _ _ h => h), .inr (fun _ _ _ h => h), .inr (fun _ _ _ h => h), .inr (fun _ _ h h0 => h ▸ h0), trivial⟩
          · exact ⟨⟨.inl rfl, .inr (.inr (.inl rfl)), .inr (.inr (.inr (fun _ _ _ _ _ h => h))), .inr (.inr (.inr (fun _ _ _ _ h h0 => by cases h; exact h0))), .inr (.inr (.inr (fun _ _ _ _ h h0 => by cases h; exact h0))), .inr (.inr (.inr (fun _ _ _ _ h h0 => by cases h; exact h0))), .inr (.inr (.inl rfl)), .inr (.inr (.inl rfl)), trivial⟩,
              ⟨.inr (.inr (.inr (fun _ _ _ _ _ h => h))), .inl rfl, .inr (.inr (.inr (fun _ _ _ _ _ h => h))), .inr (.inr (.inr (fun _ _ _ _ h h0 => by cases h; exact h0))), .inr (.inr (.inr (fun _ _ _ _ h h0 => by cases h; exact h0))), .inr (.inr (.inr (fun _ _ _ _ h h0 => by cases h; exact h0))), .inr (.inr (.inl rfl)), .inr (.inr (.inl rfl)), trivial⟩,
              ⟨.inr (.inr (.inr (fun _ _ _ _ _ h => h))), .inr (.inr (.inr (fun _ _ _ _ _ h => h))), .inl rfl, .inr (.inr (.inl rfl)), .inr (.inr (.inr (fun _ _ _ _ h h0 => by cases h; exact h0))), .inr (.inr (.inl rfl)), .inr (.inr (.inl rfl)), .inr (.inr (.inl rfl)), trivial⟩,
              ⟨.inr (.inr (.inr (fun _ _ _ _ _ h => h))), .inr (.inr (.inr (fun _ _ _ _ _ h => h))), .inr (.inr (.inr (fun _ _ _ _ _ h => h))), .inl rfl, .inr (.inr (.inr (fun _ _ _ _ h h0 => by cases h; exact h0))), .inr (.inr (.inl rfl)), .inr (.inr (.inl rfl)), .inr (.inr (.inl rfl)), trivial⟩,
              ⟨.inr (.inr (.inr (fun _ _ _ _ _ h => h))), .inr (.inr (.inr (fun _ _ _ _ _ h => h))), .inr (.inr (.inr (fun _ _ _ _ _ h => h))), .inr (.inr (.inr (fun _ _ _ _ h h0 => h0))), .inl rfl, .inr (.inr (.inl rfl)), .inr (.inr (.inl rfl)), .inr (.inr (.inl rfl)), trivial⟩,
              ⟨.inr (.inr (.inr (fun _ _ _ _ _ h => h))), .inr (.inr (.inr (fun _ _ _ _ _ h => h))), .inr (.inr (.inr (fun _ _ _ _ _ h => h))), .inr (.inr (.inr (fun _ _ _ _ h h0 => h0))), .inr (.inr (.inr (fun _ _ _ _ h h0 => h0.next h))), .inl rfl, .inr (.inr (.inl rfl)), .inr (.inr (.inl rfl)), trivial⟩,
              ⟨.inr (.inr (.inr (fun _ _ _ _ _ h => h))), .inr (.inr (.inr (fun _ _ _ _ _ h => h))), .inr (.inr (.inr (fun _ _ _ _ _ h => h))), .inr (.inr (.inr (fun _ _ _ _ h h0 => h0))), .inr (.inr (.inr (fun _ _ _ _ h h0 => h0.next h))), .inr (.inr (.inr (fun _ _ _ _ h h0 => h0.next h))), .inl rfl, .inr (.inr (.inl rfl)), trivial⟩,
              ⟨.inr (.inr (.inr (fun _ _ _ _ _ h => h))), .inr (.inr (.inr (fun _ _ _ _ _ h => h))), .inr (.inr (.inr (fun _ _ _ _ _ h => h))), .inr (.inr (.inr (fun _ _ _ _ h h0 => by cases h; exact h0))), .inr (.inr (.inr (fun _ _ _ _ h h0 => by cases h; exact h0))), .inr (.inr (.inr (fun _ _ _ _ h h0 => by cases h; exact h0))), .inr (.inr (.inr (fun _ _ _ _ h h0 => by cases h; exact h0))), .inl rfl, trivial⟩, trivial⟩
          · refine ⟨?_, ?_, ?_, ?_, ?_, ?_, ?_, ?_, trivial⟩
            · -- 0: Op.move (Operand.tmp 0)
              refine step_plain [] (fun _ => rfl) rfl ?_
              intro w1 vals hC1 hi0 hf E hE
              clear hi0
              clear hf
              simp only [puts, act_put, act_put_none, List.setIfInBounds_toArray, List.set_cons_zero, List.set_cons_succ] at hE ⊢
              go_wp2
              exact .mk (hE _ _ rfl hC1 rfl)
            · -- 1: Op.slice 28 (Operand.tmp 26) none (some (Operand.const (Value.int IntKind.i64 32))) none
              refine step_plain [(0, some 26)] (fun _ => rfl) rfl ?_
              intro w1 vals hC1 hi0 hf E hE
              clear hi0
              have f0 : vals 0 = .slice (some ad) k c1 := hf 0 rfl
              try dsimp only at f0
              clear hf
              simp only [puts, act_put, act_put_none, List.setIfInBounds_toArray, List.set_cons_zero, List.set_cons_succ, f0] at hE ⊢
              clear f0
              go_wp2
              exact .mk (hE _ _ rfl hC1 rfl)
            · -- 2: Op.move (Operand.tmp 0)
              refine step_plain [] (fun _ => rfl) rfl ?_
              intro w1 vals hC1 hi0 hf E hE
              clear hi0
              clear hf
              simp only [puts, act_put, act_put_none, List.setIfInBounds_toArray, List.set_cons_zero, List.set_cons_succ] at hE ⊢
              go_wp2
              exact .mk (hE _ _ rfl hC1 rfl)
            · -- 3: Op.slice 28 (Operand.tmp 28) (some (Operand.const (Value.int IntKind.i64 32))) none none
              refine step_plain [(2, some 28)] (fun _ => rfl) rfl ?_
              intro w1 vals hC1 hi0 hf E hE
              clear hi0
              have f2 : vals 2 = .slice (some ad) k c1 := hf 2 rfl
              try dsimp only at f2
              clear hf
              simp only [puts, act_put, act_put_none, List.setIfInBounds_toArray, List.set_cons_zero, List.set_cons_succ, f2] at hE ⊢
              clear f2
              go_wp2
              rw [HKQ.out]
              exact .mk (hE _ _ ⟨_, rfl⟩ hC1 rfl)
            · -- 4: Op.buildSlice 28 1 #[(0, Operand.const (Value.int IntKind.i64 38))]
              refine step_plain [] (fun _ => rfl) rfl ?_
              intro w1 vals hC1 hi0 hf E hE
              clear hi0
              clear hf
              simp only [puts, act_put, act_put_none, List.setIfInBounds_toArray, List.set_cons_zero, List.set_cons_succ] at hE ⊢
              go_wp2
              have hnew := Blk.new w1 3 (dV [38]).toArray
              exact .mk (hE _ _ ⟨_, 1, rfl, Nat.le_refl _, Rd.of_blk hnew hnew.lt⟩ ⟨hC1.1.alloc (Nat.le_trans hC1.2.2 hC1.2.1.size) _, hC1.2.1.alloc hC1.2.1.size _, hC1.2.2⟩ (below_new _ _))
            · -- 5: Op.call { callee := Callee.value (Operand.func 40), args := #[Operand.tmp 29, Operand.tmp 30], argTypes := #[2
              refine step_plain [(3, some 29), (4, some 30)] (fun _ => rfl) rfl ?_
              intro w1 vals hC1 hi0 hf E hE
              clear hi0
              have f3 : (fun v u => ∃ c3, v = .slice (some ⟨ad.block, ad.off + 32, none⟩) q c3) (vals 3) w1 := hf 3 rfl
              have f4 : (RdV 1 (dV [38])) (vals 4) w1 := hf 4 rfl
              try dsimp only at f3 f4
              clear hf
              obtain ⟨c3, hx3⟩ := f3
              obtain ⟨A4, c4, hx4, hc4, hr4⟩ := f4
              simp only [puts, act_put, act_put_none, List.setIfInBounds_toArray, List.set_cons_zero, List.set_cons_succ, hx3, hx4] at hE ⊢
              clear hx3 hx4
              go_wp2_with fail
              refine calls_then (CT.out _ hC1.2.1 _ _ _ _ hr4 (add32 ad)) ?_
              rintro e w2 ⟨A5, c5, rfl, hc5, hr5, hb5⟩
              go_wp2_with fail
              exact .mk (hE _ _ ⟨A5, c5, rfl, hc5, hr5⟩ ⟨hC1.1.trans (hb5.mono (Nat.le_trans hC1.2.2 hC1.2.1.size)), hC1.2.1.trans (hb5.mono hC1.2.1.size), hC1.2.2⟩ hb5)
            · -- 6: Op.call { callee := Callee.value (Operand.func 25), args := #[Operand.tmp 27, Operand.tmp 31], argTypes := #[2
              refine step_plain [(1, some 27), (5, some 31), (5, some 31)] (fun _ => rfl) rfl ?_
              intro w1 vals hC1 hi0 hf E hE
              clear hi0
              have f1 : vals 1 = .slice (some ad) 32 c1 := hf 1 rfl
              have f5 : (RdV l1.length (dV l1)) (vals 5) w1 := hf 5 rfl
              try dsimp only at f1 f5
              clear hf
              obtain ⟨A4, c4, hx4, hc4, hr4⟩ := f5
              rw [HL1L.out] at hx4
              simp only [puts, act_put, act_put_none, List.setIfInBounds_toArray, List.set_cons_zero, List.set_cons_succ, f1, hx4] at hE ⊢
              clear f1
              clear hx4
              go_wp2_with fail
              refine calls_then (CP.out _ hC1.2.1 _ _ _ hr4) ?_
              rintro e w2 ⟨A5, c5, rfl, hc5, hr5, hb5⟩
              go_wp2_with fail
              exact .mk (hE _ _ ⟨A5, c5, rfl, hc5, hr5⟩ ⟨hC1.1.trans (hb5.mono (Nat.le_trans hC1.2.2 hC1.2.1.size)), hC1.2.1.trans (hb5.mono hC1.2.1.size), hC1.2.2⟩ hb5)
            · -- 7: Op.assign (Operand.tmp 32)
              refine step_plain [(6, some 32), (6, some 32), (0, some 26), (1, some 27), (2, some 28), (3, some 29), (4, some 30), (5, some 31), (6, some 32)] (fun _ => rfl) rfl ?_
              intro w1 vals hC1 hi0 hf E hE
              clear hi0
              have f0 : vals 0 = .slice (some ad) k c1 := hf 0 rfl
              have f1 : vals 1 = .slice (some ad) 32 c1 := hf 1 rfl
              have f2 : vals 2 = .slice (some ad) k c1 := hf 2 rfl
              have f3 : (fun v u => ∃ c3, v = .slice (some ⟨ad.block, ad.off + 32, none⟩) q c3) (vals 3) w1 := hf 3 rfl
              have f4 : (RdV 1 (dV [38])) (vals 4) w1 := hf 4 rfl
              have f5 : (RdV l1.length (dV l1)) (vals 5) w1 := hf 5 rfl
              have f6 : (RdV l2.length (dV l2)) (vals 6) w1 := hf 6 rfl
              try dsimp only at f0 f1 f2 f3 f4 f5 f6
              clear hf
              obtain ⟨A4, c4, hx4, hc4, hr4⟩ := f6
              simp only [puts, act_put, act_put_none, List.setIfInBounds_toArray, List.set_cons_zero, List.set_cons_succ, f0, f1, f2, hx4] at hE ⊢
              clear f0 f1 f2
              clear hx4
              go_wp2
              exact .mk (hE _ _ ⟨A4, c4, rfl, hc4, hr4⟩ hC1 rfl)
          intro w1 vals hC1 hf
          have f0 : vals 0 = .slice (some ad) k c1 := hf 0 (by decide) rfl
          have f1 : vals 1 = .slice (some ad) 32 c1 := hf 1 (by decide) rfl
          have f2 : vals 2 = .slice (some ad) k c1 := hf 2 (by decide) rfl
          have f3 : (fun v u => ∃ c3, v = .slice (some ⟨ad.block, ad.off + 32, none⟩) q c3) (vals 3) w1 := hf 3 (by decide) rfl
          have f4 : (RdV 1 (dV [38])) (vals 4) w1 := hf 4 (by decide) rfl
          have f5 : (RdV l1.length (dV l1)) (vals 5) w1 := hf 5 (by decide) rfl
          have f6 : (RdV l2.length (dV l2)) (vals 6) w1 := hf 6 (by decide) rfl
          have f7 : (RdV l2.length (dV l2)) (vals 7) w1 := hf 7 (by decide) rfl
          try dsimp only at f0 f1 f2 f3 f4 f5 f6 f7
          clear hf
          simp only [puts, act_put, act_put_none, List.setIfInBounds_toArray, List.set_cons_zero, List.set_cons_succ, f0, f1, f2]
          clear f0 f1 f2
          generalize vals 3 = x3 at *
          generalize vals 4 = x4 at *
          generalize vals 5 = x5 at *
          generalize vals 6 = x6 at *
          generalize vals 7 = x7 at *
          obtain ⟨A5, c5, rfl, hc5, hr5⟩ := f7
          have HC1 := Lib.hid hC1
          have HC5 := Lib.hid hc5
          have HR5 := Lib.hid hr5
          clear hC1 hc5 hr5 HC0
          go_wp2_with fail
          refine ⟨⟨l2, A5, c5, rfl, HD2.out, HL2.out, HC5.out, HMOD2.out, HR5.out, HC1.out.1⟩, ?_⟩
          have hm2 := digVal_rd c1 HRD.out
          rw [← HM.out] at hm2
          rw [digVal_rd c5 HR5.out, hm2]
          exact HLESS.out
      · have h32' : ¬ (k : Int) > 32 := by omega
        have h32'' : (k : Int) ≤ 32 := by omega
        obtain ⟨L, hL⟩ : ∃ L, L = l.take k := ⟨_, rfl⟩
        have hLl : L.length = k := by rw [hL, List.length_take, Nat.min_eq_left (by rw [← HM.out]; exact hk)]
        have hLd : Dg L := by rw [hL]; exact dg_take HL.out k
        have hrL : Rd wr wr.heap.size A1 (dV L) := by rw [hL]; exact rd_digs HRD.out
        have hLv : leV L % PN = N0 % PN := by rw [hL, hin]; exact HMOD.out
        have hmk := make_ints 32 (by decide)
        have hmk' : ∀ u : World, (Instr.makeSlice 28 (.int .i64 32) (.int .i64 32)).run Try.prog u = .ok (.slice (some ⟨u.heap.size, 0, none⟩) 32 32) (u.alloc (.cells (dV (partL (L.take 0) 32)).toArray 3)) := hmk
        have hgs : g ≤ wr.heap.size := by have h := HBEL.out; rw [← HG.out] at h ⊢; exact h.size
        have hst0 : D1 wr wr.heap.size (partL (L.take 0) 32) _ := d1_new (partL (L.take 0) 32) (Below.refl wr.heap.size wr)
        have HST0 := Lib.hid hst0
        have HLL := Lib.hid hLl
        have HLD := Lib.hid hLd
        have HRL := Lib.hid hrL
        have HLV := Lib.hid hLv
        have HGS := Lib.hid hgs
        clear hmk hst0 hL hLl hLd hrL hLv hgs hin hk h32 hm63 hmc
        go_wp2_with fail
        generalize ho : wr.heap.size = o at HST0 HRL HGS ⊢
        have HO := Lib.hid ho
        clear ho hmk'
        obtain ⟨wo, rfl⟩ : ∃ x, x = wr := ⟨_, rfl⟩
        go_loopw [4] (fun i wr => ∃ j : Nat, j ≤ k ∧ i = .int .i64 j ∧ D1 wo o (partL (L.take j) 32) wr) (fun i _ => k - (intOf i).toNat)
        case atStart => exact ⟨0, by omega, rfl, HST0.out⟩
        case round =>
          clear HST0
          obtain ⟨j, hj, rfl, hst⟩ := hrel
          have hel : Below o wo wr := by have h := hst.bel; rw [HO.out] at h; exact h
          by_cases hlt : j < k
          · have hlt' : (j : Int) < (k : Int) := by omega
            obtain ⟨ad, rfl, hca⟩ := dig_cell ((HRL.out.below hel).mono (by rw [← HO.out]; exact hst.bel.size)) (k := j) (by rw [HLL.out]; exact hlt)
            obtain ⟨x, hx⟩ : ∃ x, x = L.getD j 0 := ⟨_, rfl⟩
            rw [← hx] at hca
            have htl : (L.take j).length = j := by rw [List.length_take, HLL.out]; omega
            have hset := partL_set (L.take j) 32 j x htl (by omega)
            have hnext : L.take j ++ [x] = L.take (j + 1) := by
              rw [take_snoc (by rw [HLL.out]; exact hlt), hx, List.getD_eq_getElem?_getD, List.getElem?_eq_getElem (by rw [HLL.out]; exact hlt)]; rfl
            rw [hnext] at hset
            have d0 := hst.out.cell j
            rw [dV_cell (by rw [partL_length _ _ (by rw [htl]; omega)]; omega)] at d0
            have q0 := hst.out.free j
            have HSET := Lib.hid hset
            have HST := Lib.hid hst
            have hj32 : (j : Int) < 32 := by omega
            clear hset hst htl hnext hx hel
            go_wp2_with fail
            exact ⟨⟨j + 1, by omega, by go_num, HST.out.put (wrote_setCell_at _ _ _ _) (by have h := blk_setCell_at (i := j) HST.out.out (.int .i64 (x : Int)); rw [dV_set, HSET.out] at h; exact h)⟩, by simp [intOf]; omega⟩
          · obtain rfl : j = k := by omega
            have hfull : dV (partL (L.take j) 32) = dV (digN 32 (leV L)) := by
              congr 1
              have e1 : L.take j = L := by rw [List.take_of_length_le (by rw [HLL.out]; exact Nat.le_refl _)]
              rw [e1]
              refine digN_eq ?_ (partL_length _ _ (by rw [HLL.out]; omega)) ?_
              · intro d hd
                rcases List.mem_append.1 hd with h | h
                · exact HLD.out d h
                · rw [List.eq_of_mem_replicate h]; decide
              · rw [partL, leV_append, leV_replicate, Nat.mul_zero, Nat.add_zero]
            have hblk := hst.out
            rw [hfull] at hblk
            have hrd : Rd wr wr.heap.size (some ⟨o, 0, none⟩) (dV (digN 32 (leV L))) := Rd.of_blk hblk hblk.lt
            have hbig : leV L < 256 ^ 32 := leV_big HLD.out (by rw [HLL.out]; omega)
            have hbel : Below g w wr := HBEL.out.trans (hel.mono HGS.out)
            have hfin0 : ∃ (V : Nat) (A3 : Option Addr) (c3 : Nat), Value.slice (some ⟨o, 0, none⟩) 32 32 = .slice A3 32 c3 ∧ 32 ≤ c3 ∧ V < 256 ^ 32 ∧ V % PN = N0 % PN ∧ Rd wr wr.heap.size A3 (dV (digN 32 V)) ∧ Below g w wr := ⟨leV L, _, 32, rfl, Nat.le_refl _, hbig, HLV.out, hrd, hbel⟩
            have HFIN0 := Lib.hid hfin0
            have HHR : Hid (g ≤ wr.heap.size) := Lib.hid (by have h := hbel; rw [← HG.out] at h ⊢; exact h.size)
            clear hst hel hfull hblk hrd hbig hbel hfin0 hlt hj
            go_wp2_with fail
            obtain ⟨wq, rfl⟩ : ∃ x, x = wr := ⟨_, rfl⟩
            go_loopw [3] (fun v wr => ∃ (V : Nat) (A3 : Option Addr) (c3 : Nat), v = .slice A3 32 c3 ∧ 32 ≤ c3 ∧ V < 256 ^ 32 ∧ V % PN = N0 % PN ∧ Rd wr wr.heap.size A3 (dV (digN 32 V)) ∧ Below g w wr) (fun v wr => digVal v wr)
            case atStart => exact HFIN0.out
            case round =>
              clear HFIN0
              obtain ⟨V, A3, c3, rfl, hc3, hV, hVm, hrV, hbel⟩ := hrel
              have HC3 := Lib.hid hc3
              clear hc3
              have hgw : g ≤ wr.heap.size := by have h := hbel; rw [← HG.out] at h ⊢; exact h.size
              have HV := Lib.hid hV
              have HVM := Lib.hid hVm
              have HRV := Lib.hid hrV
              have HBW := Lib.hid hbel
              have HGW := Lib.hid hgw
              clear hV hVm hrV hbel hgw
              go_wp2_with fail
              refine calls_then (p_any _) ?_
              rintro e w4 ⟨A4, c4, rfl, hc4, hr4, hb4⟩
              have hless := less_any (digN 32 V) pL (digN_dg _ _) pL_dg A3 A4 c3 c4 w4 ((HRV.out.below hb4).mono hb4.size) hr4 (by rw [digN_length]; decide) (by rw [pL_len]; decide)
              rw [digN_val _ _ HV.out, pL_val, digN_length] at hless
              have HLS := Lib.hid hless
              have HB4 := Lib.hid (HBW.out.trans (hb4.mono HGW.out))
              have HR4 := Lib.hid ((HRV.out.below hb4).mono hb4.size)
              have HG4 := Lib.hid (Nat.le_trans HGW.out hb4.size)
              clear hc4 hr4 hb4 hless
              by_cases hlp : V < PN
              · have hls2 := HLS.out
                rw [decide_eq_true hlp] at hls2
                have HLS2 := Lib.hid hls2
                have HFV := Lib.hid (mod_less HVM.out hlp)
                clear hls2 HLS hlp
                go_wp2_with fail
                refine calls_then HLS2.out ?_
                rintro e w5 ⟨rfl, rfl⟩
                go_wp2_with fail
                go_ret
                rw [← HFV.out]
                exact ⟨A3, c3, by rw [digN_length]; rfl, by rw [digN_length]; exact HC3.out, HR4.out, by rw [HG.out]; exact HB4.out⟩
              · have hls2 := HLS.out
                rw [decide_eq_false hlp] at hls2
                have HLS2 := Lib.hid hls2
                have HPV := Lib.hid (Nat.le_of_not_lt hlp)
                clear hls2 HLS hlp
                go_wp2_with fail
                refine calls_then HLS2.out ?_
                rintro e w5 ⟨rfl, rfl⟩
                go_wp2_with fail
                refine calls_then (p_any _) ?_
                rintro e w6 ⟨A6, c6, rfl, hc6, hr6, hb6⟩
                have hmin := minus_any (digN 32 V) pL (digN_dg _ _) pL_dg (by rw [pL_val, digN_val _ _ HV.out]; exact HPV.out) A3 A6 c3 c6 w6 ((HR4.out.below hb6).mono hb6.size) hr6 (by rw [digN_length]; decide) (by rw [pL_len]; decide)
                rw [digN_val _ _ HV.out, pL_val, digN_length] at hmin
                have HMIN := Lib.hid hmin
                have HB6 := Lib.hid (HB4.out.trans (hb6.mono HG4.out))
                have HG6 := Lib.hid (Nat.le_trans HG4.out hb6.size)
                clear hc6 hr6 hb6 hmin
                go_wp2_with fail
                refine calls_then HMIN.out ?_
                rintro e w7 ⟨A7, c7, rfl, hc7, hr7, hb7⟩
                rw [digN_length] at hc7
                rw [digN_length]
                have HC7 := Lib.hid hc7
                have HB7 := Lib.hid (HB6.out.trans (hb7.mono HG6.out))
                have HR7 := Lib.hid hr7
                clear hc7 hr7 hb7
                go_wp2_with fail
                refine ⟨⟨V - PN, A7, c7, rfl, HC7.out, Nat.lt_of_le_of_lt (Nat.sub_le _ _) HV.out, by rw [sub_mod HPV.out]; exact HVM.out, HR7.out, HB7.out⟩, ?_⟩
                have e1 := digVal_rd c7 HR7.out
                have e2 := digVal_rd c3 HRV.out
                rw [digN_length, digN_val _ _ (Nat.lt_of_le_of_lt (Nat.sub_le _ _) HV.out)] at e1
                rw [digN_length, digN_val _ _ HV.out] at e2
                rw [e1, e2]
                exact Nat.sub_lt (Nat.lt_of_lt_of_le (by decide) HPV.out) (by decide)
end Go.Proofs.Ytngecbnbddoldaa
