/-
  Walk: the law FieldReads.
-/
import Derived.Test.YtngecbnbddoldaaRingW
namespace Go.Proofs.Ytngecbnbddoldaa
set_option linter.unusedSimpArgs false
set_option linter.unusedVariables false
open Go.RowKit

theorem rd_takeB {w : World} {B n : Nat} {A : Option Addr} {l : List UInt8} (h : Rd w B A (bytesV l)) : Rd w B A (bytesV (l.take n)) := fun i u hi => by
  refine h i u ?_
  rw [bytesV, List.getElem?_map, List.getElem?_take] at hi
  rw [bytesV, List.getElem?_map]
  split at hi
  · exact hi
  · simp at hi
section
variable {P : Program}
/-- 'x := *p', a whole struct, behind a guard that holds -/
theorem wpList_get_boxg {w : World} {ops : Array Oper} {rest : List Oper} {o : Oper} {a : Act} {Q : Exit → Act → World → Prop} {ty : TypeId} {x : Operand} {g : Nat} {cs : Array Value} {t : TypeId} {d : TypeDesc}
    (hg : Blk w g t cs) (hw : Region.wanted o (yielded ops a.tmps) = true) (ho : o.op = .load ty x) (hx : a.eval x = .pointer (some ⟨g, 0, none⟩))
    (hu : P.underlying ty = some d) (hd : (match d with | .struct _ | .array _ _ => true | _ => false) = true) (hi : (P.info? ty).map (·.size) = some cs.size)
    (h : wpList P ops Q rest (a.put o.dst (.agg cs)) w) : wpList P ops Q (o :: rest) a w := by
  refine wpList_step fun K hK => ?_
  rw [if_pos hw]
  exact wp_load_row ty x ho g hx t cs (0, 0) d hg hu hd hi (hK _ _ h)
end
theorem zero_same : eqB zE zE = true := by simp [eqB]
set_option maxRecDepth 100000 in
set_option maxHeartbeats 4000000 in
theorem reads_any (l : List UInt8) (A : Option Addr) (c : Nat) (w : World) (hr : Rd w w.heap.size A (bytesV l)) (hc : l.length ≤ c) :
    Calls Try.prog 4 #[.slice A l.length c] w (BoolPost true w) := by
  have hu := Try.underlying26
  obtain ⟨n, hn⟩ : ∃ n, n = l.length := ⟨_, rfl⟩
  rw [← hn]
  obtain ⟨L, hL⟩ : ∃ L, L = l.take 40 := ⟨_, rfl⟩
  obtain ⟨m, hm⟩ : ∃ m, m = L.length := ⟨_, rfl⟩
  have hmn : m = min 40 n := by rw [hm, hL, List.length_take, hn]
  have hrL : Rd w w.heap.size A (bytesV L) := by rw [hL]; exact rd_takeB hr
  have hc63 : (n : Int) ≤ (c : Int) := by omega
  have hnil : A = none → (n : Int) = 0 := fun h => by
    by_cases h0 : 0 < l.length
    · obtain ⟨ad, h1, _⟩ := hr.at_ (k := 0) (by rw [bytesV_length]; exact h0)
      rw [h] at h1; cases h1
    · omega
  have hcr : ∀ u, Below w.heap.size w u → Calls Try.prog 14 #[.slice A m c] u (ReadPost L u) := fun u hu => by
    have h := read_any L A c u ((hrL.below hu).mono hu.size) (by omega) (by omega)
    rw [← hm] at h; exact h
  have hcd : ∀ u, Below w.heap.size w u → Calls Try.prog 16 #[.slice A m c] u (OwnPost 3 m (dV (digs L)) u) := fun u hu => by
    have h := digits_any L A c u ((hrL.below hu).mono hu.size) (by omega) (by omega)
    rw [← hm] at h; exact h
  have HCR := Lib.hid hcr
  have HCD := Lib.hid hcd
  have HRL := Lib.hid hrL
  have HM := Lib.hid hm
  have HZ := Lib.hid zero_same
  clear hr hc hn hL hm hrL hcr hcd
  by_cases h32 : m = 32
  · obtain rfl : n = 32 := by omega
    subst h32
    clear hnil hmn
    by_cases hmay : leV (digs L) < PN
    · obtain ⟨X, hX⟩ : ∃ X, X = readE L := ⟨_, rfl⟩
      have hm1 : mayR L = true := decide_eq_true ⟨HM.out.symm, hmay⟩
      have hX2 : X = ofN (leV (digs L)) := by rw [hX, readE, if_pos hm1]
      have hf : readF L = 0 := by rw [readF, if_pos hm1]
      have hs : byB (leastE X).val = L := by rw [hX2, read_same L HM.out.symm]; exact hmay
      have hXl : X.Lt 18446744073709551616 := by rw [hX2]; exact (ofN_lt _).mono (by decide)
      have EX := Lib.hid hX
      have EF := Lib.hid hf
      have ES := Lib.hid hs
      have KX := Lib.hid hXl
      have HMAY := Lib.hid hmay
      clear hX hm1 hX2 hf hs hXl hmay
      go_enter Try.func4, Try.ntmps4
      go_wp2_with fail
      refine calls_then (HCR.out _ (Below.refl _ _)) ?_
      rintro e w1 ⟨rfl, hb1⟩
      rw [← EX.out, EF.out]
      have HB1 := Lib.hid hb1
      clear hb1
      go_wp2_with (refine wpList_put_box (x := .tmp 3) (cells := eV X) (Blk.new _ _ _) rfl rfl rfl rfl elem_size rfl (by simp [eV, wV, limbs, Value.oneCell']) ?_; intro w2 hb2 hw2; have HX2 := Lib.hid hb2; have HB2 := Lib.hid (box_new (cs := eV X) HB1.out hw2); clear hb2 hw2 HB1)
      refine calls_then (HCD.out _ HB2.out) ?_
      rintro e w3 ⟨A3, c3, rfl, hown3, hb3⟩
      have HV3 := Lib.hid (Rd.of_own hown3 (Nat.le_refl _))
      have HB3 := Lib.hid (HB2.out.trans (hb3.mono HB2.out.size))
      have HX3 := Lib.hid (HX2.out.below hb3 HX2.out.lt)
      clear hown3 hb3 HB2 HX2
      go_wp2_with fail
      refine calls_then (p_any _) ?_
      rintro e w4 ⟨A4, c4, rfl, hc4, hr4, hb4⟩
      have HV4 := Lib.hid ((HV3.out.below hb4).mono hb4.size)
      have HB4 := Lib.hid (HB3.out.trans (hb4.mono HB3.out.size))
      have HX4 := Lib.hid (HX3.out.below hb4 HX3.out.lt)
      have hless := less_any (digs L) pL (digs_lt L) pL_dg A3 A4 c3 c4 w4 HV4.out hr4 (by rw [digs, List.length_map, ← HM.out]; omega) (by rw [pL_len]; omega)
      rw [pL_val, decide_eq_true HMAY.out, show (digs L).length = 32 by rw [digs, List.length_map, ← HM.out]] at hless
      have HLESS := Lib.hid hless
      clear hc4 hr4 hb4 HB3 HX3 HV3 hless
      go_wp2_with fail
      refine calls_then HLESS.out ?_
      rintro e w5 ⟨rfl, rfl⟩
      go_wp2_with fail
      generalize w1.heap.size = g at *
      have HC0 : Blk w5.drew g 26 (eV X) ∧ Below w.heap.size w w5.drew := ⟨HX4.out, HB4.out.drew⟩
      refine wp_region_list (fun u => Blk u g 26 (eV X) ∧ Below w.heap.size w u) (fun | false => (fun _ => True) | true => (fun _ => True)) (fun | false, _ => false | true, _ => false)
        [fun z _ => z 0 = .int .i64 0,
         fun z _ => z 1 = .bool true,
         fun z _ => z 2 = .bool true,
         fun z _ => z 3 = .agg (eV X),
         fun z u => (RdV 32 (bytesV L)) (z 4) u,
         fun z _ => z 5 = .string ⟨L.toArray⟩,
         fun z _ => z 6 = .slice A 32 c,
         fun z _ => z 7 = .string ⟨L.toArray⟩,
         fun z _ => z 8 = .bool true,
         fun z _ => z 9 = .bool true,
         fun z _ => z 10 = .bool true,
         fun z _ => z 11 = .bool true,
         fun z _ => z 12 = .bool true,
         fun z _ => z 13 = .bool true]
        [Eq, Eq, Eq, Eq, fun u u' => Below u.heap.size u u', Eq, Eq, Eq, Eq, Eq, Eq, fun u u' => Below u.heap.size u u', Eq, Eq]
        (fun _ _ => false) [(0, some 37), (1, some 38), (2, some 39), (3, some 40), (4, some 41), (5, some 42), (6, some 43), (7, some 44), (8, some 45), (9, some 46), (10, some 47), (11, some 48), (12, some 49), (13, some 2)] (by kernel_rfl) (by kernel_rfl) rfl (fun _ => rfl) ?_ ?_ ?_ ?_ ?_ ?_
      · exact HC0
      · intro m; cases m; exact trivial; exact trivial
      · intro m; cases m
        · exact ⟨.inr (fun _ _ h h0 => h ▸ h0), .inr (fun _ _ h h0 => h ▸ h0), .inr (fun _ _ h h0 => h ▸ h0), .inr (fun _ _ h h0 => h ▸ h0), .inr (fun _ _ _ h => h), .inr (fun _ _ h h0 => h ▸ h0), .inr (fun _ _ h h0 => h ▸ h0), .inr (fun _ _ h h0 => h ▸ h0), .inr (fun _ _ h h0 => h ▸ h0), .inr (fun _ _ h h0 => h ▸ h0), .inr (fun _ _ h h0 => h ▸ h0), .inr (fun _ _ _ h => h), .inr (fun _ _ h h0 => h ▸ h0), .inr (fun _ _ h h0 => h ▸ h0), trivial⟩
        · exact ⟨.inr (fun _ _ h h0 => h ▸ h0), .inr (fun _ _ h h0 => h ▸ h0), .inr (fun _ _ h h0 => h ▸ h0), .inr (fun _ _ h h0 => h ▸ h0), .inr (fun _ _ _ h => h), .inr (fun _ _ h h0 => h ▸ h0), .inr (fun _ _ h h0 => h ▸ h0), .inr (fun _ _ h h0 => h ▸ h0), .inr (fun _ _ h h0 => h ▸ h0), .inr (fun _ _ h h0 => h ▸ h0), .inr (fun _ _ h h0 => h ▸ h0), .inr (fun _ _ _ h => h), .inr (fun _ _ h h0 => h ▸ h0), .inr (fun _ _ h h0 => h ▸ h0), trivial⟩
      · exact ⟨⟨.inl rfl, .inr (.inr (.inl rfl)), .inr (.inr (.inl rfl)), .inr (.inr (.inl rfl)), .inr (.inr (.inl rfl)), .inr (.inr (.inl rfl)), .inr (.inr (.inl rfl)), .inr (.inr (.inl rfl)), .inr (.inr (.inl rfl)), .inr (.inr (.inl rfl)), .inr (.inr (.inr (fun _ _ _ _ _ h => h))), .inr (.inr (.inr (fun _ _ _ _ _ h => h))), .inr (.inr (.inr (fun _ _ _ _ _ h => h))), .inr (.inr (.inl rfl)), trivial⟩,
          ⟨.inr (.inr (.inr (fun _ _ _ _ _ h => h))), .inl rfl, .inr (.inr (.inl rfl)), .inr (.inr (.inl rfl)), .inr (.inr (.inl rfl)), .inr (.inr (.inl rfl)), .inr (.inr (.inl rfl)), .inr (.inr (.inl rfl)), .inr (.inr (.inl rfl)), .inr (.inr (.inl rfl)), .inr (.inr (.inl rfl)), .inr (.inr (.inr (fun _ _ _ _ _ h => h))), .inr (.inr (.inr (fun _ _ _ _ _ h => h))), .inr (.inr (.inl rfl)), trivial⟩,
          ⟨.inr (.inr (.inr (fun _ _ _ _ _ h => h))), .inr (.inr (.inr (fun _ _ _ _ _ h => h))), .inl rfl, .inr (.inr (.inl rfl)), .inr (.inr (.inl rfl)), .inr (.inr (.inl rfl)), .inr (.inr (.inl rfl)), .inr (.inr (.inl rfl)), .inr (.inr (.inl rfl)), .inr (.inr (.inl rfl)), .inr (.inr (.inl rfl)), .inr (.inr (.inl rfl)), .inr (.inr (.inl rfl)), .inr (.inr (.inl rfl)), trivial⟩,
          ⟨.inr (.inr (.inr (fun _ _ _ _ _ h => h))), .inr (.inr (.inr (fun _ _ _ _ _ h => h))), .inr (.inr (.inr (fun _ _ _ _ _ h => h))), .inl rfl, .inr (.inr (.inl rfl)), .inr (.inr (.inl rfl)), .inr (.inr (.inr (fun _ _ _ _ _ h => h))), .inr (.inr (.inr (fun _ _ _ _ _ h => h))), .inr (.inr (.inl rfl)), .inr (.inr (.inr (fun _ _ _ _ _ h => h))), .inr (.inr (.inl rfl)), .inr (.inr (.inl rfl)), .inr (.inr (.inl rfl)), .inr (.inr (.inl rfl)), trivial⟩,
          ⟨.inr (.inr (.inr (fun _ _ _ _ _ h => h))), .inr (.inr (.inr (fun _ _ _ _ _ h => h))), .inr (.inr (.inr (fun _ _ _ _ _ h => h))), .inr (.inr (.inr (fun _ _ _ _ _ h => h))), .inl rfl, .inr (.inr (.inl rfl)), .inr (.inr (.inr (fun _ _ _ _ _ h => h))), .inr (.inr (.inr (fun _ _ _ _ _ h => h))), .inr (.inr (.inl rfl)), .inr (.inr (.inl rfl)), .inr (.inr (.inl rfl)), .inr (.inr (.inl rfl)), .inr (.inr (.inl rfl)), .inr (.inr (.inl rfl)), trivial⟩,
          ⟨.inr (.inr (.inr (fun _ _ _ _ _ h => h))), .inr (.inr (.inr (fun _ _ _ _ _ h => h))), .inr (.inr (.inr (fun _ _ _ _ _ h => h))), .inr (.inr (.inr (fun _ _ _ _ _ h => h))), .inr (.inr (.inr (fun _ _ _ _ h h0 => by cases h; exact h0))), .inl rfl, .inr (.inr (.inr (fun _ _ _ _ _ h => h))), .inr (.inr (.inr (fun _ _ _ _ _ h => h))), .inr (.inr (.inl rfl)), .inr (.inr (.inl rfl)), .inr (.inr (.inl rfl)), .inr (.inr (.inr (fun _ _ _ _ _ h => h))), .inr (.inr (.inr (fun _ _ _ _ _ h => h))), .inr (.inr (.inl rfl)), trivial⟩,
          ⟨.inr (.inr (.inr (fun _ _ _ _ _ h => h))), .inr (.inr (.inr (fun _ _ _ _ _ h => h))), .inr (.inr (.inr (fun _ _ _ _ _ h => h))), .inr (.inr (.inr (fun _ _ _ _ _ h => h))), .inr (.inr (.inr (fun _ _ _ _ h h0 => by cases h; exact h0))), .inr (.inr (.inr (fun _ _ _ _ _ h => h))), .inl rfl, .inr (.inr (.inl rfl)), .inr (.inr (.inl rfl)), .inr (.inr (.inl rfl)), .inr (.inr (.inr (fun _ _ _ _ _ h => h))), .inr (.inr (.inr (fun _ _ _ _ _ h => h))), .inr (.inr (.inr (fun _ _ _ _ _ h => h))), .inr (.inr (.inl rfl)), trivial⟩,
          ⟨.inr (.inr (.inr (fun _ _ _ _ _ h => h))), .inr (.inr (.inr (fun _ _ _ _ _ h => h))), .inr (.inr (.inr (fun _ _ _ _ _ h => h))), .inr (.inr (.inr (fun _ _ _ _ _ h => h))), .inr (.inr (.inr (fun _ _ _ _ h h0 => by cases h; exact h0))), .inr (.inr (.inr (fun _ _ _ _ _ h => h))), .inr (.inr (.inr (fun _ _ _ _ _ h => h))), .inl rfl, .inr (.inr (.inl rfl)), .inr (.inr (.inl rfl)), .inr (.inr (.inl rfl)), .inr (.inr (.inr (fun _ _ _ _ _ h => h))), .inr (.inr (.inr (fun _ _ _ _ _ h => h))), .inr (.inr (.inl rfl)), trivial⟩,
          ⟨.inr (.inr (.inr (fun _ _ _ _ _ h => h))), .inr (.inr (.inr (fun _ _ _ _ _ h => h))), .inr (.inr (.inr (fun _ _ _ _ _ h => h))), .inr (.inr (.inr (fun _ _ _ _ _ h => h))), .inr (.inr (.inr (fun _ _ _ _ h h0 => by cases h; exact h0))), .inr (.inr (.inr (fun _ _ _ _ _ h => h))), .inr (.inr (.inr (fun _ _ _ _ _ h => h))), .inr (.inr (.inr (fun _ _ _ _ _ h => h))), .inl rfl, .inr (.inr (.inl rfl)), .inr (.inr (.inl rfl)), .inr (.inr (.inl rfl)), .inr (.inr (.inl rfl)), .inr (.inr (.inl rfl)), trivial⟩,
          ⟨.inr (.inr (.inr (fun _ _ _ _ _ h => h))), .inr (.inr (.inr (fun _ _ _ _ _ h => h))), .inr (.inr (.inr (fun _ _ _ _ _ h => h))), .inr (.inr (.inr (fun _ _ _ _ _ h => h))), .inr (.inr (.inr (fun _ _ _ _ h h0 => by cases h; exact h0))), .inr (.inr (.inr (fun _ _ _ _ _ h => h))), .inr (.inr (.inr (fun _ _ _ _ _ h => h))), .inr (.inr (.inr (fun _ _ _ _ _ h => h))), .inr (.inr (.inr (fun _ _ _ _ _ h => h))), .inl rfl, .inr (.inr (.inl rfl)), .inr (.inr (.inl rfl)), .inr (.inr (.inl rfl)), .inr (.inr (.inl rfl)), trivial⟩,
          ⟨.inr (.inr (.inr (fun _ _ _ _ _ h => h))), .inr (.inr (.inr (fun _ _ _ _ _ h => h))), .inr (.inr (.inr (fun _ _ _ _ _ h => h))), .inr (.inr (.inr (fun _ _ _ _ _ h => h))), .inr (.inr (.inr (fun _ _ _ _ h h0 => by cases h; exact h0))), .inr (.inr (.inr (fun _ _ _ _ _ h => h))), .inr (.inr (.inr (fun _ _ _ _ _ h => h))), .inr (.inr (.inr (fun _ _ _ _ _ h => h))), .inr (.inr (.inr (fun _ _ _ _ _ h => h))), .inr (.inr (.inr (fun _ _ _ _ _ h => h))), .inl rfl, .inr (.inr (.inl rfl)), .inr (.inr (.inl rfl)), .inr (.inr (.inl rfl)), trivial⟩,
          ⟨.inr (.inr (.inr (fun _ _ _ _ _ h => h))), .inr (.inr (.inr (fun _ _ _ _ _ h => h))), .inr (.inr (.inr (fun _ _ _ _ _ h => h))), .inr (.inr (.inr (fun _ _ _ _ _ h => h))), .inr (.inr (.inr (fun _ _ _ _ h h0 => h0.next h))), .inr (.inr (.inr (fun _ _ _ _ _ h => h))), .inr (.inr (.inr (fun _ _ _ _ _ h => h))), .inr (.inr (.inr (fun _ _ _ _ _ h => h))), .inr (.inr (.inr (fun _ _ _ _ _ h => h))), .inr (.inr (.inr (fun _ _ _ _ _ h => h))), .inr (.inr (.inr (fun _ _ _ _ _ h => h))), .inl rfl, .inr (.inr (.inl rfl)), .inr (.inr (.inl rfl)), trivial⟩,
          ⟨.inr (.inr (.inr (fun _ _ _ _ _ h => h))), .inr (.inr (.inr (fun _ _ _ _ _ h => h))), .inr (.inr (.inr (fun _ _ _ _ _ h => h))), .inr (.inr (.inr (fun _ _ _ _ _ h => h))), .inr (.inr (.inr (fun _ _ _ _ h h0 => by cases h; exact h0))), .inr (.inr (.inr (fun _ _ _ _ _ h => h))), .inr (.inr (.inr (fun _ _ _ _ _ h => h))), .inr (.inr (.inr (fun _ _ _ _ _ h => h))), .inr (.inr (.inr (fun _ _ _ _ _ h => h))), .inr (.inr (.inr (fun _ _ _ _ _ h => h))), .inr (.inr (.inr (fun _ _ _ _ _ h => h))), .inr (.inr (.inr (fun _ _ _ _ _ h => h))), .inl rfl, .inr (.inr (.inl rfl)), trivial⟩,
          ⟨.inr (.inr (.inr (fun _ _ _ _ _ h => h))), .inr (.inr (.inr (fun _ _ _ _ _ h => h))), .inr (.inr (.inr (fun _ _ _ _ _ h => h))), .inr (.inr (.inr (fun _ _ _ _ _ h => h))), .inr (.inr (.inr (fun _ _ _ _ h h0 => by cases h; exact h0))), .inr (.inr (.inr (fun _ _ _ _ _ h => h))), .inr (.inr (.inr (fun _ _ _ _ _ h => h))), .inr (.inr (.inr (fun _ _ _ _ _ h => h))), .inr (.inr (.inr (fun _ _ _ _ _ h => h))), .inr (.inr (.inr (fun _ _ _ _ _ h => h))), .inr (.inr (.inr (fun _ _ _ _ _ h => h))), .inr (.inr (.inr (fun _ _ _ _ _ h => h))), .inr (.inr (.inr (fun _ _ _ _ _ h => h))), .inl rfl, trivial⟩, trivial⟩
      · refine ⟨?_, ?_, ?_, ?_, ?_, ?_, ?_, ?_, ?_, ?_, ?_, ?_, ?_, ?_, trivial⟩
        · -- 0: Op.move (Operand.tmp 4)
          refine step_plain [] (fun _ => rfl) rfl ?_
          intro w1 vals hC1 hi0 hf E hE
          clear hi0
          clear hf
          simp only [puts, act_put, act_put_none, List.setIfInBounds_toArray, List.set_cons_zero, List.set_cons_succ] at hE ⊢
          go_wp2
          exact .mk (hE _ _ rfl hC1 rfl)
        · -- 1: Op.binOp BinOp.eql 34 (Operand.tmp 37) (Operand.const (Value.int IntKind.i64 0)) 34
          refine step_plain [(0, some 37)] (fun _ => rfl) rfl ?_
          intro w1 vals hC1 hi0 hf E hE
          clear hi0
          have f0 : vals 0 = .int .i64 0 := hf 0 rfl
          try dsimp only at f0
          clear hf
          simp only [puts, act_put, act_put_none, List.setIfInBounds_toArray, List.set_cons_zero, List.set_cons_succ, f0] at hE ⊢
          clear f0
          go_wp2
          exact .mk (hE _ _ rfl hC1 rfl)
        · -- 2: Op.move (Operand.tmp 38)
          refine step_plain [(1, some 38)] (fun _ => rfl) rfl ?_
          intro w1 vals hC1 hi0 hf E hE
          clear hi0
          have f1 : vals 1 = .bool true := hf 1 rfl
          try dsimp only at f1
          clear hf
          simp only [puts, act_put, act_put_none, List.setIfInBounds_toArray, List.set_cons_zero, List.set_cons_succ, f1] at hE ⊢
          clear f1
          go_wp2
          exact .mk (hE _ _ rfl hC1 rfl)
        · -- 3: Op.load 26 (Operand.tmp 3)
          refine step_guard [(2, some 39)] (fun _ => rfl) 2 39 true rfl rfl ?_ ?_
          · intro w1 vals hC1 hi0 hf hy E hE
            dsimp only at hE ⊢
            clear hi0
            have f2 : vals 2 = .bool true := hf 2 rfl
            try dsimp only at f2
            clear hf
            clear hy
            simp only [puts, act_put, act_put_none, List.setIfInBounds_toArray, List.set_cons_zero, List.set_cons_succ, f2] at hE ⊢
            clear f2
            refine wpList_get_box hC1.1 rfl rfl rfl hu rfl elem_size ?_
            go_wp2_with fail
            exact .mk (hE _ _ rfl hC1 rfl)
          · intro w1 vals hC1 hi0 hf hy
            clear hi0
            have f2 : vals 2 = .bool true := hf 2 rfl
            try dsimp only at f2
            clear hf
            exact absurd (by simp only [puts, act_put, act_put_none, List.setIfInBounds_toArray, List.set_cons_zero, List.set_cons_succ, f2]; rfl) hy
        · -- 4: Op.call { callee := Callee.value (Operand.func 18), args := #[Operand.tmp 40], argTypes := #[26] }
          refine step_guard [(3, some 40), (2, some 39), (2, some 39)] (fun _ => rfl) 2 39 true rfl rfl ?_ ?_
          · intro w1 vals hC1 hi0 hf hy E hE
            dsimp only at hE ⊢
            clear hi0
            have f2 : vals 2 = .bool true := hf 2 rfl
            have f3 : vals 3 = .agg (eV X) := hf 3 rfl
            try dsimp only at f2 f3
            clear hf
            clear hy
            simp only [puts, act_put, act_put_none, List.setIfInBounds_toArray, List.set_cons_zero, List.set_cons_succ, f2, f3] at hE ⊢
            clear f2 f3
            go_wp2_with fail
            refine calls_then (bytes_any X _ KX.out) ?_
            rintro e w2 ⟨o2, rfl, hlo, hblk, hb2⟩
            have hrv := RdV.of_bytes hblk
            rw [ES.out] at hrv
            go_wp2_with fail
            exact .mk (hE _ _ hrv ⟨hC1.1.below hb2 hC1.1.lt, hC1.2.trans (hb2.mono hC1.2.size)⟩ hb2)
          · intro w1 vals hC1 hi0 hf hy
            clear hi0
            have f2 : vals 2 = .bool true := hf 2 rfl
            have f3 : vals 3 = .agg (eV X) := hf 3 rfl
            try dsimp only at f2 f3
            clear hf
            exact absurd (by simp only [puts, act_put, act_put_none, List.setIfInBounds_toArray, List.set_cons_zero, List.set_cons_succ, f2]; rfl) hy
        · -- 5: Op.convert 33 9 (Operand.tmp 41)
          refine step_guard [(4, some 41), (2, some 39)] (fun _ => rfl) 2 39 true rfl rfl ?_ ?_
          · intro w1 vals hC1 hi0 hf hy E hE
            dsimp only at hE ⊢
            clear hi0
            have f2 : vals 2 = .bool true := hf 2 rfl
            have f4 : (RdV 32 (bytesV L)) (vals 4) w1 := hf 4 rfl
            try dsimp only at f2 f4
            clear hf
            clear hy
            obtain ⟨A2, c2, hx2, hc2, hrd⟩ := f4
            simp only [puts, act_put, act_put_none, List.setIfInBounds_toArray, List.set_cons_zero, List.set_cons_succ, f2, hx2] at hE ⊢
            clear f2
            clear hx2
            refine wpList_str_of (l := L) hrd Try.underlying33 Try.underlying5 Try.underlying9 rfl rfl (len_eq HM.out.symm _ _) ?_
            go_wp2_with fail
            exact .mk (hE _ _ rfl hC1 rfl)
          · intro w1 vals hC1 hi0 hf hy
            clear hi0
            have f2 : vals 2 = .bool true := hf 2 rfl
            have f4 : (RdV 32 (bytesV L)) (vals 4) w1 := hf 4 rfl
            try dsimp only at f2 f4
            clear hf
            exact absurd (by simp only [puts, act_put, act_put_none, List.setIfInBounds_toArray, List.set_cons_zero, List.set_cons_succ, f2]; rfl) hy
        · -- 6: Op.move (Operand.tmp 0)
          refine step_guard [(2, some 39)] (fun _ => rfl) 2 39 true rfl rfl ?_ ?_
          · intro w1 vals hC1 hi0 hf hy E hE
            dsimp only at hE ⊢
            clear hi0
            have f2 : vals 2 = .bool true := hf 2 rfl
            try dsimp only at f2
            clear hf
            clear hy
            simp only [puts, act_put, act_put_none, List.setIfInBounds_toArray, List.set_cons_zero, List.set_cons_succ, f2] at hE ⊢
            clear f2
            go_wp2
            exact .mk (hE _ _ rfl hC1 rfl)
          · intro w1 vals hC1 hi0 hf hy
            clear hi0
            have f2 : vals 2 = .bool true := hf 2 rfl
            try dsimp only at f2
            clear hf
            exact absurd (by simp only [puts, act_put, act_put_none, List.setIfInBounds_toArray, List.set_cons_zero, List.set_cons_succ, f2]; rfl) hy
        · -- 7: Op.convert 33 9 (Operand.tmp 43)
          refine step_guard [(6, some 43), (2, some 39)] (fun _ => rfl) 2 39 true rfl rfl ?_ ?_
          · intro w1 vals hC1 hi0 hf hy E hE
            dsimp only at hE ⊢
            clear hi0
            have f2 : vals 2 = .bool true := hf 2 rfl
            have f6 : vals 6 = .slice A 32 c := hf 6 rfl
            try dsimp only at f2 f6
            clear hf
            clear hy
            simp only [puts, act_put, act_put_none, List.setIfInBounds_toArray, List.set_cons_zero, List.set_cons_succ, f2, f6] at hE ⊢
            clear f2 f6
            refine wpList_str_of (l := L) (HRL.out.below hC1.2) Try.underlying33 Try.underlying5 Try.underlying9 rfl rfl (len_eq HM.out.symm _ _) ?_
            go_wp2_with fail
            exact .mk (hE _ _ rfl hC1 rfl)
          · intro w1 vals hC1 hi0 hf hy
            clear hi0
            have f2 : vals 2 = .bool true := hf 2 rfl
            have f6 : vals 6 = .slice A 32 c := hf 6 rfl
            try dsimp only at f2 f6
            clear hf
            exact absurd (by simp only [puts, act_put, act_put_none, List.setIfInBounds_toArray, List.set_cons_zero, List.set_cons_succ, f2]; rfl) hy
        · -- 8: Op.binOp BinOp.eql 9 (Operand.tmp 42) (Operand.tmp 44) 9
          refine step_guard [(5, some 42), (7, some 44), (2, some 39)] (fun _ => rfl) 2 39 true rfl rfl ?_ ?_
          · intro w1 vals hC1 hi0 hf hy E hE
            dsimp only at hE ⊢
            clear hi0
            have f2 : vals 2 = .bool true := hf 2 rfl
            have f5 : vals 5 = .string ⟨L.toArray⟩ := hf 5 rfl
            have f7 : vals 7 = .string ⟨L.toArray⟩ := hf 7 rfl
            try dsimp only at f2 f5 f7
            clear hf
            clear hy
            simp only [puts, act_put, act_put_none, List.setIfInBounds_toArray, List.set_cons_zero, List.set_cons_succ, f2, f5, f7] at hE ⊢
            clear f2 f5 f7
            go_wp2
            exact .mk (hE _ _ rfl hC1 rfl)
          · intro w1 vals hC1 hi0 hf hy
            clear hi0
            have f2 : vals 2 = .bool true := hf 2 rfl
            have f5 : vals 5 = .string ⟨L.toArray⟩ := hf 5 rfl
            have f7 : vals 7 = .string ⟨L.toArray⟩ := hf 7 rfl
            try dsimp only at f2 f5 f7
            clear hf
            exact absurd (by simp only [puts, act_put, act_put_none, List.setIfInBounds_toArray, List.set_cons_zero, List.set_cons_succ, f2]; rfl) hy
        · -- 9: Op.pick (Operand.tmp 39) (Operand.tmp 45) (Operand.const (Value.bool false))
          refine step_plain [(2, some 39), (8, some 45)] (fun _ => rfl) rfl ?_
          intro w1 vals hC1 hi0 hf E hE
          clear hi0
          have f2 : vals 2 = .bool true := hf 2 rfl
          have f8 : vals 8 = .bool true := hf 8 rfl
          try dsimp only at f2 f8
          clear hf
          simp only [puts, act_put, act_put_none, List.setIfInBounds_toArray, List.set_cons_zero, List.set_cons_succ, f2, f8] at hE ⊢
          clear f2 f8
          go_wp2
          exact .mk (hE _ _ rfl hC1 rfl)
        · -- 10: Op.move (Operand.tmp 46)
          refine step_plain [(9, some 46), (4, some 41)] (fun _ => rfl) rfl ?_
          intro w1 vals hC1 hi0 hf E hE
          clear hi0
          have f4 : (RdV 32 (bytesV L)) (vals 4) w1 := hf 4 rfl
          have f9 : vals 9 = .bool true := hf 9 rfl
          try dsimp only at f4 f9
          clear hf
          simp only [puts, act_put, act_put_none, List.setIfInBounds_toArray, List.set_cons_zero, List.set_cons_succ, f9] at hE ⊢
          clear f9
          go_wp2
          exact .mk (hE _ _ rfl hC1 rfl)
        · -- 11: Op.call { callee := Callee.value (Operand.func 13), args := #[], argTypes := #[] }
          refine step_guard [(10, some 47), (10, some 47)] (fun _ => rfl) 10 47 true rfl rfl ?_ ?_
          · intro w1 vals hC1 hi0 hf hy E hE
            dsimp only at hE ⊢
            clear hi0
            have f10 : vals 10 = .bool true := hf 10 rfl
            try dsimp only at f10
            clear hf
            clear hy
            simp only [puts, act_put, act_put_none, List.setIfInBounds_toArray, List.set_cons_zero, List.set_cons_succ, f10] at hE ⊢
            clear f10
            go_wp2_with fail
            refine calls_then (lives_any _) ?_
            rintro e w2 ⟨rfl, hb2⟩
            go_wp2_with fail
            exact .mk (hE _ _ rfl ⟨hC1.1.below hb2 hC1.1.lt, hC1.2.trans (hb2.mono hC1.2.size)⟩ hb2)
          · intro w1 vals hC1 hi0 hf hy
            clear hi0
            have f10 : vals 10 = .bool true := hf 10 rfl
            try dsimp only at f10
            clear hf
            exact absurd (by simp only [puts, act_put, act_put_none, List.setIfInBounds_toArray, List.set_cons_zero, List.set_cons_succ, f10]; rfl) hy
        · -- 12: Op.pick (Operand.tmp 47) (Operand.tmp 48) (Operand.const (Value.bool false))
          refine step_plain [(10, some 47), (11, some 48)] (fun _ => rfl) rfl ?_
          intro w1 vals hC1 hi0 hf E hE
          clear hi0
          have f10 : vals 10 = .bool true := hf 10 rfl
          have f11 : vals 11 = .bool true := hf 11 rfl
          try dsimp only at f10 f11
          clear hf
          simp only [puts, act_put, act_put_none, List.setIfInBounds_toArray, List.set_cons_zero, List.set_cons_succ, f10, f11] at hE ⊢
          clear f10 f11
          go_wp2
          exact .mk (hE _ _ rfl hC1 rfl)
        · -- 13: Op.assign (Operand.tmp 49)
          refine step_plain [(12, some 49), (11, some 48), (0, some 37), (1, some 38), (2, some 39), (3, some 40), (4, some 41), (5, some 42), (6, some 43), (7, some 44), (8, some 45), (9, some 46), (10, some 47), (11, some 48), (12, some 49)] (fun _ => rfl) rfl ?_
          intro w1 vals hC1 hi0 hf E hE
          clear hi0
          have f0 : vals 0 = .int .i64 0 := hf 0 rfl
          have f1 : vals 1 = .bool true := hf 1 rfl
          have f2 : vals 2 = .bool true := hf 2 rfl
          have f3 : vals 3 = .agg (eV X) := hf 3 rfl
          have f4 : (RdV 32 (bytesV L)) (vals 4) w1 := hf 4 rfl
          have f5 : vals 5 = .string ⟨L.toArray⟩ := hf 5 rfl
          have f6 : vals 6 = .slice A 32 c := hf 6 rfl
          have f7 : vals 7 = .string ⟨L.toArray⟩ := hf 7 rfl
          have f8 : vals 8 = .bool true := hf 8 rfl
          have f9 : vals 9 = .bool true := hf 9 rfl
          have f10 : vals 10 = .bool true := hf 10 rfl
          have f11 : vals 11 = .bool true := hf 11 rfl
          have f12 : vals 12 = .bool true := hf 12 rfl
          try dsimp only at f0 f1 f2 f3 f4 f5 f6 f7 f8 f9 f10 f11 f12
          clear hf
          simp only [puts, act_put, act_put_none, List.setIfInBounds_toArray, List.set_cons_zero, List.set_cons_succ, f0, f1, f2, f3, f5, f6, f7, f8, f9, f10, f11, f12] at hE ⊢
          clear f0 f1 f2 f3 f5 f6 f7 f8 f9 f10 f11 f12
          go_wp2
          exact .mk (hE _ _ rfl hC1 rfl)
      intro w1 vals hC1 hf
      have f0 : vals 0 = .int .i64 0 := hf 0 (by decide) rfl
      have f1 : vals 1 = .bool true := hf 1 (by decide) rfl
      have f2 : vals 2 = .bool true := hf 2 (by decide) rfl
      have f3 : vals 3 = .agg (eV X) := hf 3 (by decide) rfl
      have f4 : (RdV 32 (bytesV L)) (vals 4) w1 := hf 4 (by decide) rfl
      have f5 : vals 5 = .string ⟨L.toArray⟩ := hf 5 (by decide) rfl
      have f6 : vals 6 = .slice A 32 c := hf 6 (by decide) rfl
      have f7 : vals 7 = .string ⟨L.toArray⟩ := hf 7 (by decide) rfl
      have f8 : vals 8 = .bool true := hf 8 (by decide) rfl
      have f9 : vals 9 = .bool true := hf 9 (by decide) rfl
      have f10 : vals 10 = .bool true := hf 10 (by decide) rfl
      have f11 : vals 11 = .bool true := hf 11 (by decide) rfl
      have f12 : vals 12 = .bool true := hf 12 (by decide) rfl
      have f13 : vals 13 = .bool true := hf 13 (by decide) rfl
      try dsimp only at f0 f1 f2 f3 f4 f5 f6 f7 f8 f9 f10 f11 f12 f13
      clear hf
      simp only [puts, act_put, act_put_none, List.setIfInBounds_toArray, List.set_cons_zero, List.set_cons_succ, f0, f1, f2, f3, f5, f6, f7, f8, f9, f10, f11, f12, f13]
      clear f0 f1 f2 f3 f5 f6 f7 f8 f9 f10 f11 f12 f13
      generalize vals 4 = x4 at *
      have HST := Lib.hid hC1
      clear hC1
      go_wp2_with fail
      go_ret
      exact ⟨rfl, HST.out.2⟩
    · have hm1 : mayR L = false := decide_eq_false fun h => hmay h.2
      have hX2 : readE L = zE := by rw [readE, hm1]; rfl
      have hf : readF L = 2 := by rw [readF, hm1]; rfl
      have EX := Lib.hid hX2
      have EF := Lib.hid hf
      have HMAY := Lib.hid hmay
      clear hm1 hX2 hf hmay
      go_enter Try.func4, Try.ntmps4
      go_wp2_with fail
      refine calls_then (HCR.out _ (Below.refl _ _)) ?_
      rintro e w1 ⟨rfl, hb1⟩
      rw [EX.out, EF.out]
      have HB1 := Lib.hid hb1
      clear hb1
      go_wp2_with (refine wpList_put_box (x := .tmp 3) (cells := eV zE) (Blk.new _ _ _) rfl rfl rfl rfl elem_size rfl (by simp [eV, wV, limbs, Value.oneCell']) ?_; intro w2 hb2 hw2; have HX2 := Lib.hid hb2; have HB2 := Lib.hid (box_new (cs := eV zE) HB1.out hw2); clear hb2 hw2 HB1)
      refine calls_then (HCD.out _ HB2.out) ?_
      rintro e w3 ⟨A3, c3, rfl, hown3, hb3⟩
      have HV3 := Lib.hid (Rd.of_own hown3 (Nat.le_refl _))
      have HB3 := Lib.hid (HB2.out.trans (hb3.mono HB2.out.size))
      have HX3 := Lib.hid (HX2.out.below hb3 HX2.out.lt)
      clear hown3 hb3 HB2 HX2
      go_wp2_with fail
      refine calls_then (p_any _) ?_
      rintro e w4 ⟨A4, c4, rfl, hc4, hr4, hb4⟩
      have HV4 := Lib.hid ((HV3.out.below hb4).mono hb4.size)
      have HB4 := Lib.hid (HB3.out.trans (hb4.mono HB3.out.size))
      have HX4 := Lib.hid (HX3.out.below hb4 HX3.out.lt)
      have hless := less_any (digs L) pL (digs_lt L) pL_dg A3 A4 c3 c4 w4 HV4.out hr4 (by rw [digs, List.length_map, ← HM.out]; omega) (by rw [pL_len]; omega)
      rw [pL_val, decide_eq_false HMAY.out, show (digs L).length = 32 by rw [digs, List.length_map, ← HM.out]] at hless
      have HLESS := Lib.hid hless
      clear hc4 hr4 hb4 HB3 HX3 HV3 hless
      go_wp2_with fail
      refine calls_then HLESS.out ?_
      rintro e w5 ⟨rfl, rfl⟩
      generalize w1.heap.size = g at *
      go_wp2_with (refine wpList_get_boxg (x := .tmp 3) HX4.out rfl rfl rfl hu rfl elem_size ?_)
      refine calls_then (equal_t zE zE _ zE_ok zE_ok HZ.out) ?_
      rintro e w6 ⟨rfl, hb6⟩
      have HB6 := Lib.hid (HB4.out.trans (hb6.mono HB4.out.size))
      clear hb6 HB4 HX4
      go_wp2_with fail
      refine calls_then (lives_any _) ?_
      rintro e w7 ⟨rfl, hb7⟩
      have HB7 := Lib.hid (HB6.out.trans (hb7.mono HB6.out.size))
      go_wp2_with fail
      go_ret
      exact ⟨rfl, HB7.out⟩
  · have hm1 : mayR L = false := decide_eq_false fun h => h32 (HM.out.trans h.1)
    have hX2 : readE L = zE := by rw [readE, hm1]; rfl
    have hf : readF L = 2 := by rw [readF, hm1]; rfl
    have EX := Lib.hid hX2
    have EF := Lib.hid hf
    by_cases hgt : 40 < n
    · obtain rfl : m = 40 := by omega
      obtain ⟨ad, rfl⟩ : ∃ ad, A = some ad := by
        cases A with
        | none => have := hnil rfl; omega
        | some ad => exact ⟨ad, rfl⟩
      have hgt' : (40 : Int) < (n : Int) := by omega
      clear hnil hmn hgt hm1 hX2 hf h32
      go_enter Try.func4, Try.ntmps4
      go_wp2_with fail
      refine calls_then (HCR.out _ (Below.refl _ _)) ?_
      rintro e w1 ⟨rfl, hb1⟩
      rw [EX.out, EF.out]
      have HB1 := Lib.hid hb1
      clear hb1
      go_wp2_with (first
        | (refine wpList_put_box (x := .tmp 3) (cells := eV zE) (Blk.new _ _ _) rfl rfl rfl rfl elem_size rfl (by simp [eV, wV, limbs, Value.oneCell']) ?_; intro w2 hb2 hw2; have HX2 := Lib.hid hb2; have HB2 := Lib.hid (box_new (cs := eV zE) HB1.out hw2); clear hb2 hw2 HB1)
        | (refine wpList_get_boxg (x := .tmp 3) HX2.out rfl rfl rfl hu rfl elem_size ?_))
      refine calls_then (equal_t zE zE _ zE_ok zE_ok HZ.out) ?_
      rintro e w6 ⟨rfl, hb6⟩
      have HB6 := Lib.hid (HB2.out.trans (hb6.mono HB2.out.size))
      clear hb6 HB2 HX2
      go_wp2_with fail
      refine calls_then (lives_any _) ?_
      rintro e w7 ⟨rfl, hb7⟩
      have HB7 := Lib.hid (HB6.out.trans (hb7.mono HB6.out.size))
      go_wp2_with fail
      go_ret
      exact ⟨rfl, HB7.out⟩
    · obtain rfl : m = n := by omega
      have hgt' : ¬ (40 : Int) < (m : Int) := by omega
      have h32' : ¬ (m : Int) = 32 := by omega
      clear hnil hmn hgt hm1 hX2 hf h32
      go_enter Try.func4, Try.ntmps4
      go_wp2_with fail
      refine calls_then (HCR.out _ (Below.refl _ _)) ?_
      rintro e w1 ⟨rfl, hb1⟩
      rw [EX.out, EF.out]
      have HB1 := Lib.hid hb1
      clear hb1
      go_wp2_with (first
        | (refine wpList_put_box (x := .tmp 3) (cells := eV zE) (Blk.new _ _ _) rfl rfl rfl rfl elem_size rfl (by simp [eV, wV, limbs, Value.oneCell']) ?_; intro w2 hb2 hw2; have HX2 := Lib.hid hb2; have HB2 := Lib.hid (box_new (cs := eV zE) HB1.out hw2); clear hb2 hw2 HB1)
        | (refine wpList_get_boxg (x := .tmp 3) HX2.out rfl rfl rfl hu rfl elem_size ?_))
      refine calls_then (equal_t zE zE _ zE_ok zE_ok HZ.out) ?_
      rintro e w6 ⟨rfl, hb6⟩
      have HB6 := Lib.hid (HB2.out.trans (hb6.mono HB2.out.size))
      clear hb6 HB2 HX2
      go_wp2_with fail
      refine calls_then (lives_any _) ?_
      rintro e w7 ⟨rfl, hb7⟩
      have HB7 := Lib.hid (HB6.out.trans (hb7.mono HB6.out.size))
      go_wp2_with fail
      go_ret
      exact ⟨rfl, HB7.out⟩
end Go.Proofs.Ytngecbnbddoldaa
