/-
  Walks: the reference's Inv; the law FieldInverse.
-/
import Derived.Test.YtngecbnbddoldaaRw
import Derived.Test.YtngecbnbddoldaaSame
import Derived.Test.YtngecbnbddoldaaPrime
namespace Go.Proofs.Ytngecbnbddoldaa
set_option linter.unusedSimpArgs false
set_option linter.unusedVariables false
open Go.RowKit

theorem box_low {u u' : World} {o : Obj} (hw : Wrote u.heap.size (u.alloc o) u') : Below u.heap.size u u' :=
  hw.below (below_new _ _) (Nat.le_refl _) (by simp)
theorem two_val : leV [2] = 2 := rfl
theorem two_dg : Dg [2] := by unfold Dg; decide
theorem inv_exp : leV (digN 32 (leV pL - leV [2])) = PN - 2 := by rw [pL_val, two_val, digN_val _ _ (by decide)]
set_option maxRecDepth 100000 in
set_option maxHeartbeats 2000000 in
theorem rinv_any (a : List Nat) (ha : Dg a) (A : Option Addr) (c : Nat) (w : World) (hra : Rd w w.heap.size A (dV a)) (hla : a.length ≤ 100000) :
    Calls Try.prog 21 #[.slice A a.length c] w (DigPost (digN 32 (leV a ^ (PN - 2) % PN)) w) := by
  have cM : ∀ u A1 c1 A2 c2, Rd u u.heap.size A1 (dV pL) → Rd u u.heap.size A2 (dV [2]) → Calls Try.prog 36 #[.slice A1 32 c1, .slice A2 1 c2] u (DigPost (digN 32 (leV pL - leV [2])) u) := fun u A1 c1 A2 c2 h1 h2 => by
    have h := minus_any pL [2] pL_dg two_dg (by rw [pL_val, two_val]; decide) A1 A2 c1 c2 u h1 h2 (by rw [pL_len]; decide) (by decide)
    rw [pL_len] at h; exact h
  have cP : ∀ u, Below w.heap.size w u → ∀ A1 c1, Rd u u.heap.size A1 (dV (digN 32 (leV pL - leV [2]))) → Calls Try.prog 26 #[.slice A a.length c, .slice A1 32 c1] u (DigPost (digN 32 (leV a ^ (PN - 2) % PN)) u) := fun u hu A1 c1 h1 => by
    have h := rpow_any a (digN 32 (leV pL - leV [2])) ha (digN_dg _ _) A A1 c c1 u (rd_shape hra hu) h1 hla (by rw [digN_length]; decide)
    rw [inv_exp, digN_length] at h; exact h
  generalize a.length = n at *
  have CM := Lib.hid cM
  have CP := Lib.hid cP
  generalize digN 32 (leV a ^ (PN - 2) % PN) = R at *
  have hmm : (digN 32 (leV pL - leV [2])).length = 32 := digN_length _ _
  generalize digN 32 (leV pL - leV [2]) = E at *
  have HEL := Lib.hid hmm
  clear ha hra hla cM cP hmm
  go_enter Try.func21, Try.ntmps21
  go_wp2_with fail
  refine calls_then (p_any _) ?_
  rintro e w1 ⟨A1, c1, rfl, hc1, hr1, hb1⟩
  have hnew := Blk.new w1 3 (dV [2]).toArray
  have hbn : Below w1.heap.size w1 (w1.alloc (.cells (dV [2]).toArray 3)) := below_new _ _
  have HCM := Lib.hid (CM.out (w1.alloc (.cells (dV [2]).toArray 3)) A1 c1 (some ⟨w1.heap.size, 0, none⟩) 1 (rd_shape hr1 hbn) (Rd.of_blk hnew hnew.lt))
  have HB1 := Lib.hid (hb1.trans (hbn.mono hb1.size))
  clear hc1 hr1 hb1 hnew hbn
  rw [pL_len]
  go_wp2_with fail
  refine calls_then HCM.out ?_
  rintro e w2 ⟨A2, c2, rfl, hc2, hr2, hb2⟩
  rw [HEL.out]
  have HB2 := Lib.hid (HB1.out.trans (hb2.mono HB1.out.size))
  have HCP := Lib.hid (CP.out w2 HB2.out A2 c2 hr2)
  clear hc2 hr2 hb2
  go_wp2_with fail
  refine calls_then HCP.out ?_
  rintro e w3 ⟨A3, c3, rfl, hc3, hr3, hb3⟩
  have HC := Lib.hid hc3
  have HR := Lib.hid hr3
  have HB3 := Lib.hid (HB2.out.trans (hb3.mono HB2.out.size))
  clear hc3 hr3 hb3
  go_wp2_with fail
  go_ret
  exact ⟨A3, c3, rfl, HC.out, HR.out, HB3.out⟩
theorem inv_zero {x : E5} (hx : x.Ok) (h : x.val % PN = 0) : eqB (invE x) zE = true := by
  refine eqB_true (invE_ok hx) zE_ok ?_
  rw [invE_val, Nat.pow_mod, h, Nat.zero_pow (by decide)]
  rfl
theorem inv_one {x : E5} (hx : x.Ok) (h : x.val % PN ≠ 0) : eqB (mulE x (invE x)) (intE 1) = true := by
  refine eqB_true (mul_ok hx (invE_ok hx)) (intE_ok (by decide) (by decide)) ?_
  have h1 : Sm (mulE x (invE x)).val (x.val * x.val ^ (PN - 2)) := (sm_mul _ _).trans ((Sm.refl _).mul (invE_val x))
  have h2 : x.val * x.val ^ (PN - 2) = x.val ^ (PN - 1) := by
    rw [Nat.mul_comm, ← Nat.pow_succ]; rfl
  rw [h2] at h1
  refine h1.trans ?_
  show x.val ^ (PN - 1) % PN = (intE 1).val % PN
  rw [fermatP _ h, show intE 1 = natE 1 from intE_nat 1, natE_val]
  decide
theorem zero_eq {x : E5} (hx : x.Ok) : eqB x zE = decide (x.val % PN = 0) := by
  rw [eqB, eqE hx.big zE_ok.big]
  rfl
structure IV (w0 : World) (g h : Nat) (x y : E5) (A0 : Option Addr) (D : List Nat) (u : World) : Prop where
  bel : Below w0.heap.size w0 u
  x : Blk u g 26 (eV x)
  y : Blk u h 26 (eV y)
  d : Rd u u.heap.size A0 (dV D)
theorem IV.next {w0 u u' : World} {g h : Nat} {x y : E5} {A0 : Option Addr} {D : List Nat} (k : IV w0 g h x y A0 D u) (hb : Below u.heap.size u u') : IV w0 g h x y A0 D u' :=
  ⟨k.bel.trans (hb.mono k.bel.size), k.x.below hb k.x.lt, k.y.below hb k.y.lt, rd_shape k.d hb⟩
theorem IV.drew {w0 u : World} {g h : Nat} {x y : E5} {A0 : Option Addr} {D : List Nat} (k : IV w0 g h x y A0 D u) : IV w0 g h x y A0 D u.drew := ⟨k.bel.drew, k.x, k.y, k.d⟩
set_option maxRecDepth 100000 in
set_option maxHeartbeats 4000000 in
theorem inverse_any (l : List UInt8) (A : Option Addr) (c : Nat) (w : World) (hr : Rd w w.heap.size A (bytesV l)) (hc : l.length ≤ c) :
    Calls Try.prog 5 #[.slice A l.length c] w (BoolPost true w) := by
  have hu := Try.underlying26
  have c1 := of_any l A c w hr hc
  generalize l.length = n at *
  obtain ⟨X, hX⟩ : ∃ X, X = ofE l := ⟨_, rfl⟩
  have hDX : padD l = dgE X := by rw [hX, ofE_dig]
  have okX : X.Ok := by rw [hX]; exact ofE_ok l
  obtain ⟨I, hI⟩ : ∃ I, I = invE X := ⟨_, rfl⟩
  have okI : I.Ok := by rw [hI]; exact invE_ok okX
  have cI : ∀ u, Calls Try.prog 20 #[.agg (eV X)] u (ElemPost I u) := fun u => by rw [hI]; exact inv_any X okX u
  have cXZ : ∀ u, Calls Try.prog 12 #[.agg (eV X), .agg (eV zE)] u (BoolPost (decide (X.val % PN = 0)) u) := fun u => by
    have h := equal_c X zE u okX zE_ok
    rw [zero_eq okX] at h; exact h
  have cIZ : X.val % PN = 0 → ∀ u, Calls Try.prog 12 #[.agg (eV I), .agg (eV zE)] u (BoolPost true u) := fun h0 u => equal_t I zE u okI zE_ok (by rw [hI]; exact inv_zero okX h0)
  have cR : ∀ u A1 c1, Rd u u.heap.size A1 (dV (dgE X)) → Calls Try.prog 21 #[.slice A1 32 c1] u (DigPost (dgE I) u) := fun u A1 c1 h1 => by
    have h := rinv_any (dgE X) (dgE_dg X) A1 c1 u h1 (by rw [dgE_length]; decide)
    have e : leV (dgE X) ^ (PN - 2) % PN = I.val % PN := by rw [dgE_val, ← Nat.pow_mod, hI, invE_val]
    rw [dgE_length, e] at h
    exact h
  have cXI : ∀ u, Calls Try.prog 22 #[.agg (eV X), .agg (eV I)] u (ElemPost (mulE X I) u) := fun u => mul_c X I u okX okI
  have c11 : ∀ u, Calls Try.prog 10 #[.int .i64 1] u (ElemPost (intE 1) u) := fun u => int_any 1 (by decide) (by decide) u
  have cE1 : X.val % PN ≠ 0 → ∀ u, Calls Try.prog 12 #[.agg (eV (mulE X I)), .agg (eV (intE 1))] u (BoolPost true u) := fun h0 u => equal_t _ _ u (mul_ok okX okI) (intE_ok (by decide) (by decide)) (by rw [hI]; exact inv_one okX h0)
  have C1 := Lib.hid c1
  have EX := Lib.hid hX
  have DX := Lib.hid hDX
  have CI := Lib.hid cI
  have CXZ := Lib.hid cXZ
  have CIZ := Lib.hid cIZ
  have CR := Lib.hid cR
  have CXI := Lib.hid cXI
  have C11 := Lib.hid c11
  have CE1 := Lib.hid cE1
  have OKI := Lib.hid okI
  clear hr hc c1 hX hDX okX hI okI cI cXZ cIZ cR cXI c11 cE1
  by_cases h0 : X.val % PN = 0
  · have cxz := CXZ.out
    rw [decide_eq_true h0] at cxz
    have CXZ2 := Lib.hid cxz
    have CIZ2 := Lib.hid (CIZ.out h0)
    clear cxz CXZ CIZ CE1 h0
    go_enter Try.func5, Try.ntmps5
    go_wp2_with fail
    refine calls_then C1.out ?_
    rintro e w1 ⟨v1, rfl, ⟨A0, c0, rfl, hc0, hr0⟩, hb1⟩
    rw [← EX.out]
    rw [DX.out] at hr0
    have HB1 := Lib.hid hb1
    have HR1 := Lib.hid hr0
    have HC0' := Lib.hid hc0
    clear hr0 hb1 hc0
    go_wp2_with (first
      | (refine wpList_put_box (x := .tmp 3) (cells := eV X) (Blk.new _ _ _) rfl rfl rfl rfl elem_size rfl (by simp [eV, wV, limbs, Value.oneCell']) ?_; intro w2 hb2 hw2; have hk2 := box_low hw2; have HX2 := Lib.hid hb2; have HB2 := Lib.hid (HB1.out.trans (hk2.mono HB1.out.size)); have HR2 := Lib.hid (rd_shape HR1.out hk2); clear hb2 hw2 hk2 HR1)
      | (refine wpList_get_box (x := .tmp 3) HX2.out rfl rfl rfl hu rfl elem_size ?_))
    refine calls_then (CI.out _) ?_
    rintro e w3 ⟨rfl, hb3⟩
    have HB3 := Lib.hid (HB2.out.trans (hb3.mono HB2.out.size))
    have HX3 := Lib.hid (HX2.out.below hb3 HX2.out.lt)
    have HR3 := Lib.hid (rd_shape HR2.out hb3)
    clear hb3 HB2 HX2 HR2
    generalize w1.heap.size = g at *
    go_wp2_with (first
      | (refine wpList_put_box (x := .tmp 5) (cells := eV I) (Blk.new _ _ _) rfl rfl rfl rfl elem_size rfl (by simp [eV, wV, limbs, Value.oneCell']) ?_; intro w4 hb4 hw4; have hk4 := box_low hw4; have HST := Lib.hid (IV.mk (HB3.out.trans (hk4.mono HB3.out.size)) (HX3.out.below hk4 HX3.out.lt) hb4 (rd_shape HR3.out hk4)); clear hb4 hw4 hk4 HR3 HX3)
      | (refine wpList_get_box (x := .tmp 3) HST.out.x rfl rfl rfl hu rfl elem_size ?_))
    generalize w3.heap.size = h at *
    refine calls_then (CXZ2.out _) ?_
    rintro e w6 ⟨rfl, hb6⟩
    have HST2 := Lib.hid (HST.out.next hb6)
    clear hb6 HST
    go_wp2_with (refine wpList_get_box (x := .tmp 5) HST2.out.y rfl rfl rfl hu rfl elem_size ?_)
    refine calls_then (CIZ2.out _) ?_
    rintro e w7 ⟨rfl, hb7⟩
    have HST3 := Lib.hid (HST2.out.next hb7)
    clear hb7 HST2
    go_wp2_with fail
    refine calls_then (lives_any _) ?_
    rintro e w8 ⟨rfl, hb8⟩
    have HST4 := Lib.hid (HST3.out.next hb8)
    clear hb8 HST3
    go_wp2_with fail
    go_ret
    exact ⟨rfl, HST4.out.bel⟩
  · have cxz := CXZ.out
    rw [decide_eq_false h0] at cxz
    have CXZ2 := Lib.hid cxz
    have CE2 := Lib.hid (CE1.out h0)
    clear cxz CXZ CIZ CE1 h0
    go_enter Try.func5, Try.ntmps5
    go_wp2_with fail
    refine calls_then C1.out ?_
    rintro e w1 ⟨v1, rfl, ⟨A0, c0, rfl, hc0, hr0⟩, hb1⟩
    rw [← EX.out]
    rw [DX.out] at hr0
    have HB1 := Lib.hid hb1
    have HR1 := Lib.hid hr0
    have HC0' := Lib.hid hc0
    clear hr0 hb1 hc0
    go_wp2_with (first
      | (refine wpList_put_box (x := .tmp 3) (cells := eV X) (Blk.new _ _ _) rfl rfl rfl rfl elem_size rfl (by simp [eV, wV, limbs, Value.oneCell']) ?_; intro w2 hb2 hw2; have hk2 := box_low hw2; have HX2 := Lib.hid hb2; have HB2 := Lib.hid (HB1.out.trans (hk2.mono HB1.out.size)); have HR2 := Lib.hid (rd_shape HR1.out hk2); clear hb2 hw2 hk2 HR1)
      | (refine wpList_get_box (x := .tmp 3) HX2.out rfl rfl rfl hu rfl elem_size ?_))
    refine calls_then (CI.out _) ?_
    rintro e w3 ⟨rfl, hb3⟩
    have HB3 := Lib.hid (HB2.out.trans (hb3.mono HB2.out.size))
    have HX3 := Lib.hid (HX2.out.below hb3 HX2.out.lt)
    have HR3 := Lib.hid (rd_shape HR2.out hb3)
    clear hb3 HB2 HX2 HR2
    generalize w1.heap.size = g at *
    go_wp2_with (first
      | (refine wpList_put_box (x := .tmp 5) (cells := eV I) (Blk.new _ _ _) rfl rfl rfl rfl elem_size rfl (by simp [eV, wV, limbs, Value.oneCell']) ?_; intro w4 hb4 hw4; have hk4 := box_low hw4; have HST := Lib.hid (IV.mk (HB3.out.trans (hk4.mono HB3.out.size)) (HX3.out.below hk4 HX3.out.lt) hb4 (rd_shape HR3.out hk4)); clear hb4 hw4 hk4 HR3 HX3)
      | (refine wpList_get_box (x := .tmp 3) HST.out.x rfl rfl rfl hu rfl elem_size ?_))
    generalize w3.heap.size = h at *
    refine calls_then (CXZ2.out _) ?_
    rintro e w6 ⟨rfl, hb6⟩
    have HST2 := Lib.hid (HST.out.next hb6)
    clear hb6 HST
    go_wp2_with fail
    have HC0 := HST2.out.drew
    clear HST2
    refine wp_region_list (fun u => IV w g h X I A0 (dgE X) u) (fun | false => (fun _ => True) | true => (fun _ => True)) (fun | false, _ => false | true, _ => false)
      [fun z _ => z 0 = .agg (eV I),
       fun z _ => z 1 = .slice A0 32 c0,
       fun z u => (RdV 32 (dV (dgE I))) (z 2) u,
       fun z _ => z 3 = .bool true,
       fun z _ => z 4 = .bool true]
      [Eq, Eq, fun u u' => Below u.heap.size u u', fun u u' => Below u.heap.size u u', Eq]
      (fun _ _ => false) [(0, some 23), (1, some 24), (2, some 25), (3, some 26), (4, some 6)] (by kernel_rfl) (by kernel_rfl) rfl (fun _ => rfl) ?_ ?_ ?_ ?_ ?_ ?_
    · exact HC0
    · intro m; cases m; exact trivial; exact trivial
    · intro m; cases m
      · exact ⟨.inr (fun _ _ h h0 => h ▸ h0), .inr (fun _ _ h h0 => h ▸ h0), .inr (fun _ _ _ h => h), .inr (fun _ _ _ h => h), .inr (fun _ _ h h0 => h ▸ h0), trivial⟩
      · exact ⟨.inr (fun _ _ h h0 => h ▸ h0), .inr (fun _ _ h h0 => h ▸ h0), .inr (fun _ _ _ h => h), .inr (fun _ _ _ h => h), .inr (fun _ _ h h0 => h ▸ h0), trivial⟩
    · exact ⟨⟨.inl rfl, .inr (.inr (.inr (fun _ _ _ _ _ h => h))), .inr (.inr (.inr (fun _ _ _ _ h h0 => by cases h; exact h0))), .inr (.inr (.inl rfl)), .inr (.inr (.inl rfl)), trivial⟩,
        ⟨.inr (.inr (.inr (fun _ _ _ _ _ h => h))), .inl rfl, .inr (.inr (.inl rfl)), .inr (.inr (.inl rfl)), .inr (.inr (.inl rfl)), trivial⟩,
        ⟨.inr (.inr (.inr (fun _ _ _ _ _ h => h))), .inr (.inr (.inr (fun _ _ _ _ _ h => h))), .inl rfl, .inr (.inr (.inl rfl)), .inr (.inr (.inl rfl)), trivial⟩,
        ⟨.inr (.inr (.inr (fun _ _ _ _ _ h => h))), .inr (.inr (.inr (fun _ _ _ _ _ h => h))), .inr (.inr (.inr (fun _ _ _ _ h h0 => h0.next h))), .inl rfl, .inr (.inr (.inl rfl)), trivial⟩,
        ⟨.inr (.inr (.inr (fun _ _ _ _ _ h => h))), .inr (.inr (.inr (fun _ _ _ _ _ h => h))), .inr (.inr (.inr (fun _ _ _ _ h h0 => by cases h; exact h0))), .inr (.inr (.inr (fun _ _ _ _ _ h => h))), .inl rfl, trivial⟩, trivial⟩
    · refine ⟨?_, ?_, ?_, ?_, ?_, trivial⟩
      · -- 0: Op.load 26 (Operand.tmp 5)
        refine step_plain [] (fun _ => rfl) rfl ?_
        intro w1 vals hC1 hi0 hf E hE
        clear hi0
        clear hf
        simp only [puts, act_put, act_put_none, List.setIfInBounds_toArray, List.set_cons_zero, List.set_cons_succ] at hE ⊢
        refine wpList_get_box hC1.y rfl rfl rfl hu rfl elem_size ?_
        go_wp2_with fail
        exact .mk (hE _ _ rfl hC1 rfl)
      · -- 1: Op.move (Operand.tmp 4)
        refine step_plain [] (fun _ => rfl) rfl ?_
        intro w1 vals hC1 hi0 hf E hE
        clear hi0
        clear hf
        simp only [puts, act_put, act_put_none, List.setIfInBounds_toArray, List.set_cons_zero, List.set_cons_succ] at hE ⊢
        go_wp2
        exact .mk (hE _ _ rfl hC1 rfl)
      · -- 2: Op.call { callee := Callee.value (Operand.func 21), args := #[Operand.tmp 24], argTypes := #[28] }
        refine step_plain [(1, some 24)] (fun _ => rfl) rfl ?_
        intro w1 vals hC1 hi0 hf E hE
        clear hi0
        have f1 : vals 1 = .slice A0 32 c0 := hf 1 rfl
        try dsimp only at f1
        clear hf
        simp only [puts, act_put, act_put_none, List.setIfInBounds_toArray, List.set_cons_zero, List.set_cons_succ, f1] at hE ⊢
        clear f1
        go_wp2_with fail
        refine calls_then (CR.out _ _ _ hC1.d) ?_
        rintro e u2 ⟨A2, c2, rfl, hc2, hr2, hb2⟩
        rw [dgE_length] at hc2
        rw [dgE_length]
        go_wp2_with fail
        exact .mk (hE _ _ ⟨A2, c2, rfl, hc2, hr2⟩ (hC1.next hb2) hb2)
      · -- 3: Op.call { callee := Callee.value (Operand.func 9), args := #[Operand.tmp 23, Operand.tmp 25], argTypes := #[26
        refine step_plain [(0, some 23), (2, some 25), (2, some 25)] (fun _ => rfl) rfl ?_
        intro w1 vals hC1 hi0 hf E hE
        clear hi0
        have f0 : vals 0 = .agg (eV I) := hf 0 rfl
        have f2 : (RdV 32 (dV (dgE I))) (vals 2) w1 := hf 2 rfl
        try dsimp only at f0 f2
        clear hf
        obtain ⟨A2, c2, hx2, hc2, hr2⟩ := f2
        simp only [puts, act_put, act_put_none, List.setIfInBounds_toArray, List.set_cons_zero, List.set_cons_succ, f0, hx2] at hE ⊢
        clear f0
        clear hx2
        go_wp2_with fail
        refine calls_then (sum_like OKI.out hr2 hc2) ?_
        rintro e u2 ⟨rfl, hb2⟩
        go_wp2_with fail
        exact .mk (hE _ _ rfl (hC1.next hb2) hb2)
      · -- 4: Op.assign (Operand.tmp 26)
        refine step_plain [(3, some 26), (3, some 26), (0, some 23), (1, some 24), (2, some 25), (3, some 26)] (fun _ => rfl) rfl ?_
        intro w1 vals hC1 hi0 hf E hE
        clear hi0
        have f0 : vals 0 = .agg (eV I) := hf 0 rfl
        have f1 : vals 1 = .slice A0 32 c0 := hf 1 rfl
        have f2 : (RdV 32 (dV (dgE I))) (vals 2) w1 := hf 2 rfl
        have f3 : vals 3 = .bool true := hf 3 rfl
        try dsimp only at f0 f1 f2 f3
        clear hf
        simp only [puts, act_put, act_put_none, List.setIfInBounds_toArray, List.set_cons_zero, List.set_cons_succ, f0, f1, f3] at hE ⊢
        clear f0 f1 f3
        go_wp2
        exact .mk (hE _ _ rfl hC1 rfl)
    intro w1 vals hC1 hf
    have f0 : vals 0 = .agg (eV I) := hf 0 (by decide) rfl
    have f1 : vals 1 = .slice A0 32 c0 := hf 1 (by decide) rfl
    have f2 : (RdV 32 (dV (dgE I))) (vals 2) w1 := hf 2 (by decide) rfl
    have f3 : vals 3 = .bool true := hf 3 (by decide) rfl
    have f4 : vals 4 = .bool true := hf 4 (by decide) rfl
    try dsimp only at f0 f1 f2 f3 f4
    clear hf
    simp only [puts, act_put, act_put_none, List.setIfInBounds_toArray, List.set_cons_zero, List.set_cons_succ, f0, f1, f3, f4]
    clear f0 f1 f3 f4
    generalize vals 2 = x2 at *
    have HST3 := Lib.hid hC1
    clear hC1 HC0 f2
    go_wp2_with (first
      | (refine wpList_get_boxg (x := .tmp 3) HST3.out.x rfl rfl rfl hu rfl elem_size ?_)
      | (refine wpList_get_boxg (x := .tmp 5) HST3.out.y rfl rfl rfl hu rfl elem_size ?_))
    refine calls_then (CXI.out _) ?_
    rintro e w7 ⟨rfl, hb7⟩
    have HST4 := Lib.hid (HST3.out.next hb7)
    clear hb7 HST3
    go_wp2_with fail
    refine calls_then (C11.out _) ?_
    rintro e w8 ⟨rfl, hb8⟩
    have HST5 := Lib.hid (HST4.out.next hb8)
    clear hb8 HST4
    go_wp2_with fail
    refine calls_then (CE2.out _) ?_
    rintro e w9 ⟨rfl, hb9⟩
    have HST6 := Lib.hid (HST5.out.next hb9)
    clear hb9 HST5
    go_wp2_with fail
    refine calls_then (lives_any _) ?_
    rintro e w10 ⟨rfl, hb10⟩
    have HST7 := Lib.hid (HST6.out.next hb10)
    clear hb10 HST6
    go_wp2_with fail
    go_ret
    exact ⟨rfl, HST7.out.bel⟩
end Go.Proofs.Ytngecbnbddoldaa
