/-
  Walk: the field's Inv.
-/
import Derived.Test.YtbeokfpbhemcfaaFp
namespace Go.Proofs.Ytbeokfpbhemcfaa
set_option linter.unusedSimpArgs false
set_option linter.unusedVariables false
open Go.RowKit

structure I3 (w0 : World) (g r o : Nat) (x z : Array Value) (l : List Nat) (u : World) : Prop where
  bel : Below w0.heap.size w0 u
  x : Blk u g 26 x
  z : Blk u r 26 z
  out : Blk u o 5 (bnV l).toArray
  lg : w0.heap.size ≤ g
  lr : w0.heap.size ≤ r
  lo : w0.heap.size ≤ o
  go : g ≠ o
  ro : r ≠ o
theorem I3.put {w0 u u' : World} {g r o : Nat} {x z : Array Value} {l l' : List Nat} (k : I3 w0 g r o x z l u) (hw : Wrote o u u') (hb : Blk u' o 5 (bnV l').toArray) : I3 w0 g r o x z l' u' :=
  ⟨hw.below k.bel k.lo k.bel.size, hw.blk k.x k.go, hw.blk k.z k.ro, hb, k.lg, k.lr, k.lo, k.go, k.ro⟩
theorem I3.next {w0 u u' : World} {g r o : Nat} {x z : Array Value} {l : List Nat} (k : I3 w0 g r o x z l u) (hb : Below u.heap.size u u') : I3 w0 g r o x z l u' :=
  ⟨k.bel.trans (hb.mono k.bel.size), k.x.below hb k.x.lt, k.z.below hb k.z.lt, k.out.below hb k.out.lt, k.lg, k.lr, k.lo, k.go, k.ro⟩
theorem i3_new (w : World) (x z : Array Value) (l : List Nat) : I3 w w.heap.size (w.heap.size + 1) (w.heap.size + 1 + 1) x z l (((w.alloc (.cells x 26)).alloc (.cells z 26)).alloc (.cells (bnV l).toArray 5)) :=
  ⟨((below_new _ _).alloc (by simp) _).alloc (by simp; try omega) _, ((Blk.new _ _ _).alloc _).alloc _, (Blk.newAt (by simp)).alloc _, Blk.newAt (by simp), Nat.le_refl _, by omega, by omega, by omega, by omega⟩
def fillL (k : Nat) : List Nat := List.replicate k 255 ++ List.replicate (32 - k) 0
theorem fill_set : ∀ k, k < 32 → (fillL k).set k 255 = fillL (k + 1) := by decide
theorem fill_len : ∀ k, k < 33 → (fillL k).length = 32 := by decide
/-- the digits of p - 2 -/
def invL : List Nat := 235 :: (List.replicate 30 255 ++ [127])
theorem fill_end : ((fillL 32).set 0 235).set 31 127 = invL := by decide
def invB : List UInt8 := invL.map UInt8.ofNat
theorem invB_v : bytesV invB = bnV invL := by rfl
theorem invB_l : (invB.take 64).map UInt8.toNat = invL := by decide
theorem invB_len : invB.length = 32 := by decide
def invE (x : E5) : E5 := pwL x invL 32
set_option maxRecDepth 100000 in
set_option maxHeartbeats 2000000 in
theorem inv_any (x : E5) (hx : x.Ok) (w : World) : Calls Try.prog 37 #[.agg (eV x)] w (ElemPost (invE x) w) := by
  have hu := Try.underlying26
  have hmk : ∀ u : World, (Instr.makeSlice 22 (.int .i64 32) (.int .i64 32)).run Try.prog u = .ok (.slice (some ⟨u.heap.size, 0, none⟩) 32 32) (u.alloc (.cells (bnV (fillL 0)).toArray 5)) := fun _ => by kernel_rfl
  have HX := Lib.hid hx
  have hst0 := i3_new w (eV x) (eV zE) (fillL 0)
  have HST0 := Lib.hid hst0
  clear hx hst0
  go_enter Try.func37, Try.ntmps37
  go_wp2_with fail
  generalize ho : w.heap.size + 1 + 1 = o at *
  generalize hr : w.heap.size + 1 = r at *
  generalize hg : w.heap.size = g at *
  have HHO := Lib.hid ho
  have HHR := Lib.hid hr
  have HHG := Lib.hid hg
  clear ho hr hg
  go_loopw [8] (fun i wr => ∃ k : Nat, k ≤ 32 ∧ i = .int .i64 k ∧ I3 w g r o (eV x) (eV zE) (fillL k) wr) (fun i _ => 32 - (intOf i).toNat)
  case atStart => exact ⟨0, by omega, rfl, HST0.out⟩
  case round =>
    clear HST0
    obtain ⟨k, hk, rfl, hst⟩ := hrel
    by_cases hlt : k < 32
    · have hlt' : (k : Int) < 32 := by omega
      have HST := Lib.hid hst
      clear hst
      go_wp2_with (refine wpList_put_cell (x := .tmp 13) (i := k) (v := .int .u8 255) HST.out.out rfl rfl rfl rfl (by kernel_rfl) (by rw [List.size_toArray, bnV, List.length_map, fill_len k (by omega)]; exact hlt) rfl ?_; intro w5 hb5 hw5; have hst5 := HST.out.put (l' := fillL (k + 1)) hw5 (by rw [show (Value.int IntKind.u8 255) = .int .u8 ((255 : Nat) : Int) from rfl, bnV_set, fill_set k hlt] at hb5; exact hb5); have HST5 := Lib.hid hst5; clear hst5 hb5 hw5)
      exact ⟨⟨k + 1, by omega, by go_num, HST5.out⟩, by simp [intOf]; omega⟩
    · obtain rfl : k = 32 := by omega
      have HST := Lib.hid hst
      clear hst
      go_wp2_with (first
        | (refine wpList_put_cell (x := .tmp 17) (i := 0) (v := .int .u8 235) HST.out.out rfl rfl rfl rfl (by kernel_rfl) (by rw [List.size_toArray, bnV, List.length_map, fill_len 32 (by omega)]; decide) rfl ?_; intro w5 hb5 hw5; have hst5 := HST.out.put (l' := (fillL 32).set 0 235) hw5 (by rw [show (Value.int IntKind.u8 235) = .int .u8 ((235 : Nat) : Int) from rfl, bnV_set] at hb5; exact hb5); have HST5 := Lib.hid hst5; clear hst5 hb5 hw5)
        | (refine wpList_put_cell (x := .tmp 18) (i := 31) (v := .int .u8 127) HST5.out.out rfl rfl rfl rfl (by kernel_rfl) (by rw [List.size_toArray, bnV, List.length_map, List.length_set, fill_len 32 (by omega)]; decide) rfl ?_; intro w6 hb6 hw6; have hst6 := HST5.out.put (l' := invL) hw6 (by rw [show (Value.int IntKind.u8 127) = .int .u8 ((127 : Nat) : Int) from rfl, bnV_set, fill_end] at hb6; exact hb6); have HST6 := Lib.hid hst6; clear hst6 hb6 hw6)
        | (refine wpList_get_box (x := .tmp 1) HST6.out.x rfl rfl rfl hu rfl elem_size ?_))
      have hrd : Rd w6 w6.heap.size (some ⟨o, 0, none⟩) (bytesV invB) := by
        rw [invB_v]
        exact Rd.of_blk HST6.out.out HST6.out.out.lt
      have hp := pow_any x HX.out invB (some ⟨o, 0, none⟩) 32 w6 hrd (by rw [invB_len]; omega) (by rw [invB_len]; omega)
      rw [invB_l, invB_len] at hp
      refine calls_then hp ?_
      rintro e w7 ⟨rfl, hb7⟩
      have hst7 := HST6.out.next hb7
      have HST7 := Lib.hid hst7
      clear hst7
      rw [show min 32 64 = 32 from rfl]
      go_wp2_with (refine wpList_put_box (x := .tmp 2) (cells := eV (pwL x invL 32)) HST7.out.z rfl rfl rfl rfl elem_size rfl (by simp [eV, wV, limbs, Value.oneCell']) ?_; intro w8 hb8 hw8)
      refine bodyPost_ret (results_box (P := Try.prog) rfl rfl hb8 hu rfl elem_size) rfl ⟨rfl, ?_⟩
      exact hw8.below HST7.out.bel HST7.out.lr HST7.out.bel.size
end Go.Proofs.Ytbeokfpbhemcfaa
