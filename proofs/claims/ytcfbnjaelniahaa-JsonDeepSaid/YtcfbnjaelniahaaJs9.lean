/-
  Walks: json's reader: the map of takers.
-/
import Derived.Test.YtcfbnjaelniahaaJs8
import Derived.Test.YtcfbnjaelniahaaJs5
namespace Go.Proofs.Ytcfbnjaelniahaa.Js
set_option linter.unusedSimpArgs false
set_option linter.unusedVariables false
open Go.RowKit

def mF (k : Int) (f : Nat) (b : Nat) : MapEntry := ⟨.int .u8 k, .func (.func f) #[] #[], b⟩
def takersE : Array MapEntry := #[mF 110 47 0, mF 116 49 1, mF 102 50 2, mF 34 51 3, mF 91 53 4, mF 123 53 5]
set_option maxHeartbeats 2000000 in
theorem takers_any (w : World) : Calls Try.prog 36 #[] w fun x w' => x = .returned (.map (some w.heap.size)) ∧ MapB w' w.heap.size takersE ∧ Below w.heap.size w w' := by
  have ht := Try.underlying72
  have hk := Try.underlying5
  have hmm := @run_makeMap Try.prog
  have HB := Lib.hid ((Below.refl w.heap.size w).alloc (Nat.le_refl _) (.map #[] 0))
  have M0 := Lib.hid (MapB.new w)
  go_enter Try.func36, Try.ntmps36
  go_wp2_with (first
    | (refine wpList_insert8 (x := 110) ht hk rfl rfl rfl rfl rfl M0.out rfl ?_; intro w1 m1 g1; have M1 := Lib.hid m1; have G1 := Lib.hid (HB.out.grown g1 HB.out.size (by intro k h; injection h with h; omega)); clear m1 g1)
    | (refine wpList_insert8 (x := 116) ht hk rfl rfl rfl rfl rfl M1.out rfl ?_; intro w2 m2 g2; have M2 := Lib.hid m2; have G2 := Lib.hid (G1.out.grown g2 G1.out.size (by intro k h; injection h with h; omega)); clear m2 g2)
    | (refine wpList_insert8 (x := 102) ht hk rfl rfl rfl rfl rfl M2.out rfl ?_; intro w3 m3 g3; have M3 := Lib.hid m3; have G3 := Lib.hid (G2.out.grown g3 G2.out.size (by intro k h; injection h with h; omega)); clear m3 g3)
    | (refine wpList_insert8 (x := 34) ht hk rfl rfl rfl rfl rfl M3.out rfl ?_; intro w4 m4 g4; have M4 := Lib.hid m4; have G4 := Lib.hid (G3.out.grown g4 G3.out.size (by intro k h; injection h with h; omega)); clear m4 g4)
    | (refine wpList_insert8 (x := 91) ht hk rfl rfl rfl rfl rfl M4.out rfl ?_; intro w5 m5 g5; have M5 := Lib.hid m5; have G5 := Lib.hid (G4.out.grown g5 G4.out.size (by intro k h; injection h with h; omega)); clear m5 g5)
    | (refine wpList_insert8 (x := 123) ht hk rfl rfl rfl rfl rfl M5.out rfl ?_; intro w6 m6 g6; have M6 := Lib.hid m6; have G6 := Lib.hid (G5.out.grown g6 G5.out.size (by intro k h; injection h with h; omega)); clear m6 g6))
  go_ret
  exact ⟨rfl, M6.out, G6.out⟩
end Go.Proofs.Ytcfbnjaelniahaa.Js
