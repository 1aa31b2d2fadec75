/-
  Walks: the digests as they are called; few; Same; the examples.
-/
import Derived.Test.YtfpbcihpjcocmaaDoorHSum32
import Derived.Test.YtfpbcihpjcocmaaDoorHSum64
import Derived.Test.YtfpbcihpjcocmaaDoorOf64
import Derived.Test.YtfpbcihpjcocmaaDoorSum64
import Derived.Test.YtfpbcihpjcocmaaDoorConv
namespace Go.Proofs.YtfpbcihpjcocmaaDoor
set_option linter.unusedSimpArgs false
set_option linter.unusedVariables false
open Go.RowKit

set_option maxRecDepth 100000 in
theorem p256_any (data : List UInt8) (A : Option Addr) (c B : Nat) (w : World) (hr : Rd w B A (bytesV data)) (hB : B ≤ w.heap.size) (hl : data.length ≤ 1000) (hc : data.length ≤ c) (hcm : c ≤ 9223372036854775807) (hG : TabG w) :
    Calls Tryd.prog 10 #[.slice A data.length c] w (SumPost32 data w) := by
  have hs := sum32_any data A c B w hr hB hl hc hcm hG
  rw [f32C] at hs
  go_enter Tryd.func10, Tryd.ntmps10
  go_wp2_with fail
  refine calls_then hs ?_
  rintro e w' ⟨A2, c2, rfl, ho, hb⟩
  have HO := Lib.hid ho
  have HB := Lib.hid hb
  clear ho hb hs
  go_wp2_with fail
  go_ret
  exact ⟨A2, c2, rfl, HO.out, HB.out⟩
set_option maxRecDepth 100000 in
theorem p512_any (data : List UInt8) (A : Option Addr) (c B : Nat) (w : World) (hr : Rd w B A (bytesV data)) (hB : B ≤ w.heap.size) (hl : data.length ≤ 1000) (hc : data.length ≤ c) (hcm : c ≤ 9223372036854775807) (hG : TabG w) :
    Calls Tryd.prog 13 #[.slice A data.length c] w (SumPost64 data w) := by
  have hs := sum64_any data A c B w hr hB hl hc hcm hG
  rw [f64C] at hs
  go_enter Tryd.func13, Tryd.ntmps13
  go_wp2_with fail
  refine calls_then hs ?_
  rintro e w' ⟨A2, c2, rfl, ho, hb⟩
  have HO := Lib.hid ho
  have HB := Lib.hid hb
  clear ho hb hs
  go_wp2_with fail
  go_ret
  exact ⟨A2, c2, rfl, HO.out, HB.out⟩
set_option maxRecDepth 100000 in
theorem r256_any (data : List UInt8) (A : Option Addr) (c B : Nat) (w : World) (hr : Rd w B A (bytesV data)) (hB : B ≤ w.heap.size) (hl : data.length ≤ 1000) (hc : data.length ≤ c) :
    Calls Tryd.prog 11 #[.slice A data.length c] w (HSumPost F32 32 data w) := by
  have HR := Lib.hid hr
  have hu := Tryd.underlying38
  clear hr
  go_enter Tryd.func11, Tryd.ntmps11
  go_wp2_with fail
  refine calls_then (of32_any w) ?_
  rintro e w1 ⟨p, rfl, hok, hb1⟩
  have HOK := Lib.hid hok
  have HB1 := Lib.hid hb1
  clear hok hb1
  go_wp2_with (first
    | (refine wpList_put_box (x := .tmp 3) (cells := hv F32 p) (Blk.new w1 38 zH) rfl rfl rfl rfl h_size rfl (by simp [hv, hC, Value.oneCell']) ?_; intro w2 hb2 hw2; have HB2 := Lib.hid hb2; have HW2 := Lib.hid hw2; clear hb2 hw2)
    | (refine wpList_get_box (x := .tmp 3) HB2.out rfl rfl rfl hu rfl h_size ?_))
  have hbel : Below w1.heap.size w1 w2 := HW2.out.below (below_new _ _) (Nat.le_refl _) (by simp)
  have hsz : w1.heap.size + 1 = w2.heap.size := by rw [HW2.out.size]; simp
  refine calls_then (hsum32_any p data A c w1.heap.size w2 (HOK.out.below hbel) (((HR.out.mono hB).below HB1.out).mono HB1.out.size |>.below hbel) (by omega) hl hc) ?_
  rintro e w3 ⟨A3, c3, rfl, ho3, hb3⟩
  have HO3 := Lib.hid ho3
  have HB3 := Lib.hid hb3
  have HBEL := Lib.hid hbel
  have HSZ := Lib.hid hsz
  clear ho3 hb3 hbel hsz
  go_wp2_with fail
  go_ret
  exact ⟨A3, c3, rfl, HO3.out.mono (by have := HB1.out.size; have := HSZ.out; omega), HB1.out.trans ((HBEL.out.mono HB1.out.size).trans (HB3.out.mono (by have := HB1.out.size; have := HSZ.out; omega)))⟩
set_option maxRecDepth 100000 in
theorem r512_any (data : List UInt8) (A : Option Addr) (c B : Nat) (w : World) (hr : Rd w B A (bytesV data)) (hB : B ≤ w.heap.size) (hl : data.length ≤ 1000) (hc : data.length ≤ c) :
    Calls Tryd.prog 14 #[.slice A data.length c] w (HSumPost F64 64 data w) := by
  have HR := Lib.hid hr
  have hu := Tryd.underlying38
  clear hr
  go_enter Tryd.func14, Tryd.ntmps14
  go_wp2_with fail
  refine calls_then (of64_any w) ?_
  rintro e w1 ⟨p, rfl, hok, hb1⟩
  have HOK := Lib.hid hok
  have HB1 := Lib.hid hb1
  clear hok hb1
  go_wp2_with (first
    | (refine wpList_put_box (x := .tmp 3) (cells := hv F64 p) (Blk.new w1 38 zH) rfl rfl rfl rfl h_size rfl (by simp [hv, hC, Value.oneCell']) ?_; intro w2 hb2 hw2; have HB2 := Lib.hid hb2; have HW2 := Lib.hid hw2; clear hb2 hw2)
    | (refine wpList_get_box (x := .tmp 3) HB2.out rfl rfl rfl hu rfl h_size ?_))
  have hbel : Below w1.heap.size w1 w2 := HW2.out.below (below_new _ _) (Nat.le_refl _) (by simp)
  have hsz : w1.heap.size + 1 = w2.heap.size := by rw [HW2.out.size]; simp
  refine calls_then (hsum64_any p data A c w1.heap.size w2 (HOK.out.below hbel) (((HR.out.mono hB).below HB1.out).mono HB1.out.size |>.below hbel) (by omega) hl hc) ?_
  rintro e w3 ⟨A3, c3, rfl, ho3, hb3⟩
  have HO3 := Lib.hid ho3
  have HB3 := Lib.hid hb3
  have HBEL := Lib.hid hbel
  have HSZ := Lib.hid hsz
  clear ho3 hb3 hbel hsz
  go_wp2_with fail
  go_ret
  exact ⟨A3, c3, rfl, HO3.out.mono (by have := HB1.out.size; have := HSZ.out; omega), HB1.out.trans ((HBEL.out.mono HB1.out.size).trans (HB3.out.mono (by have := HB1.out.size; have := HSZ.out; omega)))⟩
theorem few_any (l : List UInt8) (A : Option Addr) (c B : Nat) (w : World) (hr : Rd w B A (bytesV l)) (hc : l.length ≤ c) (hcm : c ≤ 9223372036854775807) :
    Calls Tryd.prog 8 #[.slice A l.length c] w fun e w' => e = .returned (.slice A (l.take 400).length c) ∧ w = w' := by
  by_cases h : 400 < l.length
  · obtain ⟨ad, rfl, hz1, hz2⟩ := hr.at_ (k := 0) (by rw [bytesV_length]; omega)
    have hl : (l.take 400).length = 400 := by rw [List.length_take]; omega
    rw [hl]
    have h' : (400 : Int) < (l.length : Int) := by omega
    have h2 : 400 ≤ c := by omega
    clear hl hz1 hz2 hr
    go_enter Tryd.func8, Tryd.ntmps8
    go_wp2
    go_ret
    exact ⟨rfl, rfl⟩
  · have hl : (l.take 400).length = l.length := by rw [List.length_take]; omega
    rw [hl]
    have h' : ¬ (400 : Int) < (l.length : Int) := by omega
    clear hl hr
    go_enter Tryd.func8, Tryd.ntmps8
    go_wp2
    go_ret
    exact ⟨rfl, rfl⟩
theorem same_any (l1 l2 : List UInt8) (A1 A2 : Option Addr) (c1 c2 B1 B2 : Nat) (w : World) (h1 : Rd w B1 A1 (bytesV l1)) (h2 : Rd w B2 A2 (bytesV l2)) :
    Calls Tryd.prog 9 #[.slice A1 l1.length c1, .slice A2 l2.length c2] w fun e w' => e = .returned (.bool (decide (l1 = l2))) ∧ w = w' := by
  have k1 := run_str_of (P := Tryd.prog) Tryd.underlying22 Tryd.underlying5 Tryd.underlying9 h1 c1
  have k2 := run_str_of (P := Tryd.prog) Tryd.underlying22 Tryd.underlying5 Tryd.underlying9 h2 c2
  clear h1 h2
  go_enter Tryd.func9, Tryd.ntmps9
  go_wp2
  go_ret
  refine ⟨ret_bool ?_, rfl⟩
  rw [Bool.eq_iff_iff]
  simp
end Go.Proofs.YtfpbcihpjcocmaaDoor
