/-
  Walks: json's right: whether a value is one.
-/
import Derived.Test.YtcfbnjaelniahaaJod
import Derived.Test.YtcfbnjaelniahaaGrd
import Derived.Deep.DeepCutAuto
namespace Go.Proofs.Ytcfbnjaelniahaa.Js
set_option linter.unusedSimpArgs false
set_option linter.unusedVariables false
open Go.RowKit

theorem jT_size2 : (Try.prog.info? 25).map (·.size) = some 5 := by kernel_rfl
set_option maxRecDepth 100000 in
set_option maxHeartbeats 4000000 in
theorem plain_any (v : JV) (ns : List Bs) (ks : List JT) (hn : v.nn = ns.length) (hk : v.kn = ks.length) (w : World) :
    Calls Try.prog 23 #[.agg (jvCells v)] w fun e w' => e = .returned (.bool (plainJ v.k v.n v.t ns ks)) ∧ Below w.heap.size w w' := by
  obtain ⟨W0, hW0⟩ : ∃ W0, W0 = w.alloc (.cells (jvCells v) 25) := ⟨_, rfl⟩
  have HB0 := Lib.hid (show Below w.heap.size w W0 by rw [hW0]; exact (Below.refl _ w).alloc (Nat.le_refl _) _)
  have hkb : Blk W0 w.heap.size 25 (jvCells v) := by rw [hW0]; exact Blk.new _ _ _
  have HW0 := Lib.hid hW0
  obtain ⟨vk, vn, vt, nA, nn, nc, kA, kn, kc⟩ := v
  dsimp only at *
  have a0 : W0.cell? ⟨w.heap.size, 0, none⟩ = some (.int .i64 vk) := hkb.cell 0
  have a1 : W0.cell? ⟨w.heap.size, 1, none⟩ = some (.int .i64 vn) := hkb.cell 1
  have a2 : W0.cell? ⟨w.heap.size, 2, none⟩ = some (.string (bs vt)) := hkb.cell 2
  have a3 : W0.cell? ⟨w.heap.size, 3, none⟩ = some (.slice nA nn nc) := hkb.cell 3
  have a4 : W0.cell? ⟨w.heap.size, 4, none⟩ = some (.slice kA kn kc) := hkb.cell 4
  have HN := Lib.hid (show ns.isEmpty = decide ((nn : Int) = 0) by rw [hn]; cases ns <;> simp; omega)
  have HK := Lib.hid (show ks.isEmpty = decide ((kn : Int) = 0) by rw [hk]; cases ks <;> simp; omega)
  have HT := Lib.hid (show vt.isEmpty = ((bs vt).toList == []) by rw [bs_toList]; cases vt <;> rfl)
  clear hW0 hkb hn hk
  go_enter Try.func23, Try.ntmps23
  go_upto_region 1 with (fail)
  rw [← HW0.out]
  generalize Value.agg (jvCells ⟨vk, vn, vt, nA, nn, nc, kA, kn, kc⟩) = AV at *
  go_cut [3] (fun x wx => x = .bool (vn == 0 || vk == 2 || (vk == 1 && vn == 1)) ∧ wx = W0)
  case first =>
    go_wp2_with fail
    all_goals (go_meet; exact ⟨by first | rfl | (simp; done) | (simp_all; done) | grind, rfl⟩)
  case rest =>
  obtain ⟨rfl, rfl⟩ := hcut
  generalize hb1 : (vn == 0 || vk == 2 || (vk == 1 && vn == 1)) = b1 at *
  have HB1 := Lib.hid hb1
  clear hb1 a1
  go_upto_region 2 with (fail)
  go_cut [4] (fun x wx => x = .bool (decide ((kn : Int) = 0) || vk == 4 || vk == 5) ∧ wx = wc)
  case first =>
    go_wp2_with fail
    all_goals (go_meet; exact ⟨by first | rfl | (simp; done) | (simp_all; done) | grind, rfl⟩)
  case rest =>
  obtain ⟨rfl, rfl⟩ := hcut
  generalize hb2 : (decide ((kn : Int) = 0) || vk == 4 || vk == 5) = b2 at *
  have HB2 := Lib.hid hb2
  clear hb2 a4
  go_upto_region 3 with (fail)
  go_cut [5] (fun x wx => x = .bool (decide ((nn : Int) = 0) || vk == 5) ∧ wx = wc)
  case first =>
    go_wp2_with fail
    all_goals (go_meet; exact ⟨by first | rfl | (simp; done) | (simp_all; done) | grind, rfl⟩)
  case rest =>
  obtain ⟨rfl, rfl⟩ := hcut
  generalize hb3 : (decide ((nn : Int) = 0) || vk == 5) = b3 at *
  have HP := Lib.hid (show plainJ vk vn vt ns ks = (b1 && b2 && b3 && (vt.isEmpty || vk == 3)) by
    rw [plainJ, HB1.out, HK.out, HB2.out, HN.out, hb3])
  rw [HT.out] at HP
  clear hb3 a3
  cases b1
  · go_wp2_with fail
    all_goals (go_ret; exact ⟨by rw [HP.out]; first | rfl | (simp; done), HB0.out⟩)
  cases b2
  · go_wp2_with fail
    all_goals (go_ret; exact ⟨by rw [HP.out]; first | rfl | (simp; done), HB0.out⟩)
  cases b3
  · go_wp2_with fail
    all_goals (go_ret; exact ⟨by rw [HP.out]; first | rfl | (simp; done), HB0.out⟩)
  have hp : plainJ vk vn vt ns ks = ((bs vt).toList == [] || vk == 3) := by rw [HP.out]; simp
  have HP2 := Lib.hid hp
  clear HP hp
  go_wp2_with fail
  all_goals (go_ret; exact ⟨by rw [HP2.out]; first | rfl | (simp; done) | (simp_all; done) | grind, HB0.out⟩)
end Go.Proofs.Ytcfbnjaelniahaa.Js
