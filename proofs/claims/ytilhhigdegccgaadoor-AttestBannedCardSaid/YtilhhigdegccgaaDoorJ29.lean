/-
  Joined texts: Lw2 Lsn Nd2 Sl2 Cp2.
-/
import Derived.Great.Walk
import Derived.Test.YtilhhigdegccgaaDoorJ12
import Derived.Test.YtilhhigdegccgaaDoorJ13
import Derived.Test.YtilhhigdegccgaaDoorJ28
import Derived.Test.YtilhhigdegccgaaDoorJ6
import Derived.Test.YtilhhigdegccgaaDoorJ23
import Derived.Test.YtilhhigdegccgaaDoorJ7
/-
  Walks: brevetlaw20.few, cut, lives.
-/
namespace Go.Proofs.YtilhhigdegccgaaDoor
set_option linter.unusedSimpArgs false
set_option linter.unusedVariables false
open Go.RowKit
set_option maxHeartbeats 2000000 in
theorem few20_any (s : ByteArray) (w : World) : Calls Tryd.prog 12 #[.string s] w fun e w' => e = .returned (.string (few60 s)) ∧ w' = w := by
  go_enter Tryd.func12, Tryd.ntmps12
  by_cases hl : 60 < s.size
  · have hl' : (60 : Int) < (s.size : Int) := by omega
    have hl2 : 60 ≤ s.size := by omega
    have HF := Lib.hid (show few60 s = s.extract 0 60 by rw [few60, if_pos hl])
    clear hl
    go_wp2_with fail
    go_ret
    exact ⟨by rw [HF.out]; rfl, rfl⟩
  · have hl' : ¬ (60 : Int) < (s.size : Int) := by omega
    have HF := Lib.hid (show few60 s = s by rw [few60, if_neg hl])
    clear hl
    go_wp2_with fail
    go_ret
    exact ⟨by rw [HF.out]; rfl, rfl⟩
def zAsk : AskD := ⟨⟨#[]⟩, ⟨#[]⟩, ⟨#[]⟩, 0, 0⟩
def cutA (k : AskD) : AskD := ⟨few60 k.name, few60 k.agent, few60 k.key, k.now, k.ttl⟩
theorem askC_one (k : AskD) : (askC k).all (·.oneCell') = true := by simp [askC, Value.oneCell']
theorem askT_size : (Tryd.prog.info? 24).map (·.size) = some 5 := by kernel_rfl
set_option maxRecDepth 100000 in
set_option maxHeartbeats 4000000 in
theorem cut20_any (k : AskD) (w : World) : Calls Tryd.prog 4 #[.agg (askC k)] w fun e w' => e = .returned (.agg (askC (cutA k))) ∧ Below w.heap.size w w' := by
  have hua := Tryd.underlying24
  obtain ⟨W0, hW0⟩ : ∃ W0, W0 = (w.alloc (.cells (askC k) 24)).alloc (.cells (askC zAsk) 24) := ⟨_, rfl⟩
  have hb0 : Below w.heap.size w W0 := by rw [hW0]; exact ((Below.refl _ w).alloc (Nat.le_refl _) _).alloc (by simp) _
  have HB0 := Lib.hid hb0
  have HK0 := Lib.hid (show Blk W0 w.heap.size 24 (askC k) by rw [hW0]; exact (Blk.new _ _ _).alloc _)
  have HZ0 := Lib.hid (show Blk W0 (w.heap.size + 1) 24 (askC zAsk) by rw [hW0]; have := Blk.new (w.alloc (.cells (askC k) 24)) 24 (askC zAsk); simpa using this)
  have HW0 := Lib.hid hW0
  have HF := Lib.hid few20_any
  obtain ⟨R, hR⟩ : ∃ R, R = askC (cutA k) := ⟨_, rfl⟩
  have HRE := Lib.hid (show R = askC ⟨few60 k.name, few60 k.agent, few60 k.key, k.now, k.ttl⟩ from hR)
  rw [← hR]
  clear hW0 hb0 hR
  go_enter Tryd.func4, Tryd.ntmps4
  go_upto_region 1 with (fail)
  rw [show (w.alloc (.cells (askC k) 24)).alloc (.cells #[.string ⟨#[]⟩, .string ⟨#[]⟩, .string ⟨#[]⟩, .int .i64 0, .int .i64 0] 24) = W0 from HW0.out.symm]
  generalize Value.agg (askC k) = AV
  go_wp2_with fail
  have HC0 : Below W0.heap.size W0 W0.drew := (Below.refl _ _).drew
  apply wp_region_seqh (fun u => Below W0.heap.size W0 u) (fun u u' => Below u.heap.size u u') [_, _, _, _, _, _, _, _, _, _, _, _, _, .agg (askC ⟨few60 k.name, few60 k.agent, few60 k.key, k.now, k.ttl⟩)] (gOf []) 14 (by kernel_rfl) (by kernel_rfl) (by decide) (by kernel_rfl) (stabL_of _ trivial) HC0
  simp only [List.take_succ_cons, List.take_zero, List.drop_succ_cons, List.drop_zero]
  iterate 1
    ((first | (apply SeqG.next; rfl; rfl; rfl)); (simp only [act_put, act_put_none, List.setIfInBounds_toArray, List.set_cons_zero, List.set_cons_succ]; rfl); (intro w1 hC1 hf E hE; go_wp2; exact .mk (hE _ hC1 (Below.refl _ _))))
  apply SeqG.next
  · rfl
  · rfl
  · rfl
  · simp only [act_put, act_put_none, List.setIfInBounds_toArray, List.set_cons_zero, List.set_cons_succ]
    rfl
  · intro w1 hC1 hf E hE
    have d0 : w1.cell? ⟨w.heap.size, 0, none⟩ = some (.string k.name) := (HK0.out.below hC1 HK0.out.lt).cell 0
    go_wp2
    exact .mk (hE _ hC1 (Below.refl _ _))
  apply SeqG.next
  · rfl
  · rfl
  · rfl
  · simp only [act_put, act_put_none, List.setIfInBounds_toArray, List.set_cons_zero, List.set_cons_succ]
    rfl
  · intro w1 hC1 hf E hE
    go_wp2_with fail
    refine calls_then (HF.out _ _) ?_
    rintro e w7 ⟨rfl, rfl⟩
    go_wp2_with fail
    exact .mk (hE _ hC1 (Below.refl _ _))
  iterate 1
    ((first | (apply SeqG.next; rfl; rfl; rfl)); (simp only [act_put, act_put_none, List.setIfInBounds_toArray, List.set_cons_zero, List.set_cons_succ]; rfl); (intro w1 hC1 hf E hE; go_wp2; exact .mk (hE _ hC1 (Below.refl _ _))))
  apply SeqG.next
  · rfl
  · rfl
  · rfl
  · simp only [act_put, act_put_none, List.setIfInBounds_toArray, List.set_cons_zero, List.set_cons_succ]
    rfl
  · intro w1 hC1 hf E hE
    have d0 : w1.cell? ⟨w.heap.size, 1, none⟩ = some (.string k.agent) := (HK0.out.below hC1 HK0.out.lt).cell 1
    go_wp2
    exact .mk (hE _ hC1 (Below.refl _ _))
  apply SeqG.next
  · rfl
  · rfl
  · rfl
  · simp only [act_put, act_put_none, List.setIfInBounds_toArray, List.set_cons_zero, List.set_cons_succ]
    rfl
  · intro w1 hC1 hf E hE
    go_wp2_with fail
    refine calls_then (HF.out _ _) ?_
    rintro e w7 ⟨rfl, rfl⟩
    go_wp2_with fail
    exact .mk (hE _ hC1 (Below.refl _ _))
  iterate 1
    ((first | (apply SeqG.next; rfl; rfl; rfl)); (simp only [act_put, act_put_none, List.setIfInBounds_toArray, List.set_cons_zero, List.set_cons_succ]; rfl); (intro w1 hC1 hf E hE; go_wp2; exact .mk (hE _ hC1 (Below.refl _ _))))
  apply SeqG.next
  · rfl
  · rfl
  · rfl
  · simp only [act_put, act_put_none, List.setIfInBounds_toArray, List.set_cons_zero, List.set_cons_succ]
    rfl
  · intro w1 hC1 hf E hE
    have d0 : w1.cell? ⟨w.heap.size, 2, none⟩ = some (.string k.key) := (HK0.out.below hC1 HK0.out.lt).cell 2
    go_wp2
    exact .mk (hE _ hC1 (Below.refl _ _))
  apply SeqG.next
  · rfl
  · rfl
  · rfl
  · simp only [act_put, act_put_none, List.setIfInBounds_toArray, List.set_cons_zero, List.set_cons_succ]
    rfl
  · intro w1 hC1 hf E hE
    go_wp2_with fail
    refine calls_then (HF.out _ _) ?_
    rintro e w7 ⟨rfl, rfl⟩
    go_wp2_with fail
    exact .mk (hE _ hC1 (Below.refl _ _))
  iterate 1
    ((first | (apply SeqG.next; rfl; rfl; rfl)); (simp only [act_put, act_put_none, List.setIfInBounds_toArray, List.set_cons_zero, List.set_cons_succ]; rfl); (intro w1 hC1 hf E hE; go_wp2; exact .mk (hE _ hC1 (Below.refl _ _))))
  apply SeqG.next
  · rfl
  · rfl
  · rfl
  · simp only [act_put, act_put_none, List.setIfInBounds_toArray, List.set_cons_zero, List.set_cons_succ]
    rfl
  · intro w1 hC1 hf E hE
    have d0 : w1.cell? ⟨w.heap.size, 3, none⟩ = some (.int .i64 k.now) := (HK0.out.below hC1 HK0.out.lt).cell 3
    go_wp2
    exact .mk (hE _ hC1 (Below.refl _ _))
  iterate 1
    ((first | (apply SeqG.next; rfl; rfl; rfl)); (simp only [act_put, act_put_none, List.setIfInBounds_toArray, List.set_cons_zero, List.set_cons_succ]; rfl); (intro w1 hC1 hf E hE; go_wp2; exact .mk (hE _ hC1 (Below.refl _ _))))
  apply SeqG.next
  · rfl
  · rfl
  · rfl
  · simp only [act_put, act_put_none, List.setIfInBounds_toArray, List.set_cons_zero, List.set_cons_succ]
    rfl
  · intro w1 hC1 hf E hE
    have d0 : w1.cell? ⟨w.heap.size, 4, none⟩ = some (.int .i64 k.ttl) := (HK0.out.below hC1 HK0.out.lt).cell 4
    go_wp2
    exact .mk (hE _ hC1 (Below.refl _ _))
  apply SeqG.next
  · rfl
  · rfl
  · rfl
  · simp only [act_put, act_put_none, List.setIfInBounds_toArray, List.set_cons_zero, List.set_cons_succ]
    rfl
  · intro w1 hC1 hf E hE
    refine wpList_build_any (cells := askC ⟨few60 k.name, few60 k.agent, few60 k.key, k.now, k.ttl⟩) rfl _ rfl (by kernel_rfl) ?_
    go_wp2_with fail
    exact .mk (hE _ hC1 (Below.refl _ _))
  refine SeqG.nil ?_
  intro w1 hC1 hf
  clear hf
  refine SeqT.step rfl ?_
  intro E hE
  simp only [act_put, act_put_none, List.setIfInBounds_toArray, List.set_cons_zero, List.set_cons_succ] at hE
  have HBC := Lib.hid hC1
  refine wpList_put_box (cells := askC ⟨few60 k.name, few60 k.agent, few60 k.key, k.now, k.ttl⟩) (HZ0.out.below hC1 HZ0.out.lt) rfl rfl rfl rfl askT_size rfl (askC_one _) ?_
  intro w9 hb9 hw9
  have HB9 := Lib.hid hb9
  have HW9 := Lib.hid hw9
  clear hb9 hw9
  go_wp2_with fail
  refine .mk (hE undef _ ?_)
  clear hE E
  refine SeqT.nil ?_
  have HF9 := Lib.hid (HW9.out.below (HB0.out.trans (HBC.out.mono HB0.out.size)) (by omega) (HB0.out.trans (HBC.out.mono HB0.out.size)).size)
  clear hC1 HC0
  go_wp2_with fail
  refine bodyPost_ret (results_box (P := Tryd.prog) rfl rfl HB9.out hua rfl askT_size) rfl ?_
  exact ⟨by rw [HRE.out], HF9.out⟩
theorem row_one {w : World} {g : Nat} {s : ByteArray} (h : Blk w g 9 #[.string s]) : Row w w.heap.size 9 (some ⟨g, 0, none⟩) (rowsV strCell [s]) := fun i u hu => by
  match i with
  | 0 =>
    have e : u = .string s := by simpa [rowsV, strCell] using hu.symm
    subst e
    exact ⟨⟨g, 0, none⟩, _, _, rfl, h.lt, h.cell 0, h⟩
  | i + 1 => simp [rowsV, strCell] at hu
def exD (g : Nat) (a : ByteArray) : LedD := { zLed with bans := ⟨some ⟨g, 0, none⟩, 1, [a]⟩ }
theorem exD_ok {w : World} {g : Nat} {a : ByteArray} (h : Blk w g 9 #[.string a]) : LedOk w 900 (exD g a) := by
  have z := (zLed_ok w).more (K' := 900) (by omega)
  exact ⟨z.ents, z.nodes, ⟨row_one h, by show 1 ≤ 900; omega, Nat.le_refl _⟩, z.joins, z.keys, z.buns, z.entOk, z.bunOk⟩
theorem exD_good (g : Nat) (a : ByteArray) (now : Int) : goodX (exD g a) a now = (zNd, 21) := by
  rw [goodX, if_pos]
  show hasB [a] a = true
  simp [hasB]
theorem led_none : Tryd.prog.built 33 [] = some (ledCells zLed) := by kernel_rfl
theorem led_bans (g : Nat) (a : ByteArray) : Tryd.prog.built 33 [(2, .slice (some ⟨g, 0, none⟩) 1 1)] = some (ledCells (exD g a)) := by kernel_rfl
set_option maxRecDepth 100000 in
set_option maxHeartbeats 4000000 in
theorem lives20_any (w : World) : Calls Tryd.prog 11 #[] w fun e w' => e = .returned (.bool true) ∧ Below w.heap.size w w' := by
  have hus := Tryd.underlying28
  obtain ⟨ag, hag⟩ : ∃ a : ByteArray, a = ⟨#[47, 97, 103, 101, 110, 116, 47, 97]⟩ := ⟨_, rfl⟩
  have HJ := Lib.hid (show ∀ tok key u, Calls Tryd.prog 6 #[.agg (ledCells zLed), .string tok, .string ag, .string key, .int .i64 1, .int .i64 1] u (fun e w' => e = .returned (.tuple #[.agg (opN 0 0 ⟨#[]⟩ zNo), .int .i64 7]) ∧ Below u.heap.size u w') from
    fun tok key u => ajoin_any zLed tok ag key 1 1 u ((zLed_ok u).more (by omega)))
  have HG := Lib.hid (show ∀ g u, Blk u g 9 #[.string ag] → Calls Tryd.prog 10 #[.agg (ledCells (exD g ag)), .string ag, .int .i64 1] u (fun e w' => e = .returned (.tuple #[.agg (nodeCells zNd), .int .i64 21]) ∧ Below u.heap.size u w') from
    fun g u h => (agood_any (exD g ag) ag 1 u (exD_ok h)).mono fun e w' h2 => by
      obtain ⟨h2, h3⟩ := h2
      rw [exD_good] at h2
      exact ⟨h2, h3⟩)
  rw [show ag = ⟨#[47, 97, 103, 101, 110, 116, 47, 97]⟩ from hag] at HJ HG
  have HAG := Lib.hid hag
  clear hag
  go_enter Tryd.func11, Tryd.ntmps11
  go_wp2_with (refine wpList_build_any (cells := ledCells zLed) rfl #[] rfl led_none ?_)
  refine calls_then (HJ.out _ _ _) ?_
  rintro e w1 ⟨rfl, hb1⟩
  have HB1 := Lib.hid hb1
  clear hb1
  go_upto_region 2 with (refine wpList_put_box (cells := opN 0 0 ⟨#[]⟩ zNo) (Blk.new _ _ _) rfl rfl rfl rfl opQ2_size rfl (opN_one _ _ _ _) ?_; intro w2 hb2 hw2)
  have hbw2 : Below w1.heap.size w1 w2 := box_low9 hw2
  have HB2 := Lib.hid (HB1.out.trans (hbw2.mono HB1.out.size))
  clear hb2 hw2 hbw2
  obtain ⟨W3, hW3⟩ : ∃ W, W = w2.alloc (.cells #[.string ⟨#[47, 97, 103, 101, 110, 116, 47, 97]⟩] 9) := ⟨_, rfl⟩
  have HK3 := Lib.hid (show Blk W3 w2.heap.size 9 #[.string ⟨#[47, 97, 103, 101, 110, 116, 47, 97]⟩] by rw [hW3]; exact Blk.new _ _ _)
  have HB3 := Lib.hid (show Below w.heap.size w W3 by rw [hW3]; exact HB2.out.alloc HB2.out.size _)
  have HW3 := Lib.hid hW3
  clear hW3
  go_wp2_with (first
    | (refine Great.wpList_buildSliceTo rfl _ _ 1 _ rfl _ rfl _ rfl hus #[.string ⟨#[47, 97, 103, 101, 110, 116, 47, 97]⟩] (by kernel_rfl) ?_; rw [show w2.alloc (.cells #[.string ⟨#[47, 97, 103, 101, 110, 116, 47, 97]⟩] 9) = W3 from HW3.out.symm])
    | (refine wpList_build_any (cells := ledCells (exD w2.heap.size ⟨#[47, 97, 103, 101, 110, 116, 47, 97]⟩)) rfl _ rfl (by kernel_rfl) ?_))
  refine calls_then (HG.out _ _ HK3.out) ?_
  rintro e w4 ⟨rfl, hb4⟩
  have HB4 := Lib.hid (HB3.out.trans (hb4.mono HB3.out.size))
  clear hb4
  go_upto_region 3 with (refine wpList_put_box (cells := nodeCells zNd) (Blk.new _ _ _) rfl rfl rfl rfl nodeT_size rfl (nodeCells_one _) ?_; intro w5 hb5 hw5)
  have hbw5 : Below w4.heap.size w4 w5 := box_low9 hw5
  have HB5 := Lib.hid (HB4.out.trans (hbw5.mono HB4.out.size))
  clear hb5 hw5 hbw5
  go_wp2_with fail
  go_ret
  exact ⟨rfl, HB5.out⟩
end Go.Proofs.YtilhhigdegccgaaDoor
/-
  Walk: brevetref15.nodes (a list with one in its place, or more). (Printed by gen/lst20.py.)
-/
namespace Go.Proofs.YtilhhigdegccgaaDoor
set_option linter.unusedSimpArgs false
set_option linter.unusedVariables false
open Go.RowKit
def ListPost {α : Type} (t : TypeId) (m : Nat) (f : α → Array Value) (l : List α) (z : α) (w : World) (e : Ending) (w' : World) : Prop :=
  ∃ A c, ∃ xs : List α, e = .returned (.slice A xs.length c) ∧ xs.length ≤ l.length + 1 ∧ (∀ x ∈ xs, x ∈ l ∨ x = z) ∧ OwnR w' w.heap.size t m A c xs.length (rowsV f xs) ∧ Below w.heap.size w w'
end Go.Proofs.YtilhhigdegccgaaDoor
/-
  Walks: brevetref15.hasNode, putNode.
-/
namespace Go.Proofs.YtilhhigdegccgaaDoor
set_option linter.unusedSimpArgs false
set_option linter.unusedVariables false
open Go.RowKit
def ixN (l : List NodeD) (s : ByteArray) : Nat := (l.takeWhile fun x => !(x.name.toList == s.toList)).length
def atN (l : List NodeD) (s : ByteArray) : Int := if ixN l s < l.length then (ixN l s : Int) else -1
theorem atN_or (l : List NodeD) (s : ByteArray) : atN l s = -1 ∨ ∃ i : Nat, i < l.length ∧ atN l s = (i : Int) := by
  unfold atN
  split
  · rename_i h
    exact .inr ⟨_, h, rfl⟩
  · exact .inl rfl
theorem ixN_eq {l : List NodeD} {s : ByteArray} {i : Nat} (h0 : ∀ x ∈ l.take i, (x.name.toList == s.toList) = false) (h : i < l.length) (h1 : ((l[i]).name.toList == s.toList) = true) : ixN l s = i := by
  have e : l = l.take i ++ l[i] :: l.drop (i + 1) := by rw [← List.drop_eq_getElem_cons h, List.take_append_drop]
  have e2 : l.takeWhile (fun x => !(x.name.toList == s.toList)) = l.take i := by
    conv => lhs; rw [e]
    rw [List.takeWhile_append_of_pos (by intro x hx; simp only [h0 x hx]; rfl), List.takeWhile_cons, h1]
    simp
  rw [ixN, e2, List.length_take]
  omega
theorem ixN_all {l : List NodeD} {s : ByteArray} (h0 : ∀ x ∈ l, (x.name.toList == s.toList) = false) : ixN l s = l.length := by
  have := List.takeWhile_append_of_pos (p := fun x : NodeD => !(x.name.toList == s.toList)) (l₁ := l) (l₂ := []) (by intro x hx; simp only [h0 x hx]; rfl)
  rw [ixN]
  simp only [List.append_nil, List.takeWhile_nil] at this
  rw [this]
set_option maxRecDepth 100000 in
set_option maxHeartbeats 2000000 in
theorem hasNode_any (l : List NodeD) (s : ByteArray) (A : Option Addr) (c B : Nat) (w : World) (hr : Rd w B A (rowsV nodeCells l)) (hl : l.length ≤ 1000) :
    Calls Tryd.prog 59 #[.slice A l.length c, .string s] w fun e w' => e = .returned (.int .i64 (atN l s)) ∧ w' = w := by
  obtain ⟨n, hn⟩ : ∃ n, n = l.length := ⟨_, rfl⟩
  have HN := Lib.hid hn
  have hnl : (n : Int) ≤ 1000 := by omega
  rw [← hn]
  have HR := Lib.hid hr
  obtain ⟨z, hz⟩ : ∃ z, z = atN l s := ⟨_, rfl⟩
  rw [← hz]
  have HZ := Lib.hid hz
  clear hr hl hn hz
  go_enter Tryd.func59, Tryd.ntmps59
  go_wp2_with fail
  go_loopw [5] (fun x wr => ∃ i : Nat, i ≤ n ∧ x = .int .i64 (i : Int) ∧ (∀ k ∈ l.take i, (k.name.toList == s.toList) = false) ∧ wr = w) (fun x _ => n - (intOf x).toNat)
  case atStart => exact ⟨0, Nat.zero_le _, rfl, by simp, rfl⟩
  case round =>
    obtain ⟨i, hi, rfl, hok, rfl⟩ := hrel
    have HOK := Lib.hid hok
    clear hok
    by_cases hlt : i < n
    · have hil : i < l.length := by rw [← HN.out]; exact hlt
      have hlt' : (i : Int) < (n : Int) := by omega
      have hi0 : (0 : Int) ≤ (i : Int) := by omega
      obtain ⟨ad, hA, -, hcell⟩ := rd_rows (f := nodeCells) (m := 5) (fun _ => rfl) (by decide) HR.out hil
      subst hA
      obtain ⟨X, hX⟩ : ∃ X, X = l[i] := ⟨_, rfl⟩
      rw [← hX] at hcell
      have d0 : wr.cell? (ad.add (i * 5)) = some (.string X.name) := hcell 0 _ rfl
      have HLT := Lib.hid hlt
      obtain ⟨q, hq⟩ : ∃ q, (X.name.toList == s.toList) = q := ⟨_, rfl⟩
      cases q with
      | true =>
        have HP := Lib.hid (show z = (i : Int) by rw [HZ.out, atN, ixN_eq HOK.out hil (by rw [← hX]; exact hq), if_pos hil])
        clear hX hcell hil hlt
        go_wp2_with fail
        go_ret
        exact ⟨by rw [HP.out]; rfl, rfl⟩
      | false =>
        have HP := Lib.hid (show ∀ k ∈ l.take (i + 1), (k.name.toList == s.toList) = false from fun k hk => by
          rw [List.take_succ_eq_append_getElem hil, List.mem_append] at hk
          rcases hk with hk | hk
          · exact HOK.out k hk
          · have e : k = X := by rw [hX]; simpa using hk
            rw [e]
            exact hq)
        clear hX hcell hil hlt
        go_wp2_with fail
        go_roundw
        case rel => exact ⟨i + 1, HLT.out, by go_num, HP.out, by trivial⟩
        case measure => have := HLT.out; simp [intOf]; omega
    · obtain rfl : i = n := by omega
      have HP := Lib.hid (show z = -1 by
        have h0 : l.take i = l := List.take_of_length_le (by rw [← HN.out]; exact Nat.le_refl _)
        have h := HOK.out
        rw [h0] at h
        rw [HZ.out, atN, ixN_all h, if_neg (by omega)])
      clear hlt
      go_wp2_with fail
      go_ret
      exact ⟨by rw [HP.out]; rfl, rfl⟩
theorem ledT2_size : (Tryd.prog.info? 33).map (·.size) = some 6 := by kernel_rfl
theorem LW.nodes_put {u u' : World} {base g K : Nat} {d : LedD} {s : Sl NodeD} (h : LW u base g K d) (hs : s.Own u base 40 5 nodeCells K) (hw : Wrote g u u') (hb : Blk u' g 33 ((ledCells d).setIfInBounds 1 s.v)) : LW u' base g K { d with nodes := s } :=
  LW.put h.box h.hg (h.ll.setNodes hs) hw hb
def NdPost (d : LedD) (base g K : Nat) (w : World) (e : Ending) (w' : World) : Prop := ∃ (s : Sl NodeD) (f : Int), e = .returned (.int .i64 f) ∧ LW w' base g (K + 1) { d with nodes := s } ∧ Below base w w'
theorem NdPost.no {base g K : Nat} {d : LedD} {w u : World} (h : LW u base g K d) (hb : Below base w u) (f : Int) : NdPost d base g K w (.returned (.int .i64 f)) u := ⟨d.nodes, f, rfl, h.more (Nat.le_succ _), hb⟩
theorem NdPost.post {base g K : Nat} {d : LedD} {w w' : World} {e : Ending} (h : NdPost d base g K w e w') : DoPost base g K w e w' := by
  obtain ⟨s, f, h1, h2, h3⟩ := h
  exact ⟨_, f, h1, h2, h3⟩
end Go.Proofs.YtilhhigdegccgaaDoor
/-
  Laws: a slice of a slice, by an equation; fields of a key's row; a row without one of its elements.
-/
namespace Go.Proofs.YtilhhigdegccgaaDoor
set_option linter.unusedSimpArgs false
set_option linter.unusedVariables false
open Go.RowKit
section
variable {P : Program}
theorem wpList_slice_k {w : World} {ops : Array Oper} {rest : List Oper} {o : Oper} {a : Act} {Q : Exit → Act → World → Prop} {t : TypeId} {x : Operand} {lo hi mx : Option Operand} {r : Value}
    (hgd : o.guard = none) (ho : o.op = .slice t x lo hi mx) (hr : (Instr.sliceAt t (a.eval x) (lo.map a.eval) (hi.map a.eval) (mx.map a.eval)).run P w = .ok r w) (h : wpList P ops Q rest (a.put o.dst r) w) : wpList P ops Q (o :: rest) a w := by
  refine wpList_plain hgd fun K hK => ?_
  unfold Oper.wp execOp
  simp only [ho, Sem.run_bind, Sem.run_pure, Result.andThen_ok, hr]
  exact hK _ _ h
def cutM (m : Nat) (A : Option Addr) (c k : Nat) : Option Addr := if c = k then A else A.map (·.add (k * m))
theorem add_zero_r (a : Addr) : a.add 0 = a := by unfold Addr.add; simp
theorem add_add_r (a : Addr) (i j : Nat) : (a.add i).add j = a.add (i + j) := by
  unfold Addr.add
  by_cases h1 : i = 0 <;> by_cases h2 : j = 0 <;> simp [h1, h2, Nat.add_assoc]
theorem slice_h_r {t : TypeId} {m : Nat} (hu : P.underlying t = some (.slice (P.elem t))) (hs : ∀ w, (sizeOf (P.elem t)).run P w = .ok m w) (A : Option Addr) (L c k : Nat) (hk : k ≤ c) (w : World) : (Instr.sliceAt t (.slice A L c) none (some (.int .i64 (k : Int))) none).run P w = .ok (.slice A k c) w := by
  have h := run_slice_h (P := P) w t A L c hu .i64 (k : Int) (by omega) (by omega)
  rw [run_sliceAt_slice w _ _ _ _ _ hu, h, hs]
  simp only [Result.andThen_ok, sliced, Int.toNat_natCast, Nat.zero_mul, Nat.sub_zero]
  by_cases h0 : c = 0
  · rw [if_pos h0]
  · rw [if_neg h0]
    cases A with
    | none => rfl
    | some a => rw [show Option.map (fun x : Addr => x.add 0) (some a) = some (a.add 0) from rfl, add_zero_r]
theorem slice_l_r {t : TypeId} {m : Nat} (hu : P.underlying t = some (.slice (P.elem t))) (hs : ∀ w, (sizeOf (P.elem t)).run P w = .ok m w) (A : Option Addr) (L c k : Nat) (hk : k ≤ L) (w : World) : (Instr.sliceAt t (.slice A L c) (some (.int .i64 (k : Int))) none none).run P w = .ok (.slice (cutM m A c k) (L - k) (c - k)) w := by
  have h := run_slice_l (P := P) w t A L c hu .i64 (k : Int) (by omega) (by omega)
  rw [run_sliceAt_slice w _ _ _ _ _ hu, h, hs]
  simp only [Result.andThen_ok, sliced, Int.toNat_natCast, cutM]
end
section
variable {α : Type} {f : α → Array Value} {m : Nat} {w : World} {B : Nat} {A : Option Addr} {c : Nat} {l : List α}
theorem rd_take_r (hf : ∀ x, (f x).size = m) (h : Rd w B A (rowsV f l)) (k : Nat) : Rd w B A (rowsV f (l.take k)) := fun j v hv => by
  rw [rowsV_take hf l k] at hv
  rw [List.getElem?_take] at hv
  split at hv
  · exact h j v hv
  · simp at hv
theorem rd_drop_r (hf : ∀ x, (f x).size = m) (h : Rd w B A (rowsV f l)) (hc : l.length ≤ c) {k : Nat} (hk : k ≤ l.length) : Rd w B (cutM m A c k) (rowsV f (l.drop k)) := fun j v hv => by
  have hkl : k ≠ c := fun he => by
    have : l.drop k = [] := List.drop_of_length_le (by omega)
    rw [this] at hv
    simp [rowsV] at hv
  rw [rowsV_drop hf l k, List.getElem?_drop] at hv
  obtain ⟨ad, h1, h2, h3⟩ := h _ v hv
  refine ⟨ad.add (k * m), ?_, by rw [block_of_add]; exact h2, by rw [add_add_r]; exact h3⟩
  rw [cutM, if_neg (fun he => hkl he.symm), h1]
  rfl
end
theorem und_keys : Tryd.prog.underlying 30 = some (.slice (Tryd.prog.elem 30)) := by kernel_rfl
theorem size_keys (w : World) : (sizeOf (Tryd.prog.elem 30)).run Tryd.prog w = .ok 4 w := by kernel_rfl
theorem und_ents : Tryd.prog.underlying 26 = some (.slice (Tryd.prog.elem 26)) := by kernel_rfl
theorem size_ents (w : World) : (sizeOf (Tryd.prog.elem 26)).run Tryd.prog w = .ok 5 w := by kernel_rfl
def Zok (n : Nat) (z : Int) : Prop := z = -1 ∨ ∃ j : Nat, j < n ∧ z = (j : Int)
theorem Zok.nat {n : Nat} {z : Int} (h : Zok n z) (h0 : ¬ z < 0) : ∃ j : Nat, j < n ∧ z = (j : Int) := by
  rcases h with h | h
  · omega
  · exact h
structure KW (u : World) (base g K : Nat) (d : LedD) (lk s : Sl SkeyD) : Prop where
  lw : LW u base g K { d with keys := s }
  hA : s.A = lk.A
  hc : s.c = lk.c
  hn : s.l.length = lk.l.length
section
variable {u u' : World} {base g K : Nat} {d : LedD} {lk s : Sl SkeyD}
theorem KW.below (h : KW u base g K d lk s) (hb : Below u.heap.size u u') : KW u' base g K d lk s := ⟨h.lw.below hb, h.hA, h.hc, h.hn⟩
theorem KW.cell (h : KW u base g K d lk s) : u.cell? ⟨g, 4, none⟩ = some (.slice lk.A lk.l.length lk.c) := by
  have := h.lw.box.cell 4
  rw [← h.hA, ← h.hc, ← h.hn]
  exact this
theorem KW.put (h : KW u base g K d lk s) {i : Nat} (hi : i < lk.l.length) {j : Nat} (hj : j < 4) (v : Value) (f : SkeyD → SkeyD) (hf : ∀ x, skeyCells (f x) = (skeyCells x).setIfInBounds j v) :
    ∃ ad cur, lk.A = some ad ∧ base ≤ (ad.add (i * 4)).block ∧ Blk u (ad.add (i * 4)).block 42 cur ∧ (ad.add (i * 4)).off + j < cur.size ∧
      ∀ u', Blk u' (ad.add (i * 4)).block 42 (cur.setIfInBounds ((ad.add (i * 4)).off + j) v) → Wrote (ad.add (i * 4)).block u u' → ∃ s', KW u' base g K d lk s' := by
  have hi' : i < s.l.length := by rw [h.hn]; exact hi
  obtain ⟨ad, cur, hA, hbase, hblt, hblk, hoff, hput⟩ := ownR_ad_r (f := skeyCells) (m := 4) (fun _ => rfl) h.lw.ll.keys.own hi' hj
  refine ⟨ad, cur, by rw [← h.hA]; exact hA, hbase, hblk, hoff, fun u' hb hw => ⟨⟨s.A, s.c, s.l.set i (f s.l[i])⟩, ⟨?_, h.lw.hg, ?_⟩, h.hA, h.hc, by show (s.l.set i _).length = _; rw [List.length_set]; exact h.hn⟩⟩
  · have h1 := h.lw.box.keep (KeepBut.of_wrote hw hblk) (by decide)
    unfold ledCells at h1 ⊢
    have e : (⟨s.A, s.c, s.l.set i (f s.l[i])⟩ : Sl SkeyD).v = s.v := by
      show Value.slice s.A (s.l.set i _).length s.c = _
      rw [List.length_set]
      rfl
    dsimp only at h1 ⊢
    rw [e]
    exact h1
  · refine LL.keepK (d := { d with keys := s }) h.lw.ll (KeepBut.of_wrote hw hblk) ⟨?_, ?_⟩
    · have h2 := hput v (f s.l[i]) u' (hf _) hb
      show OwnR u' base _ 4 s.A s.c (s.l.set i _).length _
      rw [List.length_set]
      exact h2
    · show (s.l.set i _).length ≤ K
      rw [List.length_set]
      exact h.lw.ll.keys.len
end
theorem LW.key_add {u u' v : World} {base g K : Nat} {d : LedD} {k : SkeyD} {A' : Option Addr} {c' : Nat} (h : LW u base g K d) (ho : OwnR u' base 42 4 A' c' (d.keys.l.length + 1) (rowsV skeyCells d.keys.l ++ (skeyCells k).toList))
    (hg : u.grownBy u' (Value.slice d.keys.A d.keys.l.length d.keys.c).ownBlock) (hw : Wrote g u' v) (hb : Blk v g 33 ((ledCells d).setIfInBounds 4 (.slice A' (d.keys.l.length + 1) c'))) : LW v base g (K + 1) { d with keys := ⟨A', c', d.keys.l ++ [k]⟩ } := by
  have hk := keepBut_grown h.ll.keys.own hg
  have hl : LL u' base (K + 1) { d with keys := ⟨A', c', d.keys.l ++ [k]⟩ } := (h.ll.more (Nat.le_succ K)).keepK hk ⟨by
    rw [rowsV_append, rowsV_one, List.length_append]
    exact ho, by have := h.ll.keys.len; show (d.keys.l ++ [k]).length ≤ K + 1; rw [List.length_append, List.length_singleton]; omega⟩
  refine LW.put (h.box.keep hk (by decide)) h.hg hl hw ?_
  unfold ledCells
  have e : (⟨A', c', d.keys.l ++ [k]⟩ : Sl SkeyD).v = .slice A' (d.keys.l.length + 1) c' := by
    show Value.slice A' (d.keys.l ++ [k]).length c' = _
    rw [List.length_append]
    rfl
  rw [e]
  exact hb
theorem LW.keys_put {u u' v : World} {base g K : Nat} {d : LedD} {s : Sl SkeyD} (h : LW u base g K d) (hk : KeepBut 42 u u') (hs : s.Own u' base 42 4 skeyCells K) (hw : Wrote g u' v) (hb : Blk v g 33 ((ledCells d).setIfInBounds 4 s.v)) : LW v base g K { d with keys := s } :=
  LW.put (h.box.keep hk (by decide)) h.hg (h.ll.keepK hk hs) hw hb
end Go.Proofs.YtilhhigdegccgaaDoor
/-
  Walk: brevetref15.Copy.
-/
namespace Go.Proofs.YtilhhigdegccgaaDoor
set_option linter.unusedSimpArgs false
set_option linter.unusedVariables false
open Go.RowKit
section
variable {u u' : World} {base g K : Nat} {d : LedD}
theorem LW.nodes_set {s : Sl NodeD} (h : LW u base g K d) (hs : s.Own u base 40 5 nodeCells K) (hw : Wrote g u u') (hb : Blk u' g 33 ((ledCells d).setIfInBounds 1 s.v)) : LW u' base g K { d with nodes := s } := LW.put h.box h.hg (h.ll.setNodes hs) hw hb
theorem LW.bans_set {s : Sl ByteArray} (h : LW u base g K d) (hs : s.Own u base 9 1 strCell K) (hw : Wrote g u u') (hb : Blk u' g 33 ((ledCells d).setIfInBounds 2 s.v)) : LW u' base g K { d with bans := s } := LW.put h.box h.hg (h.ll.setBans hs) hw hb
theorem LW.joins_set {s : Sl JoinD} (h : LW u base g K d) (hs : s.Own u base 38 4 joinCells K) (hw : Wrote g u u') (hb : Blk u' g 33 ((ledCells d).setIfInBounds 3 s.v)) : LW u' base g K { d with joins := s } := LW.put h.box h.hg (h.ll.keepJ (KeepBut.refl _ _) hs) hw hb
theorem LW.keys_set {s : Sl SkeyD} (h : LW u base g K d) (hs : s.Own u base 42 4 skeyCells K) (hw : Wrote g u u') (hb : Blk u' g 33 ((ledCells d).setIfInBounds 4 s.v)) : LW u' base g K { d with keys := s } := LW.put h.box h.hg (h.ll.keepK (KeepBut.refl _ _) hs) hw hb
theorem LW.buns_set {s : Sl BunD} (h : LW u base g K d) (hs : s.Own u base 45 3 bunCells K) (ho : ∀ x ∈ s.l, BunOk u x) (hw : Wrote g u u') (hb : Blk u' g 33 ((ledCells d).setIfInBounds 5 s.v)) : LW u' base g K { d with buns := s } := LW.put h.box h.hg (h.ll.setBuns hs ho) hw hb
theorem LW.ents_set {v : World} {s : Sl EntD} (h : LW u base g K d) (hk : KeepBut 36 u u') (hs : s.Own u' base 36 5 entCells K) (ho : ∀ x ∈ s.l, EntOk u' x) (hw : Wrote g u' v) (hb : Blk v g 33 ((ledCells d).setIfInBounds 0 s.v)) : LW v base g K { d with ents := s } :=
  LW.put (h.box.keep hk (by decide)) h.hg ⟨hs, h.ll.nodes.keep hk (by decide), h.ll.bans.keep hk (by decide), h.ll.joins.keep hk (by decide), h.ll.keys.keep hk (by decide), h.ll.buns.keep hk (by decide), ho, fun x hx => (h.ll.bunOk x hx).keep hk (by decide)⟩ hw hb
end
theorem below_of_nil {u u' : World} {K : Nat} (h : u.grownBy u' (Value.slice none 0 0).ownBlock) : Below u.heap.size u u' := ⟨h.os, h.tape, h.output, h.size, fun b hb => h.block b hb (by simp [Value.ownBlock])⟩
theorem zLed_ll (u : World) (base K : Nat) : LL u base K zLed := ⟨.nil _ _ _ _ _ _, .nil _ _ _ _ _ _, .nil _ _ _ _ _ _, .nil _ _ _ _ _ _, .nil _ _ _ _ _ _, .nil _ _ _ _ _ _, fun x hx => (by cases hx), fun x hx => (by cases hx)⟩
end Go.Proofs.YtilhhigdegccgaaDoor
