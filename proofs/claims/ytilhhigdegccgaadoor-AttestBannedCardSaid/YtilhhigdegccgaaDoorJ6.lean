/-
  Joined texts: R15a Orp Ld2 Grd.
-/
import Derived.Laws.Rows
import Derived.Test.YtilhhigdegccgaaDoorJ5
import Derived.Test.YtilhhigdegccgaaDoorJ3
import Derived.Test.YtilhhigdegccgaaDoorJ1
/-
  Walks: the reference's Key, Node, Join, Entry (some answer each).
-/
namespace Go.Proofs.YtilhhigdegccgaaDoor
set_option linter.unusedSimpArgs false
set_option linter.unusedVariables false
open Go.RowKit
def SomeBB (w : World) (e : Ending) (w' : World) : Prop := (∃ b : Bool, e = .returned (.bool b)) ∧ Below w.heap.size w w'
set_option maxHeartbeats 1000000 in
theorem key15_any (k : SkeyD) (w : World) : Calls Tryd.prog 62 #[.agg (skeyCells k)] w (SomeBB w) := by
  obtain ⟨W0, hW0⟩ : ∃ W0, W0 = w.alloc (.cells (skeyCells k) 42) := ⟨_, rfl⟩
  have HB0 := Lib.hid (show Below w.heap.size w W0 by rw [hW0]; exact (Below.refl _ w).alloc (Nat.le_refl _) _)
  have hk1 : Blk W0 w.heap.size 42 (skeyCells k) := by rw [hW0]; exact Blk.new _ _ _
  have a0 : W0.cell? ⟨w.heap.size, 0, none⟩ = some (.string k.kid) := hk1.cell 0
  have a1 : W0.cell? ⟨w.heap.size, 1, none⟩ = some (.string k.seed) := hk1.cell 1
  have a2 : W0.cell? ⟨w.heap.size, 2, none⟩ = some (.int .i64 k.state) := hk1.cell 2
  have a3 : W0.cell? ⟨w.heap.size, 3, none⟩ = some (.int .i64 k.since) := hk1.cell 3
  have HW0 := Lib.hid hW0
  clear hk1 hW0
  go_enter Tryd.func62, Tryd.ntmps62
  go_upto_region 1 with (fail)
  rw [← HW0.out]
  go_wp2_with fail
  all_goals go_ret
  all_goals exact ⟨⟨_, rfl⟩, HB0.out⟩
def EntIn (w : World) (x : EntD) : Prop := x.path.size ≤ 1000 ∧ x.parent.size ≤ 1000 ∧ x.sn ≤ x.sc ∧ x.sn ≤ 1000 ∧ ∃ l : List ByteArray, l.length = x.sn ∧ (∀ s ∈ l, s.size ≤ 1000) ∧ Row w w.heap.size 9 x.sA (rowsV strCell l)
theorem EntIn.ok {w : World} {x : EntD} (h : EntIn w x) : EntOk w x := by
  obtain ⟨_, _, h1, h2, l, h3, _, h4⟩ := h
  exact ⟨h1, h2, l, h3, h4⟩
theorem EntIn.grow {w w' : World} {x : EntD} (h : EntIn w x) (hb : Below w.heap.size w w') : EntIn w' x := by
  obtain ⟨p1, p2, h1, h2, l, h3, h5, h4⟩ := h
  exact ⟨p1, p2, h1, h2, l, h3, h5, h4.grow hb⟩
set_option maxHeartbeats 2000000 in
theorem entry15_any (k : EntD) (w : World) (hin : EntIn w k) : Calls Tryd.prog 37 #[.agg (entCells k)] w (SomeBB w) := by
  obtain ⟨W0, hW0⟩ : ∃ W0, W0 = w.alloc (.cells (entCells k) 36) := ⟨_, rfl⟩
  have HB0 := Lib.hid (show Below w.heap.size w W0 by rw [hW0]; exact (Below.refl _ w).alloc (Nat.le_refl _) _)
  have hk1 : Blk W0 w.heap.size 36 (entCells k) := by rw [hW0]; exact Blk.new _ _ _
  have a0 : W0.cell? ⟨w.heap.size, 0, none⟩ = some (.int .i64 k.n) := hk1.cell 0
  have a1 : W0.cell? ⟨w.heap.size, 1, none⟩ = some (.string k.path) := hk1.cell 1
  have a2 : W0.cell? ⟨w.heap.size, 2, none⟩ = some (.string k.parent) := hk1.cell 2
  have a3 : W0.cell? ⟨w.heap.size, 3, none⟩ = some (.int .i64 k.ttl) := hk1.cell 3
  have a4 : W0.cell? ⟨w.heap.size, 4, none⟩ = some (.slice k.sA k.sn k.sc) := hk1.cell 4
  have HW0 := Lib.hid hW0
  have hin0 := hin.grow HB0.out
  obtain ⟨p1, p2, h1, h2, l, h3, h5, h4⟩ := hin0
  have hr : Rd W0 W0.heap.size k.sA (l.map Value.string) := by rw [← rowsV_str]; exact h4.rd
  have CS := Lib.hid (set9_any l (by omega) h5 k.sA k.sc W0 hr)
  rw [h3] at CS
  have C2 := Lib.hid (show ∀ u A c (xs : List ByteArray), xs.length ≤ 1000 → Below W0.heap.size W0 u → Row u u.heap.size 9 A (rowsV strCell xs) → Calls Tryd.prog 53 #[.slice A xs.length c, .slice k.sA k.sn k.sc] u fun e w' => (∃ r : Bool, e = .returned (.bool r)) ∧ ∃ n, w' = u.drewN n from fun u A c xs hx hb hr2 => by
    rw [← h3]
    exact same9_some A k.sA c k.sc u.heap.size xs l u (by rw [← rowsV_str]; exact hr2.rd) ((hr.below hb).mono hb.size) hx (by omega))
  have CP := Lib.hid (show ∀ u, Calls Tryd.prog 54 #[.string k.path] u (SomeB u) from fun u => path9_any _ p1 u)
  have CA := Lib.hid (show ∀ u, Calls Tryd.prog 55 #[.string k.path] u (SomeB u) from fun u => agent9_any _ p1 u)
  have CP2 := Lib.hid (show ∀ u, Calls Tryd.prog 54 #[.string k.parent] u (SomeB u) from fun u => path9_any _ p2 u)
  have HK := Lib.hid hk1
  clear hk1 hW0 hr h4 h5 h3 h2 h1 p1 p2 hin
  obtain ⟨n, path, parent, ttl, sA, sn, sc⟩ := k
  dsimp only [entCells] at *
  go_enter Tryd.func37, Tryd.ntmps37
  go_upto_region 1 with (fail)
  rw [← HW0.out]
  go_wp2_with fail
  refine calls_then CS.out ?_
  rintro e w1 ⟨A1, c1, xs, f, rfl, hx1, hx2, hr1, hb1⟩
  have hk1 := HK.out.below hb1 HK.out.lt
  have b0 : w1.cell? ⟨w.heap.size, 0, none⟩ = some (.int .i64 n) := hk1.cell 0
  have b1 : w1.cell? ⟨w.heap.size, 1, none⟩ = some (.string path) := hk1.cell 1
  have b2 : w1.cell? ⟨w.heap.size, 2, none⟩ = some (.string parent) := hk1.cell 2
  have b3 : w1.cell? ⟨w.heap.size, 3, none⟩ = some (.int .i64 ttl) := hk1.cell 3
  have b4 : w1.cell? ⟨w.heap.size, 4, none⟩ = some (.slice sA sn sc) := hk1.cell 4
  have HX := Lib.hid (C2.out w1 A1 c1 xs hx1 hb1 hr1)
  have HB1 := Lib.hid (HB0.out.trans (hb1.mono HB0.out.size))
  have hxl : (xs.length : Int) ≤ 1000 := by omega
  generalize xs.length = m at *
  clear hk1 hr1 hb1 hx1 hx2
  go_wp2_with fail
  refine calls_then HX.out ?_
  rintro e w2 ⟨⟨b, rfl⟩, nd, rfl⟩
  go_wp2_with fail
  refine calls_then (CP.out _) ?_
  rintro e w3 ⟨⟨bb1, rfl⟩, rfl⟩
  go_wp2_with fail
  refine calls_then (CA.out _) ?_
  rintro e w3 ⟨⟨bb2, rfl⟩, rfl⟩
  go_wp2_with fail
  refine calls_then (CP2.out _) ?_
  rintro e w3 ⟨⟨bb3, rfl⟩, rfl⟩
  have HB2 := Lib.hid (show Below w.heap.size w (w1.drewN nd) from below_drewN9 HB1.out nd)
  cases b <;> cases bb1 <;> cases bb2 <;> cases bb3 <;> go_wp2_with fail
  all_goals go_ret
  all_goals exact ⟨⟨_, rfl⟩, HB2.out⟩
end Go.Proofs.YtilhhigdegccgaaDoor
/-
  Laws: one field of one element of a row that the call owns is written; another block is written.
-/
namespace Go.Proofs.YtilhhigdegccgaaDoor
set_option linter.unusedSimpArgs false
set_option linter.unusedVariables false
open Go.RowKit
theorem ownR_put_r {w w' : World} {base : Nat} {e : TypeId} {size : Nat} {A : Option Addr} {c n g : Nat} {xs : List Value} (h : OwnR w base e size A c n xs) (hw : Wrote g w w') (hne : ∀ k, (Value.slice A n c).ownBlock = some k → k ≠ g) : OwnR w' base e size A c n xs := by
  refine ⟨h.1, ?_⟩
  rcases h.2 with h0 | ⟨g', cap, cur, h1, h2, h3, h4⟩
  · exact .inl h0
  · have hn : g' ≠ g := hne g' (by rw [h1]; rfl)
    exact .inr ⟨g', cap, cur, h1, h2, (hw.grown.block g' (Array.getElem?_eq_some_iff.1 h3).1 (by intro he; injection he with he; exact hn he)).trans h3, h4⟩
theorem rowsV_cons_r {α : Type} (f : α → Array Value) (x : α) (l : List α) : rowsV f (x :: l) = (f x).toList ++ rowsV f l := by simp [rowsV]
theorem rowsV_set_r {α : Type} {f : α → Array Value} {m : Nat} (hf : ∀ x, (f x).size = m) {j : Nat} (hj : j < m) {v : Value} {x' : α} : ∀ (xs : List α) (i : Nat) (hi : i < xs.length), f x' = (f xs[i]).setIfInBounds j v → rowsV f (xs.set i x') = (rowsV f xs).set (i * m + j) v
  | x :: r, 0, _, hx => by
    have hx : f x' = (f x).setIfInBounds j v := hx
    have hl : j < (f x).toList.length := by simpa [hf] using hj
    rw [List.set_cons_zero, rowsV_cons_r, rowsV_cons_r, hx, Nat.zero_mul, Nat.zero_add, List.set_append_left _ _ hl, Array.toList_setIfInBounds]
  | x :: r, i + 1, hi, hx => by
    have ih := rowsV_set_r hf hj r i (by simpa using hi) hx
    have hl : (f x).toList.length = m := by simp [hf]
    rw [List.set_cons_succ, rowsV_cons_r, rowsV_cons_r, ih, List.set_append_right _ _ (by rw [hl, Nat.add_mul]; omega), hl]
    congr 2
    rw [Nat.add_mul]
    omega
theorem ownR_at_r {α : Type} {f : α → Array Value} {m : Nat} (hf : ∀ x, (f x).size = m) {w : World} {base : Nat} {e : TypeId} {A : Option Addr} {c : Nat} {xs : List α} (h : OwnR w base e m A c xs.length (rowsV f xs)) {i : Nat} (hi : i < xs.length) {j : Nat} (hj : j < m) :
    ∃ g cur, A = some ⟨g, 0, none⟩ ∧ base ≤ g ∧ Blk w g e cur ∧ i * m + j < cur.size ∧ ∀ (v : Value) (x' : α) (w' : World), f x' = (f xs[i]).setIfInBounds j v → Blk w' g e (cur.setIfInBounds (i * m + j) v) → OwnR w' base e m A c xs.length (rowsV f (xs.set i x')) := by
  rcases h.2 with ⟨_, h0⟩ | ⟨g, cap, cur, h1, h2, h3, h4, h5, h6, h7⟩
  · omega
  · injection h1 with e1 e2 e3
    have hcs : i * m + j < xs.length * m := by
      have : (i + 1) * m ≤ xs.length * m := Nat.mul_le_mul_right _ hi
      rw [Nat.add_mul] at this
      omega
    have hle : xs.length * m ≤ cap * m := Nat.mul_le_mul_right _ h4
    refine ⟨g, cur, e1, h2, h3, by omega, fun v x' w' hx hb => ⟨by rw [rowsV_len hf, List.length_set], .inr ⟨g, cap, _, by rw [e1, e3], h2, hb, h4, h5, by simpa using h6, ?_⟩⟩⟩
    rw [rowsV_set_r hf hj xs i hi hx, ← h7, Array.toList_setIfInBounds, List.take_set]
theorem add0_r (g k : Nat) : (⟨g, 0, none⟩ : Addr).add k = ⟨g, k, none⟩ := by unfold Addr.add; split <;> simp_all
theorem ownR_ad_r {α : Type} {f : α → Array Value} {m : Nat} (hf : ∀ x, (f x).size = m) {w : World} {base : Nat} {e : TypeId} {A : Option Addr} {c : Nat} {xs : List α} (h : OwnR w base e m A c xs.length (rowsV f xs)) {i : Nat} (hi : i < xs.length) {j : Nat} (hj : j < m) :
    ∃ ad cur, A = some ad ∧ base ≤ (ad.add (i * m)).block ∧ (ad.add (i * m)).block < w.heap.size ∧ Blk w (ad.add (i * m)).block e cur ∧ (ad.add (i * m)).off + j < cur.size ∧ ∀ (v : Value) (x' : α) (w' : World), f x' = (f xs[i]).setIfInBounds j v → Blk w' (ad.add (i * m)).block e (cur.setIfInBounds ((ad.add (i * m)).off + j) v) → OwnR w' base e m A c xs.length (rowsV f (xs.set i x')) := by
  obtain ⟨g, cur, h1, h2, h3, h4, h5⟩ := ownR_at_r hf h hi hj
  refine ⟨⟨g, 0, none⟩, cur, h1, ?_, ?_, ?_, ?_, fun v x' w' hx hb => ?_⟩
  · rw [add0_r]; exact h2
  · rw [add0_r]; exact h3.lt
  · rw [add0_r]; exact h3
  · rw [add0_r]; exact h4
  · rw [add0_r] at hb; exact h5 v x' w' hx hb
theorem ownR_wrote_r {w w' : World} {base : Nat} {e : TypeId} {size : Nat} {A : Option Addr} {c n g : Nat} {xs : List Value} (h : OwnR w base e size A c n xs) (hw : Wrote g w w') (hne : ∀ k, (Value.slice A n c).ownBlock = some k → k ≠ g) : OwnR w' base e size A c n xs := ownR_put_r h hw hne
theorem ownR_ne_r {w : World} {base : Nat} {e t : TypeId} {size : Nat} {A : Option Addr} {c n g : Nat} {xs : List Value} {cs : Array Value} (h : OwnR w base e size A c n xs) (hb : Blk w g t cs) (ht : t ≠ e) : ∀ k, (Value.slice A n c).ownBlock = some k → k ≠ g := fun k hk he => by
  subst he
  exact own_ne_blk h.x hb ht hk
end Go.Proofs.YtilhhigdegccgaaDoor
/-
  Memory: a ledger in a box, its lists the call's own; an operation.
-/
namespace Go.Proofs.YtilhhigdegccgaaDoor
set_option linter.unusedSimpArgs false
set_option linter.unusedVariables false
open Go.RowKit
section
variable {α : Type} {u u' : World} {base : Nat} {t e : TypeId} {m : Nat} {f : α → Array Value} {K K' : Nat} {s : Sl α}
theorem Sl.Own.below (h : s.Own u base t m f K) (hb : Below u.heap.size u u') : s.Own u' base t m f K := ⟨h.own.below hb, h.len⟩
theorem Sl.Own.keep (h : s.Own u base t m f K) (hk : KeepBut e u u') (ht : t ≠ e) : s.Own u' base t m f K := ⟨h.own.keep hk ht, h.len⟩
theorem Sl.Own.more (h : s.Own u base t m f K) (hk : K ≤ K') : s.Own u base t m f K' := ⟨h.own, Nat.le_trans h.len hk⟩
theorem Sl.Own.mono {base' : Nat} (h : s.Own u base t m f K) (hb : base' ≤ base) : s.Own u base' t m f K := ⟨h.own.mono hb, h.len⟩
theorem Sl.Own.nil (u : World) (base : Nat) (t : TypeId) (m : Nat) (f : α → Array Value) (K : Nat) : (Sl.nil : Sl α).Own u base t m f K := ⟨OwnR.nil _ _ _ _, Nat.zero_le _⟩
end
structure LL (u : World) (base K : Nat) (d : LedD) : Prop where
  ents : d.ents.Own u base 36 5 entCells K
  nodes : d.nodes.Own u base 40 5 nodeCells K
  bans : d.bans.Own u base 9 1 strCell K
  joins : d.joins.Own u base 38 4 joinCells K
  keys : d.keys.Own u base 42 4 skeyCells K
  buns : d.buns.Own u base 45 3 bunCells K
  entOk : ∀ x ∈ d.ents.l, EntOk u x
  bunOk : ∀ x ∈ d.buns.l, BunOk u x
structure LW (u : World) (base g K : Nat) (d : LedD) : Prop where
  box : Blk u g 33 (ledCells d)
  hg : base ≤ g
  ll : LL u base K d
section
variable {u u' : World} {base g K K' : Nat} {d d' : LedD}
theorem LL.ok (h : LL u base K d) : LedOk u K d := ⟨h.ents.ok, h.nodes.ok, h.bans.ok, h.joins.ok, h.keys.ok, h.buns.ok, h.entOk, h.bunOk⟩
theorem LL.below (h : LL u base K d) (hb : Below u.heap.size u u') : LL u' base K d := ⟨h.ents.below hb, h.nodes.below hb, h.bans.below hb, h.joins.below hb, h.keys.below hb, h.buns.below hb, fun x hx => (h.entOk x hx).grow hb, fun x hx => (h.bunOk x hx).grow hb⟩
theorem LL.more (h : LL u base K d) (hk : K ≤ K') : LL u base K' d := ⟨h.ents.more hk, h.nodes.more hk, h.bans.more hk, h.joins.more hk, h.keys.more hk, h.buns.more hk, h.entOk, h.bunOk⟩
theorem LL.wrote {cs : Array Value} (h : LL u base K d) (hb : Blk u g 33 cs) (hw : Wrote g u u') : LL u' base K d := by
  have hk := KeepBut.of_wrote hw hb
  exact ⟨h.ents.keep hk (by decide), h.nodes.keep hk (by decide), h.bans.keep hk (by decide), h.joins.keep hk (by decide), h.keys.keep hk (by decide), h.buns.keep hk (by decide), fun x hx => (h.entOk x hx).keep hk (by decide), fun x hx => (h.bunOk x hx).keep hk (by decide)⟩
theorem LL.setNodes {s : Sl NodeD} (h : LL u base K d) (hs : s.Own u base 40 5 nodeCells K) : LL u base K { d with nodes := s } := ⟨h.ents, hs, h.bans, h.joins, h.keys, h.buns, h.entOk, h.bunOk⟩
theorem LL.setBans {s : Sl ByteArray} (h : LL u base K d) (hs : s.Own u base 9 1 strCell K) : LL u base K { d with bans := s } := ⟨h.ents, h.nodes, hs, h.joins, h.keys, h.buns, h.entOk, h.bunOk⟩
theorem LL.setBuns {s : Sl BunD} (h : LL u base K d) (hs : s.Own u base 45 3 bunCells K) (ho : ∀ x ∈ s.l, BunOk u x) : LL u base K { d with buns := s } := ⟨h.ents, h.nodes, h.bans, h.joins, h.keys, hs, h.entOk, ho⟩
theorem LL.keepJ {s : Sl JoinD} (h : LL u base K d) (hk : KeepBut 38 u u') (hs : s.Own u' base 38 4 joinCells K) : LL u' base K { d with joins := s } :=
  ⟨h.ents.keep hk (by decide), h.nodes.keep hk (by decide), h.bans.keep hk (by decide), hs, h.keys.keep hk (by decide), h.buns.keep hk (by decide), fun x hx => (h.entOk x hx).keep hk (by decide), fun x hx => (h.bunOk x hx).keep hk (by decide)⟩
theorem LL.keepK {s : Sl SkeyD} (h : LL u base K d) (hk : KeepBut 42 u u') (hs : s.Own u' base 42 4 skeyCells K) : LL u' base K { d with keys := s } :=
  ⟨h.ents.keep hk (by decide), h.nodes.keep hk (by decide), h.bans.keep hk (by decide), h.joins.keep hk (by decide), hs, h.buns.keep hk (by decide), fun x hx => (h.entOk x hx).keep hk (by decide), fun x hx => (h.bunOk x hx).keep hk (by decide)⟩
theorem LL.keepN {s : Sl NodeD} (h : LL u base K d) (hk : KeepBut 40 u u') (hs : s.Own u' base 40 5 nodeCells K) : LL u' base K { d with nodes := s } :=
  ⟨h.ents.keep hk (by decide), hs, h.bans.keep hk (by decide), h.joins.keep hk (by decide), h.keys.keep hk (by decide), h.buns.keep hk (by decide), fun x hx => (h.entOk x hx).keep hk (by decide), fun x hx => (h.bunOk x hx).keep hk (by decide)⟩
theorem LW.below (h : LW u base g K d) (hb : Below u.heap.size u u') : LW u' base g K d := ⟨h.box.below hb h.box.lt, h.hg, h.ll.below hb⟩
theorem LW.more (h : LW u base g K d) (hk : K ≤ K') : LW u base g K' d := ⟨h.box, h.hg, h.ll.more hk⟩
theorem LW.put {cs : Array Value} (hb : Blk u g 33 cs) (hg : base ≤ g) (hl : LL u base K d') (hw : Wrote g u u') (hb' : Blk u' g 33 (ledCells d')) : LW u' base g K d' := ⟨hb', hg, hl.wrote hb hw⟩
theorem keepBut_grown {base : Nat} {e : TypeId} {m : Nat} {A : Option Addr} {c n : Nat} {xs : List Value} (h : OwnR u base e m A c n xs) (hg : u.grownBy u' (Value.slice A n c).ownBlock) : KeepBut e u u' := ⟨hg.size, fun k cs t fz ht hk => by
  refine (hg.block k (Array.getElem?_eq_some_iff.1 hk).1 (fun he => ?_)).trans hk
  rcases h.2 with ⟨h1, _⟩ | ⟨g', cap, cur, h1, h2, h3, _⟩
  · rw [h1] at he
    simp [Value.ownBlock] at he
  · rw [h1] at he
    simp [Value.ownBlock] at he
    subst he
    rw [h3] at hk
    injection hk with hk
    injection hk with _ hk _
    exact ht hk.symm⟩
end
structure OpD where
  kind : Int
  n : Int
  name : ByteArray
  ent : EntD
  join : JoinD
  node : NodeD
  key : SkeyD
  bun : BunD
def opC (o : OpD) : Array Value := #[.int .i64 o.kind, .int .i64 o.n, .string o.name, .int .i64 o.ent.n, .string o.ent.path, .string o.ent.parent, .int .i64 o.ent.ttl, .slice o.ent.sA o.ent.sn o.ent.sc,
  .string o.join.text, .string o.join.name, .int .i64 o.join.exp, .bool o.join.used, .string o.node.name, .string o.node.key, .int .i64 o.node.exp, .int .i64 o.node.seq, .string o.node.doc,
  .string o.key.kid, .string o.key.seed, .int .i64 o.key.state, .int .i64 o.key.since, .string o.bun.dom, .int .i64 o.bun.num, .slice o.bun.kA o.bun.kn o.bun.kc]
theorem opC_one (o : OpD) : (opC o).all (·.oneCell') = true := by simp [opC, Value.oneCell']
def BunIn (w : World) (x : BunD) : Prop := x.dom.size ≤ 1000 ∧ x.kn ≤ x.kc ∧ x.kn ≤ 1000 ∧ ∃ l : List JwkD, l.length = x.kn ∧ (∀ k ∈ l, k.x.size ≤ 1000) ∧ Row w w.heap.size 77 x.kA (rowsV jwkCells l)
theorem BunIn.ok {w : World} {x : BunD} (h : BunIn w x) : BunOk w x := by
  obtain ⟨_, h1, h2, l, h3, _, h4⟩ := h
  exact ⟨h1, h2, l, h3, h4⟩
theorem BunIn.grow {w w' : World} {x : BunD} (h : BunIn w x) (hb : Below w.heap.size w w') : BunIn w' x := by
  obtain ⟨h0, h1, h2, l, h3, h4, h5⟩ := h
  exact ⟨h0, h1, h2, l, h3, h4, h5.grow hb⟩
structure OpIn (w : World) (o : OpD) : Prop where
  name : o.name.size ≤ 1000
  ent : EntIn w o.ent
  jtext : o.join.text.size ≤ 1000
  jname : o.join.name.size ≤ 1000
  nname : o.node.name.size ≤ 1000
  bun : BunIn w o.bun
theorem OpIn.grow {w w' : World} {o : OpD} (h : OpIn w o) (hb : Below w.heap.size w w') : OpIn w' o := ⟨h.name, h.ent.grow hb, h.jtext, h.jname, h.nname, h.bun.grow hb⟩
def DoPost (base g K : Nat) (w : World) (e : Ending) (w' : World) : Prop := ∃ (d' : LedD) (f : Int), e = .returned (.int .i64 f) ∧ LW w' base g (K + 1) d' ∧ Below base w w'
theorem DoPost.no {base g K : Nat} {d : LedD} {w u : World} (h : LW u base g K d) (hb : Below base w u) (f : Int) : DoPost base g K w (.returned (.int .i64 f)) u := ⟨d, f, rfl, h.more (Nat.le_succ _), hb⟩
end Go.Proofs.YtilhhigdegccgaaDoor
/-
  Laws of my own: a whole struct is loaded from where it reads.
-/
namespace Go.Proofs.YtilhhigdegccgaaDoor
set_option linter.unusedSimpArgs false
set_option linter.unusedVariables false
open Go.RowKit
section
variable {P : Program} {w : World} {ops : Array Oper} {rest : List Oper} {o : Oper} {a : Act} {Q : Exit → Act → World → Prop}
theorem run_loadVar_rd {ty : TypeId} {p : Addr} {r : List Value} {d : TypeDesc} (hr : ∀ j u, r[j]? = some u → w.cell? (p.add j) = some u)
    (hu : P.underlying ty = some d) (hd : (match d with | .struct _ | .array _ _ => true | _ => false) = true) (hi : (P.info? ty).map (·.size) = some r.length) :
    (loadVar ty p).run P w = .ok (.agg r.toArray) w := by
  have hl : (loadCells p r.length).run P w = .ok r.toArray w := run_loadCells_list (P := P) w p r hr
  cases hq : P.info? ty with
  | none => simp [hq] at hi
  | some i =>
    have hs : i.size = r.length := by simpa [hq] using hi
    have hagg : (isAgg ty).run P w = .ok true w := by
      unfold isAgg
      rw [Sem.run_bind, run_underlying hu w]
      cases d <;> simp_all
    simp [loadVar, Sem.run_bind, hagg, sizeOf, typeInfo, hq, hs, hl]
theorem wpList_get_rd {ty : TypeId} {x : Operand} {p : Addr} {r : List Value} {d : TypeDesc} (hr : ∀ j u, r[j]? = some u → w.cell? (p.add j) = some u)
    (hgd : o.guard = none) (ho : o.op = .load ty x) (hx : a.eval x = .pointer (some p))
    (hu : P.underlying ty = some d) (hd : (match d with | .struct _ | .array _ _ => true | _ => false) = true) (hi : (P.info? ty).map (·.size) = some r.length)
    (h : wpList P ops Q rest (a.put o.dst (.agg r.toArray)) w) : wpList P ops Q (o :: rest) a w := by
  refine wpList_plain hgd fun K hK => ?_
  have hl := run_loadVar_rd (P := P) (w := w) hr hu hd hi
  unfold Oper.wp execOp
  simp only [ho, hx, Instr.loadAt, Instr.sureAddr, Sem.run_bind, Sem.run_pure, Result.andThen_ok, hl]
  exact hK _ _ h
end
theorem box_low9 {u u' : World} {o : Obj} (hw : Wrote u.heap.size (u.alloc o) u') : Below u.heap.size u u' :=
  hw.below ((Below.refl _ u).alloc (Nat.le_refl _) o) (Nat.le_refl _) (by simp)
end Go.Proofs.YtilhhigdegccgaaDoor
