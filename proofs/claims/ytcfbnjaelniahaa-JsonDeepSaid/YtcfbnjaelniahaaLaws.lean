/-
  Laws of my own in forms that meet the walk's goal as it stands: append of one element, of a string, of a slice that reads; rows that grow one behind the other.
-/
import Derived.Test.YtcfbnjaelniahaaBase
import Derived.WalkSpells
import Derived.WalkLawsBesides
import Derived.Maps.AppendAt
import Derived.Deep.Draws
import Derived.Lib.AppendStr
import Derived.Lib.Hide
namespace Go.Proofs.Ytcfbnjaelniahaa
set_option linter.unusedSimpArgs false
set_option linter.unusedVariables false
open Go.RowKit

theorem calls_then {P : Program} {f : FuncId} {args : Array Value} {w : World} {R K : Ending → World → Prop} (h : Calls P f args w R) (hk : ∀ e w', R e w' → K e w') : Calls P f args w K := h.mono hk
/-- A slice type's rows of the table, in one word. -/
structure SlT (P : Program) (t e : TypeId) (size bytes : Nat) : Prop where
  und : P.underlying t = some (.slice e)
  info : ∃ i z, P.info? e = some i ∧ i.zero = some z ∧ i.size = size ∧ i.bytes = bytes ∧ z.cells.size = size
  pos : 0 < size

theorem SlT.mk1 {P : Program} {t e : TypeId} {z : Value} {size bytes : Nat} (hu : P.underlying t = some (.slice e)) (h : (P.info? e).map (fun i => (i.zero, i.size, i.bytes)) = some (some z, size, bytes))
    (hz : z.cells.size = size) (hp : 0 < size) : SlT P t e size bytes := by
  obtain ⟨i, hi, h0, h1, h2⟩ := info_parts h
  exact ⟨hu, ⟨i, z, hi, h0, h1, h2, hz⟩, hp⟩

/-- The row of v' lies where v's lay, or in memory made since w. -/
def Next (w : World) (v v' : Value) : Prop := v'.ownBlock = v.ownBlock ∨ ∀ k, v'.ownBlock = some k → w.heap.size ≤ k

theorem Next.refl (w : World) (v : Value) : Next w v v := .inl rfl
theorem Next.trans {w w1 : World} {v v1 v2 : Value} (h : Next w v v1) (h1 : Next w1 v1 v2) (hs : w.heap.size ≤ w1.heap.size) : Next w v v2 := by
  rcases h1 with h1 | h1
  · rcases h with h | h
    · exact .inl (h1.trans h)
    · exact .inr fun k hk => h k (h1 ▸ hk)
  · exact .inr fun k hk => Nat.le_trans hs (h1 k hk)
theorem Next.back {w w1 : World} {v v' : Value} (h : Next w1 v v') (hs : w.heap.size ≤ w1.heap.size) : Next w v v' :=
  h.imp id fun h k hk => Nat.le_trans hs (h k hk)
/-- Two writings one behind the other. -/
theorem grown_next {w w1 w2 : World} {v v1 : Value} (h : w.grownBy w1 v.ownBlock) (hn : Next w v v1) (h1 : w1.grownBy w2 v1.ownBlock) : w.grownBy w2 v.ownBlock := by
  refine ⟨h1.os.trans h.os, h1.tape.trans h.tape, h1.output.trans h.output, Nat.le_trans h.size h1.size, fun k hk hne => ?_⟩
  refine (h1.block k (Nat.lt_of_lt_of_le hk h.size) ?_).trans (h.block k hk hne)
  rcases hn with hn | hn
  · rwa [hn]
  · intro e; have := hn k e.symm; omega
theorem grown_drew {w w1 : World} {r : Option Nat} (h : w.grownBy w1 r) : w.grownBy w1.drew r := ⟨h.os, h.tape, h.output, h.size, h.block⟩
theorem grown_drewN {w w1 : World} {r : Option Nat} (h : w.grownBy w1 r) (n : Nat) : w.grownBy (w1.drewN n) r := ⟨h.os, h.tape, h.output, h.size, h.block⟩
theorem grown_alloc {w w1 : World} {r : Option Nat} (h : w.grownBy w1 r) (o : Obj) : w.grownBy (w1.alloc o) r :=
  h.trans (World.grownBy_alloc _ _ _)
/-- What grows by a row of new memory leaves what was there. -/
theorem below_of_grown {B : Nat} {w w1 : World} {v : Value} (h : w.grownBy w1 v.ownBlock) (hB : B ≤ w.heap.size) (hv : ∀ k, v.ownBlock = some k → B ≤ k) : Below B w w1 :=
  (Below.refl B w).grown h hB hv

/-- A row that the call owns, as 'ownsRow'; or one without room whose block bears a mark of its own (a constant's bytes). -/
def OwnX (w : World) (base : Nat) (e : TypeId) (size : Nat) (v : Value) (n : Nat) (xs : List Value) : Prop :=
  xs.length = n * size ∧
  ((v = .slice none 0 0 ∧ n = 0) ∨
   ∃ g cap cur fz, v = .slice (some ⟨g, 0, none⟩) n cap ∧ base ≤ g ∧ w.heap[g]? = some (.cells cur e fz) ∧ n ≤ cap ∧ cap ≤ maxLen ∧ cur.size = cap * size ∧ cur.toList.take (n * size) = xs ∧ (fz = (0, 0) ∨ cap = n))
section
variable {w w' : World} {base e size n : Nat} {v : Value} {xs : List Value}
theorem OwnX.of (h : w.ownsRow base e size v n xs) : OwnX w base e size v n xs := by
  refine ⟨h.1, ?_⟩
  rcases h.2 with h | ⟨g, cap, cur, h1, h2, h3, h4, h5, h6, h7⟩
  · exact .inl h
  · exact .inr ⟨g, cap, cur, (0, 0), h1, h2, h3, h4, h5, h6, h7, .inl rfl⟩
theorem OwnX.nil (w : World) (base e size : Nat) : OwnX w base e size (.slice none 0 0) 0 [] := ⟨by simp, .inl ⟨rfl, rfl⟩⟩
theorem OwnX.lt (h : OwnX w base e size v n xs) : ∀ k, v.ownBlock = some k → base ≤ k ∧ k < w.heap.size := by
  intro k hk
  rcases h.2 with ⟨rfl, _⟩ | ⟨g, cap, cur, fz, rfl, hb, hg, _⟩
  · simp [Value.ownBlock] at hk
  · simp [Value.ownBlock] at hk
    subst hk
    exact ⟨hb, (Array.getElem?_eq_some_iff.1 hg).1⟩
theorem OwnX.kept {row : Option Nat} (h : OwnX w base e size v n xs) (hg : w.grownBy w' row) (hne : v.ownBlock = none ∨ v.ownBlock ≠ row) : OwnX w' base e size v n xs := by
  refine ⟨h.1, ?_⟩
  rcases h.2 with hn | ⟨g, cap, cur, fz, rfl, hb, hgg, rest⟩
  · exact .inl hn
  · refine .inr ⟨g, cap, cur, fz, rfl, hb, ?_, rest⟩
    rw [hg.block g (Array.getElem?_eq_some_iff.1 hgg).1 (by simpa [Value.ownBlock] using hne)]
    exact hgg
theorem OwnX.alloc (h : OwnX w base e size v n xs) (o : Obj) : OwnX (w.alloc o) base e size v n xs :=
  h.kept (World.grownBy_alloc w o none) (by cases hv : v.ownBlock <;> simp)
theorem OwnX.below (h : OwnX w base e size v n xs) {B : Nat} (hb : Below B w w') (hB : w.heap.size ≤ B) : OwnX w' base e size v n xs := by
  refine ⟨h.1, ?_⟩
  rcases h.2 with hn | ⟨g, cap, cur, fz, rfl, hbb, hgg, rest⟩
  · exact .inl hn
  · exact .inr ⟨g, cap, cur, fz, rfl, hbb, (hb.block g (Nat.lt_of_lt_of_le (Array.getElem?_eq_some_iff.1 hgg).1 hB)).trans hgg, rest⟩
theorem OwnX.le_cap {A : Option Addr} {c : Nat} (h : OwnX w base e size (.slice A n c) n xs) : n ≤ c := by
  rcases h.2 with ⟨_, hn⟩ | ⟨g, cap, cur, fz, hv, _, _, hnc, _⟩
  · omega
  · injection hv with _ _ h3; omega
theorem OwnX.mono (h : OwnX w base e size v n xs) {base' : Nat} (hb : base' ≤ base) : OwnX w base' e size v n xs :=
  ⟨h.1, h.2.elim .inl fun ⟨g, cap, cur, fz, hv, hg, r⟩ => .inr ⟨g, cap, cur, fz, hv, Nat.le_trans hb hg, r⟩⟩
theorem OwnX.cells (h : OwnX w base e size v n xs) {g : Nat} (hg : v.ownBlock = some g) : ∀ j u, xs[j]? = some u → w.cell? ((⟨g, 0, none⟩ : Addr).add j) = some u := by
  intro j u hu
  rcases h.2 with ⟨rfl, _⟩ | ⟨g', cap, cur, fz, rfl, _, hgg, _, _, _, htake, _⟩
  · simp [Value.ownBlock] at hg
  · simp [Value.ownBlock] at hg
    subst hg
    have hadd : (⟨g', 0, none⟩ : Addr).add j = ⟨g', j, none⟩ := by unfold Addr.add; split <;> simp_all
    rw [hadd, cell_of_row w g' j cur e fz hgg]
    rw [← htake, List.getElem?_take] at hu
    split at hu
    · simpa using hu
    · cases hu
end

theorem grown_of_below {w w1 : World} (h : Below w.heap.size w w1) (r : Option Nat) : w.grownBy w1 r := ⟨h.os, h.tape, h.output, h.size, fun k hk _ => h.block k hk⟩
theorem next_nil {W w : World} {B e s n : Nat} {v : Value} {xs : List Value} (h : OwnX w B e s v n xs) (hB : W.heap.size ≤ B) : Next W (.slice none 0 0) v := .inr fun k hk => Nat.le_trans hB (h.lt k hk).1
theorem below_own {W w1 w2 : World} {B e s n : Nat} {v : Value} {xs : List Value} (hb : Below W.heap.size W w1) (h : OwnX w1 B e s v n xs) (hB : W.heap.size ≤ B) (hg : w1.grownBy w2 v.ownBlock) : Below W.heap.size W w2 :=
  hb.grown hg hb.size fun k hk => Nat.le_trans hB (h.lt k hk).1
theorem below_row {W w1 w2 : World} {v : Value} (hb : Below W.heap.size W w1) (hn : Next W (.slice none 0 0) v) (hg : w1.grownBy w2 v.ownBlock) : Below W.heap.size W w2 := by
  refine hb.grown hg hb.size fun k hk => ?_
  rcases hn with hn | hn
  · rw [hn] at hk; simp [Value.ownBlock] at hk
  · exact hn k hk
/-- What a slice (or nothing) at A reads as, in blocks below B. -/
def Rd (w : World) (B : Nat) (A : Option Addr) (xs : List Value) : Prop := ∀ i u, xs[i]? = some u → ∃ ad, A = some ad ∧ ad.block < B ∧ w.cell? (ad.add i) = some u
theorem block_of_add (a : Addr) (n : Nat) : (a.add n).block = a.block := by unfold Addr.add; split <;> rfl
theorem Rd.below {w w' : World} {B : Nat} {A : Option Addr} {xs : List Value} (h : Rd w B A xs) (hb : Below B w w') : Rd w' B A xs := fun i u hu => by
  obtain ⟨ad, ha, hlt, hc⟩ := h i u hu
  exact ⟨ad, ha, hlt, (hb.cell (by rw [block_of_add]; exact hlt)).trans hc⟩
theorem Rd.mono {w : World} {B B' : Nat} {A : Option Addr} {xs : List Value} (h : Rd w B A xs) (hb : B ≤ B') : Rd w B' A xs := fun i u hu => by
  obtain ⟨ad, ha, hlt, hc⟩ := h i u hu
  exact ⟨ad, ha, Nat.lt_of_lt_of_le hlt hb, hc⟩
theorem Rd.nil (w : World) (B : Nat) (A : Option Addr) : Rd w B A [] := fun i u hu => by simp at hu
theorem Rd.at_ {w : World} {B k : Nat} {A : Option Addr} {xs : List Value} (h : Rd w B A xs) (hk : k < xs.length) : ∃ ad, A = some ad ∧ ad.block < B ∧ w.cell? (ad.add k) = some xs[k] :=
  h k _ (List.getElem?_eq_getElem hk)
theorem Rd.of_own {w : World} {base B : Nat} {e : TypeId} {size n c : Nat} {A : Option Addr} {xs : List Value} (h : OwnX w base e size (.slice A n c) n xs) (hB : w.heap.size ≤ B) : Rd w B A xs := fun i u hu => by
  rcases h.2 with ⟨hv, hn⟩ | ⟨g, cap, cur, fz, hv, hbg, hg, _⟩
  · have := h.1
    rw [hn, Nat.zero_mul] at this
    rw [List.eq_nil_of_length_eq_zero this] at hu
    simp at hu
  · have hA : A = some ⟨g, 0, none⟩ := by injection hv
    subst hA
    exact ⟨_, rfl, by have := (Array.getElem?_eq_some_iff.1 hg).1; show g < B; omega, h.cells (g := g) rfl i u hu⟩

/-- Every block of cells that are not of type e stays as it was. -/
def KeepBut (e : TypeId) (w w' : World) : Prop := w.heap.size ≤ w'.heap.size ∧ ∀ (k : Nat) (cs : Array Value) (t : TypeId) (fz : Nat × Nat), t ≠ e → w.heap[k]? = some (Obj.cells cs t fz) → w'.heap[k]? = some (Obj.cells cs t fz)
theorem keepBut_of_grown {w w' : World} {B : Nat} {e : TypeId} {s n : Nat} {v : Value} {xs : List Value} (hown : OwnX w B e s v n xs) (hg : w.grownBy w' v.ownBlock) : KeepBut e w w' := by
  refine ⟨hg.size, fun k cs t fz ht hk => ?_⟩
  have hlt : k < w.heap.size := (Array.getElem?_eq_some_iff.1 hk).1
  refine (hg.block k hlt fun hb => ?_).trans hk
  rcases hown.2 with ⟨rfl, _⟩ | ⟨g, cap, cur, fz, rfl, _, hgg, _⟩
  · simp [Value.ownBlock] at hb
  · simp [Value.ownBlock] at hb
    subst hb
    rw [hgg] at hk
    simp at hk
    exact ht hk.2.1.symm
theorem heap_keep {e : TypeId} {w w' : World} (h : KeepBut e w w') {k : Nat} {cs : Array Value} {t : TypeId} {fz : Nat × Nat} (ht : t ≠ e) (hk : w.heap[k]? = some (.cells cs t fz)) : w'.heap[k]? = some (.cells cs t fz) := h.2 k cs t fz ht hk
/-- One block more. -/
def Alloc1 (w w' : World) : Prop := ∃ o, w' = w.alloc o
theorem heap_alloc1 {w w' : World} (h : Alloc1 w w') {k : Nat} {o : Obj} (hk : w.heap[k]? = some o) : w'.heap[k]? = some o := by
  obtain ⟨o', rfl⟩ := h
  exact (Below.heap_alloc w o' k (Array.getElem?_eq_some_iff.1 hk).1).trans hk
theorem own_alloc1 {w w' : World} (h : Alloc1 w w') {B : Nat} {e : TypeId} {s n : Nat} {v : Value} {xs : List Value} (ho : OwnX w B e s v n xs) : OwnX w' B e s v n xs := by
  obtain ⟨o', rfl⟩ := h; exact ho.alloc _
theorem grown_alloc1 {w0 w w' : World} (h : Alloc1 w w') {r : Option Nat} (hg : w0.grownBy w r) : w0.grownBy w' r := by
  obtain ⟨o', rfl⟩ := h; exact grown_alloc hg _
/-- A slice of one number, in memory of its own. -/
def One (e : TypeId) (y : Value) (x : Value) (w : World) : Prop := ∃ g, x = .slice (some ⟨g, 0, none⟩) 1 1 ∧ w.heap[g]? = some (.cells #[y] e (0, 0))
theorem One.keep {e f : TypeId} {y x : Value} {w w' : World} (h : One e y x w) (hk : KeepBut f w w') (hne : e ≠ f) : One e y x w' := by
  obtain ⟨g, hx, hg⟩ := h; exact ⟨g, hx, heap_keep hk hne hg⟩
theorem One.alloc1 {e : TypeId} {y x : Value} {w w' : World} (h : One e y x w) (hk : Alloc1 w w') : One e y x w' := by
  obtain ⟨g, hx, hg⟩ := h; exact ⟨g, hx, heap_alloc1 hk hg⟩
theorem One.full {e : TypeId} {y x : Value} {w w' : World} (h : One e y x w) (hk : Below w.heap.size w w') : One e y x w' := by
  obtain ⟨g, hx, hg⟩ := h; exact ⟨g, hx, (hk.block g (Array.getElem?_eq_some_iff.1 hg).1).trans hg⟩
theorem One.new (e : TypeId) (y : Value) (w : World) : One e y (.slice (some ⟨w.heap.size, 0, none⟩) 1 1) (w.alloc (.cells #[y] e)) := ⟨_, rfl, heap_alloc_new w _⟩

section
variable {P : Program}
/-- A new row behind growth. -/
theorem own_grown {w : World} {base e size n m old : Nat} {z : Value} {xs news : List Value} (hx : xs.length = n * size) (hl : news.length = m * size) (hzs : z.cells.size = size) (h63 : n + m ≤ maxLen) (hbase : base ≤ w.heap.size) :
    (w.drew.alloc (.cells (xs.toArray ++ news.toArray ++ Builtin.zeroCells z.cells (grownCap w (n + m) old e - (n + m))) e)).ownsRow base e size
      (.slice (some ⟨w.heap.size, 0, none⟩) (n + m) (grownCap w (n + m) old e)) (n + m) (xs ++ news) := by
  have hge := grownCap_ge w (n + m) old e
  have hcm : grownCap w (n + m) old e ≤ maxLen := grownCap_le_maxLen w (n + m) old e h63
  have hlen : (xs ++ news).length = (n + m) * size := by rw [List.length_append, hx, hl, Nat.add_mul]
  refine ⟨hlen, .inr ⟨w.heap.size, _, _, rfl, hbase, heap_alloc_new w.drew _, hge, hcm, ?_, ?_⟩⟩
  · simp only [Array.size_append, List.size_toArray, size_zeroCells, hzs, hx, hl, ← Nat.add_mul]
    congr 1
    omega
  · simp only [Array.toList_append, List.append_assoc]
    rw [← List.append_assoc, ← hlen]
    exact List.take_left
theorem grown_draw_alloc (w : World) (o : Obj) (r : Option Nat) : w.grownBy (w.drew.alloc o) r := ⟨rfl, rfl, rfl, by simp, fun k hk _ => Below.heap_alloc w.drew o k hk⟩

/-- What an append leaves. -/
def App (w : World) (base e size : Nat) (v : Value) (n : Nat) (xs : List Value) (x : Value) (w' : World) : Prop :=
  OwnX w' base e size x n xs ∧ w.grownBy w' v.ownBlock ∧ Next w v x

/-- 'append(s, x...)', x a slice that reads as it stands. -/
theorem run_append_x {w : World} {t ty e : TypeId} {size bytes : Nat} (T : SlT P t e size bytes) {base n : Nat} {v : Value} {xs : List Value} (hown : OwnX w base e size v n xs)
    {Ad : Option Addr} {m c : Nat} {news : List Value} (hl : news.length = m * size) (hnews : ∀ j u, news[j]? = some u → ∃ ad, Ad = some ad ∧ w.cell? (ad.add j) = some u) (h1 : ∀ u ∈ news, u.oneCell' = true)
    (h63 : n + m ≤ maxLen) (hbytes : (n + m) * bytes ≤ 140737488355328) (hbase : base ≤ w.heap.size) :
    ∃ A c' w', (Builtin.append_ #[t, t] ty #[v, .slice Ad m c]).run P w = .ok (.slice A (n + m) c') w' ∧ App w base e size v (n + m) (xs ++ news) (.slice A (n + m) c') w' := by
  obtain ⟨i, z, hi, hz, hsz, hby, hzs⟩ := T.info
  by_cases hm : m = 0
  · subst hm
    have hnn : news = [] := List.eq_nil_of_length_eq_zero (by simpa using hl)
    subst hnn
    rcases hown.2 with ⟨rfl, rfl⟩ | ⟨g, cap, cur, fz, rfl, hb, hgg, hnc, rest⟩
    · refine ⟨none, 0, w, ?_, by simpa using hown, World.grownBy.refl _ _, .inl rfl⟩
      cases Ad <;> simp [Builtin.append_, run_underlying T.und, sizeOf, typeInfo, hi, Builtin.lenOf, Builtin.firstCells, loadCells, loadCellsFrom]
    · refine ⟨some ⟨g, 0, none⟩, cap, w, ?_, by simpa using hown, World.grownBy.refl _ _, .inl rfl⟩
      cases Ad <;> simp [Builtin.append_, run_underlying T.und, sizeOf, typeInfo, hi, Builtin.lenOf, Builtin.firstCells, loadCells, loadCellsFrom, hnc, storeCells]
  · have hpos : 0 < news.length := by rw [hl]; exact Nat.mul_pos (by omega) T.pos
    obtain ⟨ad, rfl, _⟩ := hnews 0 _ (List.getElem?_eq_getElem hpos)
    have hcells : ∀ j u, news[j]? = some u → w.cell? (ad.add j) = some u := fun j u hu => by
      obtain ⟨ad', he, hc⟩ := hnews j u hu
      injection he with he
      subst he
      exact hc
    by_cases hf : w.ownsRow base e size v n xs
    · obtain ⟨v', w', hr, h2, h3, _, h5⟩ := run_append_own_at (P := P) w base t ty e i z size bytes T.und hi hz hsz hby hzs T.pos v n xs hf ad m c news hl hcells h1 h63 hbytes hbase
      have hn : Next w v v' := by
        rcases h5 with h5 | h5
        · exact .inl h5
        · exact .inr fun k hk => by rw [h5] at hk; simp at hk; omega
      rcases h2.2 with ⟨_, h0⟩ | ⟨g, cap, cur, rfl, _⟩
      · omega
      · exact ⟨_, _, w', hr, .of h2, h3, hn⟩
    · rcases hown.2 with hnil | ⟨g, cap, cur, fz, rfl, hb, hgg, hnc, hcm, hcs, htk, hfz⟩
      · exact absurd ⟨hown.1, .inl hnil⟩ hf
      · rcases hfz with rfl | rfl
        · exact absurd ⟨hown.1, .inr ⟨g, cap, cur, rfl, hb, hgg, hnc, hcm, hcs, htk⟩⟩ hf
        · have holds := hown.cells (g := g) rfl
          subst hsz
          subst hby
          have hr := run_append_grow (P := P) w t ty e i z T.und hi hz ⟨g, 0, none⟩ cap cap xs hown.1 holds ad m c news hl hcells (by omega) (by simp only [maxLen] at h63; omega) (growslice_fits (by omega) hbytes)
          exact ⟨_, _, _, hr, .of (own_grown hown.1 hl hzs h63 hbase), grown_draw_alloc _ _ _, .inr fun k hk => by simp [Value.ownBlock] at hk; omega⟩

/-- 'append(b, s...)', s a string: the run. -/
theorem run_append_str {w : World} {t u ty e : TypeId} (T : SlT P t e 1 1) (hz0 : ∃ i, P.info? e = some i ∧ i.zero = some (.int .u8 0)) (hu : P.underlying u = some .string)
    {base n : Nat} {v : Value} {xs : List Value} (s : ByteArray) (hown : OwnX w base e 1 v n xs) (hbytes : n + s.size ≤ 140737488355328) (hbase : base ≤ w.heap.size) :
    ∃ A c w', (Builtin.append_ #[t, u] ty #[v, .string s]).run P w = .ok (.slice A (n + s.size) c) w' ∧ App w base e 1 v (n + s.size) (xs ++ Lib.strCells s) (.slice A (n + s.size) c) w' := by
  obtain ⟨i, z, hi, hz, hsz, hby, hzs⟩ := T.info
  obtain ⟨i', hi', hz'⟩ := hz0
  have : i = i' := by rw [hi] at hi'; exact Option.some.inj hi'
  subst this
  have hsc : (Lib.strCells s).length = s.size * 1 := by rw [Lib.strCells_length]; omega
  by_cases hm : s.size = 0
  · have hf := Lib.run_firstCells_string (P := P) w 1 s
    rw [hm] at hf
    have hnn : Lib.strCells s = [] := List.eq_nil_of_length_eq_zero (by omega)
    rw [hm, hnn, List.append_nil, Nat.add_zero]
    rcases hown.2 with ⟨rfl, rfl⟩ | ⟨g, cap, cur, fz, rfl, hb, hgg, hnc, rest⟩
    · refine ⟨none, 0, w, ?_, hown, World.grownBy.refl _ _, .inl rfl⟩
      simp [Builtin.append_, run_underlying T.und, run_underlying hu, sizeOf, typeInfo, hi, hsz, Builtin.lenOf, hm, hf]
    · refine ⟨some ⟨g, 0, none⟩, cap, w, ?_, hown, World.grownBy.refl _ _, .inl rfl⟩
      rw [hnn] at hf
      simp [Builtin.append_, run_underlying T.und, run_underlying hu, sizeOf, typeInfo, hi, hsz, Builtin.lenOf, hm, hf, hnc, storeCells]
  · rcases hown.2 with ⟨rfl, rfl⟩ | ⟨g, cap, cur, fz, rfl, hbg, hg, hnc, hcm, hcs, htake, hfz⟩
    · have hx : xs = [] := List.eq_nil_of_length_eq_zero (by simpa using hown.1)
      subst hx
      have hr := run_append_nil_string (P := P) w t u ty e i (.int .u8 0) T.und hu hi hz' s (by omega) (by omega) (by rw [hby]; omega)
      have e1 : (s.data.map fun b => Value.int .u8 b.toNat) = (Lib.strCells s).toArray := by
        apply Array.ext'
        simp [Lib.strCells]
      rw [e1] at hr
      have hg := own_grown (w := w) (base := base) (e := e) (n := 0) (m := s.size) (old := 0) (z := .int .u8 0) (xs := []) (news := Lib.strCells s) (size := 1) (by simp) hsc rfl (by unfold maxLen; omega) hbase
      simp only [Nat.zero_add, List.nil_append, Array.empty_append] at hg ⊢
      exact ⟨_, _, _, hr, .of hg, grown_draw_alloc _ _ _, .inr fun k hk => by simp [Value.ownBlock] at hk; omega⟩
    · by_cases hroom : n + s.size ≤ cap
      · obtain rfl : fz = (0, 0) := by
          rcases hfz with h | h
          · exact h
          · omega
        have hcs' : cur.size = cap := by simpa using hcs
        have hr := Lib.run_append_room_string (P := P) w t u ty e i T.und hu hi hsz g n cap cur hg s hroom (by omega)
        refine ⟨_, _, _, hr, .of ⟨by rw [List.length_append, hsc, hown.1, Nat.add_mul], .inr ⟨g, cap, _, rfl, hbg, setRow_heap w g cur _ e _ hg, hroom, hcm, ?_, ?_⟩⟩, ⟨rfl, rfl, rfl, by simp, fun k _ hk => setRow_other w g k _ (fun e => hk (by simp [Value.ownBlock, e]))⟩, .inl rfl⟩
        · simp only [List.size_toArray, List.length_append, List.length_take, List.length_drop, Array.length_toList, Lib.strCells_length]
          omega
        · have ht' : cur.toList.take n = xs := by simpa using htake
          have hxl : xs.length = n := by simpa using hown.1
          rw [ht', show (n + s.size) * 1 = (xs ++ Lib.strCells s).length by rw [List.length_append, Lib.strCells_length]; omega]
          exact List.take_left
      · have holds := hown.cells (g := g) rfl
        have hr := Lib.run_append_grow_string (P := P) w t u ty e i (.int .u8 0) T.und hu hi hz' ⟨g, 0, none⟩ n cap xs (by rw [hsz]; exact hown.1) holds s (by omega) (by omega) (by rw [hby]; exact growslice_fits (by omega) (by omega))
        exact ⟨_, _, _, hr, .of (own_grown hown.1 hsc rfl (by unfold maxLen; omega) hbase), grown_draw_alloc _ _ _, .inr fun k hk => by simp [Value.ownBlock] at hk; omega⟩

theorem wpList_of_append {w : World} {ops : Array Oper} {rest : List Oper} {o : Oper} {a : Act} {Q : Exit → Act → World → Prop} {sl x : Operand} {t u : TypeId} {v y : Value} {R : Value → World → Prop}
    (hgd : o.guard = none) (ho : o.op = .call { callee := .builtin .append, args := #[sl, x], argTypes := #[t, u] }) (hs : a.eval sl = v) (hx : a.eval x = y)
    (hrun : ∃ v' w', (Builtin.append_ #[t, u] o.type #[v, y]).run P w = .ok v' w' ∧ R v' w') (h : ∀ v' w', R v' w' → wpList P ops Q rest (a.put o.dst v') w') :
    wpList P ops Q (o :: rest) a w := by
  refine wpList_plain hgd fun K hK => ?_
  obtain ⟨v', w', hr, h2⟩ := hrun
  unfold Oper.wp execOp
  simp only [ho, resolve, invoke, builtin, Sem.run_bind, Sem.run_pure, Result.andThen_ok, List.map_toArray, List.map_cons, List.map_nil, hs, hx, hr]
  exact hK _ _ (h v' w' h2)

/-- 'append(s, y)': the one cell lies in a block that was just laid. -/
theorem wpList_append_one {w0 : World} {y : Value} {ops : Array Oper} {rest : List Oper} {o : Oper} {a : Act} {Q : Exit → Act → World → Prop} {s x : Operand} {t e : TypeId} {bytes : Nat} (T : SlT P t e 1 bytes)
    (hgd : o.guard = none) (ho : o.op = .call { callee := .builtin .append, args := #[s, x], argTypes := #[t, t] })
    {base n : Nat} {v : Value} {xs : List Value} {ad : Nat} (hown : OwnX w0 base e 1 v n xs) (hs : a.eval s = v) (hx : a.eval x = .slice (some ⟨ad, 0, none⟩) 1 1) (had : ad = w0.heap.size)
    (hy : y.oneCell' = true)
    (h63 : n + 1 ≤ maxLen) (hbytes : (n + 1) * bytes ≤ 140737488355328) (hbase : base ≤ w0.heap.size)
    (h : ∀ A c w', OwnX w' base e 1 (.slice A (n + 1) c) (n + 1) (xs ++ [y]) → w0.grownBy w' v.ownBlock → Next w0 v (.slice A (n + 1) c) → wpList P ops Q rest (a.put o.dst (.slice A (n + 1) c)) w') :
    wpList P ops Q (o :: rest) a (w0.alloc (.cells #[y] e)) := by
  subst had
  obtain ⟨A, c, w', hr, h2, h3, h4⟩ := run_append_x (ty := o.type) (c := 1) (Ad := some ⟨w0.heap.size, 0, none⟩) T (hown.alloc (.cells #[y] e)) (news := [y]) (m := 1) rfl (fun j u hu => ⟨_, rfl, cell_one_new _ _ _ j u hu⟩)
    (by intro u hu; simp at hu; subst hu; exact hy) h63 hbytes (by simp; omega)
  refine wpList_of_append (R := fun v' w1 => v' = .slice A (n + 1) c ∧ w1 = w') hgd ho hs hx ⟨_, _, hr, rfl, rfl⟩ ?_
  rintro v' w1 ⟨rfl, rfl⟩
  exact h _ _ _ h2 ((World.grownBy_alloc w0 _ _).trans h3) (h4.back (by simp))

/-- 'append(s, y, z ..)': the cells lie in a block that was just laid. -/
theorem wpList_append_lit {w0 : World} {ys : List Value} {ops : Array Oper} {rest : List Oper} {o : Oper} {a : Act} {Q : Exit → Act → World → Prop} {s x : Operand} {t e : TypeId} {bytes : Nat} (T : SlT P t e 1 bytes)
    (hgd : o.guard = none) (ho : o.op = .call { callee := .builtin .append, args := #[s, x], argTypes := #[t, t] })
    {base n m : Nat} {v : Value} {xs : List Value} {ad : Nat} (hown : OwnX w0 base e 1 v n xs) (hs : a.eval s = v) (hx : a.eval x = .slice (some ⟨ad, 0, none⟩) m m) (had : ad = w0.heap.size) (hm : ys.length = m)
    (hy : ∀ u ∈ ys, u.oneCell' = true)
    (h63 : n + m ≤ maxLen) (hbytes : (n + m) * bytes ≤ 140737488355328) (hbase : base ≤ w0.heap.size)
    (h : ∀ A c w', OwnX w' base e 1 (.slice A (n + m) c) (n + m) (xs ++ ys) → w0.grownBy w' v.ownBlock → Next w0 v (.slice A (n + m) c) → wpList P ops Q rest (a.put o.dst (.slice A (n + m) c)) w') :
    wpList P ops Q (o :: rest) a (w0.alloc (.cells ys.toArray e)) := by
  subst had
  obtain ⟨A, c, w', hr, h2, h3, h4⟩ := run_append_x (ty := o.type) (c := m) (Ad := some ⟨w0.heap.size, 0, none⟩) T (hown.alloc (.cells ys.toArray e)) (news := ys) (m := m) (by omega) (fun j u hu => ⟨_, rfl, by
    have hadd : (⟨w0.heap.size, 0, none⟩ : Addr).add j = ⟨w0.heap.size, j, none⟩ := by unfold Addr.add; split <;> simp_all
    rw [hadd, cell_of_row _ _ _ _ _ (0, 0) (heap_alloc_new w0 _)]
    simpa using hu⟩) hy h63 hbytes (by simp; omega)
  refine wpList_of_append (R := fun v' w1 => v' = .slice A (n + m) c ∧ w1 = w') hgd ho hs hx ⟨_, _, hr, rfl, rfl⟩ ?_
  rintro v' w1 ⟨rfl, rfl⟩
  exact h _ _ _ h2 ((World.grownBy_alloc w0 _ _).trans h3) (h4.back (by simp))

/-- 'append(b, s...)', s a string. -/
theorem wpList_append_str {w : World} {ops : Array Oper} {rest : List Oper} {o : Oper} {a : Act} {Q : Exit → Act → World → Prop} {sl x : Operand} {t u e : TypeId} (T : SlT P t e 1 1)
    (hz : ∃ i, P.info? e = some i ∧ i.zero = some (.int .u8 0)) (hu : P.underlying u = some .string)
    (hgd : o.guard = none) (ho : o.op = .call { callee := .builtin .append, args := #[sl, x], argTypes := #[t, u] })
    {base n : Nat} {v : Value} {xs : List Value} {s : ByteArray} (hown : OwnX w base e 1 v n xs) (hs : a.eval sl = v) (hx : a.eval x = .string s)
    (hbytes : n + s.size ≤ 140737488355328) (hbase : base ≤ w.heap.size)
    (h : ∀ A c w', OwnX w' base e 1 (.slice A (n + s.size) c) (n + s.size) (xs ++ Lib.strCells s) → w.grownBy w' v.ownBlock → Next w v (.slice A (n + s.size) c) → wpList P ops Q rest (a.put o.dst (.slice A (n + s.size) c)) w') :
    wpList P ops Q (o :: rest) a w := by
  obtain ⟨A, c, w', hr, h2, h3, h4⟩ := run_append_str (ty := o.type) T hz hu s hown hbytes hbase
  refine wpList_of_append (R := fun v' w1 => v' = .slice A (n + s.size) c ∧ w1 = w') hgd ho hs hx ⟨_, _, hr, rfl, rfl⟩ ?_
  rintro v' w1 ⟨rfl, rfl⟩
  exact h _ _ _ h2 h3 h4

/-- 'append(b, x...)', x a slice that reads. -/
theorem wpList_append_rd {w : World} {ops : Array Oper} {rest : List Oper} {o : Oper} {a : Act} {Q : Exit → Act → World → Prop} {sl x : Operand} {t e : TypeId} {size bytes : Nat} (T : SlT P t e size bytes)
    (hgd : o.guard = none) (ho : o.op = .call { callee := .builtin .append, args := #[sl, x], argTypes := #[t, t] })
    {base n B : Nat} {v : Value} {xs : List Value} {Ad : Option Addr} {m cx : Nat} {news : List Value} (hown : OwnX w base e size v n xs) (hs : a.eval sl = v) (hx : a.eval x = .slice Ad m cx)
    (hl : news.length = m * size) (hr : Rd w B Ad news) (h1 : ∀ u ∈ news, u.oneCell' = true)
    (h63 : n + m ≤ maxLen) (hbytes : (n + m) * bytes ≤ 140737488355328) (hbase : base ≤ w.heap.size)
    (h : ∀ A c w', OwnX w' base e size (.slice A (n + m) c) (n + m) (xs ++ news) → w.grownBy w' v.ownBlock → Next w v (.slice A (n + m) c) → wpList P ops Q rest (a.put o.dst (.slice A (n + m) c)) w') :
    wpList P ops Q (o :: rest) a w := by
  obtain ⟨A, c, w', hr, h2, h3, h4⟩ := run_append_x (ty := o.type) (c := cx) T hown hl (fun j u hu => by
    obtain ⟨ad, h1, _, h3⟩ := hr j u hu
    exact ⟨ad, h1, h3⟩) h1 h63 hbytes hbase
  refine wpList_of_append (R := fun v' w1 => v' = .slice A (n + m) c ∧ w1 = w') hgd ho hs hx ⟨_, _, hr, rfl, rfl⟩ ?_
  rintro v' w1 ⟨rfl, rfl⟩
  exact h _ _ _ h2 h3 h4

/-- '[]byte("..")' of a constant: the bytes' block gets its mark. -/
theorem own_const {w : World} {e : TypeId} {C : Array Value} {n g base : Nat} {fz : Nat × Nat} (hg : g = w.heap.size) (hn : C.size = n) (hm : n ≤ maxLen) (hb : base ≤ w.heap.size) :
    OwnX (w.alloc (.cells C e fz)) base e 1 (.slice (some ⟨g, 0, none⟩) n n) n C.toList := by
  subst hg
  exact ⟨by simp [hn], .inr ⟨w.heap.size, n, C, fz, rfl, hb, heap_alloc_new w _, Nat.le_refl _, hm, by omega, by rw [Nat.mul_one, ← hn, ← Array.length_toList]; exact List.take_length, .inr rfl⟩⟩

end
end Go.Proofs.Ytcfbnjaelniahaa
