/-
  Joined texts: Base Laws Open OpenB Words ShaM ShaX Laid Lai3 Box Rwz Jsp Jsr Jod Jst Grd Jri Jso Jrr Jk1 Own Jfd Owr Conv Trm Dom Jrt Bld.
-/
import Derived.WalkKit
import Derived.WalkSpells
import Derived.WalkLawsBesides
import Derived.Lib.Strings
import Derived.Maps.AppendAt
import Derived.Deep.Draws
import Derived.Lib.AppendStr
import Derived.Lib.Hide
import Derived.Test.YtoihgnkhalhocaaGreatDoorRows
import Derived.ProofKit
import Derived.OpenShut
import Derived.SizedLaws
import Derived.Lib.SmallJoins
import Derived.SliceStrings
import Derived.Laws.Bits64
import Derived.Laws.BitsLemmas
import Derived.LaidMore
import Derived.Stop.Joined
import Derived.Lay
import Derived.Laws.Rows
import Derived.Laws.Tables
import Derived.Test.YtoihgnkhalhocaaGreatDoorProg
import Derived.Lib.OthersKept
import Derived.Lib.DecodeN
import Derived.Shelf.Abstract
import Derived.Lib.RuneCount
import Derived.Deep.LoopGhost
import Derived.Deep.QuietTactic
import Derived.BigQuiet
import Derived.Deep.DeepCutAuto
import Derived.Laws.BytesArg
import Derived.Laws.IdiomStrings
import Derived.Shelf.Strings.SlTrimAscii
import Derived.Lib.Builder
import Derived.Lib.UnsafeStr
import Derived.Laws.Externs
import Derived.Shelf.RegionOpenPlain
/-
  Small words of my own: bytes as values.
-/
namespace Go.Proofs.YtoihgnkhalhocaaGreatDoor
set_option linter.unusedSimpArgs false
set_option linter.unusedVariables false
open Go.RowKit
def byteV (b : UInt8) : Value := .int .u8 (b.toNat : Int)
def bytesV (l : List UInt8) : List Value := l.map byteV
theorem bytesV_append (l r : List UInt8) : bytesV (l ++ r) = bytesV l ++ bytesV r := by simp [bytesV]
theorem bytesV_length (l : List UInt8) : (bytesV l).length = l.length := by simp [bytesV]
theorem ret_bool {a b : Bool} (h : a = b) : Ending.returned (.bool a) = .returned (.bool b) := by rw [h]
end Go.Proofs.YtoihgnkhalhocaaGreatDoor
/-
  Laws of my own in forms that meet the walk's goal as it stands: append of one element, of a string, of a slice that reads; rows that grow one behind the other.
-/
namespace Go.Proofs.YtoihgnkhalhocaaGreatDoor
set_option linter.unusedSimpArgs false
set_option linter.unusedVariables false
open Go.RowKit
theorem calls_then {P : Program} {f : FuncId} {args : Array Value} {w : World} {R K : Ending → World → Prop} (h : Calls P f args w R) (hk : ∀ e w', R e w' → K e w') : Calls P f args w K := h.mono hk
structure SlT (P : Program) (t e : TypeId) (size bytes : Nat) : Prop where
  und : P.underlying t = some (.slice e)
  info : ∃ i z, P.info? e = some i ∧ i.zero = some z ∧ i.size = size ∧ i.bytes = bytes ∧ z.cells.size = size
  pos : 0 < size
theorem SlT.mk1 {P : Program} {t e : TypeId} {z : Value} {size bytes : Nat} (hu : P.underlying t = some (.slice e)) (h : (P.info? e).map (fun i => (i.zero, i.size, i.bytes)) = some (some z, size, bytes))
    (hz : z.cells.size = size) (hp : 0 < size) : SlT P t e size bytes := by
  obtain ⟨i, hi, h0, h1, h2⟩ := info_parts h
  exact ⟨hu, ⟨i, z, hi, h0, h1, h2, hz⟩, hp⟩
def Next (w : World) (v v' : Value) : Prop := v'.ownBlock = v.ownBlock ∨ ∀ k, v'.ownBlock = some k → w.heap.size ≤ k
theorem Next.refl (w : World) (v : Value) : Next w v v := .inl rfl
theorem Next.trans {w w1 : World} {v v1 v2 : Value} (h : Next w v v1) (h1 : Next w1 v1 v2) (hs : w.heap.size ≤ w1.heap.size) : Next w v v2 := by
  rcases h1 with h1 | h1
  · rcases h with h | h
    · exact .inl (h1.trans h)
    · exact .inr fun k hk => h k (h1 ▸ hk)
  · exact .inr fun k hk => Nat.le_trans hs (h1 k hk)
theorem Next.back {w w1 : World} {v v' : Value} (h : Next w1 v v') (hs : w.heap.size ≤ w1.heap.size) : Next w v v' :=
  h.imp id fun h k hk => Nat.le_trans hs (h k hk)
theorem grown_alloc {w w1 : World} {r : Option Nat} (h : w.grownBy w1 r) (o : Obj) : w.grownBy (w1.alloc o) r :=
  h.trans (World.grownBy_alloc _ _ _)
theorem below_of_grown {B : Nat} {w w1 : World} {v : Value} (h : w.grownBy w1 v.ownBlock) (hB : B ≤ w.heap.size) (hv : ∀ k, v.ownBlock = some k → B ≤ k) : Below B w w1 :=
  (Below.refl B w).grown h hB hv
def OwnX (w : World) (base : Nat) (e : TypeId) (size : Nat) (v : Value) (n : Nat) (xs : List Value) : Prop :=
  xs.length = n * size ∧
  ((v = .slice none 0 0 ∧ n = 0) ∨
   ∃ g cap cur fz, v = .slice (some ⟨g, 0, none⟩) n cap ∧ base ≤ g ∧ w.heap[g]? = some (.cells cur e fz) ∧ n ≤ cap ∧ cap ≤ maxLen ∧ cur.size = cap * size ∧ cur.toList.take (n * size) = xs ∧ (fz = (0, 0) ∨ cap = n))
section
variable {w w' : World} {base e size n : Nat} {v : Value} {xs : List Value}
theorem OwnX.of (h : w.ownsRow base e size v n xs) : OwnX w base e size v n xs := by
  refine ⟨h.1, ?_⟩
  rcases h.2 with h | ⟨g, cap, cur, h1, h2, h3, h4, h5, h6, h7⟩
  · exact .inl h
  · exact .inr ⟨g, cap, cur, (0, 0), h1, h2, h3, h4, h5, h6, h7, .inl rfl⟩
theorem OwnX.nil (w : World) (base e size : Nat) : OwnX w base e size (.slice none 0 0) 0 [] := ⟨by simp, .inl ⟨rfl, rfl⟩⟩
theorem OwnX.lt (h : OwnX w base e size v n xs) : ∀ k, v.ownBlock = some k → base ≤ k ∧ k < w.heap.size := by
  intro k hk
  rcases h.2 with ⟨rfl, _⟩ | ⟨g, cap, cur, fz, rfl, hb, hg, _⟩
  · simp [Value.ownBlock] at hk
  · simp [Value.ownBlock] at hk
    subst hk
    exact ⟨hb, (Array.getElem?_eq_some_iff.1 hg).1⟩
theorem OwnX.kept {row : Option Nat} (h : OwnX w base e size v n xs) (hg : w.grownBy w' row) (hne : v.ownBlock = none ∨ v.ownBlock ≠ row) : OwnX w' base e size v n xs := by
  refine ⟨h.1, ?_⟩
  rcases h.2 with hn | ⟨g, cap, cur, fz, rfl, hb, hgg, rest⟩
  · exact .inl hn
  · refine .inr ⟨g, cap, cur, fz, rfl, hb, ?_, rest⟩
    rw [hg.block g (Array.getElem?_eq_some_iff.1 hgg).1 (by simpa [Value.ownBlock] using hne)]
    exact hgg
theorem OwnX.alloc (h : OwnX w base e size v n xs) (o : Obj) : OwnX (w.alloc o) base e size v n xs :=
  h.kept (World.grownBy_alloc w o none) (by cases hv : v.ownBlock <;> simp)
theorem OwnX.below (h : OwnX w base e size v n xs) {B : Nat} (hb : Below B w w') (hB : w.heap.size ≤ B) : OwnX w' base e size v n xs := by
  refine ⟨h.1, ?_⟩
  rcases h.2 with hn | ⟨g, cap, cur, fz, rfl, hbb, hgg, rest⟩
  · exact .inl hn
  · exact .inr ⟨g, cap, cur, fz, rfl, hbb, (hb.block g (Nat.lt_of_lt_of_le (Array.getElem?_eq_some_iff.1 hgg).1 hB)).trans hgg, rest⟩
theorem OwnX.le_cap {A : Option Addr} {c : Nat} (h : OwnX w base e size (.slice A n c) n xs) : n ≤ c := by
  rcases h.2 with ⟨_, hn⟩ | ⟨g, cap, cur, fz, hv, _, _, hnc, _⟩
  · omega
  · injection hv with _ _ h3; omega
theorem OwnX.mono (h : OwnX w base e size v n xs) {base' : Nat} (hb : base' ≤ base) : OwnX w base' e size v n xs :=
  ⟨h.1, h.2.elim .inl fun ⟨g, cap, cur, fz, hv, hg, r⟩ => .inr ⟨g, cap, cur, fz, hv, Nat.le_trans hb hg, r⟩⟩
theorem OwnX.cells (h : OwnX w base e size v n xs) {g : Nat} (hg : v.ownBlock = some g) : ∀ j u, xs[j]? = some u → w.cell? ((⟨g, 0, none⟩ : Addr).add j) = some u := by
  intro j u hu
  rcases h.2 with ⟨rfl, _⟩ | ⟨g', cap, cur, fz, rfl, _, hgg, _, _, _, htake, _⟩
  · simp [Value.ownBlock] at hg
  · simp [Value.ownBlock] at hg
    subst hg
    have hadd : (⟨g', 0, none⟩ : Addr).add j = ⟨g', j, none⟩ := by unfold Addr.add; split <;> simp_all
    rw [hadd, cell_of_row w g' j cur e fz hgg]
    rw [← htake, List.getElem?_take] at hu
    split at hu
    · simpa using hu
    · cases hu
end
def Rd (w : World) (B : Nat) (A : Option Addr) (xs : List Value) : Prop := ∀ i u, xs[i]? = some u → ∃ ad, A = some ad ∧ ad.block < B ∧ w.cell? (ad.add i) = some u
theorem block_of_add (a : Addr) (n : Nat) : (a.add n).block = a.block := by unfold Addr.add; split <;> rfl
theorem Rd.below {w w' : World} {B : Nat} {A : Option Addr} {xs : List Value} (h : Rd w B A xs) (hb : Below B w w') : Rd w' B A xs := fun i u hu => by
  obtain ⟨ad, ha, hlt, hc⟩ := h i u hu
  exact ⟨ad, ha, hlt, (hb.cell (by rw [block_of_add]; exact hlt)).trans hc⟩
theorem Rd.mono {w : World} {B B' : Nat} {A : Option Addr} {xs : List Value} (h : Rd w B A xs) (hb : B ≤ B') : Rd w B' A xs := fun i u hu => by
  obtain ⟨ad, ha, hlt, hc⟩ := h i u hu
  exact ⟨ad, ha, Nat.lt_of_lt_of_le hlt hb, hc⟩
theorem Rd.nil (w : World) (B : Nat) (A : Option Addr) : Rd w B A [] := fun i u hu => by simp at hu
theorem Rd.at_ {w : World} {B k : Nat} {A : Option Addr} {xs : List Value} (h : Rd w B A xs) (hk : k < xs.length) : ∃ ad, A = some ad ∧ ad.block < B ∧ w.cell? (ad.add k) = some xs[k] :=
  h k _ (List.getElem?_eq_getElem hk)
theorem Rd.of_own {w : World} {base B : Nat} {e : TypeId} {size n c : Nat} {A : Option Addr} {xs : List Value} (h : OwnX w base e size (.slice A n c) n xs) (hB : w.heap.size ≤ B) : Rd w B A xs := fun i u hu => by
  rcases h.2 with ⟨hv, hn⟩ | ⟨g, cap, cur, fz, hv, hbg, hg, _⟩
  · have := h.1
    rw [hn, Nat.zero_mul] at this
    rw [List.eq_nil_of_length_eq_zero this] at hu
    simp at hu
  · have hA : A = some ⟨g, 0, none⟩ := by injection hv
    subst hA
    exact ⟨_, rfl, by have := (Array.getElem?_eq_some_iff.1 hg).1; show g < B; omega, h.cells (g := g) rfl i u hu⟩
def KeepBut (e : TypeId) (w w' : World) : Prop := w.heap.size ≤ w'.heap.size ∧ ∀ (k : Nat) (cs : Array Value) (t : TypeId) (fz : Nat × Nat), t ≠ e → w.heap[k]? = some (Obj.cells cs t fz) → w'.heap[k]? = some (Obj.cells cs t fz)
theorem keepBut_of_grown {w w' : World} {B : Nat} {e : TypeId} {s n : Nat} {v : Value} {xs : List Value} (hown : OwnX w B e s v n xs) (hg : w.grownBy w' v.ownBlock) : KeepBut e w w' := by
  refine ⟨hg.size, fun k cs t fz ht hk => ?_⟩
  have hlt : k < w.heap.size := (Array.getElem?_eq_some_iff.1 hk).1
  refine (hg.block k hlt fun hb => ?_).trans hk
  rcases hown.2 with ⟨rfl, _⟩ | ⟨g, cap, cur, fz, rfl, _, hgg, _⟩
  · simp [Value.ownBlock] at hb
  · simp [Value.ownBlock] at hb
    subst hb
    rw [hgg] at hk
    simp at hk
    exact ht hk.2.1.symm
theorem heap_keep {e : TypeId} {w w' : World} (h : KeepBut e w w') {k : Nat} {cs : Array Value} {t : TypeId} {fz : Nat × Nat} (ht : t ≠ e) (hk : w.heap[k]? = some (.cells cs t fz)) : w'.heap[k]? = some (.cells cs t fz) := h.2 k cs t fz ht hk
def Alloc1 (w w' : World) : Prop := ∃ o, w' = w.alloc o
theorem heap_alloc1 {w w' : World} (h : Alloc1 w w') {k : Nat} {o : Obj} (hk : w.heap[k]? = some o) : w'.heap[k]? = some o := by
  obtain ⟨o', rfl⟩ := h
  exact (Below.heap_alloc w o' k (Array.getElem?_eq_some_iff.1 hk).1).trans hk
def One (e : TypeId) (y : Value) (x : Value) (w : World) : Prop := ∃ g, x = .slice (some ⟨g, 0, none⟩) 1 1 ∧ w.heap[g]? = some (.cells #[y] e (0, 0))
theorem One.keep {e f : TypeId} {y x : Value} {w w' : World} (h : One e y x w) (hk : KeepBut f w w') (hne : e ≠ f) : One e y x w' := by
  obtain ⟨g, hx, hg⟩ := h; exact ⟨g, hx, heap_keep hk hne hg⟩
theorem One.alloc1 {e : TypeId} {y x : Value} {w w' : World} (h : One e y x w) (hk : Alloc1 w w') : One e y x w' := by
  obtain ⟨g, hx, hg⟩ := h; exact ⟨g, hx, heap_alloc1 hk hg⟩
theorem One.full {e : TypeId} {y x : Value} {w w' : World} (h : One e y x w) (hk : Below w.heap.size w w') : One e y x w' := by
  obtain ⟨g, hx, hg⟩ := h; exact ⟨g, hx, (hk.block g (Array.getElem?_eq_some_iff.1 hg).1).trans hg⟩
theorem One.new (e : TypeId) (y : Value) (w : World) : One e y (.slice (some ⟨w.heap.size, 0, none⟩) 1 1) (w.alloc (.cells #[y] e)) := ⟨_, rfl, heap_alloc_new w _⟩
section
variable {P : Program}
theorem own_grown {w : World} {base e size n m old : Nat} {z : Value} {xs news : List Value} (hx : xs.length = n * size) (hl : news.length = m * size) (hzs : z.cells.size = size) (h63 : n + m ≤ maxLen) (hbase : base ≤ w.heap.size) :
    (w.drew.alloc (.cells (xs.toArray ++ news.toArray ++ Builtin.zeroCells z.cells (grownCap w (n + m) old e - (n + m))) e)).ownsRow base e size
      (.slice (some ⟨w.heap.size, 0, none⟩) (n + m) (grownCap w (n + m) old e)) (n + m) (xs ++ news) := by
  have hge := grownCap_ge w (n + m) old e
  have hcm : grownCap w (n + m) old e ≤ maxLen := grownCap_le_maxLen w (n + m) old e h63
  have hlen : (xs ++ news).length = (n + m) * size := by rw [List.length_append, hx, hl, Nat.add_mul]
  refine ⟨hlen, .inr ⟨w.heap.size, _, _, rfl, hbase, heap_alloc_new w.drew _, hge, hcm, ?_, ?_⟩⟩
  · simp only [Array.size_append, List.size_toArray, size_zeroCells, hzs, hx, hl, ← Nat.add_mul]
    congr 1
    omega
  · simp only [Array.toList_append, List.append_assoc]
    rw [← List.append_assoc, ← hlen]
    exact List.take_left
theorem grown_draw_alloc (w : World) (o : Obj) (r : Option Nat) : w.grownBy (w.drew.alloc o) r := ⟨rfl, rfl, rfl, by simp, fun k hk _ => Below.heap_alloc w.drew o k hk⟩
def App (w : World) (base e size : Nat) (v : Value) (n : Nat) (xs : List Value) (x : Value) (w' : World) : Prop :=
  OwnX w' base e size x n xs ∧ w.grownBy w' v.ownBlock ∧ Next w v x
theorem run_append_x {w : World} {t ty e : TypeId} {size bytes : Nat} (T : SlT P t e size bytes) {base n : Nat} {v : Value} {xs : List Value} (hown : OwnX w base e size v n xs)
    {Ad : Option Addr} {m c : Nat} {news : List Value} (hl : news.length = m * size) (hnews : ∀ j u, news[j]? = some u → ∃ ad, Ad = some ad ∧ w.cell? (ad.add j) = some u) (h1 : ∀ u ∈ news, u.oneCell' = true)
    (h63 : n + m ≤ maxLen) (hbytes : (n + m) * bytes ≤ 140737488355328) (hbase : base ≤ w.heap.size) :
    ∃ A c' w', (Builtin.append_ #[t, t] ty #[v, .slice Ad m c]).run P w = .ok (.slice A (n + m) c') w' ∧ App w base e size v (n + m) (xs ++ news) (.slice A (n + m) c') w' := by
  obtain ⟨i, z, hi, hz, hsz, hby, hzs⟩ := T.info
  by_cases hm : m = 0
  · subst hm
    have hnn : news = [] := List.eq_nil_of_length_eq_zero (by simpa using hl)
    subst hnn
    rcases hown.2 with ⟨rfl, rfl⟩ | ⟨g, cap, cur, fz, rfl, hb, hgg, hnc, rest⟩
    · refine ⟨none, 0, w, ?_, by simpa using hown, World.grownBy.refl _ _, .inl rfl⟩
      cases Ad <;> simp [Builtin.append_, run_underlying T.und, sizeOf, typeInfo, hi, Builtin.lenOf, Builtin.firstCells, loadCells, loadCellsFrom]
    · refine ⟨some ⟨g, 0, none⟩, cap, w, ?_, by simpa using hown, World.grownBy.refl _ _, .inl rfl⟩
      cases Ad <;> simp [Builtin.append_, run_underlying T.und, sizeOf, typeInfo, hi, Builtin.lenOf, Builtin.firstCells, loadCells, loadCellsFrom, hnc, storeCells]
  · have hpos : 0 < news.length := by rw [hl]; exact Nat.mul_pos (by omega) T.pos
    obtain ⟨ad, rfl, _⟩ := hnews 0 _ (List.getElem?_eq_getElem hpos)
    have hcells : ∀ j u, news[j]? = some u → w.cell? (ad.add j) = some u := fun j u hu => by
      obtain ⟨ad', he, hc⟩ := hnews j u hu
      injection he with he
      subst he
      exact hc
    by_cases hf : w.ownsRow base e size v n xs
    · obtain ⟨v', w', hr, h2, h3, _, h5⟩ := run_append_own_at (P := P) w base t ty e i z size bytes T.und hi hz hsz hby hzs T.pos v n xs hf ad m c news hl hcells h1 h63 hbytes hbase
      have hn : Next w v v' := by
        rcases h5 with h5 | h5
        · exact .inl h5
        · exact .inr fun k hk => by rw [h5] at hk; simp at hk; omega
      rcases h2.2 with ⟨_, h0⟩ | ⟨g, cap, cur, rfl, _⟩
      · omega
      · exact ⟨_, _, w', hr, .of h2, h3, hn⟩
    · rcases hown.2 with hnil | ⟨g, cap, cur, fz, rfl, hb, hgg, hnc, hcm, hcs, htk, hfz⟩
      · exact absurd ⟨hown.1, .inl hnil⟩ hf
      · rcases hfz with rfl | rfl
        · exact absurd ⟨hown.1, .inr ⟨g, cap, cur, rfl, hb, hgg, hnc, hcm, hcs, htk⟩⟩ hf
        · have holds := hown.cells (g := g) rfl
          subst hsz
          subst hby
          have hr := run_append_grow (P := P) w t ty e i z T.und hi hz ⟨g, 0, none⟩ cap cap xs hown.1 holds ad m c news hl hcells (by omega) (by simp only [maxLen] at h63; omega) (growslice_fits (by omega) hbytes)
          exact ⟨_, _, _, hr, .of (own_grown hown.1 hl hzs h63 hbase), grown_draw_alloc _ _ _, .inr fun k hk => by simp [Value.ownBlock] at hk; omega⟩
theorem run_append_str {w : World} {t u ty e : TypeId} (T : SlT P t e 1 1) (hz0 : ∃ i, P.info? e = some i ∧ i.zero = some (.int .u8 0)) (hu : P.underlying u = some .string)
    {base n : Nat} {v : Value} {xs : List Value} (s : ByteArray) (hown : OwnX w base e 1 v n xs) (hbytes : n + s.size ≤ 140737488355328) (hbase : base ≤ w.heap.size) :
    ∃ A c w', (Builtin.append_ #[t, u] ty #[v, .string s]).run P w = .ok (.slice A (n + s.size) c) w' ∧ App w base e 1 v (n + s.size) (xs ++ Lib.strCells s) (.slice A (n + s.size) c) w' := by
  obtain ⟨i, z, hi, hz, hsz, hby, hzs⟩ := T.info
  obtain ⟨i', hi', hz'⟩ := hz0
  have : i = i' := by rw [hi] at hi'; exact Option.some.inj hi'
  subst this
  have hsc : (Lib.strCells s).length = s.size * 1 := by rw [Lib.strCells_length]; omega
  by_cases hm : s.size = 0
  · have hf := Lib.run_firstCells_string (P := P) w 1 s
    rw [hm] at hf
    have hnn : Lib.strCells s = [] := List.eq_nil_of_length_eq_zero (by omega)
    rw [hm, hnn, List.append_nil, Nat.add_zero]
    rcases hown.2 with ⟨rfl, rfl⟩ | ⟨g, cap, cur, fz, rfl, hb, hgg, hnc, rest⟩
    · refine ⟨none, 0, w, ?_, hown, World.grownBy.refl _ _, .inl rfl⟩
      simp [Builtin.append_, run_underlying T.und, run_underlying hu, sizeOf, typeInfo, hi, hsz, Builtin.lenOf, hm, hf]
    · refine ⟨some ⟨g, 0, none⟩, cap, w, ?_, hown, World.grownBy.refl _ _, .inl rfl⟩
      rw [hnn] at hf
      simp [Builtin.append_, run_underlying T.und, run_underlying hu, sizeOf, typeInfo, hi, hsz, Builtin.lenOf, hm, hf, hnc, storeCells]
  · rcases hown.2 with ⟨rfl, rfl⟩ | ⟨g, cap, cur, fz, rfl, hbg, hg, hnc, hcm, hcs, htake, hfz⟩
    · have hx : xs = [] := List.eq_nil_of_length_eq_zero (by simpa using hown.1)
      subst hx
      have hr := run_append_nil_string (P := P) w t u ty e i (.int .u8 0) T.und hu hi hz' s (by omega) (by omega) (by rw [hby]; omega)
      have e1 : (s.data.map fun b => Value.int .u8 b.toNat) = (Lib.strCells s).toArray := by
        apply Array.ext'
        simp [Lib.strCells]
      rw [e1] at hr
      have hg := own_grown (w := w) (base := base) (e := e) (n := 0) (m := s.size) (old := 0) (z := .int .u8 0) (xs := []) (news := Lib.strCells s) (size := 1) (by simp) hsc rfl (by unfold maxLen; omega) hbase
      simp only [Nat.zero_add, List.nil_append, Array.empty_append] at hg ⊢
      exact ⟨_, _, _, hr, .of hg, grown_draw_alloc _ _ _, .inr fun k hk => by simp [Value.ownBlock] at hk; omega⟩
    · by_cases hroom : n + s.size ≤ cap
      · obtain rfl : fz = (0, 0) := by
          rcases hfz with h | h
          · exact h
          · omega
        have hcs' : cur.size = cap := by simpa using hcs
        have hr := Lib.run_append_room_string (P := P) w t u ty e i T.und hu hi hsz g n cap cur hg s hroom (by omega)
        refine ⟨_, _, _, hr, .of ⟨by rw [List.length_append, hsc, hown.1, Nat.add_mul], .inr ⟨g, cap, _, rfl, hbg, setRow_heap w g cur _ e _ hg, hroom, hcm, ?_, ?_⟩⟩, ⟨rfl, rfl, rfl, by simp, fun k _ hk => setRow_other w g k _ (fun e => hk (by simp [Value.ownBlock, e]))⟩, .inl rfl⟩
        · simp only [List.size_toArray, List.length_append, List.length_take, List.length_drop, Array.length_toList, Lib.strCells_length]
          omega
        · have ht' : cur.toList.take n = xs := by simpa using htake
          have hxl : xs.length = n := by simpa using hown.1
          rw [ht', show (n + s.size) * 1 = (xs ++ Lib.strCells s).length by rw [List.length_append, Lib.strCells_length]; omega]
          exact List.take_left
      · have holds := hown.cells (g := g) rfl
        have hr := Lib.run_append_grow_string (P := P) w t u ty e i (.int .u8 0) T.und hu hi hz' ⟨g, 0, none⟩ n cap xs (by rw [hsz]; exact hown.1) holds s (by omega) (by omega) (by rw [hby]; exact growslice_fits (by omega) (by omega))
        exact ⟨_, _, _, hr, .of (own_grown hown.1 hsc rfl (by unfold maxLen; omega) hbase), grown_draw_alloc _ _ _, .inr fun k hk => by simp [Value.ownBlock] at hk; omega⟩
theorem wpList_of_append {w : World} {ops : Array Oper} {rest : List Oper} {o : Oper} {a : Act} {Q : Exit → Act → World → Prop} {sl x : Operand} {t u : TypeId} {v y : Value} {R : Value → World → Prop}
    (hgd : o.guard = none) (ho : o.op = .call { callee := .builtin .append, args := #[sl, x], argTypes := #[t, u] }) (hs : a.eval sl = v) (hx : a.eval x = y)
    (hrun : ∃ v' w', (Builtin.append_ #[t, u] o.type #[v, y]).run P w = .ok v' w' ∧ R v' w') (h : ∀ v' w', R v' w' → wpList P ops Q rest (a.put o.dst v') w') :
    wpList P ops Q (o :: rest) a w := by
  refine wpList_plain hgd fun K hK => ?_
  obtain ⟨v', w', hr, h2⟩ := hrun
  unfold Oper.wp execOp
  simp only [ho, resolve, invoke, builtin, Sem.run_bind, Sem.run_pure, Result.andThen_ok, List.map_toArray, List.map_cons, List.map_nil, hs, hx, hr]
  exact hK _ _ (h v' w' h2)
theorem wpList_append_one {w0 : World} {y : Value} {ops : Array Oper} {rest : List Oper} {o : Oper} {a : Act} {Q : Exit → Act → World → Prop} {s x : Operand} {t e : TypeId} {bytes : Nat} (T : SlT P t e 1 bytes)
    (hgd : o.guard = none) (ho : o.op = .call { callee := .builtin .append, args := #[s, x], argTypes := #[t, t] })
    {base n : Nat} {v : Value} {xs : List Value} {ad : Nat} (hown : OwnX w0 base e 1 v n xs) (hs : a.eval s = v) (hx : a.eval x = .slice (some ⟨ad, 0, none⟩) 1 1) (had : ad = w0.heap.size)
    (hy : y.oneCell' = true)
    (h63 : n + 1 ≤ maxLen) (hbytes : (n + 1) * bytes ≤ 140737488355328) (hbase : base ≤ w0.heap.size)
    (h : ∀ A c w', OwnX w' base e 1 (.slice A (n + 1) c) (n + 1) (xs ++ [y]) → w0.grownBy w' v.ownBlock → Next w0 v (.slice A (n + 1) c) → wpList P ops Q rest (a.put o.dst (.slice A (n + 1) c)) w') :
    wpList P ops Q (o :: rest) a (w0.alloc (.cells #[y] e)) := by
  subst had
  obtain ⟨A, c, w', hr, h2, h3, h4⟩ := run_append_x (ty := o.type) (c := 1) (Ad := some ⟨w0.heap.size, 0, none⟩) T (hown.alloc (.cells #[y] e)) (news := [y]) (m := 1) rfl (fun j u hu => ⟨_, rfl, cell_one_new _ _ _ j u hu⟩)
    (by intro u hu; simp at hu; subst hu; exact hy) h63 hbytes (by simp; omega)
  refine wpList_of_append (R := fun v' w1 => v' = .slice A (n + 1) c ∧ w1 = w') hgd ho hs hx ⟨_, _, hr, rfl, rfl⟩ ?_
  rintro v' w1 ⟨rfl, rfl⟩
  exact h _ _ _ h2 ((World.grownBy_alloc w0 _ _).trans h3) (h4.back (by simp))
theorem wpList_append_str {w : World} {ops : Array Oper} {rest : List Oper} {o : Oper} {a : Act} {Q : Exit → Act → World → Prop} {sl x : Operand} {t u e : TypeId} (T : SlT P t e 1 1)
    (hz : ∃ i, P.info? e = some i ∧ i.zero = some (.int .u8 0)) (hu : P.underlying u = some .string)
    (hgd : o.guard = none) (ho : o.op = .call { callee := .builtin .append, args := #[sl, x], argTypes := #[t, u] })
    {base n : Nat} {v : Value} {xs : List Value} {s : ByteArray} (hown : OwnX w base e 1 v n xs) (hs : a.eval sl = v) (hx : a.eval x = .string s)
    (hbytes : n + s.size ≤ 140737488355328) (hbase : base ≤ w.heap.size)
    (h : ∀ A c w', OwnX w' base e 1 (.slice A (n + s.size) c) (n + s.size) (xs ++ Lib.strCells s) → w.grownBy w' v.ownBlock → Next w v (.slice A (n + s.size) c) → wpList P ops Q rest (a.put o.dst (.slice A (n + s.size) c)) w') :
    wpList P ops Q (o :: rest) a w := by
  obtain ⟨A, c, w', hr, h2, h3, h4⟩ := run_append_str (ty := o.type) T hz hu s hown hbytes hbase
  refine wpList_of_append (R := fun v' w1 => v' = .slice A (n + s.size) c ∧ w1 = w') hgd ho hs hx ⟨_, _, hr, rfl, rfl⟩ ?_
  rintro v' w1 ⟨rfl, rfl⟩
  exact h _ _ _ h2 h3 h4
theorem wpList_append_rd {w : World} {ops : Array Oper} {rest : List Oper} {o : Oper} {a : Act} {Q : Exit → Act → World → Prop} {sl x : Operand} {t e : TypeId} {size bytes : Nat} (T : SlT P t e size bytes)
    (hgd : o.guard = none) (ho : o.op = .call { callee := .builtin .append, args := #[sl, x], argTypes := #[t, t] })
    {base n B : Nat} {v : Value} {xs : List Value} {Ad : Option Addr} {m cx : Nat} {news : List Value} (hown : OwnX w base e size v n xs) (hs : a.eval sl = v) (hx : a.eval x = .slice Ad m cx)
    (hl : news.length = m * size) (hr : Rd w B Ad news) (h1 : ∀ u ∈ news, u.oneCell' = true)
    (h63 : n + m ≤ maxLen) (hbytes : (n + m) * bytes ≤ 140737488355328) (hbase : base ≤ w.heap.size)
    (h : ∀ A c w', OwnX w' base e size (.slice A (n + m) c) (n + m) (xs ++ news) → w.grownBy w' v.ownBlock → Next w v (.slice A (n + m) c) → wpList P ops Q rest (a.put o.dst (.slice A (n + m) c)) w') :
    wpList P ops Q (o :: rest) a w := by
  obtain ⟨A, c, w', hr, h2, h3, h4⟩ := run_append_x (ty := o.type) (c := cx) T hown hl (fun j u hu => by
    obtain ⟨ad, h1, _, h3⟩ := hr j u hu
    exact ⟨ad, h1, h3⟩) h1 h63 hbytes hbase
  refine wpList_of_append (R := fun v' w1 => v' = .slice A (n + m) c ∧ w1 = w') hgd ho hs hx ⟨_, _, hr, rfl, rfl⟩ ?_
  rintro v' w1 ⟨rfl, rfl⟩
  exact h _ _ _ h2 h3 h4
theorem own_const {w : World} {e : TypeId} {C : Array Value} {n g base : Nat} {fz : Nat × Nat} (hg : g = w.heap.size) (hn : C.size = n) (hm : n ≤ maxLen) (hb : base ≤ w.heap.size) :
    OwnX (w.alloc (.cells C e fz)) base e 1 (.slice (some ⟨g, 0, none⟩) n n) n C.toList := by
  subst hg
  exact ⟨by simp [hn], .inr ⟨w.heap.size, n, C, fz, rfl, hb, heap_alloc_new w _, Nat.le_refl _, hm, by omega, by rw [Nat.mul_one, ← hn, ← Array.length_toList]; exact List.take_length, .inr rfl⟩⟩
end
end Go.Proofs.YtoihgnkhalhocaaGreatDoor
/-
  Opening arguments; what a law's row asks of a walk that leaves old memory as it was.
-/
namespace Go.Proofs.YtoihgnkhalhocaaGreatDoor
set_option linter.unusedSimpArgs false
set_option linter.unusedVariables false
open Go.ChangeShapes Go.WideShapes Go.ChangeAt Go.RowKit Go.Joins
open Go.WideMaps Go.WideElems
open Go.ChangeMaps (open_string shut_string)
theorem own : ownKnob Tryz.prog.godebug = none := by kernel_rfl
theorem laidOut : laidOutB Tryz.prog = true := by kernel_rfl
section
variable {H : Type} {enc : TypeId × Value → H} {P : Program}
theorem post_of_below {f : Func} {s : ChangeSpec} {apart fresh handsOn again : Bool} {W W' : World} {args : Array Value} {v : Value} {ds gs : List (DataW H)} {before pa pv : List MemPlace}
    (hW : DataW.Whole enc P f.params.toList s.vars apart W args.toList ds gs before)
    (hres : ∀ (b : Nat) (sp : Nat → Bool) (hd : Bool), DataW.TrodAll enc P W' b sp hd f.resultTypes.toList (v.resultList f.resultTypes.size) (s.fn H (ds ++ gs)).results [])
    (hargs : ∀ sp : Nat → Bool, (∀ p ∈ before, sp p.block = true) → DataW.TrodAll enc P W' 0 sp true f.params.toList args.toList (s.fn H (ds ++ gs)).args pa)
    (hvars : ∀ sp : Nat → Bool, (∀ p ∈ before, sp p.block = true) → DataW.TrodVars enc P W' sp s.vars (s.fn H (ds ++ gs)).vars pv)
    (hps : before = pa ++ pv) (hb : Below W.heap.size W W')
    (hok : ∀ (j : Nat) (t : TypeId) (r : Value), f.resultTypes[j]? = some t → (v.resultList f.resultTypes.size)[j]? = some r → Value.okWide P W' .any 0 t r) :
    s.post enc P f apart fresh handsOn again W args v W' := by
  have hlt : ∀ p ∈ before, p.block < W.heap.size := fun p hp => hW.lt p hp
  have hold : ∀ p ∈ before, (fun b => decide (b < W.heap.size)) p.block = true := fun p hp => by simpa using hlt p hp
  refine ⟨ds, gs, before, [], pa, pv, hW, hres _ _ _, hargs _ hold, hvars _ hold, World.keptBut_mono (fun p hp => ⟨hp, ?_⟩) (hb.frame (· ∈ before)), fun _ => ?_⟩
  · rw [hps, List.mem_append] at hp
    exact Or.inr hp
  · obtain ⟨_, _, _, _, _, hz, hn⟩ := hW
    refine ⟨hok, _, _, ([] ++ pa) ++ pv, ⟨[] ++ pa, pv, trodAll_append (hargs _ (fun _ _ => rfl)) (hres _ _ _), hvars _ (fun _ _ => rfl), rfl, ?_, ?_⟩, ?_⟩
    · intro b off hp
      have hin : MemPlace.cell b off ∈ before := by rw [hps]; simpa using hp
      rw [hb.frozen (hlt _ hin)]
      exact hz b off hin
    · intro ha
      have := hn ha
      rw [hps] at this
      simpa using this
    · intro p hp _
      rw [hps]
      simpa using hp
theorem stays {t : TypeId} (hl : laidOutB P = true) (hr : P.readableRec t = true) (hrow : t < P.types.size) {W W' : World} {v : Value} {d : DataW H} {ps : List MemPlace}
    (h : DataW.Trod enc P W 0 (fun _ => true) true t v d ps) (hb : Below W.heap.size W W') (hlt : ∀ x ∈ ps, x.block < W.heap.size) {sp : Nat → Bool} (hsp : ∀ x ∈ ps, sp x.block = true) :
    DataW.Trod enc P W' 0 sp true t v d ps :=
  WideElems.Trod_stays hl hr hrow h (fun x hx => hb.same (hlt x hx)) hsp
section
variable {w : World} {base : Nat} {spare : Nat → Bool} {held : Bool}
open Go.Deep
theorem open_agg6 {r : Reach} {b0 : Nat} {t : TypeId} {f0 f1 f2 f3 f4 f5 : Field} {v : Value} {d : DataW H} {p : List MemPlace} (hs : P.underlying t = some (.struct #[f0, f1, f2, f3, f4, f5])) (hone : oneCellFields P #[f0, f1, f2, f3, f4, f5] = true) (hC : P.cellsOf t = 6)
    (hv : Value.okWide P w r b0 t v) (h : DataW.Trod enc P w base spare held t v d p) :
    ∃ (v0 v1 v2 v3 v4 v5 : Value) (y0 y1 y2 y3 y4 y5 : DataW H × List MemPlace) (n : Nat), v = .agg #[v0, v1, v2, v3, v4, v5] ∧ d = .agg [y0.1, y1.1, y2.1, y3.1, y4.1, y5.1] ∧ p = y0.2 ++ (y1.2 ++ (y2.2 ++ (y3.2 ++ (y4.2 ++ y5.2)))) ∧
      DataW.trod enc P w base spare held n f0.type [v0] = some y0 ∧ DataW.trod enc P w base spare held n f1.type [v1] = some y1 ∧ DataW.trod enc P w base spare held n f2.type [v2] = some y2 ∧ DataW.trod enc P w base spare held n f3.type [v3] = some y3 ∧ DataW.trod enc P w base spare held n f4.type [v4] = some y4 ∧ DataW.trod enc P w base spare held n f5.type [v5] = some y5 := by
  obtain ⟨cs, rfl, hsz⟩ := okWide_struct hs hv
  obtain ⟨l⟩ := cs
  match l, hsz.trans hC with
  | [c0, c1, c2, c3, c4, c5], _ =>
    obtain ⟨fuel, hf⟩ := h
    obtain ⟨xs, n, _, hx, _, hlen, hg⟩ := DataW.trod_struct hs hf
    obtain ⟨o0, k0⟩ := hone_of hone 0 f0 rfl
    obtain ⟨o1, k1⟩ := hone_of hone 1 f1 rfl
    obtain ⟨o2, k2⟩ := hone_of hone 2 f2 rfl
    obtain ⟨o3, k3⟩ := hone_of hone 3 f3 rfl
    obtain ⟨o4, k4⟩ := hone_of hone 4 f4 rfl
    obtain ⟨o5, k5⟩ := hone_of hone 5 f5 rfl
    match xs, hlen with
    | [y0, y1, y2, y3, y4, y5], _ =>
      simp only [Prod.mk.injEq] at hx
      exact ⟨c0, c1, c2, c3, c4, c5, y0, y1, y2, y3, y4, y5, n, rfl, by simpa using hx.1, by simpa using hx.2, by simpa [Value.cells, o0, k0] using hg 0 f0 rfl, by simpa [Value.cells, o1, k1] using hg 1 f1 rfl, by simpa [Value.cells, o2, k2] using hg 2 f2 rfl, by simpa [Value.cells, o3, k3] using hg 3 f3 rfl, by simpa [Value.cells, o4, k4] using hg 4 f4 rfl, by simpa [Value.cells, o5, k5] using hg 5 f5 rfl⟩
end
theorem open_strs_rd {t e : TypeId} {fuel : Nat} {cs : List Value} {x : DataW H × List MemPlace} {W : World} {base : Nat} {sp : Nat → Bool} {held : Bool} (ht : P.underlying t = some (.slice e)) (he : P.underlying e = some .string) (hc : P.cellsOf e = 1)
    (h : DataW.trod enc P W base sp held fuel t cs = some x) : ∃ (A : Option Addr) (c : Nat) (l : List ByteArray), cs = [.slice A l.length c] ∧ l.length ≤ c ∧ l.length ≤ maxLen ∧ Rd W W.heap.size A (l.map Value.string) ∧ (∀ s ∈ l, s.size ≤ maxLen) := by
  rcases open_strings ht he hc h with ⟨rfl, _⟩ | ⟨a, len, cap, ss, rfl, _, hl, hm, hz, _, hcell, hs⟩
  · exact ⟨none, 0, [], rfl, Nat.le_refl _, Nat.zero_le _, Rd.nil _ _ _, fun s hs => by simp at hs⟩
  · have hlen : len ≤ ss.length := by rw [hz]; split <;> omega
    refine ⟨some a, cap, ss.take len, by rw [List.length_take, Nat.min_eq_left hlen], by rw [List.length_take]; omega, by rw [List.length_take]; omega, fun i u hu => ?_, fun s hs' => hs s (List.mem_of_mem_take hs')⟩
    rw [List.getElem?_map] at hu
    obtain ⟨s, hs1, rfl⟩ := Option.map_eq_some_iff.1 hu
    have hi : i < (ss.take len).length := (List.getElem?_eq_some_iff.1 hs1).1
    rw [List.length_take] at hi
    have hcl := hcell i (by omega)
    rw [List.getElem?_take, if_pos (by omega)] at hs1
    have e1 : ss.getD i ByteArray.empty = s := by simp [List.getD, hs1]
    rw [e1] at hcl
    refine ⟨a, rfl, ?_, hcl⟩
    have := World.block_lt_of_cell? W _ hcl
    rwa [block_of_add] at this
end
end Go.Proofs.YtoihgnkhalhocaaGreatDoor
/-
  Opening a slice of bytes that came in.
-/
namespace Go.Proofs.YtoihgnkhalhocaaGreatDoor
set_option linter.unusedSimpArgs false
set_option linter.unusedVariables false
open Go.ChangeShapes Go.WideShapes Go.ChangeAt Go.RowKit Go.Joins
section
variable {H : Type} {enc : TypeId × Value → H} {P : Program}
theorem open_bytes_rd {t e : TypeId} {fuel : Nat} {cs : List Value} {x : DataW H × List MemPlace} {W : World} {base : Nat} {sp : Nat → Bool} {held : Bool} (ht : P.underlying t = some (.slice e)) (he : P.underlying e = some (.int .u8)) (hc : P.cellsOf e = 1)
    (h : DataW.trod enc P W base sp held fuel t cs = some x) : ∃ (A : Option Addr) (c : Nat) (l : List UInt8), cs = [.slice A l.length c] ∧ l.length ≤ c ∧ l.length ≤ maxLen ∧ Rd W W.heap.size A (bytesV l) := by
  rcases open_ints ht he hc h with ⟨rfl, _⟩ | ⟨a, len, cap, zs, rfl, _, hl, hm, hz, _, hcell, hwz⟩
  · exact ⟨none, 0, [], rfl, Nat.le_refl _, Nat.zero_le _, Rd.nil _ _ _⟩
  · have hlen : len ≤ zs.length := by rw [hz]; split <;> omega
    have hl2 : ((zs.take len).map fun n => UInt8.ofNat n.toNat).length = len := by simp; omega
    refine ⟨some a, cap, (zs.take len).map fun n => UInt8.ofNat n.toNat, by rw [hl2], by rw [hl2]; omega, by rw [hl2]; omega, fun i u hu => ?_⟩
    rw [bytesV, List.getElem?_map, List.getElem?_map] at hu
    obtain ⟨s, hs1, rfl⟩ := Option.map_eq_some_iff.1 hu
    obtain ⟨n, hn1, rfl⟩ := Option.map_eq_some_iff.1 hs1
    have hi : i < (zs.take len).length := (List.getElem?_eq_some_iff.1 hn1).1
    rw [List.length_take] at hi
    have hcl := hcell i (by omega)
    rw [List.getElem?_take, if_pos (by omega)] at hn1
    have e1 : zs.getD i 0 = n := by simp [List.getD, hn1]
    have hb := range_u8 hwz i
    rw [e1] at hcl
    have e2 : zs[i]?.getD 0 = n := by rw [hn1]; rfl
    rw [e2] at hb
    refine ⟨a, rfl, ?_, ?_⟩
    · have := World.block_lt_of_cell? W _ hcl
      rwa [block_of_add] at this
    · rw [hcl, byteV]
      congr 2
      simp only [UInt8.toNat_ofNat']
      omega
end
theorem cells_u8 : Tryz.prog.cellsOf 5 = 1 := by kernel_rfl
set_option maxRecDepth 100000 in
theorem open_bytes_arg {H : Type} {enc : TypeId × Value → H} {W : World} {base : Nat} {r : Reach} {b0 : Nat} {sp : Nat → Bool} {held : Bool} {v : Value} {d : DataW H} {p : List MemPlace}
    (hv : Value.okWide Tryz.prog W r b0 42 v) (h : DataW.Trod enc Tryz.prog W base sp held 42 v d p) :
    ∃ (l : List UInt8) (A : Option Addr) (c : Nat), v = .slice A l.length c ∧ Rd W W.heap.size A (bytesV l) ∧ l.length ≤ c ∧ l.length ≤ 9223372036854775807 := by
  obtain ⟨a1, len, cap, rfl⟩ := okWide_slice Tryz.underlying42 hv
  obtain ⟨fuel, hf⟩ := h
  obtain ⟨A, c, l, e, h1, h2, h3⟩ := open_bytes_rd Tryz.underlying42 Tryz.underlying5 cells_u8 hf
  simp [Value.cells] at e
  obtain ⟨rfl, rfl, rfl⟩ := e
  simp only [maxLen] at h2
  exact ⟨l, _, _, rfl, h3, h1, by omega⟩
end Go.Proofs.YtoihgnkhalhocaaGreatDoor
/-
  Plain: words as natural numbers, and how the walk spells what is done to them.
-/
namespace Go.Proofs.YtoihgnkhalhocaaGreatDoor
set_option linter.unusedSimpArgs false
set_option linter.unusedVariables false
open Go.RowKit
section
variable (a b : Nat)
theorem xor64 (ha : a < 18446744073709551616) (hb : b < 18446744073709551616) : bits .xor .u64 (a : Int) (b : Int) = ((a ^^^ b : Nat) : Int) := by
  show IntKind.u64.wrap ((BitVec.ofInt 64 (a : Int) ^^^ BitVec.ofInt 64 (b : Int)).toNat : Int) = _
  have h := Nat.xor_lt_two_pow (n := 64) (x := a) (y := b) ha hb
  rw [BitVec.toNat_xor, BitVec.ofInt_natCast, BitVec.ofInt_natCast, BitVec.toNat_ofNat, BitVec.toNat_ofNat, Nat.mod_eq_of_lt ha, Nat.mod_eq_of_lt hb, IntKind.wrap_u64]
  omega
theorem and64 (ha : a < 18446744073709551616) (hb : b < 18446744073709551616) : bits .and .u64 (a : Int) (b : Int) = ((a &&& b : Nat) : Int) := by
  show IntKind.u64.wrap ((BitVec.ofInt 64 (a : Int) &&& BitVec.ofInt 64 (b : Int)).toNat : Int) = _
  have h : a &&& b ≤ a := Nat.and_le_left
  rw [BitVec.toNat_and, BitVec.ofInt_natCast, BitVec.ofInt_natCast, BitVec.toNat_ofNat, BitVec.toNat_ofNat, Nat.mod_eq_of_lt ha, Nat.mod_eq_of_lt hb, IntKind.wrap_u64]
  omega
theorem or32 (ha : a < 4294967296) (hb : b < 4294967296) : bits .or .u32 (a : Int) (b : Int) = ((a ||| b : Nat) : Int) := by
  show IntKind.u32.wrap ((BitVec.ofInt 32 (a : Int) ||| BitVec.ofInt 32 (b : Int)).toNat : Int) = _
  have h := Nat.or_lt_two_pow (n := 32) (x := a) (y := b) ha hb
  rw [BitVec.toNat_or, BitVec.ofInt_natCast, BitVec.ofInt_natCast, BitVec.toNat_ofNat, BitVec.toNat_ofNat, Nat.mod_eq_of_lt ha, Nat.mod_eq_of_lt hb, IntKind.wrap_u32]
  omega
theorem xor32 (ha : a < 4294967296) (hb : b < 4294967296) : bits .xor .u32 (a : Int) (b : Int) = ((a ^^^ b : Nat) : Int) := by
  show IntKind.u32.wrap ((BitVec.ofInt 32 (a : Int) ^^^ BitVec.ofInt 32 (b : Int)).toNat : Int) = _
  have h := Nat.xor_lt_two_pow (n := 32) (x := a) (y := b) ha hb
  rw [BitVec.toNat_xor, BitVec.ofInt_natCast, BitVec.ofInt_natCast, BitVec.toNat_ofNat, BitVec.toNat_ofNat, Nat.mod_eq_of_lt ha, Nat.mod_eq_of_lt hb, IntKind.wrap_u32]
  omega
theorem and32 (ha : a < 4294967296) (hb : b < 4294967296) : bits .and .u32 (a : Int) (b : Int) = ((a &&& b : Nat) : Int) := by
  show IntKind.u32.wrap ((BitVec.ofInt 32 (a : Int) &&& BitVec.ofInt 32 (b : Int)).toNat : Int) = _
  have h : a &&& b ≤ a := Nat.and_le_left
  rw [BitVec.toNat_and, BitVec.ofInt_natCast, BitVec.ofInt_natCast, BitVec.toNat_ofNat, BitVec.toNat_ofNat, Nat.mod_eq_of_lt ha, Nat.mod_eq_of_lt hb, IntKind.wrap_u32]
  omega
theorem or8 (ha : a < 256) (hb : b < 256) : bits .or .u8 (a : Int) (b : Int) = ((a ||| b : Nat) : Int) := by
  show IntKind.u8.wrap ((BitVec.ofInt 8 (a : Int) ||| BitVec.ofInt 8 (b : Int)).toNat : Int) = _
  have h := Nat.or_lt_two_pow (n := 8) (x := a) (y := b) ha hb
  rw [BitVec.toNat_or, BitVec.ofInt_natCast, BitVec.ofInt_natCast, BitVec.toNat_ofNat, BitVec.toNat_ofNat, Nat.mod_eq_of_lt ha, Nat.mod_eq_of_lt hb, IntKind.wrap_u8]
  omega
theorem wrap64n (a : Nat) : IntKind.u64.wrap (a : Int) = ((a % 18446744073709551616 : Nat) : Int) := by rw [IntKind.wrap_u64]; omega
theorem wrap32n (a : Nat) : IntKind.u32.wrap (a : Int) = ((a % 4294967296 : Nat) : Int) := by rw [IntKind.wrap_u32]; omega
end
theorem ret_int' {k : IntKind} {a b : Int} (h : a = b) : Ending.returned (.int k a) = .returned (.int k b) := by rw [h]
theorem below_drewN' {B : Nat} {a w : World} (h : Below B a w) (n : Nat) : Below B a (w.drewN n) := ⟨h.os, h.tape, h.output, h.size, h.block⟩
theorem sum64w (x y : Nat) : IntKind.u64.wrap ((x : Int) + (y : Int)) = (((x + y) % 18446744073709551616 : Nat) : Int) := by rw [IntKind.wrap_u64]; omega
theorem sum32f (a b x y : Nat) : (((a : Int) + (b : Int)) % 4294967296 + ((x : Int) + (y : Int)) % 4294967296) % 4294967296 = (((a + b + (x + y)) % 2 ^ 32 : Nat) : Int) := by omega
theorem add2_32 (a b : Nat) : ((a : Int) + (b : Int)) % 4294967296 = (((a + b) % 2 ^ 32 : Nat) : Int) := by omega
theorem add2_64 (a b : Nat) : IntKind.u64.wrap ((a : Int) + (b : Int)) = (((a + b) % 2 ^ 64 : Nat) : Int) := by rw [IntKind.wrap_u64]; omega
theorem and_lt {a b m : Nat} (h : a < m) : a &&& b < m := Nat.lt_of_le_of_lt Nat.and_le_left h
theorem or_shl8 (x z : Nat) (hz : z < 256) : x * 256 ||| z = x * 256 + z := by
  have := Nat.two_pow_add_eq_or_of_lt (i := 8) (b := z) hz x
  rw [show 2 ^ 8 * x = x * 256 by omega] at this
  exact this.symm
theorem or_byte32 (x z : Nat) (hx : x < 16777216) (hz : z < 256) : bits .or .u32 ((x : Int) * 256 % 4294967296) (z : Int) = ((x * 256 + z : Nat) : Int) := by
  rw [show (x : Int) * 256 % 4294967296 = ((x * 256 : Nat) : Int) by omega, or32 _ _ (by omega) (by omega), or_shl8 x z hz]
def rotN (b x n : Nat) : Nat := x / 2 ^ n ||| x * 2 ^ (b - n) % 2 ^ b
theorem rotN_lt {b x n : Nat} (hx : x < 2 ^ b) : rotN b x n < 2 ^ b :=
  Nat.or_lt_two_pow (Nat.lt_of_le_of_lt (Nat.div_le_self _ _) hx) (Nat.mod_lt _ (Nat.two_pow_pos _))
def turnedN (b x n : Nat) : Nat := if b = 32 then rotN 32 (x % 4294967296) n else rotN 64 x n
theorem turnedN_lt {b x n : Nat} (hx : x < 18446744073709551616) : turnedN b x n < 18446744073709551616 := by
  unfold turnedN
  split
  · have := rotN_lt (b := 32) (x := x % 4294967296) (n := n) (Nat.mod_lt _ (by decide))
    omega
  · exact rotN_lt (b := 64) hx
def lastN (b x c : Nat) (shift : Bool) : Nat := if shift then x / 2 ^ c else turnedN b x c
theorem lastN_lt {b x c : Nat} {shift : Bool} (hx : x < 18446744073709551616) : lastN b x c shift < 18446744073709551616 := by
  unfold lastN
  split
  · exact Nat.lt_of_le_of_lt (Nat.div_le_self _ _) hx
  · exact turnedN_lt hx
def allN (b x p q c : Nat) (shift : Bool) : Nat := turnedN b x p ^^^ turnedN b x q ^^^ lastN b x c shift
theorem xor_lt64 {a b : Nat} (ha : a < 18446744073709551616) (hb : b < 18446744073709551616) : a ^^^ b < 18446744073709551616 := Nat.xor_lt_two_pow (n := 64) ha hb
theorem allN_lt {b x p q c : Nat} {shift : Bool} (hx : x < 18446744073709551616) : allN b x p q c shift < 18446744073709551616 :=
  xor_lt64 (xor_lt64 (turnedN_lt hx) (turnedN_lt hx)) (lastN_lt hx)
theorem pow_int (n : Nat) : (2 : Int) ^ n = ((2 ^ n : Nat) : Int) := by simp
theorem shr_int (x n : Nat) : (x : Int) / 2 ^ n = ((x / 2 ^ n : Nat) : Int) := by rw [pow_int]; simp
theorem shl_int (x n : Nat) : (x : Int) * 2 ^ n = ((x * 2 ^ n : Nat) : Int) := by rw [pow_int]; simp
theorem rot_walk32 (x n : Nat) (hx : x < 4294967296) : bits .or .u32 ((x : Int) / 2 ^ n) (IntKind.u32.wrap ((x : Int) * 2 ^ (32 - n))) = (rotN 32 x n : Int) := by
  rw [shr_int, shl_int, wrap32n, or32 _ _ (Nat.lt_of_le_of_lt (Nat.div_le_self _ _) hx) (Nat.mod_lt _ (by decide))]
  rfl
theorem rot_walk32' (x n : Nat) : IntKind.u64.wrap (bits .or .u32 ((x : Int) % 4294967296 / 2 ^ n) ((x : Int) % 4294967296 * 2 ^ (32 - n) % 4294967296)) = (turnedN 32 x n : Int) := by
  have h := rot_walk32 (x % 4294967296) n (Nat.mod_lt _ (by decide))
  rw [IntKind.wrap_u32] at h
  rw [show (x : Int) % 4294967296 = ((x % 4294967296 : Nat) : Int) by omega, h, wrap64n]
  have h2 := rotN_lt (b := 32) (x := x % 4294967296) (n := n) (Nat.mod_lt _ (by decide))
  rw [Nat.mod_eq_of_lt (by omega)]
  rfl
end Go.Proofs.YtoihgnkhalhocaaGreatDoor
/-
  Plain: the digests, as the program makes them.
-/
namespace Go.Proofs.YtoihgnkhalhocaaGreatDoor.Sh
set_option linter.unusedSimpArgs false
set_option linter.unusedVariables false
open Go.RowKit
def beN (l : List UInt8) : Nat := l.foldl (fun n c => n * 256 + c.toNat) 0
theorem beN_snoc (l : List UInt8) (c : UInt8) : beN (l ++ [c]) = beN l * 256 + c.toNat := by simp [beN]
theorem foldl_fromN (x : Nat) (c : List UInt8) : c.foldl (fun n c => n * 256 + c.toNat) x = x * 256 ^ c.length + beN c := by
  induction c generalizing x with
  | nil => simp [beN]
  | cons z c ih =>
    have e : beN (z :: c) = c.foldl (fun n c => n * 256 + c.toNat) z.toNat := by simp [beN]
    rw [List.foldl_cons, ih, e, ih, List.length_cons, Nat.pow_succ, Nat.add_mul, Nat.mul_assoc, Nat.mul_comm 256, Nat.add_assoc]
theorem beN_append (a c : List UInt8) : beN (a ++ c) = beN a * 256 ^ c.length + beN c := by
  rw [beN, List.foldl_append, foldl_fromN]; rfl
theorem beN_lt (l : List UInt8) : beN l < 256 ^ l.length := by
  induction l with
  | nil => simp [beN]
  | cons z l ih =>
    have e := beN_append [z] l
    have hz := z.toNat_lt
    have e1 : beN [z] = z.toNat := by simp [beN]
    rw [show z :: l = [z] ++ l from rfl, e, e1, List.length_append, List.length_singleton, Nat.pow_add, Nat.pow_one]
    have : z.toNat * 256 ^ l.length ≤ 255 * 256 ^ l.length := Nat.mul_le_mul_right _ (by omega)
    omega
structure ShaF where
  bits : Nat
  many : Nat
  s0 : Nat × Nat × Nat
  s1 : Nat × Nat × Nat
  t0 : Nat × Nat × Nat
  t1 : Nat × Nat × Nat
def F32 : ShaF := ⟨32, 64, (2, 13, 22), (6, 11, 25), (7, 18, 3), (17, 19, 10)⟩
def allF (F : ShaF) (x : Nat) (p : Nat × Nat × Nat) (shift : Bool) : Nat := allN F.bits x p.1 p.2.1 p.2.2 shift
def pieceN (e : Nat) (blk : List UInt8) (t : Nat) : Nat := beN ((blk.drop (t * e)).take e)
def nextW (F : ShaF) (r : List Nat) (t : Nat) : Nat :=
  (r.getD (t - 16) 0 + r.getD (t - 7) 0 + (allF F (r.getD (t - 15) 0) F.t0 true + allF F (r.getD (t - 2) 0) F.t1 true)) % 2 ^ F.bits
def rowW (F : ShaF) (blk : List UInt8) : Nat → List Nat
  | 0 => []
  | t + 1 => rowW F blk t ++ [if t < 16 then pieceN (F.bits / 8) blk t else nextW F (rowW F blk t) t]
theorem rowW_length (F : ShaF) (blk : List UInt8) : ∀ t, (rowW F blk t).length = t
  | 0 => rfl
  | t + 1 => by simp [rowW, rowW_length F blk t]
theorem pieceN_lt (e : Nat) (blk : List UInt8) (t : Nat) : pieceN e blk t < 256 ^ e := by
  have h := beN_lt ((blk.drop (t * e)).take e)
  have h2 : ((blk.drop (t * e)).take e).length ≤ e := List.length_take_le _ _
  exact Nat.lt_of_lt_of_le h (Nat.pow_le_pow_right (by omega) h2)
theorem rowW_lt (F : ShaF) (hb : 256 ^ (F.bits / 8) = 2 ^ F.bits) (blk : List UInt8) : ∀ t, ∀ x ∈ rowW F blk t, x < 2 ^ F.bits
  | 0, x, hx => by simp [rowW] at hx
  | t + 1, x, hx => by
    simp only [rowW, List.mem_append, List.mem_singleton] at hx
    rcases hx with hx | rfl
    · exact rowW_lt F hb blk t x hx
    · split
      · rw [← hb]; exact pieceN_lt _ _ _
      · exact Nat.mod_lt _ (Nat.two_pow_pos _)
theorem getD_lt {l : List Nat} {b : Nat} (h : ∀ x ∈ l, x < b) (hb : 0 < b) (i : Nat) : l.getD i 0 < b := by
  by_cases hi : i < l.length
  · rw [List.getD_eq_getElem?_getD, List.getElem?_eq_getElem hi]; exact h _ (List.getElem_mem hi)
  · rw [List.getD_eq_getElem?_getD, List.getElem?_eq_none (by omega)]; exact hb
def wordsV (K : IntKind) (l : List Nat) : List Value := l.map fun n : Nat => Value.int K (n : Int)
theorem wordsV_length (K : IntKind) (l : List Nat) : (wordsV K l).length = l.length := by simp [wordsV]
def rowC (K : IntKind) (l : List Nat) (m : Nat) : Array Value := (wordsV K l ++ List.replicate m (Value.int K 0)).toArray
def rowP (K : IntKind) (l : List Nat) (x m : Nat) : Array Value := (wordsV K l ++ (Value.int K (x : Int)) :: List.replicate m (Value.int K 0)).toArray
theorem rowC_start (K : IntKind) (l : List Nat) (m : Nat) : rowC K l (m + 1) = rowP K l 0 m := by simp [rowC, rowP, List.replicate_succ]
theorem rowP_end (K : IntKind) (l : List Nat) (x m : Nat) : rowP K l x m = rowC K (l ++ [x]) m := by simp [rowC, rowP, wordsV]
theorem rowP_size (K : IntKind) (l : List Nat) (x m : Nat) : (rowP K l x m).size = l.length + m + 1 := by simp [rowP, wordsV]; omega
theorem rowP_at (K : IntKind) (l : List Nat) (x m : Nat) : (rowP K l x m)[l.length]? = some (Value.int K (x : Int)) := by
  simp [rowP, wordsV]
theorem rowP_set (K : IntKind) (l : List Nat) (x y m : Nat) : (rowP K l x m).setIfInBounds l.length (Value.int K (y : Int)) = rowP K l y m := by
  apply Array.ext'
  simp [rowP, Array.toList_setIfInBounds, wordsV, List.set_append]
theorem rowC_get (K : IntKind) (l : List Nat) (m i : Nat) (h : i < l.length) : (rowC K l m)[i]? = some (Value.int K ((l.getD i 0 : Nat) : Int)) := by
  simp [rowC, wordsV, List.getElem?_append, h]
theorem rowP_get (K : IntKind) (l : List Nat) (x m i : Nat) (h : i < l.length) : (rowP K l x m)[i]? = some (Value.int K ((l.getD i 0 : Nat) : Int)) := by
  rw [rowP_end, rowC_get K _ _ i (by simp; omega)]
  simp [List.getElem?_append, h]
end Go.Proofs.YtoihgnkhalhocaaGreatDoor.Sh
/-
  Plain: a state behind a block, as the program makes it.
-/
namespace Go.Proofs.YtoihgnkhalhocaaGreatDoor.Sh
set_option linter.unusedSimpArgs false
set_option linter.unusedVariables false
open Go.RowKit
def stepsN : List Nat := [4794697086780616226, 8158064640168781261, 13096744586834688815, 16840607885511220156, 4131703408338449720, 6480981068601479193, 10538285296894168987, 12329834152419229976, 15566598209576043074, 1334009975649890238, 2608012711638119052, 6128411473006802146, 8268148722764581231, 9286055187155687089, 11230858885718282805, 13951009754708518548, 16472876342353939154, 17275323862435702243, 1135362057144423861, 2597628984639134821, 3308224258029322869, 5365058923640841347, 6679025012923562964, 8573033837759648693, 10970295158949994411, 12119686244451234320, 12683024718118986047, 13788192230050041572, 14330467153632333762, 15395433587784984357, 489312712824947311, 1452737877330783856, 2861767655752347644, 3322285676063803686, 5560940570517711597, 5996557281743188959, 7280758554555802590, 8532644243296465576, 9350256976987008742, 10552545826968843579, 11727347734174303076, 12113106623233404929, 14000437183269869457, 14369950271660146224, 15101387698204529176, 15463397548674623760, 17586052441742319658, 1182934255886127544, 1847814050463011016, 2177327727835720531, 2830643537854262169, 3796741975233480872, 4115178125766777443, 5681478168544905931, 6601373596472566643, 7507060721942968483, 8399075790359081724, 8693463985226723168, 9568029438360202098, 10144078919501101548, 10430055236837252648, 11840083180663258601, 13761210420658862357, 14299343276471374635, 14566680578165727644, 15097957966210449927, 16922976911328602910, 17689382322260857208, 500013540394364858, 748580250866718886, 1242879168328830382, 1977374033974150939, 2944078676154940804, 3659926193048069267, 4368137639120453308, 4836135668995329356, 5532061633213252278, 6448918945643986474, 6902733635092675308, 7801388544844847127]
theorem stepsN_length : stepsN.length = 80 := by decide +kernel
theorem stepsN_all : (stepsN.all fun x => decide (x < 18446744073709551616)) = true := by decide +kernel
theorem stepsN_lt (i : Nat) : stepsN.getD i 0 < 18446744073709551616 :=
  getD_lt (fun x hx => by simpa using (List.all_eq_true.1 stepsN_all) x hx) (by decide) i
def kN (F : ShaF) (t : Nat) : Nat := stepsN.getD t 0 / 2 ^ (64 - F.bits) % 2 ^ F.bits
structure S8 where
  a : Nat
  b : Nat
  c : Nat
  d : Nat
  e : Nat
  f : Nat
  g : Nat
  h : Nat
structure S8.Lt (s : S8) (m : Nat) : Prop where
  a : s.a < m
  b : s.b < m
  c : s.c < m
  d : s.d < m
  e : s.e < m
  f : s.f < m
  g : s.g < m
  h : s.h < m
def mixX (F : ShaF) (s : S8) (k w : Nat) : Nat := (s.h + allF F s.e F.s1 false + ((s.e &&& s.f) ^^^ ((2 ^ F.bits - 1 - s.e) &&& s.g)) + k + w) % 2 ^ F.bits
def mixY (F : ShaF) (s : S8) : Nat := (allF F s.a F.s0 false + ((s.a &&& s.b) ^^^ (s.a &&& s.c) ^^^ (s.b &&& s.c))) % 2 ^ F.bits
theorem mixX_32 (h al ch k w : Nat) : (h + al + ch + k + w) % 2 ^ 32 = ((((h + al % 4294967296) % 2 ^ 32 + ch) % 2 ^ 32 + k) % 2 ^ 32 + w) % 2 ^ 32 := by omega
theorem mixY_32 (al mj : Nat) : (al + mj) % 2 ^ 32 = (al % 4294967296 + mj) % 2 ^ 32 := by omega
def stepS (F : ShaF) (s : S8) (k w : Nat) : S8 := ⟨(mixX F s k w + mixY F s) % 2 ^ F.bits, s.a, s.b, s.c, (s.d + mixX F s k w) % 2 ^ F.bits, s.e, s.f, s.g⟩
def mixTo (F : ShaF) (r : List Nat) (s : S8) : Nat → S8
  | 0 => s
  | t + 1 => stepS F (mixTo F r s t) (kN F t) (r.getD t 0)
def addS (F : ShaF) (s v : S8) : S8 := ⟨(v.a + s.a) % 2 ^ F.bits, (v.b + s.b) % 2 ^ F.bits, (v.c + s.c) % 2 ^ F.bits, (v.d + s.d) % 2 ^ F.bits, (v.e + s.e) % 2 ^ F.bits, (v.f + s.f) % 2 ^ F.bits, (v.g + s.g) % 2 ^ F.bits, (v.h + s.h) % 2 ^ F.bits⟩
def mixS (F : ShaF) (s : S8) (blk : List UInt8) : S8 := addS F s (mixTo F (rowW F blk F.many) s F.many)
theorem stepS_lt {F : ShaF} {s : S8} {k w : Nat} (h : s.Lt (2 ^ F.bits)) : (stepS F s k w).Lt (2 ^ F.bits) :=
  ⟨Nat.mod_lt _ (Nat.two_pow_pos _), h.a, h.b, h.c, Nat.mod_lt _ (Nat.two_pow_pos _), h.e, h.f, h.g⟩
theorem mixTo_lt {F : ShaF} {r : List Nat} {s : S8} (h : s.Lt (2 ^ F.bits)) : ∀ t, (mixTo F r s t).Lt (2 ^ F.bits)
  | 0 => h
  | t + 1 => stepS_lt (mixTo_lt h t)
theorem addS_lt (F : ShaF) (s v : S8) : (addS F s v).Lt (2 ^ F.bits) := by
  constructor <;> exact Nat.mod_lt _ (Nat.two_pow_pos _)
def s8V (K : IntKind) (s : S8) : Array Value := #[.int K (s.a : Int), .int K (s.b : Int), .int K (s.c : Int), .int K (s.d : Int), .int K (s.e : Int), .int K (s.f : Int), .int K (s.g : Int), .int K (s.h : Int)]
def s8L (s : S8) : List Nat := [s.a, s.b, s.c, s.d, s.e, s.f, s.g, s.h]
def addC (K : IntKind) (F : ShaF) (s v : S8) (i : Nat) : Array Value := (wordsV K ((s8L (addS F s v)).take i ++ (s8L v).drop i)).toArray
theorem addC_zero (K : IntKind) (F : ShaF) (s v : S8) : addC K F s v 0 = s8V K v := rfl
theorem addC_end (K : IntKind) (F : ShaF) (s v : S8) : addC K F s v 8 = s8V K (addS F s v) := rfl
theorem addC_size (K : IntKind) (F : ShaF) (s v : S8) (i : Nat) : (addC K F s v i).size = 8 := by
  simp [addC, wordsV, s8L]; omega
theorem s8V_at (K : IntKind) (s : S8) (i : Nat) (h : i < 8) : (s8V K s)[i]? = some (.int K (((s8L s).getD i 0 : Nat) : Int)) := by
  match i, h with
  | 0, _ => rfl
  | 1, _ => rfl
  | 2, _ => rfl
  | 3, _ => rfl
  | 4, _ => rfl
  | 5, _ => rfl
  | 6, _ => rfl
  | 7, _ => rfl
theorem addC_at (K : IntKind) (F : ShaF) (s v : S8) (i : Nat) (h : i < 8) : (addC K F s v i)[i]? = some (.int K (((s8L v).getD i 0 : Nat) : Int)) := by
  match i, h with
  | 0, _ => rfl
  | 1, _ => rfl
  | 2, _ => rfl
  | 3, _ => rfl
  | 4, _ => rfl
  | 5, _ => rfl
  | 6, _ => rfl
  | 7, _ => rfl
theorem addC_set (K : IntKind) (F : ShaF) (s v : S8) (i : Nat) (h : i < 8) : (addC K F s v i).setIfInBounds i (.int K ((((s8L v).getD i 0 + (s8L s).getD i 0) % 2 ^ F.bits : Nat) : Int)) = addC K F s v (i + 1) := by
  match i, h with
  | 0, _ => rfl
  | 1, _ => rfl
  | 2, _ => rfl
  | 3, _ => rfl
  | 4, _ => rfl
  | 5, _ => rfl
  | 6, _ => rfl
  | 7, _ => rfl
structure TabG (w : World) : Prop where
  size : 0 < w.heap.size
  cell : ∀ i, i < 80 → w.cell? ⟨0, i, none⟩ = some (.int .u64 ((stepsN.getD i 0 : Nat) : Int))
theorem TabG.below {w w' : World} {B : Nat} (h : TabG w) (hb : Below B w w') (hB : 0 < B) : TabG w' :=
  ⟨Nat.lt_of_lt_of_le h.size hb.size, fun i hi => (hb.cell (p := ⟨0, i, none⟩) hB).trans (h.cell i hi)⟩
end Go.Proofs.YtoihgnkhalhocaaGreatDoor.Sh
/-
  What the listed variable gives the walks; a []byte argument, with its room.
-/
namespace Go.Proofs.YtoihgnkhalhocaaGreatDoor.Sh
set_option linter.unusedSimpArgs false
set_option linter.unusedVariables false
open Go.ChangeShapes Go.WideShapes Go.ChangeAt Go.RowKit Go.Joins
theorem gSteps : Tryz.prog.globalNamed "brevet/sha.steps" = some 0 := by kernel_rfl
theorem tSteps : (Tryz.prog.globals[0]?).map (·.type) = some 191 := by kernel_rfl
theorem c_u64 : Tryz.prog.cellsOf 86 = 1 := by kernel_rfl
def laidL : List (String × DataW Unit) := [("brevet/sha.steps", Rows.laid_brevet_sha_steps)]
theorem steps_datum : (Rows.laid_brevet_sha_steps : DataW Unit) = .agg (stepsN.map fun n : Nat => DataW.lit (.int .u64 (n : Int))) := by kernel_rfl
theorem door_met (os : Os) (args : Array Value) : laidMetH Tryz.prog laidL ((World.doorLaid Tryz.prog 400 os).forCall (fun _ _ => 0) ⟨#[], args, []⟩).memory :=
  laidMetH_of_parts3 (fuel := 8) (laidMet_of_run' 8 (by kernel_rfl) (by kernel_rfl)) (by kernel_rfl) (by kernel_rfl)
theorem tab_of_laid {W : World} (h : laidMetH Tryz.prog laidL W) : TabG W := by
  rw [MakeChecks.laidMetH_plain _ _ _ (by kernel_rfl)] at h
  obtain ⟨ps, ⟨g0, t0, cs0, f0, p0, q0, hg0, ht0, hv0, hd0, _, _⟩, _, _⟩ := h
  obtain rfl := Option.some.inj (gSteps.symm.trans hg0)
  obtain rfl := Option.some.inj (tSteps.symm.trans ht0)
  obtain ⟨xs, m, rfl, hx, hlen, hn, hel⟩ := DataW.trod_array Tryz.underlying191 hd0
  rw [steps_datum] at hx
  simp only [Prod.mk.injEq, DataW.agg.injEq] at hx
  have hcell : ∀ i, i < 80 → W.cell? ⟨0, i, none⟩ = some (.int .u64 ((stepsN.getD i 0 : Nat) : Int)) := fun i hi => by
    have h0 := hel i hi
    rw [c_u64, Nat.mul_one] at h0
    have hxl : i < xs.length := by rw [hn]; exact hi
    have hsl : i < stepsN.length := by rw [stepsN_length]; exact hi
    rw [List.getElem?_eq_getElem hxl] at h0
    obtain ⟨k, e1, e2, _⟩ := DataW.trod_int Tryz.underlying86 h0
    have h1 : (xs.map (·.1))[i]? = (stepsN.map fun n : Nat => DataW.lit (H := Unit) (.int .u64 (n : Int)))[i]? := by rw [hx.1]
    rw [List.getElem?_map, List.getElem?_map, List.getElem?_eq_getElem hxl, List.getElem?_eq_getElem hsl, e2] at h1
    simp at h1
    subst h1
    rw [World.var?_cell hg0 hv0 i]
    have h2 : (cs0.toList.drop i)[0]? = some (.int .u64 ((stepsN[i] : Nat) : Int)) := by
      have : ((cs0.toList.drop i).take 1)[0]? = some (.int .u64 ((stepsN[i] : Nat) : Int)) := by rw [e1]; rfl
      rwa [List.getElem?_take, if_pos (by decide)] at this
    rw [List.getElem?_drop, Nat.add_zero] at h2
    rw [List.getD_eq_getElem?_getD, List.getElem?_eq_getElem hsl, Option.getD_some, ← h2]
    simp
  refine ⟨?_, hcell⟩
  have := World.block_lt_of_cell? W _ (hcell 0 (by decide))
  exact this
set_option maxRecDepth 100000 in
theorem open_bytes_cap {H : Type} {enc : TypeId × Value → H} {W : World} {base : Nat} {r : Reach} {b0 : Nat} {sp : Nat → Bool} {held : Bool} {v : Value} {d : DataW H} {p : List MemPlace}
    (hv : Value.okWide Tryz.prog W r b0 42 v) (h : DataW.Trod enc Tryz.prog W base sp held 42 v d p) :
    ∃ (l : List UInt8) (A : Option Addr) (c : Nat), v = .slice A l.length c ∧ Rd W W.heap.size A (bytesV l) ∧ l.length ≤ c ∧ c ≤ 9223372036854775807 := by
  have h9 := h
  obtain ⟨l, A, c, rfl, hr, hc, _⟩ := open_bytes_arg hv h
  refine ⟨l, A, c, rfl, hr, hc, ?_⟩
  obtain ⟨fuel, hf⟩ := h9
  rcases open_ints Tryz.underlying42 Tryz.underlying5 cells_u8 hf with ⟨e, _⟩ | ⟨a, len, cap, zs, e, _, _, hm, _⟩
  · simp [Value.cells] at e
    omega
  · simp [Value.cells] at e
    unfold maxLen at hm
    omega
end Go.Proofs.YtoihgnkhalhocaaGreatDoor.Sh
/-
  What the three listed variables give the walks.
-/
namespace Go.Proofs.YtoihgnkhalhocaaGreatDoor
set_option linter.unusedSimpArgs false
set_option linter.unusedVariables false
open Go.ChangeShapes Go.WideShapes Go.ChangeAt Go.RowKit Go.Joins
def laidL3 : List (String × DataW Unit) := [("brevet/sha.steps", Rows.laid_brevet_sha_steps), ("unicode/utf8.acceptRanges", Rows.laid_unicode_utf8_acceptRanges), ("unicode/utf8.first", Rows.laid_unicode_utf8_first)]
theorem door_met3 (os : Os) (args : Array Value) : laidMetH Tryz.prog laidL3 ((World.laidAll Tryz.prog os laidL3).forCall (fun _ _ => 0) ⟨#[], args, []⟩).memory := by
  rw [MakeChecks.laidMetH_plain _ _ _ (by kernel_rfl)]
  exact laidMet_laidAll _ (by kernel_rfl) (by kernel_rfl)
theorem tab_of_laid3 {W : World} (h : laidMetH Tryz.prog laidL3 W) : Sh.TabG W := by
  rw [MakeChecks.laidMetH_plain _ _ _ (by kernel_rfl)] at h
  obtain ⟨ps, ⟨g0, t0, cs0, f0, p0, q0, hg0, ht0, hv0, hd0, _, _⟩, _⟩ := h
  obtain rfl := Option.some.inj (Sh.gSteps.symm.trans hg0)
  obtain rfl := Option.some.inj (Sh.tSteps.symm.trans ht0)
  obtain ⟨xs, m, rfl, hx, hlen, hn, hel⟩ := DataW.trod_array Tryz.underlying191 hd0
  rw [Sh.steps_datum] at hx
  simp only [Prod.mk.injEq, DataW.agg.injEq] at hx
  have hcell : ∀ i, i < 80 → W.cell? ⟨0, i, none⟩ = some (.int .u64 ((Sh.stepsN.getD i 0 : Nat) : Int)) := fun i hi => by
    have h0 := hel i hi
    rw [Sh.c_u64, Nat.mul_one] at h0
    have hxl : i < xs.length := by rw [hn]; exact hi
    have hsl : i < Sh.stepsN.length := by rw [Sh.stepsN_length]; exact hi
    rw [List.getElem?_eq_getElem hxl] at h0
    obtain ⟨k, e1, e2, _⟩ := DataW.trod_int Tryz.underlying86 h0
    have h1 : (xs.map (·.1))[i]? = (Sh.stepsN.map fun n : Nat => DataW.lit (H := Unit) (.int .u64 (n : Int)))[i]? := by rw [hx.1]
    rw [List.getElem?_map, List.getElem?_map, List.getElem?_eq_getElem hxl, List.getElem?_eq_getElem hsl, e2] at h1
    simp at h1
    subst h1
    rw [World.var?_cell hg0 hv0 i]
    have h2 : (cs0.toList.drop i)[0]? = some (.int .u64 ((Sh.stepsN[i] : Nat) : Int)) := by
      have : ((cs0.toList.drop i).take 1)[0]? = some (.int .u64 ((Sh.stepsN[i] : Nat) : Int)) := by rw [e1]; rfl
      rwa [List.getElem?_take, if_pos (by decide)] at this
    rw [List.getElem?_drop, Nat.add_zero] at h2
    rw [List.getD_eq_getElem?_getD, List.getElem?_eq_getElem hsl, Option.getD_some, ← h2]
    simp
  refine ⟨?_, hcell⟩
  have := World.block_lt_of_cell? W _ (hcell 0 (by decide))
  exact this
end Go.Proofs.YtoihgnkhalhocaaGreatDoor
/-
  Laws of my own on structs that lie in a block of the call's own: whole and field by field; a result that is such a struct.
-/
namespace Go.Proofs.YtoihgnkhalhocaaGreatDoor
set_option linter.unusedSimpArgs false
set_option linter.unusedVariables false
open Go.RowKit
def Blk (w : World) (g : Nat) (t : TypeId) (cs : Array Value) : Prop := w.heap[g]? = some (.cells cs t (0, 0))
section
variable {w w' : World} {g : Nat} {t : TypeId} {cs : Array Value}
theorem Blk.lt (h : Blk w g t cs) : g < w.heap.size := (Array.getElem?_eq_some_iff.1 h).1
theorem Blk.cell (h : Blk w g t cs) (i : Nat) : w.cell? ⟨g, i, none⟩ = cs[i]? := cell_of_row w g i cs t (0, 0) h
theorem Blk.free (h : Blk w g t cs) (i : Nat) : w.frozen? ⟨g, i, none⟩ = false := by
  unfold Blk at h
  simp [World.frozen?, h]
theorem Blk.new (w : World) (t : TypeId) (cs : Array Value) : Blk (w.alloc (.cells cs t)) w.heap.size t cs := heap_alloc_new w _
theorem Blk.alloc (h : Blk w g t cs) (o : Obj) : Blk (w.alloc o) g t cs := (Below.heap_alloc w o g h.lt).trans h
theorem Blk.below {B : Nat} (h : Blk w g t cs) (hb : Below B w w') (hg : g < B) : Blk w' g t cs := (hb.block g hg).trans h
theorem Blk.grown {row : Option Nat} (h : Blk w g t cs) (hb : w.grownBy w' row) (hg : some g ≠ row) : Blk w' g t cs := (hb.block g h.lt hg).trans h
theorem Blk.keep {e : TypeId} (h : Blk w g t cs) (hk : KeepBut e w w') (hne : t ≠ e) : Blk w' g t cs := heap_keep hk hne h
theorem Blk.alloc1 (h : Blk w g t cs) (hk : Alloc1 w w') : Blk w' g t cs := heap_alloc1 hk h
theorem own_ne_blk {B : Nat} {e : TypeId} {s n : Nat} {v : Value} {xs : List Value} (ho : OwnX w B e s v n xs) (h : Blk w g t cs) (hne : t ≠ e) : v.ownBlock ≠ some g := by
  intro hb
  rcases ho.2 with ⟨rfl, _⟩ | ⟨g', cap, cur, fz, rfl, _, hgg, _⟩
  · simp [Value.ownBlock] at hb
  · simp [Value.ownBlock] at hb
    subst hb
    unfold Blk at h
    rw [hgg] at h
    simp at h
    exact hne h.2.1.symm
end
theorem Rd.of_blk {w : World} {g B : Nat} {t : TypeId} {l : List Value} (h : Blk w g t l.toArray) (hB : g < B) : Rd w B (some ⟨g, 0, none⟩) l := fun i u hu => by
  refine ⟨_, rfl, hB, ?_⟩
  have hadd : (⟨g, 0, none⟩ : Addr).add i = ⟨g, i, none⟩ := by unfold Addr.add; split <;> simp_all
  rw [hadd, h.cell i]
  simpa using hu
structure Wrote (g : Nat) (w w' : World) : Prop where
  grown : w.grownBy w' (some g)
  size : w'.heap.size = w.heap.size
theorem Wrote.below {B g : Nat} {a w w' : World} (h : Wrote g w w') (hb : Below B a w) (hg : B ≤ g) (hB : B ≤ w.heap.size) : Below B a w' := hb.grown h.grown hB fun k hk => by injection hk with hk; omega
theorem Wrote.own {g : Nat} {w w' : World} {B : Nat} {e : TypeId} {s n : Nat} {v : Value} {xs : List Value} (h : Wrote g w w') (ho : OwnX w B e s v n xs) (hne : v.ownBlock ≠ some g) : OwnX w' B e s v n xs := ho.kept h.grown (.inr hne)
theorem Wrote.blk {g g' : Nat} {w w' : World} {t : TypeId} {cs : Array Value} (h : Wrote g w w') (hb : Blk w g' t cs) (hne : g' ≠ g) : Blk w' g' t cs := hb.grown h.grown (by simpa using hne)
theorem wrote_setRow (w : World) (g : Nat) (cs : Array Value) : Wrote g w (w.setRow g cs) :=
  ⟨⟨rfl, rfl, rfl, by simp, fun k _ hk => setRow_other w g k _ (fun e => hk (by rw [e]))⟩, by simp⟩
section
variable {P : Program}
theorem wpList_put_box {w : World} {ops : Array Oper} {rest : List Oper} {o : Oper} {a : Act} {Q : Exit → Act → World → Prop} {ty : TypeId} {x y : Operand} {g : Nat} {cells old : Array Value} {t : TypeId}
    (hg : Blk w g t old) (hgd : o.guard = none) (ho : o.op = .store ty x y) (hx : a.eval x = .pointer (some ⟨g, 0, none⟩)) (hy : a.eval y = .agg cells)
    (hi : (P.info? ty).map (·.size) = some cells.size) (hold : old.size = cells.size) (h1 : cells.all (·.oneCell') = true)
    (h : ∀ w', Blk w' g t cells → Wrote g w w' → wpList P ops Q rest (a.put o.dst undef) w') : wpList P ops Q (o :: rest) a w :=
  wpList_store_row hgd ty x y ho g cells hx hy t old hg hi hold h1 (h _ (setRow_heap w g old cells t (0, 0) hg) (wrote_setRow w g cells))
theorem wpList_get_box {w : World} {ops : Array Oper} {rest : List Oper} {o : Oper} {a : Act} {Q : Exit → Act → World → Prop} {ty : TypeId} {x : Operand} {g : Nat} {cs : Array Value} {t : TypeId} {d : TypeDesc}
    (hg : Blk w g t cs) (hgd : o.guard = none) (ho : o.op = .load ty x) (hx : a.eval x = .pointer (some ⟨g, 0, none⟩))
    (hu : P.underlying ty = some d) (hd : (match d with | .struct _ | .array _ _ => true | _ => false) = true) (hi : (P.info? ty).map (·.size) = some cs.size)
    (h : wpList P ops Q rest (a.put o.dst (.agg cs)) w) : wpList P ops Q (o :: rest) a w :=
  wpList_load_row hgd ty x ho g hx t cs (0, 0) d hg hu hd hi h
theorem results_box {fn : Func} {p : Tmp} {ty : TypeId} (h : fn.results = #[.cell p ty]) {tmps : Array Value} {w : World} {g : Nat} {cs : Array Value} {t : TypeId} {d : TypeDesc} (hp : tmps.getD p undef = .pointer (some ⟨g, 0, none⟩))
    (hg : Blk w g t cs) (hu : P.underlying ty = some d) (hd : (match d with | .struct _ | .array _ _ => true | _ => false) = true) (hi : (P.info? ty).map (·.size) = some cs.size) :
    (results fn tmps).run P w = .ok (.agg cs) w := by
  have hl := run_loadVar_row (P := P) w g t ty cs (0, 0) d hg hu hd hi
  have hp' : tmps[p]?.getD undef = .pointer (some ⟨g, 0, none⟩) := by simpa using hp
  simp only [results, h]
  simp [Sem.run_bind, Result.andThen, hp', asAddr, hl]
theorem results_box_tmp {fn : Func} {p u : Tmp} {ty : TypeId} (h : fn.results = #[.cell p ty, .tmp u]) {tmps : Array Value} {w : World} {g : Nat} {cs : Array Value} {t : TypeId} {d : TypeDesc} (hp : tmps.getD p undef = .pointer (some ⟨g, 0, none⟩))
    (hg : Blk w g t cs) (hu : P.underlying ty = some d) (hd : (match d with | .struct _ | .array _ _ => true | _ => false) = true) (hi : (P.info? ty).map (·.size) = some cs.size) :
    (results fn tmps).run P w = .ok (.tuple #[.agg cs, tmps.getD u undef]) w := by
  have hl := run_loadVar_row (P := P) w g t ty cs (0, 0) d hg hu hd hi
  have hp' : tmps[p]?.getD undef = .pointer (some ⟨g, 0, none⟩) := by simpa using hp
  simp only [results, h]
  simp [Sem.run_bind, Result.andThen, hp', asAddr, hl]
theorem run_store_cell {w : World} {ty : TypeId} {g i : Nat} {v : Value} {cs : Array Value} {t : TypeId} (hg : Blk w g t cs) (hi : (P.info? ty).map (·.size) = some 1) (hlt : i < cs.size) (h1 : v.oneCell' = true) :
    (storeVar ty ⟨g, i, none⟩ v).run P w = .ok () (w.setRow g (cs.setIfInBounds i v)) := by
  have hc1 : v.cells = #[v] := by cases v <;> first | rfl | simp [Value.oneCell'] at h1
  have hst := run_storeCells_at P g i t [v] 0 cs w hg (by simp; omega) (by intro u hu; simp at hu; subst hu; exact h1)
  cases hq : P.info? ty with
  | none => simp [hq] at hi
  | some j =>
    have hj : j.size = 1 := by simpa [hq] using hi
    have e : (cs.toList.take (i + 0) ++ [v] ++ cs.toList.drop (i + 0 + [v].length)).toArray = cs.setIfInBounds i v := by
      apply Array.ext'
      simp only [Nat.add_zero, List.length_cons, List.length_nil, Array.toList_setIfInBounds]
      rw [List.set_eq_take_append_cons_drop, if_pos (by simpa using hlt)]
      simp
    rw [e] at hst
    simp [storeVar, hc1, sizeOf, typeInfo, hq, hj, hst]
theorem wpList_put_cell {w : World} {ops : Array Oper} {rest : List Oper} {o : Oper} {a : Act} {Q : Exit → Act → World → Prop} {ty : TypeId} {x y : Operand} {g i : Nat} {v : Value} {cs : Array Value} {t : TypeId}
    (hg : Blk w g t cs) (hgd : o.guard = none) (ho : o.op = .store ty x y) (hx : a.eval x = .pointer (some ⟨g, i, none⟩)) (hy : a.eval y = v)
    (hi : (P.info? ty).map (·.size) = some 1) (hlt : i < cs.size) (h1 : v.oneCell' = true)
    (h : ∀ w', Blk w' g t (cs.setIfInBounds i v) → Wrote g w w' → wpList P ops Q rest (a.put o.dst undef) w') : wpList P ops Q (o :: rest) a w := by
  refine wpList_plain hgd fun K hK => ?_
  have hr := run_store_cell (P := P) (ty := ty) hg hi hlt h1
  unfold Oper.wp execOp
  simp only [ho, hx, hy, Instr.storeAt, Instr.sureAddr, Sem.run_bind, Sem.run_pure, Result.andThen_ok, hr]
  exact hK _ _ (h _ (setRow_heap w g cs _ t (0, 0) hg) (wrote_setRow w g _))
end
end Go.Proofs.YtoihgnkhalhocaaGreatDoor
/-
  Rows of structs: cells one behind the other; rows of which the blocks' type is known.
-/
namespace Go.Proofs.YtoihgnkhalhocaaGreatDoor
set_option linter.unusedSimpArgs false
set_option linter.unusedVariables false
open Go.RowKit
section
variable {α : Type}
def rowsV (f : α → Array Value) (l : List α) : List Value := l.flatMap fun x => (f x).toList
theorem rowsV_append (f : α → Array Value) (l r : List α) : rowsV f (l ++ r) = rowsV f l ++ rowsV f r := by simp [rowsV]
theorem rowsV_one (f : α → Array Value) (x : α) : rowsV f [x] = (f x).toList := by simp [rowsV]
theorem rowsV_len {f : α → Array Value} {m : Nat} (hf : ∀ x, (f x).size = m) : ∀ l : List α, (rowsV f l).length = l.length * m
  | [] => by simp [rowsV]
  | x :: r => by
    have := rowsV_len hf r
    rw [show rowsV f (x :: r) = (f x).toList ++ rowsV f r by simp [rowsV], List.length_append, this]
    simp [hf, Nat.add_mul, Nat.add_comm]
theorem rowsV_at {f : α → Array Value} {m : Nat} (hf : ∀ x, (f x).size = m) : ∀ (l : List α) (i : Nat) (h : i < l.length) (j : Nat) (u : Value), (f l[i])[j]? = some u → (rowsV f l)[i * m + j]? = some u
  | x :: r, 0, h, j, u, hu => by
    rw [show rowsV f (x :: r) = (f x).toList ++ rowsV f r by simp [rowsV]]
    have hu' : (f x)[j]? = some u := by simpa using hu
    have hj : j < (f x).size := (Array.getElem?_eq_some_iff.1 hu').1
    rw [Nat.zero_mul, Nat.zero_add, List.getElem?_append_left (by simpa using hj), Array.getElem?_toList]
    exact hu'
  | x :: r, i + 1, h, j, u, hu => by
    have hi : i < r.length := by simpa using h
    have := rowsV_at hf r i hi j u (by simpa using hu)
    have e : (i + 1) * m = m + i * m := by rw [Nat.add_mul]; omega
    rw [show rowsV f (x :: r) = (f x).toList ++ rowsV f r by simp [rowsV], List.getElem?_append_right (by simp [hf]; omega)]
    simp only [Array.length_toList, hf]
    rw [show (i + 1) * m + j - m = i * m + j by omega]
    exact this
theorem rowsV_take {f : α → Array Value} {m : Nat} (hf : ∀ x, (f x).size = m) : ∀ (l : List α) (k : Nat), rowsV f (l.take k) = (rowsV f l).take (k * m)
  | [], k => by simp [rowsV]
  | x :: r, 0 => by simp [rowsV]
  | x :: r, k + 1 => by
    have := rowsV_take hf r k
    rw [List.take_succ_cons, show rowsV f (x :: r.take k) = (f x).toList ++ rowsV f (r.take k) by simp [rowsV], show rowsV f (x :: r) = (f x).toList ++ rowsV f r by simp [rowsV], this, List.take_append]
    have e : (k + 1) * m = m + k * m := by rw [Nat.add_mul]; omega
    rw [e]
    have hl : (f x).toList.length = m := by simp [hf]
    rw [hl, List.take_of_length_le (l := (f x).toList) (by rw [hl]; omega), Nat.add_sub_cancel_left]
theorem rowsV_drop {f : α → Array Value} {m : Nat} (hf : ∀ x, (f x).size = m) : ∀ (l : List α) (k : Nat), rowsV f (l.drop k) = (rowsV f l).drop (k * m)
  | [], k => by simp [rowsV]
  | x :: r, 0 => by simp [rowsV]
  | x :: r, k + 1 => by
    have := rowsV_drop hf r k
    have e : (k + 1) * m = m + k * m := by rw [Nat.add_mul]; omega
    have hl : (f x).toList.length = m := by simp [hf]
    rw [List.drop_succ_cons, this, show rowsV f (x :: r) = (f x).toList ++ rowsV f r by simp [rowsV], List.drop_append, e, hl, @List.drop_eq_nil_of_le _ (f x).toList _ (by rw [hl]; omega), Nat.add_sub_cancel_left, List.nil_append]
theorem rowsV_mem {f : α → Array Value} (h1 : ∀ x, (f x).all (·.oneCell') = true) (l : List α) : ∀ u ∈ rowsV f l, u.oneCell' = true := fun u hu => by
  obtain ⟨x, _, hx⟩ := List.mem_flatMap.1 hu
  have := h1 x
  rw [Array.all_eq_true_iff_forall_mem] at this
  exact this u (by simpa using hx)
theorem rd_rows {f : α → Array Value} {m : Nat} (hf : ∀ x, (f x).size = m) (hm : 0 < m) {w : World} {B : Nat} {A : Option Addr} {l : List α} (h : Rd w B A (rowsV f l)) {i : Nat} (hi : i < l.length) :
    ∃ ad, A = some ad ∧ ad.block < B ∧ ∀ j u, (f l[i])[j]? = some u → w.cell? ((ad.add (i * m)).add j) = some u := by
  have h0 := rowsV_at hf l i hi 0 _ (Array.getElem?_eq_getElem (by rw [hf]; exact hm))
  obtain ⟨ad, hA, hb, -⟩ := h _ _ h0
  refine ⟨ad, hA, hb, fun j u hu => ?_⟩
  obtain ⟨ad', hA', -, hc⟩ := h _ _ (rowsV_at hf l i hi j u hu)
  rw [hA] at hA'
  injection hA' with e
  subst e
  rw [← hc]
  congr 1
  generalize i * m = n
  unfold Addr.add
  by_cases h1 : n = 0 <;> by_cases h2 : j = 0 <;> simp [h1, h2, Nat.add_assoc]
end
def Row (w : World) (B : Nat) (t : TypeId) (A : Option Addr) (xs : List Value) : Prop :=
  ∀ i u, xs[i]? = some u → ∃ ad cs fz, A = some ad ∧ ad.block < B ∧ w.cell? (ad.add i) = some u ∧ w.heap[ad.block]? = some (.cells cs t fz)
variable {w w' : World} {B : Nat} {t : TypeId} {A : Option Addr} {xs : List Value}
theorem Row.rd (h : Row w B t A xs) : Rd w B A xs := fun i u hu => by
  obtain ⟨ad, cs, fz, h1, h2, h3, _⟩ := h i u hu
  exact ⟨ad, h1, h2, h3⟩
theorem Row.nil (w : World) (B : Nat) (t : TypeId) (A : Option Addr) : Row w B t A [] := fun i u hu => by simp at hu
theorem Row.below (h : Row w B t A xs) (hb : Below B w w') : Row w' B t A xs := fun i u hu => by
  obtain ⟨ad, cs, fz, h1, h2, h3, h4⟩ := h i u hu
  exact ⟨ad, cs, fz, h1, h2, by rw [hb.cell (p := ad.add i) (by rw [block_of_add]; exact h2)]; exact h3, by rw [hb.block _ h2]; exact h4⟩
theorem Row.mono {B' : Nat} (h : Row w B t A xs) (hB : B ≤ B') : Row w B' t A xs := fun i u hu => by
  obtain ⟨ad, cs, fz, h1, h2, h3, h4⟩ := h i u hu
  exact ⟨ad, cs, fz, h1, Nat.lt_of_lt_of_le h2 hB, h3, h4⟩
theorem Row.grow (h : Row w w.heap.size t A xs) (hb : Below w.heap.size w w') : Row w' w'.heap.size t A xs := (h.below hb).mono hb.size
theorem Row.keep {e : TypeId} (h : Row w B t A xs) (hk : KeepBut e w w') (ht : t ≠ e) : Row w' B t A xs := fun i u hu => by
  obtain ⟨ad, cs, fz, h1, h2, h3, h4⟩ := h i u hu
  have h5 := heap_keep hk ht h4
  refine ⟨ad, cs, fz, h1, h2, ?_, h5⟩
  rw [← h3]
  exact World.cell?_of_block (w := w) (w' := w') (by rw [block_of_add, h5, h4])
theorem Row.of_own {base size n c : Nat} (h : OwnX w base t size (.slice A n c) n xs) : Row w w.heap.size t A xs := fun i u hu => by
  obtain ⟨ad, h1, h2, h3⟩ := Rd.of_own h (Nat.le_refl _) i u hu
  rcases h.2 with ⟨hn, _⟩ | ⟨g, cap, cur, fz, hv, hb, hgg, hrest⟩
  · simp at hn
    rw [hn.1] at h1
    simp at h1
  · simp at hv
    rw [hv.1] at h1
    injection h1 with h1
    subst h1
    exact ⟨_, _, _, hv.1, h2, h3, hgg⟩
theorem Row.take (h : Row w B t A xs) (k : Nat) : Row w B t A (xs.take k) := fun i u hu => by
  rw [List.getElem?_take] at hu
  split at hu
  · exact h i u hu
  · simp at hu
theorem Row.drop {ad : Addr} (h : Row w B t (some ad) xs) (k : Nat) : Row w B t (some (ad.add k)) (xs.drop k) := fun i u hu => by
  rw [List.getElem?_drop] at hu
  obtain ⟨ad', cs, fz, h1, h2, h3, h4⟩ := h _ u hu
  injection h1 with h1
  subst h1
  refine ⟨_, cs, fz, rfl, by rw [block_of_add]; exact h2, ?_, by rw [block_of_add]; exact h4⟩
  rw [← h3]
  congr 1
  unfold Addr.add
  by_cases e1 : k = 0 <;> by_cases e2 : i = 0 <;> simp [e1, e2, Nat.add_assoc]
end Go.Proofs.YtoihgnkhalhocaaGreatDoor
/-
  Plain: JSON's texts: how they are read and written.
-/
namespace Go.Proofs.YtoihgnkhalhocaaGreatDoor.Js
set_option linter.unusedVariables false
abbrev Bs := List UInt8
def bs (l : Bs) : ByteArray := ⟨l.toArray⟩
inductive JT where
  | mk (kind num : Int) (text : Bs) (names : List Bs) (kids : List JT)
theorem JT.ind {p : JT → Prop} (h : ∀ k n t ns ks, (∀ x ∈ ks, p x) → p (.mk k n t ns ks)) : ∀ j, p j
  | .mk k n t ns ks => h k n t ns ks (fun x _ => JT.ind h x)
def jzero : JT := .mk 0 0 [] [] []
def isBl (c : UInt8) : Bool := c == 32 || c == 9 || c == 10 || c == 13
def skip : Bs → Bs
  | [] => []
  | c :: r => if isBl c then skip r else c :: r
def look : Bs → UInt8
  | [] => 0
  | c :: _ => c
def signP (c : UInt8) (r : Bs) : Bool × Bs := if look (skip r) = c then (true, skip (skip r).tail) else (false, skip r)
def mustP (c : UInt8) (r : Bs) : Except Int Bs := if look (skip r) = c then .ok (skip (skip r).tail) else .error 13
def esc (c : UInt8) : Option UInt8 :=
  if c = 34 then some 34 else if c = 92 then some 92 else if c = 47 then some 47 else if c = 98 then some 8 else if c = 102 then some 12
  else if c = 110 then some 10 else if c = 114 then some 13 else if c = 116 then some 9 else none
def low (c : UInt8) : UInt8 := if 65 ≤ c ∧ c ≤ 70 then c + 32 else c
def hexv (c : UInt8) : Option Nat := if 48 ≤ c ∧ c ≤ 57 then some (c.toNat - 48) else if 97 ≤ c ∧ c ≤ 102 then some (c.toNat - 87) else none
def hexP (a0 a1 a2 a3 : UInt8) : Option UInt8 :=
  if a0 = 48 ∧ a1 = 48 then match hexv (low a2), hexv (low a3) with
    | some x, some y => if 16 * x + y ≤ 126 then some (UInt8.ofNat (16 * x + y)) else none
    | _, _ => none
  else none
def escP : Bs → Option (UInt8 × Bs)
  | [] => none
  | d :: r => match esc d with
    | some b => some (b, r)
    | none => if d = 117 then match r with
        | a0 :: a1 :: a2 :: a3 :: r2 => match hexP a0 a1 a2 a3 with
          | some b => some (b, r2)
          | none => none
        | _ => none
      else none
def strA : Nat → Bs → Bs → Option (Bs × Bs)
  | 0, _, _ => none
  | _ + 1, _, [] => none
  | n + 1, acc, c :: r =>
    if c < 32 ∨ 126 < c then none
    else if c = 34 then some (acc, r)
    else if c = 92 then match escP r with
      | some (b, r') => strA n (acc ++ [b]) r'
      | none => none
    else strA n (acc ++ [c]) r
def textP (r : Bs) : Option (Bs × Bs) := if look r = 34 then strA r.length [] r.tail else none
def isDig (c : UInt8) : Bool := 48 ≤ c && c ≤ 57
def takeD : Nat → Bs → Bs × Bs
  | n + 1, c :: r => if isDig c then (c :: (takeD n r).1, (takeD n r).2) else ([], c :: r)
  | 0, r => ([], r)
  | _, [] => ([], [])
def decV (n : Nat) (d : Bs) : Nat := d.foldl (fun n c => 10 * n + (c.toNat - 48)) n
def negP (r : Bs) : Bool := look r == 45
def digP (r : Bs) : Bs × Bs := takeD 17 (if negP r then r.tail else r)
def badN (neg : Bool) (d : Bs) : Bool := d.isEmpty || (look d == 48 && (1 < d.length || neg)) || 1000000000000000 < decV 0 d
def numP (r : Bs) : Option (Int × Bs) :=
  if badN (negP r) (digP r).1 = true then none else some (if negP r = true then -(decV 0 (digP r).1 : Int) else (decV 0 (digP r).1 : Int), (digP r).2)
def wordP (w r : Bs) : Option Bs := if w.isPrefixOf r then some (r.drop w.length) else none
def nameP (ns : List Bs) (r : Bs) : Except Int (List Bs × Bs) :=
  match textP r with
  | none => .error 13
  | some (s, r1) => if s ∈ ns then .error 8 else match mustP 58 r1 with
    | .error e => .error e
    | .ok r2 => .ok (ns ++ [s], r2)
def endC (m : Bool) : UInt8 := if m then 125 else 93
def commaP (e : Bool) (r : Bs) : Except Int Bs := if e = true then .ok r else mustP 44 r
def keyP (m : Bool) (ns : List Bs) (r : Bs) : Except Int (List Bs × Bs) := if m = true then nameP ns r else .ok (ns, r)
def listL (val : Bs → Except Int (JT × Bs)) (m : Bool) : Nat → List Bs → List JT → Bs → Except Int (List Bs × List JT × Bs)
  | 0, _, _, _ => .error 13
  | n + 1, ns, ks, r =>
    match signP (endC m) r with
    | (true, r1) => .ok (ns, ks, r1)
    | (false, r1) => match commaP ks.isEmpty r1 with
      | .error e => .error e
      | .ok r2 => match keyP m ns r2 with
        | .error e => .error e
        | .ok (ns', r3) => match val r3 with
          | .error e => .error e
          | .ok (k, r4) => listL val m n ns' (ks ++ [k]) r4
theorem listL_ok {val : Bs → Except Int (JT × Bs)} {m : Bool} {n : Nat} {ns : List Bs} {ks : List JT} {r : Bs} {x : List Bs × List JT × Bs} (h : listL val m (n + 1) ns ks r = .ok x) :
    (∃ r1, signP (endC m) r = (true, r1) ∧ x = (ns, ks, r1)) ∨
    ∃ r1 r2 ns' r3 k r4, signP (endC m) r = (false, r1) ∧ commaP ks.isEmpty r1 = .ok r2 ∧ keyP m ns r2 = .ok (ns', r3) ∧ val r3 = .ok (k, r4) ∧ listL val m n ns' (ks ++ [k]) r4 = .ok x := by
  rw [listL] at h
  split at h
  · rename_i r1 h1
    injection h with h
    exact .inl ⟨r1, h1, h.symm⟩
  · rename_i r1 h1
    split at h
    · simp at h
    · rename_i r2 h2
      split at h
      · simp at h
      · rename_i ns' r3 h3
        split at h
        · simp at h
        · rename_i k r4 h4
          exact .inr ⟨r1, r2, ns', r3, k, r4, h1, h2, h3, h4, h⟩
def listP (val : Bs → Except Int (JT × Bs)) (r : Bs) : Except Int (JT × Bs) :=
  match listL val (look r == 123) r.length [] [] (skip r.tail) with
  | .error e => .error e
  | .ok (ns, ks, r') => .ok (.mk (if look r == 123 then 5 else 4) 0 [] ns ks, r')
def optR {α : Type} : Option (α × Bs) → (α → JT) → Except Int (JT × Bs)
  | none, _ => .error 13
  | some (a, r), f => .ok (f a, r)
def wordR (w r : Bs) (v : JT) : Except Int (JT × Bs) := match wordP w r with
  | none => .error 13
  | some r' => .ok (v, r')
def jtrue : JT := .mk 1 1 [] [] []
def jfalse : JT := .mk 1 0 [] [] []
def jint (n : Int) : JT := .mk 2 n [] [] []
def jtext (s : Bs) : JT := .mk 3 0 s [] []
def rawP (lp : Bs → Except Int (JT × Bs)) (r : Bs) : Except Int (JT × Bs) :=
  if look r = 110 then wordR [110, 117, 108, 108] r jzero
  else if look r = 116 then wordR [116, 114, 117, 101] r jtrue
  else if look r = 102 then wordR [102, 97, 108, 115, 101] r jfalse
  else if look r = 34 then optR (textP r) jtext
  else if look r = 91 ∨ look r = 123 then lp r
  else optR (numP r) jint
def skipR : Except Int (JT × Bs) → Except Int (JT × Bs)
  | .error e => .error e
  | .ok (v, r) => .ok (v, skip r)
def valueP : Nat → Bs → Except Int (JT × Bs)
  | 0, r => skipR (rawP (fun _ => .error 9) (skip r))
  | d + 1, r => skipR (rawP (listP (valueP d)) (skip r))
def readP (s : Bs) : Except Int JT :=
  if 2000 < s.length then .error 4 else match valueP 6 s with
    | .error e => .error e
    | .ok (v, []) => .ok v
    | .ok (_, _ :: _) => .error 13
def hexd (n : Nat) : UInt8 := if n < 10 then UInt8.ofNat (48 + n) else UInt8.ofNat (87 + n)
def quoteC (c : UInt8) : Bs := if c < 32 then [92, 117, 48, 48, hexd (c.toNat / 16), hexd (c.toNat % 16)] else if c = 34 ∨ c = 92 then [92, c] else [c]
def quote (s : Bs) : Bs := 34 :: (s.flatMap quoteC ++ [34])
def dg (k : Nat) : UInt8 := UInt8.ofNat (48 + k)
def digB : Nat → Nat → Bs
  | 0, _ => []
  | f + 1, n => if n < 10 then [dg n] else digB f (n / 10) ++ [dg (n % 10)]
def intB (n : Int) : Bs := if n < 0 then 45 :: digB 16 n.natAbs else digB 16 n.natAbs
mutual
def writeV : JT → Bs
  | .mk k n t ns ks =>
    if k = 0 then [110, 117, 108, 108]
    else if k = 1 then (if n = 1 then [116, 114, 117, 101] else [102, 97, 108, 115, 101])
    else if k = 2 then intB n
    else if k = 3 then quote t
    else (if k = 5 then 123 else 91) :: (itemsV (k == 5) ns ks true ++ [if k = 5 then 125 else 93])
def itemsV : Bool → List Bs → List JT → Bool → Bs
  | _, _, [], _ => []
  | m, ns, k :: r, f => (if f then [] else [44]) ++ ((if m then quote (ns.headD []) ++ [58] else []) ++ (writeV k ++ itemsV m ns.tail r false))
end
def okT (s : Bs) : Bool := s.all fun c => c ≤ 126
def plainJ (k n : Int) (t : Bs) (ns : List Bs) (ks : List JT) : Bool :=
  (n == 0 || k == 2 || (k == 1 && n == 1)) && (ks.isEmpty || k == 4 || k == 5) && (ns.isEmpty || k == 5) && (t.isEmpty || k == 3)
def distinct : List Bs → Bool
  | [] => true
  | x :: r => !r.contains x && distinct r
mutual
def rightV : Nat → JT → Bool
  | d, .mk k n t ns ks => plainJ k n t ns ks && !(d == 0 && 4 ≤ k) && (0 ≤ k && k ≤ 5) && (k != 5 || ns.length == ks.length) && okT t && ns.all okT
      && (k != 2 || (-1000000000000000 ≤ n && n ≤ 1000000000000000)) && distinct ns && rightsV (d - 1) ks
def rightsV : Nat → List JT → Bool
  | _, [] => true
  | d, k :: r => rightV d k && rightsV d r
end
theorem rightsV_iff (d : Nat) : ∀ ks : List JT, rightsV d ks = true ↔ ∀ k ∈ ks, rightV d k = true
  | [] => by simp [rightsV]
  | k :: r => by simp [rightsV, rightsV_iff d r]
-- lengths
theorem numP_ok {r r' : Bs} {n : Int} (h : numP r = some (n, r')) : badN (negP r) (digP r).1 = false ∧ n = (if negP r = true then -(decV 0 (digP r).1 : Int) else (decV 0 (digP r).1 : Int)) ∧ r' = (digP r).2 := by
  unfold numP at h
  split at h
  · simp at h
  · rename_i hc
    injection h with h; injection h with h1 h2
    exact ⟨by simpa using hc, h1.symm, h2.symm⟩
theorem skipR_ok {x : Except Int (JT × Bs)} {v : JT} {r : Bs} (h : skipR x = .ok (v, r)) : ∃ r0, x = .ok (v, r0) ∧ r = skip r0 := by
  unfold skipR at h
  split at h
  · simp at h
  · rename_i v1 r1
    injection h with h; injection h with h1 h2; subst h1 h2
    exact ⟨_, rfl, rfl⟩
end Go.Proofs.YtoihgnkhalhocaaGreatDoor.Js
/-
  Plain: a JSON value, as it lies in memory.
-/
namespace Go.Proofs.YtoihgnkhalhocaaGreatDoor.Js
set_option linter.unusedVariables false
open Go.RowKit
structure JV where
  k : Int
  n : Int
  t : Bs
  nA : Option Addr
  nn : Nat
  nc : Nat
  kA : Option Addr
  kn : Nat
  kc : Nat
def jvCells (v : JV) : Array Value := #[.int .i64 v.k, .int .i64 v.n, .string (bs v.t), .slice v.nA v.nn v.nc, .slice v.kA v.kn v.kc]
def sCell (s : Bs) : Array Value := #[.string (bs s)]
theorem bs_self (s : ByteArray) : bs s.data.toList = s := by
  cases s
  rfl
theorem bs_inj {a b : Bs} (h : bs a = bs b) : a = b := by
  unfold bs at h
  injection h with h
  simpa using congrArg Array.toList h
theorem bs_size (s : Bs) : (bs s).size = s.length := by simp [bs, ByteArray.size]
theorem bs_app (a b : Bs) : bs a ++ bs b = bs (a ++ b) := by
  apply ByteArray.ext
  simp [bs]
theorem jvCells_one (k : JV) : (jvCells k).all (·.oneCell') = true := by simp [jvCells, Value.oneCell']
theorem sCell_one (k : Bs) : (sCell k).all (·.oneCell') = true := by simp [sCell, Value.oneCell']
def RdS (w : World) (S : Nat → Prop) (A : Option Addr) (xs : List Value) : Prop := ∀ i u, xs[i]? = some u → ∃ ad, A = some ad ∧ S ad.block ∧ w.cell? (ad.add i) = some u
section
variable {w w' : World} {S S' : Nat → Prop} {A : Option Addr} {xs : List Value} {B : Nat}
theorem RdS.nil (w : World) (S : Nat → Prop) (A : Option Addr) : RdS w S A [] := fun i u hu => by simp at hu
theorem RdS.lt (h : RdS w S A xs) {i : Nat} {u : Value} (hu : xs[i]? = some u) : ∃ ad, A = some ad ∧ S ad.block ∧ ad.block < w.heap.size ∧ w.cell? (ad.add i) = some u := by
  obtain ⟨ad, h1, h2, h3⟩ := h i u hu
  refine ⟨ad, h1, h2, ?_, h3⟩
  have := World.block_lt_of_cell? w _ h3
  rwa [block_of_add] at this
theorem RdS.rd (h : RdS w S A xs) (hS : ∀ b, b < w.heap.size → S b → b < B) : Rd w B A xs := fun i u hu => by
  obtain ⟨ad, h1, h2, h3, h4⟩ := h.lt hu
  exact ⟨ad, h1, hS _ h3 h2, h4⟩
theorem RdS.imp (h : RdS w S A xs) (hS : ∀ b, b < w.heap.size → S b → S' b) : RdS w S' A xs := fun i u hu => by
  obtain ⟨ad, h1, h2, h3, h4⟩ := h.lt hu
  exact ⟨ad, h1, hS _ h3 h2, h4⟩
theorem RdS.of_rd (h : Rd w B A xs) : RdS w (fun b => b < B) A xs := fun i u hu => h i u hu
theorem RdS.heap (h : RdS w S A xs) (hk : ∀ b, b < w.heap.size → S b → w'.heap[b]? = w.heap[b]?) : RdS w' S A xs := fun i u hu => by
  obtain ⟨ad, h1, h2, h3, h4⟩ := h.lt hu
  refine ⟨ad, h1, h2, ?_⟩
  rw [← h4]
  exact World.cell?_of_block (w := w) (w' := w') (by rw [block_of_add]; exact hk _ h3 h2)
end
inductive JRep (w : World) (S : Nat → Prop) : JT → JV → Prop
  | mk (v : JV) (ns : List Bs) (ks : List JT) (kv : List JV) (hn : v.nn = ns.length) (hnc : v.nn ≤ v.nc) (hnr : RdS w S v.nA (rowsV sCell ns)) (hk : v.kn = ks.length) (hkc : v.kn ≤ v.kc) (hkv : kv.length = ks.length)
      (hkr : RdS w S v.kA (rowsV jvCells kv)) (hkids : ∀ i (h : i < ks.length) (h' : i < kv.length), JRep w S ks[i] kv[i]) : JRep w S (.mk v.k v.n v.t ns ks) v
section
variable {w w' : World} {S S' : Nat → Prop} {j : JT} {v : JV}
theorem JRep.imp (h : JRep w S j v) (hS : ∀ b, b < w.heap.size → S b → S' b) : JRep w S' j v := by
  induction h with
  | mk v ns ks kv hn hnc hnr hk hkc hkv hkr hkids ih => exact .mk v ns ks kv hn hnc (hnr.imp hS) hk hkc hkv (hkr.imp hS) ih
theorem JRep.heap (h : JRep w S j v) (hk : ∀ b, b < w.heap.size → S b → w'.heap[b]? = w.heap[b]?) : JRep w' S j v := by
  induction h with
  | mk v ns ks kv hn hnc hnr hk' hkc hkv hkr hkids ih => exact .mk v ns ks kv hn hnc (hnr.heap hk) hk' hkc hkv (hkr.heap hk) ih
theorem JRep.under {B : Nat} (h : JRep w (fun b => b < B) j v) (hb : Below B w w') : JRep w' (fun b => b < B) j v := h.heap fun b _ hlt => hb.block b hlt
theorem JRep.grown {g : Option Nat} (h : JRep w S j v) (hg : w.grownBy w' g) (hS : ∀ b, S b → some b ≠ g) : JRep w' S j v := h.heap fun b hlt hs => hg.block b hlt (hS b hs)
theorem JRep.inv (h : JRep w S j v) : ∃ ns ks kv, j = .mk v.k v.n v.t ns ks ∧ v.nn = ns.length ∧ v.nn ≤ v.nc ∧ RdS w S v.nA (rowsV sCell ns) ∧ v.kn = ks.length ∧ v.kn ≤ v.kc ∧ kv.length = ks.length ∧
    RdS w S v.kA (rowsV jvCells kv) ∧ ∀ i (h : i < ks.length) (h' : i < kv.length), JRep w S ks[i] kv[i] := by
  cases h with
  | mk v ns ks kv hn hnc hnr hk hkc hkv hkr hkids => exact ⟨ns, ks, kv, rfl, hn, hnc, hnr, hk, hkc, hkv, hkr, hkids⟩
end
def zJV : JV := ⟨0, 0, [], none, 0, 0, none, 0, 0⟩
theorem JRep.flat (w : World) (S : Nat → Prop) (k n : Int) (t : Bs) : JRep w S (.mk k n t [] []) ⟨k, n, t, none, 0, 0, none, 0, 0⟩ :=
  .mk ⟨k, n, t, none, 0, 0, none, 0, 0⟩ [] [] [] rfl (Nat.le_refl _) (RdS.nil _ _ _) rfl (Nat.le_refl _) rfl (RdS.nil _ _ _) (fun i h _ => by simp at h)
end Go.Proofs.YtoihgnkhalhocaaGreatDoor.Js
/-
  Walks: json's texts: which bytes may be; whether a text is in a list.
-/
namespace Go.Proofs.YtoihgnkhalhocaaGreatDoor.Js
set_option linter.unusedSimpArgs false
set_option linter.unusedVariables false
open Go.RowKit
theorem odd1_any (r : Int) (w : World) : Calls Tryz.prog 59 #[.int .i32 r] w fun e w' => e = .returned (.bool (decide (126 < r))) ∧ w' = w := by
  go_enter Tryz.func59, Tryz.ntmps59
  go_wp2_with fail
  go_ret
  exact ⟨rfl, rfl⟩
theorem decodeN_big (n b0 b1 b2 b3 : Nat) (h : 128 ≤ b0) : 126 < (Lib.decodeN n b0 b1 b2 b3).1 := by
  unfold Lib.decodeN
  rw [if_neg (by omega)]
  repeat' split
  all_goals first | (show 126 < 65533; decide) | (show 126 < _; omega)
theorem decode_big {s : ByteArray} {pos : Nat} (h : pos < s.size) (hb : 126 < (s[pos]'h).toNat) : 126 < (Utf8.decode s pos).1 := by
  by_cases h8 : (s[pos]'h).toNat < 128
  · rw [decode_ascii s pos h h8]
    exact hb
  · rw [Lib.decode_at]
    have : (s.get! pos).toNat = (s[pos]'h).toNat := by
      cases s with
      | mk d => exact congrArg UInt8.toNat (getElem!_pos d pos h)
    have h2 := decodeN_big (s.size - pos) (s.get! pos).toNat (s.get! (pos + 1)).toNat (s.get! (pos + 2)).toNat (s.get! (pos + 3)).toNat (by rw [this]; omega)
    exact h2
set_option maxHeartbeats 2000000 in
theorem idxf_any (s : ByteArray) (w : World) :
    Calls Tryz.prog 131 #[.string s, .func (.func 59) #[] #[], .bool true] w fun e w' => (∃ k : Int, e = .returned (.int .i64 k) ∧ decide (0 ≤ k) = !okT s.data.toList) ∧ Below w.heap.size w w' := by
  have eg : ∀ args w, (callFunc 59 args).run Tryz.prog w = .ok (.enter 59 args) w := enters_of Tryz.func59 (by kernel_rfl) rfl
  have C := Lib.hid odd1_any
  go_enter Tryz.func131, Tryz.ntmps131
  go_wp2_with fail
  go_loopg [] s.size (fun gf wx => ∃ pos : Nat, wx.heap[w.heap.size]? = some (.stringIter s pos) ∧ Below w.heap.size w wx ∧ pos + gf = s.size ∧ okT (s.data.toList.take pos) = true)
  case atStart => exact ⟨0, World.iter_heap w s 0, (Below.refl _ w).alloc (Nat.le_refl _) _, by omega, rfl⟩
  case round =>
    obtain ⟨pos, hit, hbw, hfu, hok⟩ := hrel
    by_cases hps : pos < s.size
    · obtain ⟨g', rfl⟩ : ∃ g', gk = g' + 1 := ⟨gk - 1, by omega⟩
      have hpl : pos < s.data.toList.length := hps
      have hst : okT (s.data.toList.take (pos + 1)) = (okT (s.data.toList.take pos) && decide ((s[pos]'hps).toNat ≤ 126)) := by
        rw [List.take_succ_eq_append_getElem hpl]
        simp [okT, UInt8.le_iff_toNat_le]
        rfl
      by_cases hc : (s[pos]'hps).toNat ≤ 126
      · have hnx : ∀ ty, (Instr.next (.pointer (some ⟨w.heap.size, 0, none⟩)) true ty).run Tryz.prog wr = _ := fun ty => Lib.run_next_ascii_at wr w.heap.size s pos ty hit hps (by omega)
        have HIT := Lib.hid (Lib.iterAt_heap wr w.heap.size s pos (pos + 1) hit)
        have HBW := Lib.hid (Lib.below_iterAt hbw (k := w.heap.size) (Nat.le_refl _) s (pos + 1))
        have HOK := Lib.hid (show okT (s.data.toList.take (pos + 1)) = true by rw [hst, hok]; simpa using hc)
        obtain ⟨n, hn⟩ : ∃ n, (s[pos]'hps).toNat = n := ⟨_, rfl⟩
        rw [hn] at hnx hc
        have hd : decide (126 < (n : Int)) = false := by simp; omega
        have HFU := Lib.hid hfu
        obtain ⟨W, hWd⟩ : ∃ W, wr.iterAt w.heap.size s (pos + 1) = W := ⟨_, rfl⟩
        rw [hWd] at hnx HIT HBW
        clear hit hbw hst hok hc hn hfu hpl hps
        go_wp2_with (go_at_call 59; refine calls_then (C.out _ _) ?_; rintro e W' ⟨rfl, rfl⟩)
        go_roundg g'
        case measure => omega
        case rel => exact ⟨pos + 1, HIT.out, HBW.out, by have := HFU.out; omega, HOK.out⟩
      · have hnx : ∀ ty, (Instr.next (.pointer (some ⟨w.heap.size, 0, none⟩)) true ty).run Tryz.prog wr = _ := fun ty => Lib.run_next_any_at wr w.heap.size s pos ty hit hps
        have HBW := Lib.hid (Lib.below_iterAt hbw (k := w.heap.size) (Nat.le_refl _) s (pos + (Utf8.decode s pos).2))
        have HB := Lib.hid (decode_big hps (by omega))
        have HNO := Lib.hid (show okT s.data.toList = false by
          cases hq : okT s.data.toList with
          | false => rfl
          | true =>
            unfold okT at hq
            have := List.all_eq_true.1 hq _ (List.getElem_mem hpl)
            simp [UInt8.le_iff_toNat_le] at this
            exact absurd this hc)
        obtain ⟨r, hr⟩ : ∃ r, (Utf8.decode s pos).1 = r := ⟨_, rfl⟩
        rw [hr] at hnx HB
        have hd : decide (126 < (r : Int)) = true := by have := HB.out; simp; omega
        obtain ⟨W, hWd⟩ : ∃ W, wr.iterAt w.heap.size s (pos + (Utf8.decode s pos).2) = W := ⟨_, rfl⟩
        rw [hWd] at hnx HBW
        clear hit hbw hst hok hc hr hfu hpl hps
        go_wp2_with (go_at_call 59; refine calls_then (C.out _ _) ?_; rintro e W' ⟨rfl, rfl⟩)
        go_ret
        exact ⟨⟨_, rfl, by rw [HNO.out]; simp⟩, HBW.out⟩
    · have hnx : ∀ ty, (Instr.next (.pointer (some ⟨w.heap.size, 0, none⟩)) true ty).run Tryz.prog wr = _ := fun ty => Lib.run_next_end_at wr w.heap.size s pos ty hit hps
      have HBW := Lib.hid hbw
      have HOK := Lib.hid (show okT s.data.toList = true by
        have : s.data.toList.take pos = s.data.toList := List.take_of_length_le (by show s.size ≤ pos; omega)
        rwa [this] at hok)
      clear hit hbw hok hfu hps
      go_wp2_with fail
      go_ret
      exact ⟨⟨_, rfl, by rw [HOK.out]; simp⟩, HBW.out⟩
theorem strf_any (s : ByteArray) (w : World) :
    Calls Tryz.prog 95 #[.string s, .func (.func 59) #[] #[]] w fun e w' => (∃ k : Int, e = .returned (.int .i64 k) ∧ decide (0 ≤ k) = !okT s.data.toList) ∧ Below w.heap.size w w' := by
  have C := Lib.hid (idxf_any s w)
  go_enter Tryz.func95, Tryz.ntmps95
  go_wp2_with fail
  refine calls_then C.out ?_
  rintro e w1 ⟨⟨k, rfl, hk⟩, hb⟩
  have HB := Lib.hid hb
  have HK := Lib.hid hk
  clear hb hk
  go_wp2_with fail
  go_ret
  exact ⟨⟨_, rfl, HK.out⟩, HB.out⟩
theorem conf_any (s : ByteArray) (w : World) :
    Calls Tryz.prog 58 #[.string s, .func (.func 59) #[] #[]] w fun e w' => e = .returned (.bool (!okT s.data.toList)) ∧ Below w.heap.size w w' := by
  have C := Lib.hid (strf_any s w)
  go_enter Tryz.func58, Tryz.ntmps58
  go_wp2_with fail
  refine calls_then C.out ?_
  rintro e w1 ⟨⟨k, rfl, hk⟩, hb⟩
  have HB := Lib.hid hb
  have HK := Lib.hid hk
  clear hb hk
  go_wp2_with fail
  go_ret
  exact ⟨by rw [← HK.out]; rfl, HB.out⟩
theorem odd_any (s : ByteArray) (w : World) :
    Calls Tryz.prog 57 #[.string s] w fun e w' => e = .returned (.bool (!okT s.data.toList)) ∧ Below w.heap.size w w' := by
  have C := Lib.hid (conf_any s w)
  go_enter Tryz.func57, Tryz.ntmps57
  go_wp2_with fail
  refine calls_then C.out ?_
  rintro e w1 ⟨rfl, hb⟩
  have HB := Lib.hid hb
  clear hb
  go_wp2_with fail
  go_ret
  exact ⟨rfl, HB.out⟩
theorem idxs_any (l : List Bs) (A : Option Addr) (c B : Nat) (w : World) (hr : Rd w B A (rowsV sCell l)) (hB : B ≤ w.heap.size) (hl : l.length ≤ 1099511627776) :
    Calls Tryz.prog 96 #[.slice A l.length c, .func (.func 57) #[] #[]] w fun e w' => (∃ k : Int, e = .returned (.int .i64 k) ∧ decide (0 ≤ k) = !l.all okT) ∧ Below w.heap.size w w' := by
  have eg : ∀ args w, (callFunc 57 args).run Tryz.prog w = .ok (.enter 57 args) w := enters_of Tryz.func57 (by kernel_rfl) rfl
  have C := Lib.hid odd_any
  obtain ⟨n, hn⟩ : ∃ n, n = l.length := ⟨_, rfl⟩
  have HN := Lib.hid hn
  have HR := Lib.hid (hr.mono hB)
  have HL := Lib.hid (show (n : Int) ≤ 1099511627776 by omega)
  rw [← hn]
  clear hr hB hl hn
  go_enter Tryz.func96, Tryz.ntmps96
  go_wp2_with fail
  go_loopw [8] (fun x wr => ∃ i : Nat, i ≤ n ∧ x = .int .i64 (i : Int) ∧ (l.take i).all okT = true ∧ Below w.heap.size w wr) (fun x _ => n - (intOf x).toNat)
  case atStart => exact ⟨0, by omega, rfl, by simp, Below.refl _ _⟩
  case round =>
    obtain ⟨i, hi, rfl, hok, hb⟩ := hrel
    have HB := Lib.hid hb
    have HOK := Lib.hid hok
    clear hb hok
    by_cases hlt : i < n
    · have hil : i < l.length := by rw [← HN.out]; exact hlt
      have hlt' : (i : Int) < (n : Int) := by omega
      obtain ⟨ad, hA, hadb, hcell⟩ := rd_rows (f := sCell) (m := 1) (fun _ => rfl) (by decide) (HR.out.below HB.out) hil
      subst hA
      obtain ⟨X, hX⟩ : ∃ X, X = l[i] := ⟨_, rfl⟩
      rw [← hX] at hcell
      have hc0 : wr.cell? (ad.add i) = some (.string (bs X)) := by
        have h := hcell 0 _ rfl
        rw [Nat.mul_one] at h
        exact h
      have HST := Lib.hid (show (l.take (i + 1)).all okT = ((l.take i).all okT && okT X) by
        rw [List.take_succ_eq_append_getElem hil, ← hX]
        simp)
      have HALL := Lib.hid (show okT X = false → l.all okT = false from fun h => by
        cases hq : l.all okT with
        | false => rfl
        | true =>
          have := List.all_eq_true.1 hq X (by rw [hX]; exact List.getElem_mem hil)
          rw [h] at this
          cases this)
      have HLT := Lib.hid hlt
      clear hX hcell hadb hil
      go_wp2_with fail
      refine calls_then (C.out _ _) ?_
      rintro e w1 ⟨rfl, hb1⟩
      have HB1 := Lib.hid (HB.out.trans (hb1.mono HB.out.size))
      clear hb1
      rw [show (bs X).data.toList = X from rfl]
      cases hq : okT X with
      | true =>
        have hns := HL.out
        go_wp2_with fail
        go_roundw
        case rel => exact ⟨i + 1, HLT.out, by go_num, by rw [HST.out, HOK.out, hq]; rfl, HB1.out⟩
        case measure => have := HLT.out; simp [intOf]; omega
      | false =>
        have HQ := Lib.hid hq
        clear hq
        go_wp2_with fail
        go_ret
        exact ⟨⟨_, rfl, by rw [HALL.out HQ.out]; simp⟩, HB1.out⟩
    · obtain rfl : i = n := by omega
      have HALL := Lib.hid (show l.all okT = true by
        have := HOK.out
        rwa [HN.out, List.take_length] at this)
      go_wp2_with fail
      go_ret
      exact ⟨⟨_, rfl, by rw [HALL.out]; simp⟩, HB.out⟩
theorem cons_any (l : List Bs) (A : Option Addr) (c B : Nat) (w : World) (hr : Rd w B A (rowsV sCell l)) (hB : B ≤ w.heap.size) (hl : l.length ≤ 1099511627776) :
    Calls Tryz.prog 60 #[.slice A l.length c, .func (.func 57) #[] #[]] w fun e w' => e = .returned (.bool (!l.all okT)) ∧ Below w.heap.size w w' := by
  have C := Lib.hid (idxs_any l A c B w hr hB hl)
  clear hr
  generalize l.length = n at *
  go_enter Tryz.func60, Tryz.ntmps60
  go_wp2_with fail
  refine calls_then C.out ?_
  rintro e w1 ⟨⟨k, rfl, hk⟩, hb⟩
  have HB := Lib.hid hb
  have HK := Lib.hid hk
  clear hb hk
  go_wp2_with fail
  go_ret
  exact ⟨by rw [← HK.out]; rfl, HB.out⟩
theorem bs_toList (a : Bs) : (bs a).toList = a := by
  rw [Lib.toList_data]
  rfl
theorem idx_any (l : List Bs) (s : Bs) (A : Option Addr) (c B : Nat) (w : World) (hr : Rd w B A (rowsV sCell l)) (hl : l.length ≤ 1099511627776) :
    Calls Tryz.prog 97 #[.slice A l.length c, .string (bs s)] w fun e w' => (∃ k : Int, e = .returned (.int .i64 k) ∧ decide (0 ≤ k) = decide (s ∈ l)) ∧ w' = w := by
  obtain ⟨n, hn⟩ : ∃ n, n = l.length := ⟨_, rfl⟩
  have HN := Lib.hid hn
  have HR := Lib.hid hr
  have HL := Lib.hid (show (n : Int) ≤ 1099511627776 by omega)
  rw [← hn]
  clear hr hl hn
  go_enter Tryz.func97, Tryz.ntmps97
  go_wp2_with fail
  go_loop [8] (fun x => ∃ i : Nat, i ≤ n ∧ x = .int .i64 (i : Int) ∧ s ∉ l.take i) (fun x => n - (intOf x).toNat)
  case atStart => exact ⟨0, by omega, rfl, by simp⟩
  case round =>
    obtain ⟨i, hi, rfl, hok⟩ := hrel
    have HOK := Lib.hid hok
    clear hok
    by_cases hlt : i < n
    · have hil : i < l.length := by rw [← HN.out]; exact hlt
      have hlt' : (i : Int) < (n : Int) := by omega
      obtain ⟨ad, hA, hadb, hcell⟩ := rd_rows (f := sCell) (m := 1) (fun _ => rfl) (by decide) HR.out hil
      subst hA
      obtain ⟨X, hX⟩ : ∃ X, X = l[i] := ⟨_, rfl⟩
      rw [← hX] at hcell
      have hc0 : w.cell? (ad.add i) = some (.string (bs X)) := by
        have h := hcell 0 _ rfl
        rw [Nat.mul_one] at h
        exact h
      have HST := Lib.hid (show s ≠ X → s ∉ l.take (i + 1) from fun h => by
        rw [List.take_succ_eq_append_getElem hil, ← hX, List.mem_append]
        rintro (h1 | h1)
        · exact HOK.out h1
        · exact h (by simpa using h1))
      have HMEM := Lib.hid (show X ∈ l by rw [hX]; exact List.getElem_mem hil)
      have HLT := Lib.hid hlt
      clear hX hcell hadb hil
      have hns := HL.out
      by_cases hq : s = X
      · subst hq
        clear HST
        go_wp2_with fail
        go_ret
        exact ⟨⟨_, rfl, by simp [HMEM.out]⟩, rfl⟩
      · have hq' : ((bs s).toList == (bs X).toList) = false := by rw [bs_toList, bs_toList]; simpa using hq
        have HQ := Lib.hid hq
        clear hq
        go_wp2_with fail
        exact ⟨⟨i + 1, HLT.out, by go_num, HST.out HQ.out⟩, by have := HLT.out; simp [intOf]; omega⟩
    · obtain rfl : i = n := by omega
      have HALL := Lib.hid (show s ∉ l by
        have := HOK.out
        rwa [HN.out, List.take_length] at this)
      go_wp2_with fail
      go_ret
      exact ⟨⟨_, rfl, by simp [HALL.out]⟩, rfl⟩
theorem has_any (l : List Bs) (s : Bs) (A : Option Addr) (c B : Nat) (w : World) (hr : Rd w B A (rowsV sCell l)) (hl : l.length ≤ 1099511627776) :
    Calls Tryz.prog 61 #[.slice A l.length c, .string (bs s)] w fun e w' => e = .returned (.bool (decide (s ∈ l))) ∧ w' = w := by
  have C := Lib.hid (idx_any l s A c B w hr hl)
  clear hr
  obtain ⟨b, hb⟩ : ∃ b, b = decide (s ∈ l) := ⟨_, rfl⟩
  rw [← hb] at C ⊢
  clear hl hb
  generalize l.length = n at *
  generalize bs s = t at *
  go_enter Tryz.func61, Tryz.ntmps61
  go_wp2_with fail
  refine calls_then C.out ?_
  rintro e w1 ⟨⟨k, rfl, hk⟩, rfl⟩
  have HK := Lib.hid hk
  clear hk
  go_wp2_with fail
  go_ret
  exact ⟨by rw [← HK.out]; rfl, rfl⟩
end Go.Proofs.YtoihgnkhalhocaaGreatDoor.Js
/-
  Plain: JSON's texts: what is read may be; what is written is read.
-/
namespace Go.Proofs.YtoihgnkhalhocaaGreatDoor.Js
set_option linter.unusedVariables false
-- T2: what is read may be
theorem esc_le {c b : UInt8} (h : esc c = some b) : b ≤ 126 := by
  unfold esc at h
  repeat' split at h
  all_goals first
    | (injection h with h; subst h; decide)
    | (simp at h)
theorem hexP_le {a0 a1 a2 a3 b : UInt8} (h : hexP a0 a1 a2 a3 = some b) : b ≤ 126 := by
  unfold hexP at h
  split at h
  · split at h
    · split at h
      · rename_i x y _ _ hq
        injection h with h
        rw [← h, UInt8.le_iff_toNat_le]
        have : (UInt8.ofNat (16 * x + y)).toNat ≤ 16 * x + y := by simp; exact Nat.mod_le _ _
        exact Nat.le_trans this (by simpa using hq)
      · simp at h
    · simp at h
  · simp at h
theorem escP_le {r r' : Bs} {b : UInt8} (h : escP r = some (b, r')) : b ≤ 126 := by
  unfold escP at h
  split at h
  · simp at h
  · split at h
    · rename_i he
      injection h with h; injection h with h1 h2; subst h1
      exact esc_le he
    · split at h
      · split at h
        · split at h
          · rename_i hx
            injection h with h; injection h with h1 h2; subst h1
            exact hexP_le hx
          · simp at h
        · simp at h
      · simp at h
theorem okT_snoc {s : Bs} {c : UInt8} (h : okT s = true) (hc : c ≤ 126) : okT (s ++ [c]) = true := by
  unfold okT at *
  rw [List.all_append, h]
  simpa using hc
theorem strA_ok : ∀ (n : Nat) (acc r : Bs) {s r' : Bs}, okT acc = true → strA n acc r = some (s, r') → okT s = true
  | 0, acc, r, s, r', _, h => by simp [strA] at h
  | n + 1, acc, [], s, r', _, h => by simp [strA] at h
  | n + 1, acc, c :: r, s, r', ha, h => by
    unfold strA at h
    split at h
    · simp at h
    · rename_i hc
      split at h
      · injection h with h; injection h with h1 h2; subst h1; exact ha
      · split at h
        · split at h
          · rename_i b r1 he
            exact strA_ok n _ _ (okT_snoc ha (escP_le he)) h
          · simp at h
        · refine strA_ok n _ _ (okT_snoc ha ?_) h
          rw [UInt8.le_iff_toNat_le]
          have : ¬ 126 < c := fun h => hc (.inr h)
          rw [UInt8.lt_iff_toNat_lt] at this
          simpa using this
theorem textP_ok {r s r' : Bs} (h : textP r = some (s, r')) : okT s = true := by
  unfold textP at h
  split at h
  · exact strA_ok _ _ _ rfl h
  · simp at h
theorem distinct_snoc : ∀ {l : List Bs} {x : Bs}, distinct l = true → x ∉ l → distinct (l ++ [x]) = true
  | [], x, _, _ => by simp [distinct]
  | y :: l, x, h, hx => by
    unfold distinct at h
    rw [List.cons_append, distinct]
    simp only [Bool.and_eq_true, Bool.not_eq_true', List.contains_eq_mem, decide_eq_false_iff_not] at h ⊢
    refine ⟨?_, distinct_snoc h.2 (fun h => hx (List.mem_cons_of_mem _ h))⟩
    rw [List.mem_append]
    rintro (h1 | h1)
    · exact h.1 h1
    · simp at h1
      exact hx (by rw [h1]; exact List.mem_cons_self ..)
structure ListOk (d : Nat) (m : Bool) (ns : List Bs) (ks : List JT) : Prop where
  names : ns.all okT = true
  dis : distinct ns = true
  kids : ∀ k ∈ ks, rightV d k = true
  len : if m then ns.length = ks.length else ns = []
theorem listL_right (val : Bs → Except Int (JT × Bs)) (m : Bool) (d : Nat) (hv : ∀ {r v r'}, val r = .ok (v, r') → rightV d v = true) : ∀ (n : Nat) (ns : List Bs) (ks : List JT) (r : Bs) {ns' : List Bs} {ks' : List JT} {r' : Bs}, ListOk d m ns ks → listL val m n ns ks r = .ok (ns', ks', r') → ListOk d m ns' ks'
  | 0, ns, ks, r, ns', ks', r', _, h => by simp [listL] at h
  | n + 1, ns, ks, r, ns', ks', r', ha, h => by
    rcases listL_ok h with ⟨r1, h1, h2⟩ | ⟨r1, r2, ns1, r3, k, r4, h1, h2, h3, h4, h5⟩
    · injection h2 with h2 h3; injection h3 with h3 h4; subst h2 h3
      exact ha
    · have hkids : ∀ x ∈ ks ++ [k], rightV d x = true := fun x hx => by
        rcases List.mem_append.1 hx with h | h
        · exact ha.kids x h
        · simp at h; subst h; exact hv h4
      refine listL_right val m d hv n _ _ _ ?_ h5
      unfold keyP at h3
      split at h3
      · rename_i hm
        unfold nameP at h3
        split at h3
        · simp at h3
        · rename_i s r5 ht
          split at h3
          · simp at h3
          · rename_i hne
            split at h3
            · simp at h3
            · injection h3 with h3; injection h3 with h3 h6; subst h3
              refine ⟨?_, distinct_snoc ha.dis hne, hkids, ?_⟩
              · rw [List.all_append, ha.names]
                simp [textP_ok ht]
              · have := ha.len
                rw [if_pos hm] at this ⊢
                simp [this]
      · rename_i hm
        injection h3 with h3; injection h3 with h3 h6; subst h3
        refine ⟨ha.names, ha.dis, hkids, ?_⟩
        have := ha.len
        rw [if_neg hm] at this ⊢
        exact this
theorem listP_right {val : Bs → Except Int (JT × Bs)} {d : Nat} (hv : ∀ {r v r'}, val r = .ok (v, r') → rightV d v = true) {r : Bs} {v : JT} {r' : Bs} (h : listP val r = .ok (v, r')) : rightV (d + 1) v = true := by
  unfold listP at h
  split at h
  · simp at h
  · rename_i ns ks r1 ht
    injection h with h; injection h with h1 h2; subst h1
    have hl := listL_right val _ d hv _ _ _ _ ⟨rfl, rfl, fun k hk => by simp at hk, by split <;> rfl⟩ ht
    have hk := (rightsV_iff d ks).2 hl.kids
    have h3 := hl.len
    cases hb : (look r == 123) with
    | true =>
      rw [hb] at h3
      rw [if_pos rfl] at h3
      have hn := hl.names
      unfold okT at hn
      simp [rightV, plainJ, okT, hl.dis, hk, h3]
      simpa using hn
    | false =>
      rw [hb] at h3
      rw [if_neg (by decide)] at h3
      subst h3
      simp [rightV, plainJ, okT, hk, distinct]
theorem numP_right {r r' : Bs} {n : Int} (d : Nat) (h : numP r = some (n, r')) : rightV d (jint n) = true := by
  obtain ⟨h1, h2, _⟩ := numP_ok h
  have h3 : decV 0 (digP r).1 ≤ 1000000000000000 := by
    unfold badN at h1
    simp only [Bool.or_eq_false_iff] at h1
    simpa using h1.2
  have h4 : -1000000000000000 ≤ n ∧ n ≤ 1000000000000000 := by
    rw [h2]
    split <;> omega
  simp [rightV, jint, plainJ, okT, distinct, rightsV, h4]
theorem rawP_right {lp : Bs → Except Int (JT × Bs)} {d : Nat} (hl : ∀ {r v r'}, lp r = .ok (v, r') → rightV d v = true) {r : Bs} {v : JT} {r' : Bs} (h : rawP lp r = .ok (v, r')) : rightV d v = true := by
  have hw : ∀ {w : Bs} {u : JT}, wordR w r u = .ok (v, r') → rightV d u = true → rightV d v = true := fun {w u} h hu => by
    unfold wordR at h
    split at h
    · simp at h
    · injection h with h; injection h with h1 h2; subst h1; exact hu
  unfold rawP at h
  split at h
  · exact hw h (by simp [rightV, jzero, plainJ, okT, distinct, rightsV])
  split at h
  · exact hw h (by simp [rightV, jtrue, plainJ, okT, distinct, rightsV])
  split at h
  · exact hw h (by simp [rightV, jfalse, plainJ, okT, distinct, rightsV])
  split at h
  · unfold optR at h
    split at h
    · simp at h
    · rename_i ht
      injection h with h; injection h with h1 h2; subst h1
      have := textP_ok ht
      unfold okT at this
      simp [rightV, jtext, plainJ, okT, distinct, rightsV]
      simpa using this
  split at h
  · exact hl h
  · unfold optR at h
    split at h
    · simp at h
    · rename_i ht
      injection h with h; injection h with h1 h2; subst h1
      exact numP_right d ht
theorem valueP_right : ∀ (d : Nat) {r : Bs} {v : JT} {r' : Bs}, valueP d r = .ok (v, r') → rightV d v = true
  | 0, r, v, r', h => by
    obtain ⟨r0, h1, rfl⟩ := skipR_ok h
    exact rawP_right (by intro _ _ _ h; simp at h) h1
  | d + 1, r, v, r', h => by
    obtain ⟨r0, h1, rfl⟩ := skipR_ok h
    exact rawP_right (fun h => listP_right (fun h => valueP_right d h) h) h1
theorem readP_right {s : Bs} {v : JT} (h : readP s = .ok v) : rightV 6 v = true := by
  unfold readP at h
  split at h
  · simp at h
  · split at h
    · simp at h
    · rename_i v' hv
      injection h with h; subst h
      exact valueP_right 6 hv
    · simp at h
-- T1: what is written is read
theorem skip_nb {c : UInt8} {r : Bs} (h : isBl c = false) : skip (c :: r) = c :: r := by simp [skip, h]
theorem hex_ctl {c : UInt8} (h : c < 32) : hexP 48 48 (hexd (c.toNat / 16)) (hexd (c.toNat % 16)) = some c := by
  have key : ∀ k : Fin 32, hexP 48 48 (hexd ((UInt8.ofNat k.1).toNat / 16)) (hexd ((UInt8.ofNat k.1).toNat % 16)) = some (UInt8.ofNat k.1) := by decide +kernel
  have h1 : c.toNat < 32 := by rwa [UInt8.lt_iff_toNat_lt] at h
  have := key ⟨c.toNat, h1⟩
  simpa using this
theorem escP_ctl {c : UInt8} (h : c < 32) (r : Bs) : escP (117 :: 48 :: 48 :: hexd (c.toNat / 16) :: hexd (c.toNat % 16) :: r) = some (c, r) := by
  simp [escP, esc, hex_ctl h]
theorem strA_quote : ∀ (s acc : Bs) (n : Nat) (r : Bs), okT s = true → (s.flatMap quoteC).length < n → strA n acc (s.flatMap quoteC ++ 34 :: r) = some (acc ++ s, r)
  | [], acc, n, r, _, hn => by
    obtain ⟨n, rfl⟩ : ∃ m, n = m + 1 := ⟨n - 1, by omega⟩
    simp [strA]
  | c :: s, acc, n, r, hs, hn => by
    obtain ⟨n, rfl⟩ : ∃ m, n = m + 1 := ⟨n - 1, by omega⟩
    have hc : c ≤ 126 := by simp [okT] at hs; exact hs.1
    have hs' : okT s = true := by simp [okT] at hs ⊢; exact hs.2
    have ih := fun acc n => strA_quote s acc n r hs'
    rw [List.flatMap_cons] at hn ⊢
    by_cases h1 : c < 32
    · have e : quoteC c = [92, 117, 48, 48, hexd (c.toNat / 16), hexd (c.toNat % 16)] := by simp [quoteC, h1]
      rw [e] at hn ⊢
      simp only [List.cons_append, List.nil_append, List.length_cons] at hn ⊢
      rw [strA]
      simp only [escP_ctl h1]
      rw [if_neg (by decide), if_neg (by decide), if_pos trivial, ih _ _ (by omega)]
      simp
    · by_cases h2 : c = 34 ∨ c = 92
      · have e : quoteC c = [92, c] := by simp only [quoteC, if_neg h1, if_pos h2]
        rw [e] at hn ⊢
        simp only [List.cons_append, List.nil_append, List.length_cons] at hn ⊢
        rw [strA]
        have e2 : escP (c :: (s.flatMap quoteC ++ 34 :: r)) = some (c, s.flatMap quoteC ++ 34 :: r) := by
          rcases h2 with rfl | rfl <;> simp [escP, esc]
        simp only [e2]
        rw [if_neg (by decide), if_neg (by decide), if_pos trivial, ih _ _ (by omega)]
        simp
      · have e : quoteC c = [c] := by simp only [quoteC, if_neg h1, if_neg h2]
        rw [e] at hn ⊢
        simp only [List.cons_append, List.nil_append, List.length_cons] at hn ⊢
        rw [strA]
        have h3 : ¬ (c < 32 ∨ 126 < c) := by
          rintro (h | h)
          · exact h1 h
          · rw [UInt8.lt_iff_toNat_lt] at h; rw [UInt8.le_iff_toNat_le] at hc; omega
        rw [if_neg h3, if_neg (fun h => h2 (.inl h)), if_neg (fun h => h2 (.inr h)), ih _ _ (by omega)]
        simp
theorem textP_quote (s r : Bs) (hs : okT s = true) : textP (quote s ++ r) = some (s, r) := by
  have h := strA_quote s [] (quote s ++ r).length r hs (by simp [quote]; omega)
  simp only [textP, quote, List.cons_append, look, List.tail_cons, List.append_assoc, List.nil_append] at h ⊢
  simpa using h
theorem takeD_app : ∀ (d : Bs) (n : Nat) (r : Bs), d.length < n → d.all isDig = true → isDig (look r) = false → takeD n (d ++ r) = (d, r)
  | [], n, r, hn, _, hr => by
    obtain ⟨n, rfl⟩ : ∃ m, n = m + 1 := ⟨n - 1, by simp at hn; omega⟩
    cases r with
    | nil => simp [takeD]
    | cons c r => simp [look] at hr; simp [takeD, hr]
  | c :: d, n, r, hn, hd, hr => by
    obtain ⟨n, rfl⟩ : ∃ m, n = m + 1 := ⟨n - 1, by simp at hn; omega⟩
    simp only [List.all_cons, Bool.and_eq_true] at hd
    simp only [List.cons_append, takeD, hd.1, if_true, takeD_app d n r (by simpa using hn) hd.2 hr]
theorem dig_of {k : Nat} (h : k < 10) : isDig (dg k) = true ∧ (dg k).toNat - 48 = k := by
  have key : ∀ k : Fin 10, isDig (dg k.1) = true ∧ (dg k.1).toNat - 48 = k.1 := by decide
  exact key ⟨k, h⟩
theorem decV_snoc (n : Nat) (d : Bs) (c : UInt8) : decV n (d ++ [c]) = 10 * decV n d + (c.toNat - 48) := by simp [decV]
theorem digB_ok : ∀ (f m : Nat), m < 10 ^ f → (digB f m).all isDig = true ∧ decV 0 (digB f m) = m ∧ (digB f m).length ≤ f ∧ (0 < f → digB f m ≠ []) ∧ (look (digB f m) = 48 → 0 < f → digB f m = [48])
  | 0, m, h => by
    simp at h
    subst h
    simp [digB, decV]
  | f + 1, m, h => by
    rw [digB]
    split
    · rename_i hm
      have := dig_of hm
      refine ⟨by simp [this.1], by simp [decV, this.2], by simp, by simp, ?_⟩
      intro h1 _
      simp only [look] at h1
      rw [h1]
    · rename_i hm
      have hf : 0 < f := by
        rcases Nat.eq_zero_or_pos f with rfl | h1
        · simp at h; omega
        · exact h1
      have hq : m / 10 < 10 ^ f := by
        rw [Nat.pow_succ] at h
        exact Nat.div_lt_of_lt_mul (by omega)
      obtain ⟨h1, h2, h3, h4, h5⟩ := digB_ok f (m / 10) hq
      have hd := dig_of (Nat.mod_lt m (by decide : 0 < 10))
      refine ⟨by rw [List.all_append, h1]; simp [hd.1], by rw [decV_snoc, h2, hd.2]; omega, by simp; omega, by simp, ?_⟩
      intro h6 _
      obtain ⟨c, l, hc⟩ : ∃ c l, digB f (m / 10) = c :: l := by
        cases hx : digB f (m / 10) with
        | nil => exact absurd hx (h4 hf)
        | cons c l => exact ⟨c, l, rfl⟩
      rw [hc] at h6
      simp only [List.cons_append, look] at h6
      have h7 := h5 (by rw [hc]; exact h6) hf
      rw [h7] at h2
      simp [decV] at h2
      omega
theorem isDig_ne {c : UInt8} (h : isDig c = true) : c ≠ 45 ∧ c ≠ 110 ∧ c ≠ 116 ∧ c ≠ 102 ∧ c ≠ 34 ∧ c ≠ 91 ∧ c ≠ 123 ∧ isBl c = false ∧ c ≠ 93 ∧ c ≠ 125 := by
  have key : ∀ k : Fin 256, isDig (UInt8.ofNat k.1) = true → UInt8.ofNat k.1 ≠ 45 ∧ UInt8.ofNat k.1 ≠ 110 ∧ UInt8.ofNat k.1 ≠ 116 ∧ UInt8.ofNat k.1 ≠ 102 ∧ UInt8.ofNat k.1 ≠ 34 ∧ UInt8.ofNat k.1 ≠ 91 ∧ UInt8.ofNat k.1 ≠ 123 ∧ isBl (UInt8.ofNat k.1) = false ∧ UInt8.ofNat k.1 ≠ 93 ∧ UInt8.ofNat k.1 ≠ 125 := by decide +kernel
  have := key ⟨c.toNat, c.toNat_lt⟩
  simp only [UInt8.ofNat_toNat] at this
  exact this h
theorem look_dig {f m : Nat} (h : m < 10 ^ f) (hf : 0 < f) : isDig (look (digB f m)) = true ∧ ∃ l, digB f m = look (digB f m) :: l := by
  obtain ⟨h1, h2, h3, h4, h5⟩ := digB_ok f m h
  cases hx : digB f m with
  | nil => exact absurd hx (h4 hf)
  | cons c l =>
    rw [hx] at h1
    simp only [List.all_cons, Bool.and_eq_true] at h1
    exact ⟨h1.1, l, rfl⟩
theorem numP_int (n : Int) (r : Bs) (h1 : -1000000000000000 ≤ n) (h2 : n ≤ 1000000000000000) (hr : isDig (look r) = false) : numP (intB n ++ r) = some (n, r) := by
  have hm : n.natAbs < 10 ^ 16 := by omega
  obtain ⟨a1, a2, a3, a4, a5⟩ := digB_ok 16 n.natAbs hm
  have hb : ∀ neg : Bool, (neg = true → n.natAbs ≠ 0) → badN neg (digB 16 n.natAbs) = false := fun neg hneg => by
    unfold badN
    rw [a2]
    have e1 : (digB 16 n.natAbs).isEmpty = false := by
      cases hx : digB 16 n.natAbs with
      | nil => exact absurd hx (a4 (by decide))
      | cons c l => rfl
    have e2 : decide (1000000000000000 < n.natAbs) = false := by simp; omega
    rw [e1, e2]
    simp only [Bool.false_or, Bool.or_false]
    cases hq : (look (digB 16 n.natAbs) == 48) with
    | false => rfl
    | true =>
      have h6 := a5 (by simpa using hq) (by decide)
      rw [h6]
      cases neg with
      | false => rfl
      | true =>
        rw [h6] at a2
        simp [decV] at a2
        exact absurd (by omega) (hneg rfl)
  by_cases hn : n < 0
  · have e : intB n ++ r = 45 :: (digB 16 n.natAbs ++ r) := by simp [intB, hn]
    have e1 : negP (45 :: (digB 16 n.natAbs ++ r)) = true := by simp [negP, look]
    have e2 : digP (45 :: (digB 16 n.natAbs ++ r)) = (digB 16 n.natAbs, r) := by
      unfold digP
      rw [e1, if_pos rfl, List.tail_cons]
      exact takeD_app _ _ _ (by omega) a1 hr
    rw [e, numP, e1, e2, hb true (fun _ => by omega), if_neg (by decide), if_pos rfl, a2]
    have : -(n.natAbs : Int) = n := by omega
    rw [this]
  · obtain ⟨b1, l, b2⟩ := look_dig hm (by decide)
    have e : intB n ++ r = digB 16 n.natAbs ++ r := by simp [intB, hn]
    have e1 : negP (digB 16 n.natAbs ++ r) = false := by
      have := (isDig_ne b1).1
      unfold negP
      rw [b2, List.cons_append]
      simpa [look] using this
    have e2 : digP (digB 16 n.natAbs ++ r) = (digB 16 n.natAbs, r) := by
      unfold digP
      rw [e1, if_neg (by decide)]
      exact takeD_app _ _ _ (by omega) a1 hr
    rw [e, numP, e1, e2, hb false (by simp), if_neg (by decide), if_neg (by decide), a2]
    have : (n.natAbs : Int) = n := by omega
    rw [this]
theorem textP_ne {r : Bs} (h : look r ≠ 34) : textP r = none := by simp [textP, h]
theorem writeV_first : ∀ (v : JT) (d : Nat), rightV d v = true → ∃ c l, writeV v = c :: l ∧ isBl c = false ∧ c ≠ 93 ∧ c ≠ 125
  | .mk k n t ns ks, d, h => by
    rw [writeV]
    by_cases h0 : k = 0
    · rw [if_pos h0]; exact ⟨_, _, rfl, by decide, by decide, by decide⟩
    rw [if_neg h0]
    by_cases h1 : k = 1
    · rw [if_pos h1]; split <;> exact ⟨_, _, rfl, by decide, by decide, by decide⟩
    rw [if_neg h1]
    by_cases h2 : k = 2
    · rw [if_pos h2]
      have hn : n.natAbs < 10 ^ 16 := by
        rw [rightV] at h
        simp [h2] at h
        omega
      obtain ⟨b1, l, b2⟩ := look_dig hn (by decide)
      have := isDig_ne b1
      unfold intB
      split
      · exact ⟨_, _, rfl, by decide, by decide, by decide⟩
      · exact ⟨_, _, b2, this.2.2.2.2.2.2.2.1, this.2.2.2.2.2.2.2.2.1, this.2.2.2.2.2.2.2.2.2⟩
    rw [if_neg h2]
    by_cases h3 : k = 3
    · rw [if_pos h3]; exact ⟨_, _, rfl, by decide, by decide, by decide⟩
    rw [if_neg h3]
    split <;> exact ⟨_, _, rfl, by decide, by decide, by decide⟩
theorem endC_nb (m : Bool) : isBl (endC m) = false ∧ isDig (endC m) = false ∧ (44 : UInt8) ≠ endC m ∧ (34 : UInt8) ≠ endC m := by cases m <;> decide
theorem distinct_not {l r : List Bs} {x : Bs} (h : distinct (l ++ x :: r) = true) : x ∉ l := by
  induction l with
  | nil => simp
  | cons y l ih =>
    rw [List.cons_append, distinct] at h
    simp only [Bool.and_eq_true, Bool.not_eq_true', List.contains_eq_mem, decide_eq_false_iff_not] at h
    rintro (_ | ⟨_, h1⟩)
    · exact h.1 (by simp)
    · exact ih h.2 h1
theorem listL_round (val : Bs → Except Int (JT × Bs)) (m : Bool) (d : Nat) (hv : ∀ v r, rightV d v = true → isDig (look r) = false → val (writeV v ++ r) = .ok (v, skip r)) (r : Bs) :
    ∀ (ks : List JT) (ns ns0 : List Bs) (ks0 : List JT) (n : Nat), (∀ k ∈ ks, rightV d k = true) → (if m then ns.length = ks.length else ns = []) → ns.all okT = true → distinct (ns0 ++ ns) = true →
      (itemsV m ns ks ks0.isEmpty ++ endC m :: r).length < n → listL val m n ns0 ks0 (itemsV m ns ks ks0.isEmpty ++ endC m :: r) = .ok (ns0 ++ ns, ks0 ++ ks, skip r)
  | [], ns, ns0, ks0, n, _, hl, _, _, hn => by
    obtain ⟨n, rfl⟩ : ∃ m, n = m + 1 := ⟨n - 1, by omega⟩
    have hns : ns = [] := by
      cases m with
      | true => simpa using hl
      | false => simpa using hl
    subst hns
    have hs : signP (endC m) (endC m :: r) = (true, skip r) := by simp [signP, skip_nb (endC_nb m).1, look]
    rw [itemsV, List.nil_append, listL, hs]
    simp
  | k :: ks, ns, ns0, ks0, n, hk, hl, ho, hd, hn => by
    obtain ⟨n, rfl⟩ : ∃ m, n = m + 1 := ⟨n - 1, by omega⟩
    have hk1 := hk k (List.mem_cons_self ..)
    obtain ⟨c, wl, hw, hb, hc1, hc2⟩ := writeV_first k d hk1
    have hce : c ≠ endC m := by cases m <;> assumption
    -- what stands behind the value
    obtain ⟨T, hT⟩ : ∃ T, T = itemsV m ns.tail ks false ++ endC m :: r := ⟨_, rfl⟩
    have hT1 : ∃ c' l', T = c' :: l' ∧ isBl c' = false ∧ isDig c' = false := by
      rw [hT]
      cases ks with
      | nil => exact ⟨_, _, rfl, (endC_nb m).1, (endC_nb m).2.1⟩
      | cons k' ks' => rw [itemsV]; exact ⟨_, _, rfl, by decide, by decide⟩
    obtain ⟨c', l', hT1, hT2, hT3⟩ := hT1
    have hvk : val (writeV k ++ T) = .ok (k, T) := by
      rw [hv k T hk1 (by rw [hT1]; exact hT3), hT1, skip_nb hT2]
    -- the name
    obtain ⟨U, hU⟩ : ∃ U, U = (if m then quote (ns.headD []) ++ [58] else []) ++ (writeV k ++ T) := ⟨_, rfl⟩
    have hU1 : ∃ c' l', U = c' :: l' ∧ isBl c' = false ∧ c' ≠ endC m := by
      rw [hU]
      cases m with
      | true => exact ⟨_, _, rfl, by decide, by decide⟩
      | false => rw [hw]; exact ⟨_, _, rfl, hb, hce⟩
    obtain ⟨cu, lu, hU1, hU2, hU3⟩ := hU1
    have hin : itemsV m ns (k :: ks) ks0.isEmpty ++ endC m :: r = (if ks0.isEmpty then [] else [44]) ++ U := by
      rw [itemsV, hU, hT]
      simp [List.append_assoc]
    rw [hin] at hn ⊢
    have hs : signP (endC m) ((if ks0.isEmpty then [] else [44]) ++ U) = (false, (if ks0.isEmpty then [] else [44]) ++ U) := by
      cases ks0.isEmpty with
      | true => simp only [if_true, List.nil_append, signP, hU1, skip_nb hU2, look, if_neg hU3]
      | false => simp only [Bool.false_eq_true, if_false, List.cons_append, List.nil_append, signP, skip_nb (show isBl 44 = false by decide), look, if_neg (endC_nb m).2.2.1]
    have hcm : commaP ks0.isEmpty ((if ks0.isEmpty then [] else [44]) ++ U) = .ok U := by
      cases ks0.isEmpty with
      | true => simp [commaP]
      | false => simp [commaP, mustP, skip_nb (show isBl 44 = false by decide), look, hU1, skip_nb hU2]
    have hky : keyP m ns0 U = .ok (ns0 ++ (if m then [ns.headD []] else []), writeV k ++ T) := by
      cases m with
      | false => simp [keyP, hU]
      | true =>
        cases ns with
        | nil => simp at hl
        | cons s ns' =>
          have hos : okT s = true := by simp at ho; exact ho.1
          have h1 : U = quote s ++ 58 :: (writeV k ++ T) := by rw [hU]; simp
          have h2 : mustP 58 (58 :: (writeV k ++ T)) = .ok (writeV k ++ T) := by
            simp [mustP, skip_nb (show isBl 58 = false by decide), look, hw, skip_nb hb]
          rw [keyP, if_pos rfl, nameP, h1, textP_quote s _ hos]
          simp only [if_neg (distinct_not hd), h2]
          simp
    have ih := listL_round val m d hv r ks ns.tail (ns0 ++ (if m then [ns.headD []] else [])) (ks0 ++ [k]) n (fun x hx => hk x (List.mem_cons_of_mem _ hx))
      (by cases m with
        | true => simp at hl ⊢; omega
        | false => simp at hl ⊢; rw [hl]; rfl)
      (by cases ns with
        | nil => rfl
        | cons s ns' => simp at ho ⊢; exact ho.2)
      (by cases m with
        | true =>
          cases ns with
          | nil => simp at hl
          | cons s ns' => simpa using hd
        | false => simp at hl; subst hl; simpa using hd)
    have he : (ks0 ++ [k]).isEmpty = false := by simp
    rw [he, ← hT] at ih
    have hlen : T.length < n := by
      rw [hU] at hn
      simp [hw] at hn
      omega
    rw [listL, hs]
    simp only [hcm, hky, hvk, ih hlen]
    cases m with
    | true =>
      cases ns with
      | nil => simp at hl
      | cons s ns' => simp
    | false => simp at hl; subst hl; simp
theorem wordR_app (w r : Bs) (v : JT) : wordR w (w ++ r) v = .ok (v, r) := by
  have h : w.isPrefixOf (w ++ r) = true := List.isPrefixOf_iff_prefix.2 (List.prefix_append _ _)
  simp [wordR, wordP, h]
theorem skip_skip : ∀ r : Bs, skip (skip r) = skip r
  | [] => rfl
  | c :: r => by
    by_cases h : isBl c = true
    · simp only [skip, h, if_true, skip_skip r]
    · simp [skip, h]
theorem rawP_write (lp : Bs → Except Int (JT × Bs)) (d : Nat) (v : JT) (r : Bs) (h : rightV d v = true) (hr : isDig (look r) = false)
    (hl : ∀ k n t ns ks, v = .mk k n t ns ks → k = 4 ∨ k = 5 → lp (writeV v ++ r) = .ok (v, skip r)) : ∃ r1, rawP lp (writeV v ++ r) = .ok (v, r1) ∧ skip r1 = skip r := by
  obtain ⟨k, n, t, ns, ks⟩ := v
  have h' := h
  rw [rightV] at h
  simp only [plainJ, Bool.and_eq_true, Bool.or_eq_true, Bool.not_eq_true', beq_iff_eq, decide_eq_true_eq, List.isEmpty_iff, bne_iff_ne] at h
  obtain ⟨⟨⟨⟨⟨⟨⟨⟨⟨⟨⟨hn, hk⟩, hns⟩, ht⟩, _⟩, hk0⟩, _⟩, hot⟩, _⟩, hint⟩, _⟩, _⟩ := h
  by_cases h0 : k = 0
  · subst h0
    obtain rfl : n = 0 := by simpa using hn
    obtain rfl : ks = [] := by simpa using hk
    obtain rfl : ns = [] := by simpa using hns
    obtain rfl : t = [] := by simpa using ht
    rw [writeV, if_pos rfl]
    simp only [rawP, List.cons_append, look, if_true]
    exact ⟨r, wordR_app [110, 117, 108, 108] r jzero, rfl⟩
  by_cases h1 : k = 1
  · subst h1
    obtain rfl : ks = [] := by simpa using hk
    obtain rfl : ns = [] := by simpa using hns
    obtain rfl : t = [] := by simpa using ht
    rw [writeV, if_neg (by decide), if_pos rfl]
    by_cases hn1 : n = 1
    · subst hn1
      rw [if_pos rfl]
      have := wordR_app [116, 114, 117, 101] r jtrue
      exact ⟨r, by simpa [rawP, look, jtrue, jfalse] using this, rfl⟩
    · obtain rfl : n = 0 := by
        simp at hn
        rcases hn with h | h
        · exact h
        · exact absurd h hn1
      rw [if_neg (by decide)]
      have := wordR_app [102, 97, 108, 115, 101] r jfalse
      exact ⟨r, by simpa [rawP, look, jtrue, jfalse] using this, rfl⟩
  by_cases h2 : k = 2
  · subst h2
    obtain rfl : ks = [] := by simpa using hk
    obtain rfl : ns = [] := by simpa using hns
    obtain rfl : t = [] := by simpa using ht
    have hb : -1000000000000000 ≤ n ∧ n ≤ 1000000000000000 := by simpa using hint
    obtain ⟨b1, l, b2⟩ := look_dig (show n.natAbs < 10 ^ 16 by omega) (by decide)
    have hx := isDig_ne b1
    rw [writeV, if_neg (by decide), if_neg (by decide), if_pos rfl]
    have hlook : look (intB n ++ r) = if n < 0 then 45 else look (digB 16 n.natAbs) := by
      unfold intB
      split
      · rfl
      · rw [b2]; rfl
    have hq : ∀ c : UInt8, c ≠ 45 → (∀ x, isDig x = true → x ≠ c) → look (intB n ++ r) ≠ c := fun c h1 h2 => by
      rw [hlook]
      split
      · exact fun h => h1 h.symm
      · exact h2 _ b1
    rw [rawP, if_neg (hq 110 (by decide) (fun x h => (isDig_ne h).2.1)), if_neg (hq 116 (by decide) (fun x h => (isDig_ne h).2.2.1)), if_neg (hq 102 (by decide) (fun x h => (isDig_ne h).2.2.2.1)),
      if_neg (hq 34 (by decide) (fun x h => (isDig_ne h).2.2.2.2.1)), if_neg (by
        rintro (h | h)
        · exact hq 91 (by decide) (fun x h => (isDig_ne h).2.2.2.2.2.1) h
        · exact hq 123 (by decide) (fun x h => (isDig_ne h).2.2.2.2.2.2.1) h), numP_int n r hb.1 hb.2 hr]
    exact ⟨r, rfl, rfl⟩
  by_cases h3 : k = 3
  · subst h3
    obtain rfl : n = 0 := by simpa using hn
    obtain rfl : ks = [] := by simpa using hk
    obtain rfl : ns = [] := by simpa using hns
    rw [writeV, if_neg (by decide), if_neg (by decide), if_neg (by decide), if_pos rfl]
    have := textP_quote t r hot
    have hlk : look (quote t ++ r) = 34 := rfl
    rw [rawP, hlk, if_neg (by decide), if_neg (by decide), if_neg (by decide), if_pos rfl, this]
    exact ⟨r, rfl, rfl⟩
  have hk45 : k = 4 ∨ k = 5 := by omega
  have hlk : look (writeV (.mk k n t ns ks) ++ r) = 91 ∨ look (writeV (.mk k n t ns ks) ++ r) = 123 := by
    rw [writeV, if_neg h0, if_neg h1, if_neg h2, if_neg h3]
    rcases hk45 with rfl | rfl
    · exact .inl rfl
    · exact .inr rfl
  have hl := hl _ _ _ _ _ rfl hk45
  rw [rawP]
  rcases hlk with e | e
  · rw [e, if_neg (by decide), if_neg (by decide), if_neg (by decide), if_neg (by decide), if_pos (.inl rfl)]
    exact ⟨_, hl, skip_skip r⟩
  · rw [e, if_neg (by decide), if_neg (by decide), if_neg (by decide), if_neg (by decide), if_pos (.inr rfl)]
    exact ⟨_, hl, skip_skip r⟩
theorem skip_write {v : JT} {d : Nat} (h : rightV d v = true) (r : Bs) : skip (writeV v ++ r) = writeV v ++ r := by
  obtain ⟨c, l, h1, h2, _⟩ := writeV_first v d h
  rw [h1, List.cons_append, skip_nb h2]
theorem valueP_write : ∀ (d : Nat) (v : JT) (r : Bs), rightV d v = true → isDig (look r) = false → valueP d (writeV v ++ r) = .ok (v, skip r)
  | 0, v, r, h, hr => by
    obtain ⟨r1, h1, h2⟩ := rawP_write (fun _ => .error 9) 0 v r h hr (by
      rintro k n t ns ks rfl hk
      rw [rightV] at h
      rcases hk with rfl | rfl <;> simp at h)
    rw [valueP, skip_write h, h1, skipR, h2]
  | d + 1, v, r, h, hr => by
    obtain ⟨r1, h1, h2⟩ := rawP_write (listP (valueP d)) (d + 1) v r h hr (by
      rintro k n t ns ks rfl hk
      have hw : writeV (.mk k n t ns ks) = (if k = 5 then 123 else 91) :: (itemsV (k == 5) ns ks true ++ [if k = 5 then 125 else 93]) := by
        rw [writeV, if_neg (by omega), if_neg (by omega), if_neg (by omega), if_neg (by omega)]
      rw [rightV] at h
      simp only [plainJ, Bool.and_eq_true, Bool.or_eq_true, Bool.not_eq_true', beq_iff_eq, decide_eq_true_eq, List.isEmpty_iff, bne_iff_ne] at h
      obtain ⟨⟨⟨⟨⟨⟨⟨⟨⟨⟨⟨hn, _⟩, hns⟩, ht⟩, _⟩, _⟩, hlen⟩, _⟩, hnames⟩, _⟩, hdis⟩, hkids⟩ := h
      have hkids := (rightsV_iff d ks).1 (by simpa using hkids)
      have hn0 : n = 0 := by omega
      have ht0 : t = [] := by
        rcases ht with h | h
        · exact h
        · omega
      subst hn0 ht0
      have e1 : (k == 5) = true ↔ k = 5 := by simp
      have key := listL_round (valueP d) (k == 5) d (fun v r h hr => valueP_write d v r h hr) r ks ns [] [] (writeV (.mk k 0 [] ns ks) ++ r).length hkids
        (by rcases hk with rfl | rfl; exact (by simpa using hns); exact (by simpa using hlen)) hnames (by simpa using hdis)
        (by rw [hw]; simp)
      have hin : writeV (.mk k 0 [] ns ks) ++ r = (if k = 5 then 123 else 91) :: (itemsV (k == 5) ns ks true ++ endC (k == 5) :: r) := by
        rw [hw]
        rcases hk with rfl | rfl <;> simp [endC]
      have hl2 : (look ((if k = 5 then 123 else 91) :: (itemsV (k == 5) ns ks true ++ endC (k == 5) :: r)) == 123) = (k == 5) := by
        rcases hk with rfl | rfl <;> rfl
      have hsk : skip (itemsV (k == 5) ns ks true ++ endC (k == 5) :: r) = itemsV (k == 5) ns ks true ++ endC (k == 5) :: r := by
        cases ks with
        | nil => rw [itemsV, List.nil_append, skip_nb (endC_nb _).1]
        | cons k1 kr =>
          obtain ⟨c, l, h1, h2, _⟩ := writeV_first k1 d (hkids k1 (List.mem_cons_self ..))
          rw [itemsV]
          rcases hk with rfl | rfl
          · simp [h1, skip_nb h2]
          · simp [quote, skip_nb (show isBl 34 = false by decide)]
      rw [hin] at key ⊢
      simp only [List.isEmpty_nil, List.nil_append] at key
      rw [listP, hl2, List.tail_cons, hsk, key]
      simp only
      rcases hk with rfl | rfl <;> rfl)
    rw [valueP, skip_write h, h1, skipR, h2]
theorem readP_write (v : JT) (h : rightV 6 v = true) (hl : (writeV v).length ≤ 2000) : readP (writeV v) = .ok v := by
  have := valueP_write 6 v [] h (by decide)
  rw [List.append_nil] at this
  rw [readP, if_neg (by omega), this]
  rfl
end Go.Proofs.YtoihgnkhalhocaaGreatDoor.Js
/-
  Laws of my own: a whole struct is loaded from where it reads.
-/
namespace Go.Proofs.YtoihgnkhalhocaaGreatDoor
set_option linter.unusedSimpArgs false
set_option linter.unusedVariables false
open Go.RowKit
section
variable {P : Program} {w : World} {ops : Array Oper} {rest : List Oper} {o : Oper} {a : Act} {Q : Exit → Act → World → Prop}
theorem run_loadVar_rd {ty : TypeId} {p : Addr} {r : List Value} {d : TypeDesc} (hr : ∀ j u, r[j]? = some u → w.cell? (p.add j) = some u)
    (hu : P.underlying ty = some d) (hd : (match d with | .struct _ | .array _ _ => true | _ => false) = true) (hi : (P.info? ty).map (·.size) = some r.length) :
    (loadVar ty p).run P w = .ok (.agg r.toArray) w := by
  have hl : (loadCells p r.length).run P w = .ok r.toArray w := run_loadCells_list (P := P) w p r hr
  cases hq : P.info? ty with
  | none => simp [hq] at hi
  | some i =>
    have hs : i.size = r.length := by simpa [hq] using hi
    have hagg : (isAgg ty).run P w = .ok true w := by
      unfold isAgg
      rw [Sem.run_bind, run_underlying hu w]
      cases d <;> simp_all
    simp [loadVar, Sem.run_bind, hagg, sizeOf, typeInfo, hq, hs, hl]
theorem wpList_get_rd {ty : TypeId} {x : Operand} {p : Addr} {r : List Value} {d : TypeDesc} (hr : ∀ j u, r[j]? = some u → w.cell? (p.add j) = some u)
    (hgd : o.guard = none) (ho : o.op = .load ty x) (hx : a.eval x = .pointer (some p))
    (hu : P.underlying ty = some d) (hd : (match d with | .struct _ | .array _ _ => true | _ => false) = true) (hi : (P.info? ty).map (·.size) = some r.length)
    (h : wpList P ops Q rest (a.put o.dst (.agg r.toArray)) w) : wpList P ops Q (o :: rest) a w := by
  refine wpList_plain hgd fun K hK => ?_
  have hl := run_loadVar_rd (P := P) (w := w) hr hu hd hi
  unfold Oper.wp execOp
  simp only [ho, hx, Instr.loadAt, Instr.sureAddr, Sem.run_bind, Sem.run_pure, Result.andThen_ok, hl]
  exact hK _ _ h
end
theorem box_low9 {u u' : World} {o : Obj} (hw : Wrote u.heap.size (u.alloc o) u') : Below u.heap.size u u' :=
  hw.below ((Below.refl _ u).alloc (Nat.le_refl _) o) (Nat.le_refl _) (by simp)
end Go.Proofs.YtoihgnkhalhocaaGreatDoor
/-
  Walks: json's right: whether a value is one.
-/
namespace Go.Proofs.YtoihgnkhalhocaaGreatDoor.Js
set_option linter.unusedSimpArgs false
set_option linter.unusedVariables false
open Go.RowKit
theorem jT_size2 : (Tryz.prog.info? 55).map (·.size) = some 5 := by kernel_rfl
set_option maxRecDepth 100000 in
set_option maxHeartbeats 4000000 in
theorem plain_any (v : JV) (ns : List Bs) (ks : List JT) (hn : v.nn = ns.length) (hk : v.kn = ks.length) (w : World) :
    Calls Tryz.prog 56 #[.agg (jvCells v)] w fun e w' => e = .returned (.bool (plainJ v.k v.n v.t ns ks)) ∧ Below w.heap.size w w' := by
  obtain ⟨W0, hW0⟩ : ∃ W0, W0 = w.alloc (.cells (jvCells v) 55) := ⟨_, rfl⟩
  have HB0 := Lib.hid (show Below w.heap.size w W0 by rw [hW0]; exact (Below.refl _ w).alloc (Nat.le_refl _) _)
  have hkb : Blk W0 w.heap.size 55 (jvCells v) := by rw [hW0]; exact Blk.new _ _ _
  have HW0 := Lib.hid hW0
  obtain ⟨vk, vn, vt, nA, nn, nc, kA, kn, kc⟩ := v
  dsimp only at *
  have a0 : W0.cell? ⟨w.heap.size, 0, none⟩ = some (.int .i64 vk) := hkb.cell 0
  have a1 : W0.cell? ⟨w.heap.size, 1, none⟩ = some (.int .i64 vn) := hkb.cell 1
  have a2 : W0.cell? ⟨w.heap.size, 2, none⟩ = some (.string (bs vt)) := hkb.cell 2
  have a3 : W0.cell? ⟨w.heap.size, 3, none⟩ = some (.slice nA nn nc) := hkb.cell 3
  have a4 : W0.cell? ⟨w.heap.size, 4, none⟩ = some (.slice kA kn kc) := hkb.cell 4
  have HN := Lib.hid (show ns.isEmpty = decide ((nn : Int) = 0) by rw [hn]; cases ns <;> simp; omega)
  have HK := Lib.hid (show ks.isEmpty = decide ((kn : Int) = 0) by rw [hk]; cases ks <;> simp; omega)
  have HT := Lib.hid (show vt.isEmpty = ((bs vt).toList == []) by rw [bs_toList]; cases vt <;> rfl)
  clear hW0 hkb hn hk
  go_enter Tryz.func56, Tryz.ntmps56
  go_upto_region 1 with (fail)
  rw [← HW0.out]
  generalize Value.agg (jvCells ⟨vk, vn, vt, nA, nn, nc, kA, kn, kc⟩) = AV at *
  go_cut [3] (fun x wx => x = .bool (vn == 0 || vk == 2 || (vk == 1 && vn == 1)) ∧ wx = W0)
  case first =>
    go_wp2_with fail
    all_goals (go_meet; exact ⟨by first | rfl | (simp; done) | (simp_all; done) | grind, rfl⟩)
  case rest =>
  obtain ⟨rfl, rfl⟩ := hcut
  generalize hb1 : (vn == 0 || vk == 2 || (vk == 1 && vn == 1)) = b1 at *
  have HB1 := Lib.hid hb1
  clear hb1 a1
  go_upto_region 2 with (fail)
  go_cut [4] (fun x wx => x = .bool (decide ((kn : Int) = 0) || vk == 4 || vk == 5) ∧ wx = wc)
  case first =>
    go_wp2_with fail
    all_goals (go_meet; exact ⟨by first | rfl | (simp; done) | (simp_all; done) | grind, rfl⟩)
  case rest =>
  obtain ⟨rfl, rfl⟩ := hcut
  generalize hb2 : (decide ((kn : Int) = 0) || vk == 4 || vk == 5) = b2 at *
  have HB2 := Lib.hid hb2
  clear hb2 a4
  go_upto_region 3 with (fail)
  go_cut [5] (fun x wx => x = .bool (decide ((nn : Int) = 0) || vk == 5) ∧ wx = wc)
  case first =>
    go_wp2_with fail
    all_goals (go_meet; exact ⟨by first | rfl | (simp; done) | (simp_all; done) | grind, rfl⟩)
  case rest =>
  obtain ⟨rfl, rfl⟩ := hcut
  generalize hb3 : (decide ((nn : Int) = 0) || vk == 5) = b3 at *
  have HP := Lib.hid (show plainJ vk vn vt ns ks = (b1 && b2 && b3 && (vt.isEmpty || vk == 3)) by
    rw [plainJ, HB1.out, HK.out, HB2.out, HN.out, hb3])
  rw [HT.out] at HP
  clear hb3 a3
  cases b1
  · go_wp2_with fail
    all_goals (go_ret; exact ⟨by rw [HP.out]; first | rfl | (simp; done), HB0.out⟩)
  cases b2
  · go_wp2_with fail
    all_goals (go_ret; exact ⟨by rw [HP.out]; first | rfl | (simp; done), HB0.out⟩)
  cases b3
  · go_wp2_with fail
    all_goals (go_ret; exact ⟨by rw [HP.out]; first | rfl | (simp; done), HB0.out⟩)
  have hp : plainJ vk vn vt ns ks = ((bs vt).toList == [] || vk == 3) := by rw [HP.out]; simp
  have HP2 := Lib.hid hp
  clear HP hp
  go_wp2_with fail
  all_goals (go_ret; exact ⟨by rw [HP2.out]; first | rfl | (simp; done) | (simp_all; done) | grind, HB0.out⟩)
end Go.Proofs.YtoihgnkhalhocaaGreatDoor.Js
/-
  Plain: JSON's texts: the reference's Is; texts that end where they are too long.
-/
namespace Go.Proofs.YtoihgnkhalhocaaGreatDoor.Js
set_option linter.unusedVariables false
def Out (c x c' : Bs) : Prop := c.length ≤ c'.length ∧ c'.length ≤ c.length + x.length ∧ (c' = c ++ x ∨ (2000 < c'.length ∧ 2000 < (c ++ x).length))
theorem Out.refl (c : Bs) : Out c [] c := ⟨Nat.le_refl _, by simp, .inl (by simp)⟩
theorem Out.all (c x : Bs) : Out c x (c ++ x) := ⟨by simp, by simp, .inl rfl⟩
theorem Out.stop {c : Bs} (x : Bs) (h : 2000 < c.length) : Out c x c := ⟨Nat.le_refl _, by omega, .inr ⟨h, by simp; omega⟩⟩
theorem Out.trans {c x c' y c'' : Bs} (h : Out c x c') (h' : Out c' y c'') : Out c (x ++ y) c'' := by
  obtain ⟨l1, m1, h1⟩ := h
  obtain ⟨l2, m2, h2⟩ := h'
  refine ⟨Nat.le_trans l1 l2, by simp; omega, ?_⟩
  rcases h1 with rfl | ⟨a, b⟩
  · rcases h2 with rfl | ⟨a2, b2⟩
    · exact .inl (by simp)
    · exact .inr ⟨a2, by simpa [Nat.add_assoc] using b2⟩
  · exact .inr ⟨by omega, by simp at b ⊢; omega⟩
theorem Out.end_ {x c' : Bs} (h : Out [] x c') : (c'.length ≤ 2000 → c' = x ∧ x.length ≤ 2000) ∧ (2000 < c'.length → 2000 < x.length) := by
  rcases h.2.2 with h | ⟨a, b⟩
  · simp at h
    subst h
    exact ⟨fun h => ⟨rfl, h⟩, fun h => h⟩
  · exact ⟨fun h => by omega, fun _ => by simpa using b⟩
end Go.Proofs.YtoihgnkhalhocaaGreatDoor.Js
/-
  Walks: json's right.
-/
namespace Go.Proofs.YtoihgnkhalhocaaGreatDoor.Js
set_option linter.unusedSimpArgs false
set_option linter.unusedVariables false
open Go.RowKit
mutual
def smallJ : JT → Bool
  | .mk _ _ _ ns ks => decide (ns.length ≤ 4096) && decide (ks.length ≤ 4096) && smallsJ ks
def smallsJ : List JT → Bool
  | [] => true
  | k :: r => smallJ k && smallsJ r
end
theorem smallsJ_iff : ∀ ks : List JT, smallsJ ks = true ↔ ∀ k ∈ ks, smallJ k = true
  | [] => by simp [smallsJ]
  | k :: r => by simp [smallsJ, smallsJ_iff r]
def RVal (d : Nat) : Prop := ∀ (j : JT) (v : JV) (B : Nat) (w : World), smallJ j = true → JRep w (fun b => b < B) j v → B ≤ w.heap.size →
  Calls Tryz.prog 36 #[.agg (jvCells v), .int .i64 (d : Int)] w fun e w' => e = .returned (.bool (rightV d j)) ∧ Below w.heap.size w w'
set_option maxRecDepth 100000 in
theorem right2_any (d : Nat) (hd9 : (d : Int) ≤ 1000) (IH : RVal d) (j : JT) (v : JV) (B g : Nat) (w : World) (hs : smallJ j = true) (hj : JRep w (fun b => b < B) j v) (hB : B ≤ w.heap.size) (hg : w.cell? ⟨g, 0, none⟩ = some (.int .i64 (d + 1 : Int))) :
    Calls Tryz.prog 63 #[.agg (jvCells v), .pointer (some ⟨g, 0, none⟩)] w fun e w' => e = .returned (.bool (!rightV d j)) ∧ Below w.heap.size w w' := by
  have hu := Tryz.underlying55
  obtain ⟨W0, hW0⟩ : ∃ W0, W0 = w.alloc (.cells (jvCells v) 55) := ⟨_, rfl⟩
  have hb0 : Below w.heap.size w W0 := by rw [hW0]; exact (Below.refl _ w).alloc (Nat.le_refl _) _
  have HB0 := Lib.hid hb0
  have HKB := Lib.hid (show Blk W0 w.heap.size 55 (jvCells v) by rw [hW0]; exact Blk.new _ _ _)
  have a1 : W0.cell? ⟨g, 0, none⟩ = some (.int .i64 (d + 1 : Int)) := by
    rw [hb0.cell (p := ⟨g, 0, none⟩) (by exact World.block_lt_of_cell? w _ hg)]
    exact hg
  have C := Lib.hid (IH j v B W0 hs (hj.under (hb0.mono hB)) (Nat.le_trans hB hb0.size))
  have HW0 := Lib.hid hW0
  clear hW0 hb0 hg hs hj hB IH
  go_enter Tryz.func63, Tryz.ntmps63
  go_upto_region 1 with (fail)
  rw [← HW0.out]
  go_wp2_with (refine wpList_get_box (x := .tmp 2) HKB.out rfl rfl rfl hu rfl jT_size2 ?_)
  refine calls_then C.out ?_
  rintro e w1 ⟨rfl, hb1⟩
  have HB1 := Lib.hid (HB0.out.trans (hb1.mono HB0.out.size))
  clear hb1
  go_wp2_with fail
  go_ret
  exact ⟨rfl, HB1.out⟩
set_option maxRecDepth 100000 in
set_option maxHeartbeats 2000000 in
theorem idxj_any (d : Nat) (hd9 : (d : Int) ≤ 1000) (IH : RVal d) (ks : List JT) (kv : List JV) (A : Option Addr) (c B g : Nat) (w : World) (hs : smallsJ ks = true) (hkl : ks.length ≤ 4096) (hkv : kv.length = ks.length) (hkr : Rd w B A (rowsV jvCells kv))
    (hkids : ∀ i (h : i < ks.length) (h' : i < kv.length), JRep w (fun b => b < B) ks[i] kv[i]) (hB : B ≤ w.heap.size) (hg : w.cell? ⟨g, 0, none⟩ = some (.int .i64 (d + 1 : Int))) :
    Calls Tryz.prog 98 #[.slice A ks.length c, .func (.func 63) #[] #[.pointer (some ⟨g, 0, none⟩)]] w fun e w' =>
      (∃ k : Int, e = .returned (.int .i64 k) ∧ decide (0 ≤ k) = !rightsV d ks) ∧ Below w.heap.size w w' := by
  have hu := Tryz.underlying55
  have eg : ∀ args w, (callFunc 63 args).run Tryz.prog w = .ok (.enter 63 args) w := enters_of Tryz.func63 (by kernel_rfl) rfl
  obtain ⟨n, hn⟩ : ∃ n, n = ks.length := ⟨_, rfl⟩
  have HN := Lib.hid hn
  have HKV := Lib.hid hkv
  have HR := Lib.hid hkr
  have HKD := Lib.hid hkids
  have HS := Lib.hid ((smallsJ_iff ks).1 hs)
  have HB := Lib.hid hB
  have HG := Lib.hid hg
  have hns : (n : Int) ≤ 4096 := by omega
  have HD9 := Lib.hid hd9
  have HIH := Lib.hid IH
  rw [← hn]
  clear hs hkl hkv hkr hkids hB hg hn hd9 IH
  go_enter Tryz.func98, Tryz.ntmps98
  go_wp2_with fail
  go_loopw [8] (fun x wr => ∃ i : Nat, i ≤ n ∧ x = .int .i64 (i : Int) ∧ (∀ k ∈ ks.take i, rightV d k = true) ∧ Below w.heap.size w wr) (fun x _ => n - (intOf x).toNat)
  case atStart => exact ⟨0, by omega, rfl, by simp, Below.refl _ _⟩
  case round =>
    obtain ⟨i, hi, rfl, hok, hb⟩ := hrel
    have HBE := Lib.hid hb
    have HOK := Lib.hid hok
    clear hb hok
    by_cases hlt : i < n
    · have hil : i < ks.length := by rw [← HN.out]; exact hlt
      have hiv : i < kv.length := by rw [HKV.out]; exact hil
      have hlt' : (i : Int) < (n : Int) := by omega
      have HLT := Lib.hid hlt
      obtain ⟨ad, hA, hadb, hcell⟩ := rd_rows (f := jvCells) (m := 5) (fun _ => rfl) (by decide) (HR.out.below (HBE.out.mono HB.out)) hiv
      subst hA
      obtain ⟨X, hX⟩ : ∃ X, X = kv[i] := ⟨_, rfl⟩
      obtain ⟨J, hJ⟩ : ∃ J, J = ks[i] := ⟨_, rfl⟩
      have C := Lib.hid (right2_any d HD9.out HIH.out J X B g wr (by rw [hJ]; exact HS.out _ (List.getElem_mem hil)) (by rw [hX, hJ]; exact (HKD.out i hil hiv).under (HBE.out.mono HB.out)) (Nat.le_trans HB.out HBE.out.size)
        (by rw [HBE.out.cell (p := ⟨g, 0, none⟩) (by exact World.block_lt_of_cell? w _ HG.out)]; exact HG.out))
      have HST := Lib.hid (show rightV d J = true → ∀ k ∈ ks.take (i + 1), rightV d k = true from fun h k hk => by
        rw [List.take_succ_eq_append_getElem hil, ← hJ] at hk
        rcases List.mem_append.1 hk with h1 | h1
        · exact HOK.out k h1
        · rw [List.mem_singleton.1 h1]; exact h)
      have HNO := Lib.hid (show rightV d J = false → rightsV d ks = false from fun h => by
        cases hq : rightsV d ks with
        | false => rfl
        | true =>
          have := (rightsV_iff d ks).1 hq J (by rw [hJ]; exact List.getElem_mem hil)
          rw [h] at this
          cases this)
      rw [← hX] at hcell
      have HCE := Lib.hid (show ∀ j x, (jvCells X).toList[j]? = some x → wr.cell? ((ad.add (i * 5)).add j) = some x from fun j x hx => hcell j x (by simpa using hx))
      clear hX hJ hcell hadb hil hiv
      go_wp2_with (refine wpList_get_rd (r := (jvCells X).toList) HCE.out rfl rfl rfl hu rfl jT_size2 ?_)
      refine calls_then C.out ?_
      rintro e w1 ⟨rfl, hb1⟩
      have HB1 := Lib.hid (HBE.out.trans (hb1.mono HBE.out.size))
      clear hb1
      cases hq : rightV d J with
      | true =>
        have HQ := Lib.hid (HST.out hq)
        clear hq
        go_wp2_with fail
        go_roundw
        case rel => exact ⟨i + 1, HLT.out, by go_num, HQ.out, HB1.out⟩
        case measure => have := HLT.out; simp [intOf]; omega
      | false =>
        have HQ := Lib.hid (HNO.out hq)
        clear hq
        go_wp2_with fail
        go_ret
        exact ⟨⟨_, rfl, by rw [HQ.out]; simp⟩, HB1.out⟩
    · obtain rfl : i = n := by omega
      have HALL := Lib.hid (show rightsV d ks = true by
        have := HOK.out
        rw [HN.out, List.take_length] at this
        exact (rightsV_iff d ks).2 this)
      go_wp2_with fail
      go_ret
      exact ⟨⟨_, rfl, by rw [HALL.out]; simp⟩, HBE.out⟩
theorem conj_any (d : Nat) (hd9 : (d : Int) ≤ 1000) (IH : RVal d) (ks : List JT) (kv : List JV) (A : Option Addr) (c B g : Nat) (w : World) (hs : smallsJ ks = true) (hkl : ks.length ≤ 4096) (hkv : kv.length = ks.length) (hkr : Rd w B A (rowsV jvCells kv))
    (hkids : ∀ i (h : i < ks.length) (h' : i < kv.length), JRep w (fun b => b < B) ks[i] kv[i]) (hB : B ≤ w.heap.size) (hg : w.cell? ⟨g, 0, none⟩ = some (.int .i64 (d + 1 : Int))) :
    Calls Tryz.prog 62 #[.slice A ks.length c, .func (.func 63) #[] #[.pointer (some ⟨g, 0, none⟩)]] w fun e w' =>
      e = .returned (.bool (!rightsV d ks)) ∧ Below w.heap.size w w' := by
  have C := Lib.hid (idxj_any d hd9 IH ks kv A c B g w hs hkl hkv hkr hkids hB hg)
  clear hs hkv hkr hkids hB hg
  generalize rightsV d ks = b at *
  generalize ks.length = n at *
  go_enter Tryz.func62, Tryz.ntmps62
  go_wp2_with fail
  refine calls_then C.out ?_
  rintro e w1 ⟨⟨k, rfl, hk⟩, hb⟩
  have HB := Lib.hid hb
  have HK := Lib.hid hk
  clear hb hk
  go_wp2_with fail
  go_ret
  exact ⟨by rw [← HK.out]; rfl, HB.out⟩
theorem conj_nil (A : Option Addr) (c : Nat) (F : Value) (w : World) :
    Calls Tryz.prog 62 #[.slice A 0 c, F] w fun e w' => e = .returned (.bool false) ∧ w' = w := by
  have C := Lib.hid (show Calls Tryz.prog 98 #[.slice A 0 c, F] w fun e w' => e = .returned (.int .i64 (-1)) ∧ w' = w by
    go_enter Tryz.func98, Tryz.ntmps98
    go_wp2_with fail
    go_loop [8] (fun x => x = .int .i64 0) (fun _ => 0)
    case atStart => rfl
    case round =>
      obtain rfl := hrel
      go_wp2_with fail
      go_ret
      exact ⟨rfl, rfl⟩)
  go_enter Tryz.func62, Tryz.ntmps62
  go_wp2_with fail
  refine calls_then C.out ?_
  rintro e w1 ⟨rfl, rfl⟩
  go_wp2_with fail
  go_ret
  exact ⟨rfl, rfl⟩
end Go.Proofs.YtoihgnkhalhocaaGreatDoor.Js
/-
  Plain: bundles as JSON; bytes as letters.
-/
namespace Go.Proofs.YtoihgnkhalhocaaGreatDoor.Js
set_option linter.unusedSimpArgs false
set_option linter.unusedVariables false
-- letters
def b64A : Bs := [65, 66, 67, 68, 69, 70, 71, 72, 73, 74, 75, 76, 77, 78, 79, 80, 81, 82, 83, 84, 85, 86, 87, 88, 89, 90, 97, 98, 99, 100, 101, 102, 103, 104, 105, 106, 107, 108, 109, 110, 111, 112, 113, 114, 115, 116, 117, 118, 119, 120, 121, 122, 48, 49, 50, 51, 52, 53, 54, 55, 56, 57, 45, 95]
def ltr (k : Nat) : UInt8 := b64A.getD k 0
theorem ltr_inj {a b : Nat} (ha : a < 64) (hb : b < 64) (h : ltr a = ltr b) : a = b := by
  have key : ∀ x y : Fin 64, ltr x.1 = ltr y.1 → x = y := by decide +kernel
  have := key ⟨a, ha⟩ ⟨b, hb⟩ h
  exact Fin.mk.inj this
def plainC (c : UInt8) : Bool := 32 ≤ c && c ≤ 126 && c != 34 && c != 92
theorem ltr_plain {a : Nat} (ha : a < 64) : plainC (ltr a) = true := by
  have key : ∀ x : Fin 64, plainC (ltr x.1) = true := by decide +kernel
  exact key ⟨a, ha⟩
def encS : Nat → Nat → Bs → Bs
  | n, w, [] => if n = 0 then [] else [ltr (w * 2 ^ (6 - n))]
  | n, w, c :: r => if n + 2 < 6 then ltr ((w * 256 + c.toNat) / 2 ^ (n + 2)) :: encS (n + 2) ((w * 256 + c.toNat) % 2 ^ (n + 2)) r
    else ltr ((w * 256 + c.toNat) / 2 ^ (n + 2)) :: ltr ((w * 256 + c.toNat) % 2 ^ (n + 2) / 2 ^ (n - 4)) :: encS (n - 4) ((w * 256 + c.toNat) % 2 ^ (n + 2) % 2 ^ (n - 4)) r
def enc (b : Bs) : Bs := encS 0 0 b
theorem pow_cases {n : Nat} (h : n < 6) : n = 0 ∨ n = 1 ∨ n = 2 ∨ n = 3 ∨ n = 4 ∨ n = 5 := by omega
theorem ltA {n w : Nat} (hn : n < 6) (hw : w < 2 ^ n) : w * 2 ^ (6 - n) < 64 := by
  rcases pow_cases hn with rfl | rfl | rfl | rfl | rfl | rfl <;> simp at hw ⊢ <;> omega
theorem ltB {n w c : Nat} (hn : n < 6) (hw : w < 2 ^ n) (hc : c < 256) : (w * 256 + c) / 2 ^ (n + 2) < 64 := by
  rcases pow_cases hn with rfl | rfl | rfl | rfl | rfl | rfl <;> simp at hw ⊢ <;> omega
theorem ltC {n w : Nat} (hn : n < 6) (h0 : ¬ n + 2 < 6) : w % 2 ^ (n + 2) / 2 ^ (n - 4) < 64 := by
  rcases pow_cases hn with rfl | rfl | rfl | rfl | rfl | rfl <;> simp at h0 ⊢ <;> omega
theorem encS_plain : ∀ (l : Bs) (n w : Nat), n < 6 → w < 2 ^ n → (encS n w l).all plainC = true
  | [], n, w, hn, hw => by
    unfold encS
    split
    · rfl
    · have h : w * 2 ^ (6 - n) < 64 := by
        rcases pow_cases hn with rfl | rfl | rfl | rfl | rfl | rfl <;> simp at hw ⊢ <;> omega
      simp [ltr_plain h]
  | c :: r, n, w, hn, hw => by
    have hc : c.toNat < 256 := c.toNat_lt
    have h1 : (w * 256 + c.toNat) / 2 ^ (n + 2) < 64 := by
      rcases pow_cases hn with rfl | rfl | rfl | rfl | rfl | rfl <;> simp at hw ⊢ <;> omega
    unfold encS
    split
    · rename_i h2
      have h3 := encS_plain r (n + 2) ((w * 256 + c.toNat) % 2 ^ (n + 2)) (by omega) (Nat.mod_lt _ (Nat.pow_pos (by omega)))
      simp [ltr_plain h1, h3]
    · rename_i h2
      have h4 : (w * 256 + c.toNat) % 2 ^ (n + 2) / 2 ^ (n - 4) < 64 := by
        rcases pow_cases hn with rfl | rfl | rfl | rfl | rfl | rfl <;> simp at hw ⊢ <;> omega
      have h3 := encS_plain r (n - 4) ((w * 256 + c.toNat) % 2 ^ (n + 2) % 2 ^ (n - 4)) (by omega) (Nat.mod_lt _ (Nat.pow_pos (by omega)))
      simp [ltr_plain h1, ltr_plain h4, h3]
theorem enc_plain (b : Bs) : (enc b).all plainC = true := encS_plain b 0 0 (by omega) (by simp)
theorem encS_inj : ∀ (l l2 : Bs) (n w w2 : Nat), n < 6 → w < 2 ^ n → w2 < 2 ^ n → l.length = l2.length → encS n w l = encS n w2 l2 → w = w2 ∧ l = l2
  | [], [], n, w, w2, hn, hw, hw2, _, h => by
    refine ⟨?_, rfl⟩
    unfold encS at h
    split at h
    · rename_i h0
      subst h0
      simp at hw hw2
      omega
    · injection h with h
      have h1 := ltA hn hw
      have h2 := ltA hn hw2
      exact Nat.eq_of_mul_eq_mul_right (Nat.pow_pos (by omega)) (ltr_inj h1 h2 h)
  | c :: r, c2 :: r2, n, w, w2, hn, hw, hw2, hl, h => by
    have hc : c.toNat < 256 := c.toNat_lt
    have hc2 : c2.toNat < 256 := c2.toNat_lt
    have h1 := ltB hn hw hc
    have h2 := ltB hn hw2 hc2
    have hlr : r.length = r2.length := by simpa using hl
    have fin : w * 256 + c.toNat = w2 * 256 + c2.toNat → r = r2 → w = w2 ∧ c :: r = c2 :: r2 := fun h3 h4 => by
      have h5 : c.toNat = c2.toNat := by omega
      have h6 : c = c2 := UInt8.toNat.inj h5
      exact ⟨by omega, by rw [h6, h4]⟩
    unfold encS at h
    split at h
    · injection h with h3 h4
      have h5 := ltr_inj h1 h2 h3
      obtain ⟨h6, h7⟩ := encS_inj r r2 (n + 2) _ _ (by omega) (Nat.mod_lt _ (Nat.pow_pos (by omega))) (Nat.mod_lt _ (Nat.pow_pos (by omega))) hlr h4
      refine fin ?_ h7
      rw [← Nat.div_add_mod (w * 256 + c.toNat) (2 ^ (n + 2)), h5, h6, Nat.div_add_mod]
    · rename_i h0
      injection h with h3 h4
      injection h4 with h4 h8
      have h9 : (w * 256 + c.toNat) % 2 ^ (n + 2) / 2 ^ (n - 4) < 64 := ltC hn h0
      have h10 : (w2 * 256 + c2.toNat) % 2 ^ (n + 2) / 2 ^ (n - 4) < 64 := ltC hn h0
      have h5 := ltr_inj h1 h2 h3
      have h11 := ltr_inj h9 h10 h4
      obtain ⟨h6, h7⟩ := encS_inj r r2 (n - 4) _ _ (by omega) (Nat.mod_lt _ (Nat.pow_pos (by omega))) (Nat.mod_lt _ (Nat.pow_pos (by omega))) hlr h8
      refine fin ?_ h7
      have h12 : (w * 256 + c.toNat) % 2 ^ (n + 2) = (w2 * 256 + c2.toNat) % 2 ^ (n + 2) := by
        rw [← Nat.div_add_mod ((w * 256 + c.toNat) % 2 ^ (n + 2)) (2 ^ (n - 4)), h11, h6, Nat.div_add_mod]
      rw [← Nat.div_add_mod (w * 256 + c.toNat) (2 ^ (n + 2)), h5, h12, Nat.div_add_mod]
  | [], _ :: _, _, _, _, _, _, _, hl, _ => by simp at hl
  | _ :: _, [], _, _, _, _, _, _, hl, _ => by simp at hl
theorem enc_inj {a b : Bs} (hl : a.length = b.length) (h : enc a = enc b) : a = b := (encS_inj a b 0 0 0 (by omega) (by simp) (by simp) hl h).2
theorem encS_len : ∀ (l : Bs) (n w : Nat), n < 6 → (encS n w l).length ≤ 2 * l.length + 1
  | [], n, w, hn => by unfold encS; split <;> simp
  | c :: r, n, w, hn => by
    unfold encS
    split
    · have := encS_len r (n + 2) ((w * 256 + c.toNat) % 2 ^ (n + 2)) (by omega)
      simp
      omega
    · have := encS_len r (n - 4) ((w * 256 + c.toNat) % 2 ^ (n + 2) % 2 ^ (n - 4)) (by omega)
      simp
      omega
-- bundles
structure BD where
  dom : Bs
  num : Int
  keys : List (Bs × Bs)
def keyJ (k : Bs × Bs) : JT := .mk 5 0 [] [[99, 114, 118], [107, 105, 100], [107, 116, 121], [120]] [jtext [69, 100, 50, 53, 53, 49, 57], jtext k.1, jtext [79, 75, 80], jtext (enc k.2)]
def bundleJ (b : BD) : JT := .mk 5 0 [] [[100, 111, 109, 97, 105, 110], [107, 101, 121, 115], [110, 117, 109, 98, 101, 114]] [jtext b.dom, .mk 4 0 [] [] (b.keys.map keyJ), jint b.num]
theorem keyJ_inj {a b : Bs × Bs} (hl : a.2.length = b.2.length) (h : keyJ a = keyJ b) : a = b := by
  unfold keyJ jtext at h
  injection h with _ _ _ _ h
  injection h with _ h
  injection h with h1 h
  injection h with _ h
  injection h with h2 _
  injection h1 with _ _ h1
  injection h2 with _ _ h2
  exact Prod.ext h1 (enc_inj hl h2)
theorem bundleJ_inj {a b : BD} (ha : ∀ k ∈ a.keys, k.2.length = 32) (hb : ∀ k ∈ b.keys, k.2.length = 32) (h : bundleJ a = bundleJ b) : a = b := by
  unfold bundleJ jtext jint at h
  injection h with _ _ _ _ h
  injection h with h1 h
  injection h with h2 h
  injection h with h3 _
  injection h1 with _ _ h1
  injection h2 with _ _ _ _ h2
  injection h3 with _ h3
  have hk : ∀ (l l2 : List (Bs × Bs)), (∀ k ∈ l, k.2.length = 32) → (∀ k ∈ l2, k.2.length = 32) → l.map keyJ = l2.map keyJ → l = l2 := by
    intro l
    induction l with
    | nil =>
      intro l2 _ _ h
      cases l2 with
      | nil => rfl
      | cons x r => simp at h
    | cons x r ih =>
      intro l2 h1 h2 h
      cases l2 with
      | nil => simp at h
      | cons y q =>
        rw [List.map_cons, List.map_cons] at h
        injection h with h3 h4
        rw [keyJ_inj ((h1 x List.mem_cons_self).trans (h2 y List.mem_cons_self).symm) h3, ih q (fun k hk => h1 k (List.mem_cons_of_mem _ hk)) (fun k hk => h2 k (List.mem_cons_of_mem _ hk)) h4]
  obtain ⟨ad, an, ak⟩ := a
  obtain ⟨bd, bn, bk⟩ := b
  dsimp only at *
  rw [h1, h3, hk ak bk ha hb h2]
theorem quote_plain {s : Bs} (h : s.all plainC = true) : quote s = 34 :: (s ++ [34]) := by
  unfold quote
  congr 1
  congr 1
  induction s with
  | nil => rfl
  | cons c r ih =>
    rw [List.all_cons, Bool.and_eq_true] at h
    rw [List.flatMap_cons, ih h.2]
    have hc : quoteC c = [c] := by
      have h1 := h.1
      unfold plainC at h1
      simp only [Bool.and_eq_true, decide_eq_true_eq, bne_iff_ne, ne_eq] at h1
      unfold quoteC
      rw [if_neg (by have := h1.1.1.1; rw [UInt8.le_iff_toNat_le] at this; rw [UInt8.lt_iff_toNat_lt]; omega), if_neg (fun h => h.elim h1.1.2 h1.2)]
    rw [hc]
    rfl
theorem okT_plain {s : Bs} (h : s.all plainC = true) : okT s = true := by
  unfold okT
  rw [List.all_eq_true] at h ⊢
  intro c hc
  have := h c hc
  unfold plainC at this
  simp only [Bool.and_eq_true, decide_eq_true_eq] at this
  simpa using this.1.1.2
structure PlainB (b : BD) : Prop where
  dom : b.dom.all plainC = true
  dlen : b.dom.length ≤ 16
  n0 : 0 ≤ b.num
  n1 : b.num ≤ 1099511627776
  kn : b.keys.length ≤ 8
  kid : ∀ k ∈ b.keys, k.1.all plainC = true ∧ k.1.length ≤ 8
  x : ∀ k ∈ b.keys, k.2.length ≤ 32
theorem keyJ_right {k : Bs × Bs} (h : k.1.all plainC = true) (d : Nat) (hd : 0 < d) : rightV d (keyJ k) = true := by
  have h1 := okT_plain h
  have h2 := okT_plain (enc_plain k.2)
  obtain ⟨e, rfl⟩ : ∃ e, d = e + 1 := ⟨d - 1, by omega⟩
  unfold okT at h1 h2
  simp [keyJ, jtext, rightV, rightsV, plainJ, okT, distinct]
  simp at h1 h2
  exact ⟨h1, h2⟩
theorem bundleJ_right {b : BD} (h : PlainB b) : rightV 6 (bundleJ b) = true := by
  have h1 := okT_plain h.dom
  have h2 : rightsV 4 (b.keys.map keyJ) = true := (rightsV_iff _ _).2 fun x hx => by
    obtain ⟨k, hk, rfl⟩ := List.mem_map.1 hx
    exact keyJ_right (h.kid k hk).1 4 (by omega)
  have h3 := h.n0
  have h4 := h.n1
  simp [bundleJ, jtext, jint, rightV, rightsV, plainJ, h1, h2, okT, distinct]
  unfold okT at h1
  simp at h1
  exact ⟨h1, by omega, by omega⟩
theorem bundleJ_small {b : BD} (h : PlainB b) : smallJ (bundleJ b) = true := by
  have h2 : smallsJ (b.keys.map keyJ) = true := (smallsJ_iff _).2 fun x hx => by
    obtain ⟨k, hk, rfl⟩ := List.mem_map.1 hx
    simp [keyJ, jtext, smallJ, smallsJ]
  have := h.kn
  simp [bundleJ, jtext, jint, smallJ, smallsJ, h2]
  omega
end Go.Proofs.YtoihgnkhalhocaaGreatDoor.Js
/-
  Laws of my own on rows that the call owns and may write: append of one element.
-/
namespace Go.Proofs.YtoihgnkhalhocaaGreatDoor
set_option linter.unusedSimpArgs false
set_option linter.unusedVariables false
open Go.RowKit
theorem own_len {w : World} {base e size n : Nat} {v : Value} {xs : List Value} (h : w.ownsRow base e size v n xs) : xs.length = n * size := h.1
theorem own_lt {w : World} {base e size n : Nat} {v : Value} {xs : List Value} (h : w.ownsRow base e size v n xs) : ∀ k, v.ownBlock = some k → base ≤ k ∧ k < w.heap.size := (OwnX.of h).lt
theorem own_mono {w : World} {base base' e size n : Nat} {v : Value} {xs : List Value} (h : w.ownsRow base e size v n xs) (hb : base' ≤ base) : w.ownsRow base' e size v n xs :=
  ⟨h.1, h.2.elim .inl fun ⟨g, cap, cur, hv, hg, r⟩ => .inr ⟨g, cap, cur, hv, Nat.le_trans hb hg, r⟩⟩
theorem own_cap {w : World} {base e size n c : Nat} {A : Option Addr} {xs : List Value} (h : OwnX w base e size (.slice A n c) n xs) : n ≤ c ∧ c ≤ 9223372036854775807 := by
  rcases h.2 with ⟨hv, hn⟩ | ⟨g, cap, cur, fz, hv, _, _, hnc, hcm, _⟩
  · injection hv with _ _ h3; omega
  · injection hv with _ _ h3; unfold maxLen at hcm; omega
section
variable {P : Program}
theorem wpList_append_own1 {w0 : World} {y : Value} {ops : Array Oper} {rest : List Oper} {o : Oper} {a : Act} {Q : Exit → Act → World → Prop} {s x : Operand} {t e : TypeId} {bytes : Nat} (T : SlT P t e 1 bytes)
    (hgd : o.guard = none) (ho : o.op = .call { callee := .builtin .append, args := #[s, x], argTypes := #[t, t] })
    {base n : Nat} {v : Value} {xs : List Value} {ad : Nat} (hown : w0.ownsRow base e 1 v n xs) (hs : a.eval s = v) (hx : a.eval x = .slice (some ⟨ad, 0, none⟩) 1 1) (had : ad = w0.heap.size)
    (hy : y.oneCell' = true)
    (h63 : n + 1 ≤ maxLen) (hbytes : (n + 1) * bytes ≤ 140737488355328) (hbase : base ≤ w0.heap.size)
    (h : ∀ A c w', w'.ownsRow base e 1 (.slice A (n + 1) c) (n + 1) (xs ++ [y]) → w0.grownBy w' v.ownBlock → wpList P ops Q rest (a.put o.dst (.slice A (n + 1) c)) w') :
    wpList P ops Q (o :: rest) a (w0.alloc (.cells #[y] e)) := by
  subst had
  obtain ⟨i, z, hi, hz, hsz, hby, hzs⟩ := T.info
  obtain ⟨v', w', hr, h2, h3, _, _⟩ := run_append_own_at (P := P) (w0.alloc (.cells #[y] e)) base t o.type e i z 1 bytes T.und hi hz hsz hby hzs (by omega) v n xs (hown.alloc _) ⟨w0.heap.size, 0, none⟩ 1 1 [y] rfl (fun j u hu => cell_one_new _ _ _ j u hu)
    (by intro u hu; simp at hu; subst hu; exact hy) h63 hbytes (by simp; omega)
  have hv : ∃ A c, v' = .slice A (n + 1) c := by
    rcases h2.2 with ⟨_, h0⟩ | ⟨g, cap, cur, rfl, _⟩
    · omega
    · exact ⟨_, _, rfl⟩
  obtain ⟨A, c, rfl⟩ := hv
  refine wpList_of_append (R := fun v' w1 => v' = .slice A (n + 1) c ∧ w1 = w') hgd ho hs hx ⟨_, _, hr, rfl, rfl⟩ ?_
  rintro v' w1 ⟨rfl, rfl⟩
  exact h _ _ _ h2 ((World.grownBy_alloc w0 _ _).trans h3)
end
end Go.Proofs.YtoihgnkhalhocaaGreatDoor
/-
  Walks: jwk.Find.
-/
namespace Go.Proofs.YtoihgnkhalhocaaGreatDoor.Js
set_option linter.unusedSimpArgs false
set_option linter.unusedVariables false
open Go.RowKit
def kCell (k : Bs × Bs) : Array Value := #[.string (bs k.1), .string (bs k.2)]
theorem kCell_one (k : Bs × Bs) : (kCell k).all (·.oneCell') = true := by simp [kCell, Value.oneCell']
theorem kCell_size (k : Bs × Bs) : (kCell k).size = 2 := rfl
theorem jk_size : (Tryz.prog.info? 39).map (·.size) = some 2 := by kernel_rfl
def idxN (ks : List (Bs × Bs)) (kid : Bs) : Nat := ks.findIdx (fun k => decide (k.1 = kid))
def findB (ks : List (Bs × Bs)) (kid : Bs) : Bs × Int := match ks.find? (fun k => decide (k.1 = kid)) with
  | some k => (k.2, 0)
  | none => ([], 11)
theorem findB_hit {ks : List (Bs × Bs)} {kid : Bs} {i : Nat} (h : i < ks.length) (h0 : ∀ k ∈ ks.take i, k.1 ≠ kid) (h1 : ks[i].1 = kid) : findB ks kid = (ks[i].2, 0) := by
  have e : ks = ks.take i ++ ks[i] :: ks.drop (i + 1) := by rw [← List.drop_eq_getElem_cons h, List.take_append_drop]
  have e2 : ks.find? (fun k => decide (k.1 = kid)) = some ks[i] := by
    conv => lhs; rw [e]
    rw [List.find?_append, List.find?_eq_none.2 (fun k hk => by simpa using h0 k hk), List.find?_cons_of_pos (by simpa using h1)]
    rfl
  unfold findB
  rw [e2]
theorem findB_no {ks : List (Bs × Bs)} {kid : Bs} (h0 : ∀ k ∈ ks, k.1 ≠ kid) : findB ks kid = ([], 11) := by
  unfold findB
  rw [List.find?_eq_none.2 (fun k hk => by simpa using h0 k hk)]
set_option maxHeartbeats 2000000 in
theorem find1_any (k : Bs × Bs) (kid : Bs) (g : Nat) (u : World) (hb : Blk u g 9 #[.string (bs kid)]) :
    Calls Tryz.prog 43 #[.agg (kCell k), .pointer (some ⟨g, 0, none⟩)] u fun e w' => e = .returned (.bool (decide (k.1 = kid))) ∧ Below u.heap.size u w' := by
  obtain ⟨W0, hW0⟩ : ∃ W0, W0 = u.alloc (.cells (kCell k) 39) := ⟨_, rfl⟩
  have HB0 := Lib.hid (show Below u.heap.size u W0 by rw [hW0]; exact (Below.refl _ u).alloc (Nat.le_refl _) _)
  have hk : Blk W0 u.heap.size 39 (kCell k) := by rw [hW0]; exact Blk.new _ _ _
  have hg : Blk W0 g 9 #[.string (bs kid)] := hb.below HB0.out hb.lt
  have a0 : W0.cell? ⟨u.heap.size, 0, none⟩ = some (.string (bs k.1)) := hk.cell 0
  have a1 : W0.cell? ⟨g, 0, none⟩ = some (.string (bs kid)) := hg.cell 0
  have HW0 := Lib.hid hW0
  clear hk hg hb hW0
  go_enter Tryz.func43, Tryz.ntmps43
  go_upto_region 1 with (fail)
  rw [← HW0.out]
  generalize Value.agg (kCell k) = AV
  by_cases hq : k.1 = kid
  · have hq' : ((bs k.1).toList == (bs kid).toList) = true := by rw [bs_toList, bs_toList]; simpa using hq
    go_wp2_with fail
    go_ret
    refine ⟨?_, HB0.out⟩
    rw [decide_eq_true hq]
    rfl
  · have hq' : ((bs k.1).toList == (bs kid).toList) = false := by rw [bs_toList, bs_toList]; simpa using hq
    go_wp2_with fail
    go_ret
    refine ⟨?_, HB0.out⟩
    rw [decide_eq_false hq]
    rfl
def idxP (ks : List (Bs × Bs)) (kid : Bs) (z : Int) : Prop := (z = -1 ∧ ∀ k ∈ ks, k.1 ≠ kid) ∨ ∃ i : Nat, z = (i : Int) ∧ ∃ h : i < ks.length, ks[i].1 = kid ∧ ∀ k ∈ ks.take i, k.1 ≠ kid
set_option maxHeartbeats 2000000 in
theorem idxf2_any (ks : List (Bs × Bs)) (kid : Bs) (A : Option Addr) (c B g : Nat) (w : World) (hr : Rd w B A (rowsV kCell ks)) (hB : B ≤ w.heap.size) (hl : ks.length ≤ 1099511627776) (hb : Blk w g 9 #[.string (bs kid)]) :
    Calls Tryz.prog 42 #[.slice A ks.length c, .func (.func 43) #[] #[.pointer (some ⟨g, 0, none⟩)]] w fun e w' => (∃ z, e = .returned (.int .i64 z) ∧ idxP ks kid z) ∧ Below w.heap.size w w' := by
  have eg : ∀ args w, (callFunc 43 args).run Tryz.prog w = .ok (.enter 43 args) w := enters_of Tryz.func43 (by kernel_rfl) rfl
  have huj := Tryz.underlying39
  obtain ⟨n, hn⟩ : ∃ n, n = ks.length := ⟨_, rfl⟩
  have HN := Lib.hid hn
  have HR := Lib.hid hr
  have HBK := Lib.hid hb
  have HBB := Lib.hid hB
  have HL := Lib.hid (show (n : Int) ≤ 1099511627776 by omega)
  have HR0 := Lib.hid (Below.refl w.heap.size w)
  rw [← hn]
  clear hr hl hn hB hb
  go_enter Tryz.func42, Tryz.ntmps42
  go_wp2_with fail
  go_loopw [8] (fun x wr => ∃ i : Nat, i ≤ n ∧ x = .int .i64 (i : Int) ∧ (∀ k ∈ ks.take i, k.1 ≠ kid) ∧ Below w.heap.size w wr) (fun x _ => n - (intOf x).toNat)
  case atStart => exact ⟨0, Nat.zero_le _, rfl, by simp, HR0.out⟩
  case round =>
    obtain ⟨i, hi, rfl, hok, hbw⟩ := hrel
    have HOK := Lib.hid hok
    have HBW := Lib.hid hbw
    clear hok hbw
    have hns := HL.out
    by_cases hlt : i < n
    · have hil : i < ks.length := by rw [← HN.out]; exact hlt
      have hlt' : (i : Int) < (n : Int) := by omega
      obtain ⟨ad, hA, hadb, hcell⟩ := rd_rows (f := kCell) (m := 2) (fun _ => rfl) (by decide) (HR.out.below (HBW.out.mono HBB.out)) hil
      subst hA
      obtain ⟨X, hX⟩ : ∃ X, X = ks[i] := ⟨_, rfl⟩
      rw [← hX] at hcell
      have HCL := Lib.hid (show ∀ j u, (kCell X).toList[j]? = some u → wr.cell? ((ad.add (i * 2)).add j) = some u from fun j u hu => hcell j u (by simpa using hu))
      have HC := Lib.hid (find1_any X kid g wr (HBK.out.below HBW.out HBK.out.lt))
      have HLT := Lib.hid hlt
      by_cases hq : X.1 = kid
      · rw [decide_eq_true hq] at HC
        have HP := Lib.hid (show idxP ks kid (i : Int) from .inr ⟨i, rfl, hil, by rw [← hX]; exact hq, HOK.out⟩)
        clear hX hcell hadb hil hlt hq
        go_wp2_with (first
          | refine wpList_get_rd (r := (kCell X).toList) HCL.out rfl rfl rfl huj rfl jk_size ?_
          | (go_at_call 43; refine calls_then HC.out ?_; rintro e W' ⟨rfl, hb'⟩; have HB' := Lib.hid hb'; clear hb'))
        go_ret
        exact ⟨⟨_, rfl, HP.out⟩, HBW.out.trans (HB'.out.mono HBW.out.size)⟩
      · rw [decide_eq_false hq] at HC
        have HP := Lib.hid (show ∀ k ∈ ks.take (i + 1), k.1 ≠ kid from fun k hk => by
          rw [List.take_succ_eq_append_getElem hil, List.mem_append] at hk
          rcases hk with hk | hk
          · exact HOK.out k hk
          · have e : k = X := by rw [hX]; simpa using hk
            rw [e]
            exact hq)
        clear hX hcell hadb hil hlt hq
        go_wp2_with (first
          | refine wpList_get_rd (r := (kCell X).toList) HCL.out rfl rfl rfl huj rfl jk_size ?_
          | (go_at_call 43; refine calls_then HC.out ?_; rintro e W' ⟨rfl, hb'⟩; have HB' := Lib.hid hb'; clear hb'))
        go_roundw
        case rel => exact ⟨i + 1, HLT.out, by go_num, HP.out, HBW.out.trans (HB'.out.mono HBW.out.size)⟩
        case measure => have := HLT.out; simp [intOf]; omega
    · obtain rfl : i = n := by omega
      have HP := Lib.hid (show idxP ks kid (-1) from .inl ⟨rfl, fun k hk => HOK.out k (by rw [HN.out, List.take_length]; exact hk)⟩)
      go_wp2_with fail
      go_ret
      exact ⟨⟨_, rfl, HP.out⟩, HBW.out⟩
theorem idx_hit {ks : List (Bs × Bs)} {kid : Bs} {z : Int} (h : idxP ks kid z) : (z = -1 ∧ findB ks kid = ([], 11)) ∨ ∃ i : Nat, z = (i : Int) ∧ ∃ h : i < ks.length, findB ks kid = (ks[i].2, 0) := by
  rcases h with ⟨rfl, h⟩ | ⟨i, rfl, h, h1, h2⟩
  · exact .inl ⟨rfl, findB_no h⟩
  · exact .inr ⟨i, rfl, h, findB_hit h h2 h1⟩
set_option maxHeartbeats 4000000 in
theorem jfind_any (dom : Bs) (num : Int) (ks : List (Bs × Bs)) (kid : Bs) (A : Option Addr) (c B : Nat) (w : World) (hr : Rd w B A (rowsV kCell ks)) (hB : B ≤ w.heap.size) (hl : ks.length ≤ 1099511627776) :
    Calls Tryz.prog 29 #[.agg #[.string (bs dom), .int .i64 num, .slice A ks.length c], .string (bs kid)] w fun e w' => e = .returned (.tuple #[.string (bs (findB ks kid).1), .int .i64 (findB ks kid).2]) ∧ Below w.heap.size w w' := by
  have hmf : ∀ (fn : Fn) (first cap : Array Value) (u : World), (Instr.makeFunc fn first cap).run Tryz.prog u = .ok (.func fn first cap) u := fun _ _ _ _ => rfl
  obtain ⟨W0, hW0⟩ : ∃ W0, W0 = (w.alloc (.cells #[.string (bs dom), .int .i64 num, .slice A ks.length c] 25)).alloc (.cells #[.string (bs kid)] 9) := ⟨_, rfl⟩
  have HB0 := Lib.hid (show Below w.heap.size w W0 by rw [hW0]; exact ((Below.refl _ w).alloc (Nat.le_refl _) _).alloc (by simp) _)
  have HK := Lib.hid (show Blk W0 w.heap.size 25 #[.string (bs dom), .int .i64 num, .slice A ks.length c] by rw [hW0]; exact (Blk.new _ _ _).alloc _)
  have HS := Lib.hid (show Blk W0 (w.heap.size + 1) 9 #[.string (bs kid)] by rw [hW0]; have := Blk.new (w.alloc (.cells #[.string (bs dom), .int .i64 num, .slice A ks.length c] 25)) 9 #[.string (bs kid)]; simpa using this)
  have HW0 := Lib.hid hW0
  have HR := Lib.hid (hr.below (HB0.out.mono hB))
  have HBB := Lib.hid hB
  have HL := Lib.hid hl
  have hbw : B ≤ W0.heap.size := Nat.le_trans hB HB0.out.size
  have HC := Lib.hid (idxf2_any ks kid A c B (w.heap.size + 1) W0 HR.out hbw hl HS.out)
  have a2 : W0.cell? ⟨w.heap.size, 2, none⟩ = some (.slice A ks.length c) := HK.out.cell 2
  have HWS := Lib.hid (show W0.heap.size = w.heap.size + 2 by rw [hW0]; simp)
  obtain ⟨n, hn⟩ : ∃ n, n = ks.length := ⟨_, rfl⟩
  rw [← hn] at HC a2 HK HW0 ⊢
  have HN := Lib.hid hn
  clear hW0 hr hB hl hbw hn
  go_enter Tryz.func29, Tryz.ntmps29
  go_upto_region 1 with (fail)
  rw [← HW0.out]
  go_wp2_with fail
  refine calls_then HC.out ?_
  rintro e u1 ⟨⟨z, rfl, hz⟩, hb1⟩
  have HB1 := Lib.hid (HB0.out.trans (hb1.mono HB0.out.size))
  have b2 : u1.cell? ⟨w.heap.size, 2, none⟩ = some (.slice A n c) := (HK.out.below hb1 HK.out.lt).cell 2
  have hr1 := HR.out.below (hb1.mono (Nat.le_trans HBB.out HB0.out.size))
  rcases idx_hit hz with ⟨rfl, hf⟩ | ⟨i, rfl, hil, hf⟩
  · have HF := Lib.hid hf
    clear a2 hb1 hz hr1 hf
    go_wp2_with fail
    go_ret2
    exact ⟨by rw [HF.out]; rfl, HB1.out⟩
  · obtain ⟨ad, hA, hadb, hcell⟩ := rd_rows (f := kCell) (m := 2) (fun _ => rfl) (by decide) hr1 hil
    subst hA
    have h0 : u1.cell? ⟨(ad.add (i * 2)).block, (ad.add (i * 2)).off + 1, none⟩ = some (.string (bs ks[i].2)) := hcell 1 _ rfl
    obtain ⟨X, hX⟩ : ∃ X, X = ks[i].2 := ⟨_, rfl⟩
    rw [← hX] at h0 hf
    have HF := Lib.hid hf
    have hilt : i < n := by rw [HN.out]; exact hil
    have hiltZ : (i : Int) < (n : Int) := by omega
    have hnm : (n : Int) ≤ 1099511627776 := by have := HN.out; have := HL.out; omega
    clear a2 hb1 hz hr1 hf hcell hadb hX hil
    go_wp2_with fail
    go_ret2
    exact ⟨by rw [HF.out]; rfl, HB1.out⟩
end Go.Proofs.YtoihgnkhalhocaaGreatDoor.Js
/-
  Laws of my own: rows of structs that the call owns and may write to.
-/
namespace Go.Proofs.YtoihgnkhalhocaaGreatDoor
set_option linter.unusedSimpArgs false
set_option linter.unusedVariables false
open Go.RowKit
def OwnR (w : World) (base : Nat) (e : TypeId) (size : Nat) (A : Option Addr) (c : Nat) (n : Nat) (xs : List Value) : Prop := w.ownsRow base e size (.slice A n c) n xs
section
variable {w w' : World} {base : Nat} {e : TypeId} {size : Nat} {A : Option Addr} {c n : Nat} {xs : List Value}
theorem OwnR.x (h : OwnR w base e size A c n xs) : OwnX w base e size (.slice A n c) n xs := .of h
theorem OwnR.nil (w : World) (base : Nat) (e : TypeId) (size : Nat) : OwnR w base e size none 0 0 [] := ⟨by simp, .inl ⟨rfl, rfl⟩⟩
theorem OwnR.cap (h : OwnR w base e size A c n xs) : n ≤ c := by
  rcases h.2 with ⟨h1, h2⟩ | ⟨g, cap, cur, h1, h2, h3, h4, h5, h6, h7⟩
  · omega
  · injection h1 with e1 e2 e3
    omega
theorem OwnR.capm (h : OwnR w base e size A c n xs) : c ≤ maxLen := by
  rcases h.2 with ⟨h1, h2⟩ | ⟨g, cap, cur, h1, h2, h3, h4, h5, h6, h7⟩
  · injection h1 with e1 e2 e3
    unfold maxLen
    omega
  · injection h1 with e1 e2 e3
    omega
theorem OwnR.lt (h : OwnR w base e size A c n xs) : ∀ k, (Value.slice A n c).ownBlock = some k → base ≤ k ∧ k < w.heap.size := h.x.lt
theorem OwnR.mono {base' : Nat} (h : OwnR w base e size A c n xs) (hb : base' ≤ base) : OwnR w base' e size A c n xs := by
  refine ⟨h.1, ?_⟩
  rcases h.2 with h0 | ⟨g, cap, cur, h1, h2, h3⟩
  · exact .inl h0
  · exact .inr ⟨g, cap, cur, h1, by omega, h3⟩
theorem OwnR.heap (h : OwnR w base e size A c n xs) (hk : ∀ k cs, w.heap[k]? = some (.cells cs e (0, 0)) → base ≤ k → w'.heap[k]? = some (.cells cs e (0, 0))) : OwnR w' base e size A c n xs := by
  refine ⟨h.1, ?_⟩
  rcases h.2 with h0 | ⟨g, cap, cur, h1, h2, h3, h4⟩
  · exact .inl h0
  · exact .inr ⟨g, cap, cur, h1, h2, hk _ _ h3 h2, h4⟩
theorem OwnR.keep {f : TypeId} (h : OwnR w base e size A c n xs) (hk : KeepBut f w w') (ht : e ≠ f) : OwnR w' base e size A c n xs := h.heap fun k cs h1 _ => heap_keep hk ht h1
theorem OwnR.alloc (h : OwnR w base e size A c n xs) (o : Obj) : OwnR (w.alloc o) base e size A c n xs := h.heap fun k cs h1 _ => (Below.heap_alloc w o k (Array.getElem?_eq_some_iff.1 h1).1).trans h1
theorem OwnR.below (h : OwnR w base e size A c n xs) (hb : Below w.heap.size w w') : OwnR w' base e size A c n xs := h.heap fun k cs h1 _ => (hb.block k (Array.getElem?_eq_some_iff.1 h1).1).trans h1
theorem OwnR.row (h : OwnR w base e size A c n xs) : Row w w.heap.size e A xs := .of_own h.x
end
theorem KeepBut.refl (e : TypeId) (w : World) : KeepBut e w w := ⟨Nat.le_refl _, fun _ _ _ _ _ h => h⟩
theorem KeepBut.trans {e : TypeId} {a b c : World} (h : KeepBut e a b) (h' : KeepBut e b c) : KeepBut e a c := ⟨Nat.le_trans h.1 h'.1, fun k cs t fz ht hk => h'.2 k cs t fz ht (h.2 k cs t fz ht hk)⟩
theorem KeepBut.of_below {e : TypeId} {a b : World} (h : Below a.heap.size a b) : KeepBut e a b := ⟨h.size, fun k cs t fz _ hk => (h.block k (Array.getElem?_eq_some_iff.1 hk).1).trans hk⟩
theorem KeepBut.of_wrote {e : TypeId} {a b : World} {g : Nat} {cs : Array Value} (h : Wrote g a b) (hb : Blk a g e cs) : KeepBut e a b := ⟨h.grown.size, fun k cs' t fz ht hk => by
  refine (h.grown.block k (Array.getElem?_eq_some_iff.1 hk).1 (fun hg => ?_)).trans hk
  injection hg with hg
  subst hg
  unfold Blk at hb
  rw [hb] at hk
  injection hk with hk
  injection hk with h1 h2
  exact ht h2.symm⟩
section
variable {P : Program}
theorem run_append_r {w : World} {t ty e : TypeId} {size bytes : Nat} (T : SlT P t e size bytes) {base n c : Nat} {A : Option Addr} {xs : List Value} (hown : OwnR w base e size A c n xs)
    {Ad : Option Addr} {m cx : Nat} {news : List Value} (hl : news.length = m * size) (hnews : ∀ j u, news[j]? = some u → ∃ ad, Ad = some ad ∧ w.cell? (ad.add j) = some u) (h1 : ∀ u ∈ news, u.oneCell' = true)
    (h63 : n + m ≤ maxLen) (hbytes : (n + m) * bytes ≤ 140737488355328) (hbase : base ≤ w.heap.size) :
    ∃ A' c' w', (Builtin.append_ #[t, t] ty #[.slice A n c, .slice Ad m cx]).run P w = .ok (.slice A' (n + m) c') w' ∧ OwnR w' base e size A' c' (n + m) (xs ++ news) ∧ w.grownBy w' (Value.slice A n c).ownBlock ∧ Next w (.slice A n c) (.slice A' (n + m) c') := by
  obtain ⟨i, z, hi, hz, hsz, hby, hzs⟩ := T.info
  by_cases hm : m = 0
  · subst hm
    have hnn : news = [] := List.eq_nil_of_length_eq_zero (by simpa using hl)
    subst hnn
    have hcap := hown.cap
    refine ⟨A, c, w, ?_, by simpa using hown, World.grownBy.refl _ _, .inl rfl⟩
    rcases hown.2 with ⟨h1, h2⟩ | ⟨g, cap, cur, h1, h2, h3, h4, h5, h6, h7⟩
    · injection h1 with e1 e2 e3
      subst e1 e2 e3
      cases Ad <;> simp [Builtin.append_, run_underlying T.und, sizeOf, typeInfo, hi, Builtin.lenOf, Builtin.firstCells, loadCells, loadCellsFrom]
    · injection h1 with e1 e2 e3
      subst e1 e3
      cases Ad <;> simp [Builtin.append_, run_underlying T.und, sizeOf, typeInfo, hi, Builtin.lenOf, Builtin.firstCells, loadCells, loadCellsFrom, hcap, storeCells]
  · have hpos : 0 < news.length := by rw [hl]; exact Nat.mul_pos (by omega) T.pos
    obtain ⟨ad, rfl, _⟩ := hnews 0 _ (List.getElem?_eq_getElem hpos)
    have hcells : ∀ j u, news[j]? = some u → w.cell? (ad.add j) = some u := fun j u hu => by
      obtain ⟨ad', he, hc⟩ := hnews j u hu
      injection he with he
      subst he
      exact hc
    obtain ⟨v', w', hr, h2, h3, _, h5⟩ := run_append_own_at (P := P) w base t ty e i z size bytes T.und hi hz hsz hby hzs T.pos (.slice A n c) n xs hown ad m cx news hl hcells h1 h63 hbytes hbase
    have hn : Next w (.slice A n c) v' := by
      rcases h5 with h5 | h5
      · exact .inl h5
      · exact .inr fun k hk => by rw [h5] at hk; simp at hk; omega
    have hv : ∃ A' c', v' = .slice A' (n + m) c' := by
      rcases h2.2 with ⟨_, h0⟩ | ⟨g, cap, cur, rfl, _⟩
      · omega
      · exact ⟨_, _, rfl⟩
    obtain ⟨A', c', rfl⟩ := hv
    exact ⟨A', c', w', hr, h2, h3, hn⟩
theorem wpList_append_r {w : World} {ops : Array Oper} {rest : List Oper} {o : Oper} {a : Act} {Q : Exit → Act → World → Prop} {sl x : Operand} {t e : TypeId} {size bytes : Nat} (T : SlT P t e size bytes)
    (hgd : o.guard = none) (ho : o.op = .call { callee := .builtin .append, args := #[sl, x], argTypes := #[t, t] })
    {base n c B : Nat} {A : Option Addr} {xs : List Value} {Ad : Option Addr} {m cx : Nat} {news : List Value} (hown : OwnR w base e size A c n xs) (hs : a.eval sl = .slice A n c) (hx : a.eval x = .slice Ad m cx)
    (hl : news.length = m * size) (hr : Rd w B Ad news) (h1 : ∀ u ∈ news, u.oneCell' = true)
    (h63 : n + m ≤ maxLen) (hbytes : (n + m) * bytes ≤ 140737488355328) (hbase : base ≤ w.heap.size)
    (h : ∀ A' c' w', OwnR w' base e size A' c' (n + m) (xs ++ news) → w.grownBy w' (Value.slice A n c).ownBlock → Next w (.slice A n c) (.slice A' (n + m) c') → wpList P ops Q rest (a.put o.dst (.slice A' (n + m) c')) w') :
    wpList P ops Q (o :: rest) a w := by
  obtain ⟨A', c', w', hrun, h2, h3, h4⟩ := run_append_r (ty := o.type) (cx := cx) T hown hl (fun j u hu => by
    obtain ⟨ad, h1, _, h3⟩ := hr j u hu
    exact ⟨ad, h1, h3⟩) h1 h63 hbytes hbase
  refine wpList_of_append (R := fun v' w1 => v' = .slice A' (n + m) c' ∧ w1 = w') hgd ho hs hx ⟨_, _, hrun, rfl, rfl⟩ ?_
  rintro v' w1 ⟨rfl, rfl⟩
  exact h _ _ _ h2 h3 h4
theorem wpList_append_r1 {w0 : World} {ys : List Value} {ops : Array Oper} {rest : List Oper} {o : Oper} {a : Act} {Q : Exit → Act → World → Prop} {s x : Operand} {t e : TypeId} {size bytes : Nat} (T : SlT P t e size bytes)
    (hgd : o.guard = none) (ho : o.op = .call { callee := .builtin .append, args := #[s, x], argTypes := #[t, t] })
    {base n c ad : Nat} {A : Option Addr} {xs : List Value} (hown : OwnR w0 base e size A c n xs) (hs : a.eval s = .slice A n c) (hx : a.eval x = .slice (some ⟨ad, 0, none⟩) 1 1) (had : ad = w0.heap.size) (hm : ys.length = size)
    (hy : ∀ u ∈ ys, u.oneCell' = true)
    (h63 : n + 1 ≤ maxLen) (hbytes : (n + 1) * bytes ≤ 140737488355328) (hbase : base ≤ w0.heap.size)
    (h : ∀ A' c' w', OwnR w' base e size A' c' (n + 1) (xs ++ ys) → w0.grownBy w' (Value.slice A n c).ownBlock → Next w0 (.slice A n c) (.slice A' (n + 1) c') → wpList P ops Q rest (a.put o.dst (.slice A' (n + 1) c')) w') :
    wpList P ops Q (o :: rest) a (w0.alloc (.cells ys.toArray e)) := by
  subst had
  obtain ⟨A', c', w', hrun, h2, h3, h4⟩ := run_append_r (ty := o.type) (cx := 1) (Ad := some ⟨w0.heap.size, 0, none⟩) T (hown.alloc (.cells ys.toArray e)) (news := ys) (m := 1) (by omega) (fun j u hu => ⟨_, rfl, by
    have hadd : (⟨w0.heap.size, 0, none⟩ : Addr).add j = ⟨w0.heap.size, j, none⟩ := by unfold Addr.add; split <;> simp_all
    rw [hadd, cell_of_row _ _ _ _ _ (0, 0) (heap_alloc_new w0 _)]
    simpa using hu⟩) hy h63 hbytes (by simp; omega)
  refine wpList_of_append (R := fun v' w1 => v' = .slice A' (n + 1) c' ∧ w1 = w') hgd ho hs hx ⟨_, _, hrun, rfl, rfl⟩ ?_
  rintro v' w1 ⟨rfl, rfl⟩
  exact h _ _ _ h2 ((World.grownBy_alloc w0 _ _).trans h3) (h4.back (by simp))
end
end Go.Proofs.YtoihgnkhalhocaaGreatDoor
/-
  Laws of my own on conversions between bytes and strings.
-/
namespace Go.Proofs.YtoihgnkhalhocaaGreatDoor
set_option linter.unusedSimpArgs false
set_option linter.unusedVariables false
open Go.RowKit
section
variable {P : Program}
theorem run_str_of {w : World} {B : Nat} {src dst e : TypeId} (hs : P.underlying src = some (.slice e)) (he : P.underlying e = some (.int .u8)) (hd : P.underlying dst = some .string)
    {A : Option Addr} {l : List UInt8} (hr : Rd w B A (bytesV l)) (c : Nat) : (convert src dst (.slice A l.length c)).run P w = .ok (.string ⟨l.toArray⟩) w := by
  cases A with
  | none =>
    have hl : l = [] := by
      cases l with
      | nil => rfl
      | cons x r =>
        obtain ⟨ad, h, _⟩ := hr 0 (byteV x) (by simp [bytesV])
        cases h
    subst hl
    rw [run_convert_bytes_nil w src e hs he _ c dst hd]
    rfl
  | some ad =>
    have hl : (loadCells ad l.length).run P w = .ok ((l.map fun b => (b.toNat : Int)).map (Value.int .u8)).toArray w := by
      have := run_loadCells_list (P := P) w ad ((l.map fun b => (b.toNat : Int)).map (Value.int .u8)) (fun j v hj => by
        obtain ⟨ad', h, _, hc⟩ := hr j v (by rw [← hj]; simp [bytesV, byteV]; rfl)
        injection h with h
        subst h
        exact hc)
      simpa using this
    rw [run_convert_bytes_string w src dst e _ l.length c hs he hd, run_bytesToString w _ l.length c (l.map fun b => (b.toNat : Int)) hl, foldl_push_bytes]
    have e1 : ((l.map fun b => (b.toNat : Int)).map fun n => UInt8.ofNat n.toNat) = l := by
      rw [List.map_map]
      conv => rhs; rw [← List.map_id l]
      exact List.map_congr_left fun b _ => by simp
    rw [e1]
    simp [ByteArray.empty, ByteArray.emptyWithCapacity]
    rfl
theorem wpList_str_of {w : World} {ops : Array Oper} {rest : List Oper} {o : Oper} {a : Act} {Q : Exit → Act → World → Prop} {B : Nat} {src dst e : TypeId} {x : Operand} {A : Option Addr} {l : List UInt8} {c : Nat}
    (hr : Rd w B A (bytesV l)) (hs : P.underlying src = some (.slice e)) (he : P.underlying e = some (.int .u8)) (hd : P.underlying dst = some .string)
    (hgd : o.guard = none) (ho : o.op = .convert src dst x) (hx : a.eval x = .slice A l.length c)
    (h : wpList P ops Q rest (a.put o.dst (.string ⟨l.toArray⟩)) w) : wpList P ops Q (o :: rest) a w := by
  refine wpList_plain hgd fun K hK => ?_
  have hrun := run_str_of (P := P) hs he hd hr c
  unfold Oper.wp execOp
  simp only [ho, hx]
  simp only [Sem.run_bind, hrun, Result.andThen_ok, Sem.run_pure]
  exact hK _ _ h
end
end Go.Proofs.YtoihgnkhalhocaaGreatDoor
/-
  strings.Trim's contract lies at this seat (printed by the kit's lay-plain over gen/trim11.py; the numbers are this seat's).
-/
namespace Go.Proofs.YtoihgnkhalhocaaGreatDoor
open Go.Shelf Go.Proofs
def trimL_ren : Go.Shelf.Ren := ⟨fun | 160 => 53 | 232 => 87 | 231 => 86 | 227 => 88 | 234 => 90 | 233 => 89 | 236 => 92 | 235 => 91 | 228 => 123 | 271 => 126 | 151 => 125 | 197 => 124 | 120 => 145 | 152 => 144 | 260 => 143 | 137 => 153 | 119 => 154 | 224 => 155 | 225 => 156 | 217 => 160 | 266 => 161 | n => n, fun | 9 => 9 | 4 => 4 | 3 => 3 | 5 => 5 | 117 => 131 | 116 => 130 | 0 => 0 | 124 => 134 | 21 => 21 | 105 => 167 | 46 => 94 | 119 => 199 | 139 => 202 | 138 => 201 | n => n, fun | 3 => 1 | 4 => 2 | n => n⟩
theorem trimL : Go.Proofs.Lays.n160 Tryz.prog trimL_ren := {
  mixed := by kernel_rfl
  f119 := Tryz.func154.trans (congrArg some (by kernel_rfl))
  f120 := Tryz.func145.trans (congrArg some (by kernel_rfl))
  f137 := Tryz.func153.trans (congrArg some (by kernel_rfl))
  f151 := Tryz.func125.trans (congrArg some (by kernel_rfl))
  f152 := Tryz.func144.trans (congrArg some (by kernel_rfl))
  f160 := Tryz.func53.trans (congrArg some (by kernel_rfl))
  f197 := Tryz.func124.trans (congrArg some (by kernel_rfl))
  f217 := Tryz.func160.trans (congrArg some (by kernel_rfl))
  f224 := Tryz.func155.trans (congrArg some (by kernel_rfl))
  f225 := Tryz.func156.trans (congrArg some (by kernel_rfl))
  f227 := Tryz.func88.trans (congrArg some (by kernel_rfl))
  f228 := Tryz.func123.trans (congrArg some (by kernel_rfl))
  f231 := Tryz.func86.trans (congrArg some (by kernel_rfl))
  f232 := Tryz.func87.trans (congrArg some (by kernel_rfl))
  f233 := Tryz.func89.trans (congrArg some (by kernel_rfl))
  f234 := Tryz.func90.trans (congrArg some (by kernel_rfl))
  f235 := Tryz.func91.trans (congrArg some (by kernel_rfl))
  f236 := Tryz.func92.trans (congrArg some (by kernel_rfl))
  f260 := Tryz.func143.trans (congrArg some (by kernel_rfl))
  f266 := Tryz.func161.trans (congrArg some (by kernel_rfl))
  f271 := Tryz.func126.trans (congrArg some (by kernel_rfl))
  t0 := Tryz.underlying0
  a0 := Tryz.isAgg0
  z0 := Tryz.sizeOf0
  v0 := Tryz.zeroValue0
  t3 := Tryz.underlying3
  a3 := Tryz.isAgg3
  z3 := Tryz.sizeOf3
  v3 := Tryz.zeroValue3
  t4 := Tryz.underlying4
  a4 := Tryz.isAgg4
  z4 := Tryz.sizeOf4
  v4 := Tryz.zeroValue4
  t5 := Tryz.underlying5
  a5 := Tryz.isAgg5
  z5 := Tryz.sizeOf5
  v5 := Tryz.zeroValue5
  t9 := Tryz.underlying9
  a9 := Tryz.isAgg9
  z9 := Tryz.sizeOf9
  v9 := Tryz.zeroValue9
  t21 := Tryz.underlying21
  a21 := Tryz.isAgg21
  z21 := Tryz.sizeOf21
  v21 := Tryz.zeroValue21
  t46 := Tryz.underlying94
  a46 := Tryz.isAgg94
  z46 := Tryz.sizeOf94
  v46 := Tryz.zeroValue94
  t105 := Tryz.underlying167
  a105 := Tryz.isAgg167
  z105 := Tryz.sizeOf167
  v105 := Tryz.zeroValue167
  t116 := Tryz.underlying130
  a116 := Tryz.isAgg130
  z116 := Tryz.sizeOf130
  t117 := Tryz.underlying131
  a117 := Tryz.isAgg131
  z117 := Tryz.sizeOf131
  v117 := Tryz.zeroValue131
  t119 := Tryz.underlying199
  a119 := Tryz.isAgg199
  z119 := Tryz.sizeOf199
  t124 := Tryz.underlying134
  a124 := Tryz.isAgg134
  z124 := Tryz.sizeOf134
  v124 := Tryz.zeroValue134
  t138 := Tryz.underlying201
  a138 := Tryz.isAgg201
  z138 := Tryz.sizeOf201
  v138 := Tryz.zeroValue201
  t139 := Tryz.underlying202
  a139 := Tryz.isAgg202
  z139 := Tryz.sizeOf202
  v139 := Tryz.zeroValue202
  g3 := by kernel_rfl
  g4 := by kernel_rfl }
end Go.Proofs.YtoihgnkhalhocaaGreatDoor
/-
  Walks: ids: which texts are domains.
-/
namespace Go.Proofs.YtoihgnkhalhocaaGreatDoor.Js
set_option linter.unusedSimpArgs false
set_option linter.unusedVariables false
open Go.RowKit
def smallZ (z : Int) : Bool := decide (97 ≤ z) && decide (z ≤ 122)
def digitZ (z : Int) : Bool := decide (48 ≤ z) && decide (z ≤ 57)
def innerZ (z : Int) : Bool := smallZ z || digitZ z || z == 46 || z == 45
theorem small_any (z : Int) (w : World) : Calls Tryz.prog 84 #[.int .u8 z] w fun e w' => e = .returned (.bool (smallZ z)) ∧ w' = w := by
  go_enter Tryz.func84, Tryz.ntmps84
  unfold smallZ
  by_cases h1 : 97 ≤ z
  · go_wp2_with fail
    go_ret
    simp [h1]
  · go_wp2_with fail
    go_ret
    refine ⟨?_, rfl⟩
    simp [h1]
    try omega
theorem digit_any (z : Int) (w : World) : Calls Tryz.prog 85 #[.int .u8 z] w fun e w' => e = .returned (.bool (digitZ z)) ∧ w' = w := by
  go_enter Tryz.func85, Tryz.ntmps85
  unfold digitZ
  by_cases h1 : 48 ≤ z
  · go_wp2_with fail
    go_ret
    simp [h1]
  · go_wp2_with fail
    go_ret
    refine ⟨?_, rfl⟩
    simp [h1]
    try omega
theorem inner_any (z : Int) (w : World) : Calls Tryz.prog 52 #[.int .u8 z] w fun e w' => e = .returned (.bool (innerZ z)) ∧ w' = w := by
  have C1 := Lib.hid (small_any z w)
  have C2 := Lib.hid (digit_any z w)
  unfold innerZ
  obtain ⟨a, ha⟩ : ∃ a, a = smallZ z := ⟨_, rfl⟩
  obtain ⟨b, hb⟩ : ∃ b, b = digitZ z := ⟨_, rfl⟩
  rw [← ha] at C1 ⊢
  rw [← hb] at C2 ⊢
  clear ha hb
  go_enter Tryz.func52, Tryz.ntmps52
  go_wp2_with fail
  refine calls_then C1.out ?_
  rintro e u1 ⟨rfl, rfl⟩
  cases a with
  | true =>
    go_wp2_with fail
    go_ret
    simp
  | false =>
    go_wp2_with fail
    refine calls_then C2.out ?_
    rintro e u2 ⟨rfl, rfl⟩
    cases b with
    | true =>
      go_wp2_with fail
      go_ret
      simp
    | false =>
      cases h1 : z == 46 with
      | true =>
        go_wp2_with fail
        go_ret
        have h2 := beq_iff_eq.1 h1
        simp [h2]
      | false =>
        go_wp2_with fail
        go_ret
        have h2 : ¬ z = 46 := fun h => by rw [h] at h1; cases h1
        simp [h2]
theorem byteV_int (c : UInt8) : byteV c = .int .u8 ((c.toNat : Nat) : Int) := rfl
def innerC (c : UInt8) : Bool := innerZ ((c.toNat : Nat) : Int)
def allD (s : Bs) : Bool := s.all innerC && !s.isEmpty
theorem all_take {s : Bs} {i : Nat} (h : i < s.length) : (s.take (i + 1)).all innerC = ((s.take i).all innerC && innerC s[i]) := by
  rw [List.take_succ_eq_append_getElem h, List.all_append]
  simp
theorem all_bad {s : Bs} {i : Nat} (h : i < s.length) (hb : innerC s[i] = false) : allD s = false := by
  unfold allD
  cases hq : s.all innerC with
  | false => rfl
  | true =>
    rw [List.all_eq_true] at hq
    have := hq _ (List.getElem_mem h)
    rw [hb] at this
    cases this
set_option maxHeartbeats 2000000 in
theorem all_any (s : ByteArray) (hs : (s.size : Int) ≤ 100000000) (w : World) :
    Calls Tryz.prog 51 #[.string s, .func (.func 52) #[] #[]] w fun x w' => x = .returned (.bool (allD s.data.toList)) ∧ w' = w := by
  have eg : ∀ args w, (callFunc 52 args).run Tryz.prog w = .ok (.enter 52 args) w := enters_of Tryz.func52 (by kernel_rfl) rfl
  have C := Lib.hid inner_any
  have h5 : s.data.toList.length = s.size := rfl
  have HS := Lib.hid hs
  go_enter Tryz.func51, Tryz.ntmps51
  go_wp2_with fail
  go_loopw [8] (fun x wr => ∃ i : Nat, i ≤ s.size ∧ x = .int .i64 (i : Int) ∧ (s.data.toList.take i).all innerC = true ∧ wr = w) (fun x _ => s.size - (intOf x).toNat)
  case atStart => exact ⟨0, Nat.zero_le _, rfl, by simp, rfl⟩
  case round =>
    obtain ⟨i, hi, rfl, hok, rfl⟩ := hrel
    have HOK := Lib.hid hok
    clear hok
    by_cases hlt : i < s.size
    · have hlt' : (i : Int) < (s.size : Int) := by omega
      have HLT := Lib.hid hlt
      have HAT := Lib.hid (show s.data.toList[i]'(by rw [h5]; exact hlt) = s[i] from rfl)
      have HC := Lib.hid (C.out ((s[i].toNat : Nat) : Int))
      cases hb : innerC s[i] with
      | true =>
        have HT := Lib.hid (show (s.data.toList.take (i + 1)).all innerC = true by rw [all_take (by rw [h5]; exact hlt), HOK.out, HAT.out, hb]; rfl)
        have hb' : innerZ ((s[i].toNat : Nat) : Int) = true := hb
        rw [hb'] at HC
        clear HAT h5 hb hb' C
        go_wp2_with (go_at_call 52; refine calls_then (HC.out _) ?_; rintro e W' ⟨rfl, rfl⟩)
        go_roundw
        case rel => exact ⟨i + 1, HLT.out, by go_num, HT.out, by first | rfl | trivial⟩
        case measure => have := HLT.out; simp [intOf]; omega
      | false =>
        have HF := Lib.hid (all_bad (s := s.data.toList) (i := i) (by rw [h5]; exact hlt) (by rw [HAT.out]; exact hb))
        have hb' : innerZ ((s[i].toNat : Nat) : Int) = false := hb
        rw [hb'] at HC
        clear HAT h5 hb hb' C
        go_wp2_with (go_at_call 52; refine calls_then (HC.out _) ?_; rintro e W' ⟨rfl, rfl⟩)
        go_ret
        exact ⟨by rw [HF.out]; rfl, rfl⟩
    · have HF := Lib.hid (show s.data.toList.all innerC = true by
        have := HOK.out
        rw [List.take_of_length_le (by rw [h5]; omega)] at this
        exact this)
      clear h5
      have hlt' : ¬ (i : Int) < (s.size : Int) := by omega
      go_wp2_with fail
      go_ret
      refine ⟨?_, rfl⟩
      rw [allD, HF.out, ← Lib.toList_data]
      rfl
def trimD (s : Bs) : Bs := Lib.trimS s [46, 45]
def domB (s : Bs) : Bool := decide (s.length ≤ 16) && (allD s && decide (trimD s = s))
set_option maxHeartbeats 2000000 in
theorem domain_any (s : ByteArray) (hs : (s.size : Int) ≤ 100000000) (w : World) :
    Calls Tryz.prog 33 #[.string s] w fun x w' => x = .returned (.bool (domB s.data.toList)) ∧ Below w.heap.size w w' := by
  have C1 := Lib.hid (all_any s hs w)
  have C2 := Lib.hid (fun w => Any.strings_Trim_laid trimL (by kernel_rfl) s ⟨#[46, 45]⟩ w (by omega) (by decide) (ascii_of_all (by decide)))
  have HB := Lib.hid (Below.refl w.heap.size w)
  have h5 : s.data.toList.length = s.size := rfl
  obtain ⟨a, ha⟩ : ∃ a, a = allD s.data.toList := ⟨_, rfl⟩
  unfold domB
  rw [← ha] at C1 ⊢
  rw [h5]
  have HN := Lib.hid h5
  clear ha h5
  go_enter Tryz.func33, Tryz.ntmps33
  by_cases hl : s.size ≤ 16
  · have hl' : (s.size : Int) ≤ 16 := by omega
    go_wp2_with fail
    refine calls_then C1.out ?_
    rintro e u1 ⟨rfl, rfl⟩
    cases a with
    | false =>
      go_wp2_with fail
      go_ret
      exact ⟨by simp, HB.out⟩
    | true =>
      go_wp2_with fail
      refine calls_then (C2.out _) ?_
      rintro e u2 ⟨rfl, hb2⟩
      have HB2 := Lib.hid hb2
      clear hb2
      go_wp2_with fail
      go_ret
      refine ⟨?_, HB2.out⟩
      by_cases ht : trimD s.data.toList = s.data.toList
      · have ht2 := ht
        unfold trimD at ht2
        simp [hl, ht, ht2, Lib.toList_data]
      · have ht2 := ht
        unfold trimD at ht2
        simp [hl, ht, ht2, Lib.toList_data]
  · have hl' : ¬ (s.size : Int) ≤ 16 := by omega
    go_wp2_with fail
    go_ret
    exact ⟨by simp [hl], HB.out⟩
end Go.Proofs.YtoihgnkhalhocaaGreatDoor.Js
/-
  Walk: json's right, whole.
-/
namespace Go.Proofs.YtoihgnkhalhocaaGreatDoor.Js
set_option linter.unusedSimpArgs false
set_option linter.unusedVariables false
open Go.RowKit
structure RightQ (d : Nat) (k n : Int) (t : Bs) (ns : List Bs) (ks : List JT) (P : Bool) : Prop where
  eq : rightV d (.mk k n t ns ks) = (P && !(d == 0 && decide (4 ≤ k)) && (decide (0 ≤ k) && decide (k ≤ 5)) && (k != 5 || ns.length == ks.length) && okT t && ns.all okT
      && (k != 2 || (decide (-1000000000000000 ≤ n) && decide (n ≤ 1000000000000000))) && distinct ns && rightsV (d - 1) ks)
theorem distinct_take {l : List Bs} {i : Nat} (hi : i < l.length) (h : distinct (l.take i) = true) : (l[i] ∈ l.take i → distinct l = false) ∧ (l[i] ∉ l.take i → distinct (l.take (i + 1)) = true) := by
  constructor
  · intro hm
    cases hq : distinct l with
    | false => rfl
    | true =>
      have e : l = l.take i ++ l[i] :: l.drop (i + 1) := by
        rw [← List.drop_eq_getElem_cons hi, List.take_append_drop]
      rw [e] at hq
      exact absurd hm (distinct_not hq)
  · intro hm
    rw [List.take_succ_eq_append_getElem hi]
    exact distinct_snoc h hm
set_option maxRecDepth 100000 in
set_option maxHeartbeats 4000000 in
theorem right_step (d : Nat) (hd9 : (d : Int) ≤ 1000) (IH : ∀ d', d = d' + 1 → RVal d') : RVal d := by
  intro j v B w hs hj hB
  have hu := Tryz.underlying55
  obtain ⟨ns, ks, kv, rfl, hn, hnc, hnr, hkn, _, hkv, hkr, hkids⟩ := hj.inv
  rw [smallJ] at hs
  simp only [Bool.and_eq_true, decide_eq_true_eq] at hs
  obtain ⟨⟨hsn, hsk⟩, hsm⟩ := hs
  obtain ⟨G, hG⟩ : ∃ G, G = w.heap.size := ⟨_, rfl⟩
  obtain ⟨W0, hW0⟩ : ∃ W0, W0 = (w.alloc (.cells (jvCells v) 55)).alloc (.cells #[.int .i64 (d : Int)] 3) := ⟨_, rfl⟩
  have hb0 : Below w.heap.size w W0 := by rw [hW0]; exact ((Below.refl _ w).alloc (Nat.le_refl _) _).alloc (by simp) _
  have HB0 := Lib.hid hb0
  have hkb : Blk W0 G 55 (jvCells v) := by rw [hW0, hG]; exact (Blk.new _ _ _).alloc _
  have hkd : Blk W0 (G + 1) 3 #[.int .i64 (d : Int)] := by
    have := Blk.new (w.alloc (.cells (jvCells v) 55)) 3 #[.int .i64 (d : Int)]
    rw [hW0, hG]
    simpa using this
  have HKB := Lib.hid hkb
  have HKD := Lib.hid hkd
  have HNR := Lib.hid (show Rd W0 B v.nA (rowsV sCell ns) from (hnr.rd (fun _ _ h => h)).below (hb0.mono hB))
  have HKR := Lib.hid (show Rd W0 B v.kA (rowsV jvCells kv) from (hkr.rd (fun _ _ h => h)).below (hb0.mono hB))
  have HKI := Lib.hid (show ∀ i (h : i < ks.length) (h' : i < kv.length), JRep W0 (fun b => b < B) ks[i] kv[i] from fun i h h' => (hkids i h h').under (hb0.mono hB))
  have HBB := Lib.hid (show B ≤ W0.heap.size from Nat.le_trans hB hb0.size)
  have HW0 := Lib.hid hW0
  have HSN := Lib.hid hsn
  have HSK := Lib.hid hsk
  have HSM := Lib.hid hsm
  have HKV := Lib.hid hkv
  have HIH := Lib.hid IH
  have HD9 := Lib.hid hd9
  have HNC := Lib.hid hnc
  have HP := Lib.hid (plain_any v ns ks hn hkn W0)
  obtain ⟨vk, vn, vt, nA, nn, nc, kA, kn, kc⟩ := v
  dsimp only at *
  obtain ⟨P, hP⟩ : ∃ P, P = plainJ vk vn vt ns ks := ⟨_, rfl⟩
  rw [← hP] at HP
  have HPL := Lib.hid hP
  have HQ : RightQ d vk vn vt ns ks P := ⟨by rw [rightV, hP]⟩
  have HN := Lib.hid hn
  have HKN := Lib.hid hkn
  have HE := Lib.hid (show (ns.length == ks.length) = !((nn : Int) != (kn : Int)) by rw [hn, hkn, Bool.eq_iff_iff, beq_iff_eq]; simp; omega)
  have a0 : W0.cell? ⟨G, 0, none⟩ = some (.int .i64 vk) := hkb.cell 0
  have a1 : W0.cell? ⟨G, 1, none⟩ = some (.int .i64 vn) := hkb.cell 1
  have a2 : W0.cell? ⟨G, 2, none⟩ = some (.string (bs vt)) := hkb.cell 2
  have a3 : W0.cell? ⟨G, 3, none⟩ = some (.slice nA nn nc) := hkb.cell 3
  have a4 : W0.cell? ⟨G, 4, none⟩ = some (.slice kA kn kc) := hkb.cell 4
  have a5 : W0.cell? ⟨G + 1, 0, none⟩ = some (.int .i64 (d : Int)) := hkd.cell 0
  clear hW0 hb0 hkb hkd hnr hkr hkids hB hsn hsk hsm hkv IH hd9 hn hkn hP hnc hj
  rw [hG] at *
  clear hG
  go_enter Tryz.func36, Tryz.ntmps36
  go_upto_region 1 with (fail)
  rw [← HW0.out]
  clear HW0
  generalize Value.agg (jvCells ⟨vk, vn, vt, nA, nn, nc, kA, kn, kc⟩) = AV
  generalize Value.int IntKind.i64 (d : Int) = DV
  clear a0 a1 a2 a3 a4 a5
  go_cut [43] (fun x wx => x = .bool (!P || (decide ((d : Int) = 0) && decide (4 ≤ vk)) || decide (vk < 0) || decide (5 < vk) || (vk == 5 && ((nn : Int) != (kn : Int)))) ∧ Below W0.heap.size W0 wx)
  case first =>
    go_wp2_with (refine wpList_get_box (x := .tmp 2) HKB.out rfl rfl rfl hu rfl jT_size2 ?_)
    refine calls_then HP.out ?_
    rintro e w1 ⟨rfl, hb1⟩
    have HB1 := Lib.hid hb1
    have hkb := HKB.out.below hb1 HKB.out.lt
    have hkd := HKD.out.below hb1 HKD.out.lt
    have a0 : w1.cell? ⟨w.heap.size, 0, none⟩ = some (.int .i64 vk) := hkb.cell 0
    have a3 : w1.cell? ⟨w.heap.size, 3, none⟩ = some (.slice nA nn nc) := hkb.cell 3
    have a4 : w1.cell? ⟨w.heap.size, 4, none⟩ = some (.slice kA kn kc) := hkb.cell 4
    have a5 : w1.cell? ⟨w.heap.size + 1, 0, none⟩ = some (.int .i64 (d : Int)) := hkd.cell 0
    clear hb1 hkb hkd
    generalize Value.agg (jvCells ⟨vk, vn, vt, nA, nn, nc, kA, kn, kc⟩) = AV2
    cases P with
    | false =>
      go_wp2_with fail
      all_goals (go_meet; exact ⟨by first | rfl | (simp; done), HB1.out⟩)
    | true =>
      go_wp2_with fail
      all_goals (go_meet; exact ⟨by first | rfl | (simp; done) | (simp_all; done), HB1.out⟩)
  case rest =>
  obtain ⟨rfl, hbel⟩ := hcut
  have HBE := Lib.hid hbel
  clear hbel
  obtain ⟨X1, hX1⟩ : ∃ X1, X1 = (!P || (decide ((d : Int) = 0) && decide (4 ≤ vk)) || decide (vk < 0) || decide (5 < vk) || (vk == 5 && ((nn : Int) != (kn : Int)))) := ⟨_, rfl⟩
  rw [← hX1]
  have HQ1 := Lib.hid (show rightV d (.mk vk vn vt ns ks) = (!X1 && okT vt && ns.all okT && (vk != 2 || (decide (-1000000000000000 ≤ vn) && decide (vn ≤ 1000000000000000))) && distinct ns && rightsV (d - 1) ks) by
    have e1 : (d == 0) = decide ((d : Int) = 0) := by rw [Bool.eq_iff_iff, beq_iff_eq, decide_eq_true_iff]; omega
    have e2 : decide (0 ≤ vk) = !decide (vk < 0) := by rw [Bool.eq_iff_iff]; simp
    have e3 : decide (vk ≤ 5) = !decide (5 < vk) := by rw [Bool.eq_iff_iff]; simp
    rw [HQ.eq, HE.out, e1, e2, e3, hX1]
    unfold bne
    cases P <;> cases decide ((d : Int) = 0) <;> cases decide (4 ≤ vk) <;> cases decide (vk < 0) <;> cases decide (5 < vk) <;> cases (vk == 5) <;> simp)
  have HX1 := Lib.hid (show X1 = false → d = 0 → ks = [] from fun h1 h2 => by
    rw [hX1] at h1
    simp only [Bool.or_eq_false_iff, Bool.not_eq_false', Bool.and_eq_false_imp, decide_eq_true_eq, decide_eq_false_iff_not] at h1
    have hp := HPL.out
    rw [h1.1.1.1.1] at hp
    have h4 := h1.1.1.1.2 (by omega)
    have h5 := hp.symm
    unfold plainJ at h5
    simp only [Bool.and_eq_true, Bool.or_eq_true, List.isEmpty_iff, beq_iff_eq] at h5
    rcases h5.1.1.2 with (h | h) | h
    · exact h
    · omega
    · omega)
  clear hX1
  cases X1 with
  | true =>
    go_wp2_with fail
    go_ret
    exact ⟨by rw [HQ1.out]; simp, HB0.out.trans (HBE.out.mono HB0.out.size)⟩
  | false =>
    have HKE := Lib.hid (HX1.out rfl)
    clear HX1 HP HPL HQ
    have cells : ∀ u, Below W0.heap.size W0 u → u.cell? ⟨w.heap.size, 0, none⟩ = some (.int .i64 vk) ∧ u.cell? ⟨w.heap.size, 1, none⟩ = some (.int .i64 vn) ∧ u.cell? ⟨w.heap.size, 2, none⟩ = some (.string (bs vt)) ∧ u.cell? ⟨w.heap.size, 3, none⟩ = some (.slice nA nn nc) ∧
        u.cell? ⟨w.heap.size, 4, none⟩ = some (.slice kA kn kc) ∧ u.cell? ⟨w.heap.size + 1, 0, none⟩ = some (.int .i64 (d : Int)) := fun u hu => by
      have h := HKB.out.below hu HKB.out.lt
      have h' := HKD.out.below hu HKD.out.lt
      exact ⟨h.cell 0, h.cell 1, h.cell 2, h.cell 3, h.cell 4, h'.cell 0⟩
    have CE := Lib.hid cells
    clear cells
    go_upto_region 4 with (fail)
    go_cut [68] (fun x wx => x = .bool (!okT vt || !ns.all okT || (vk == 2 && (decide (vn < -1000000000000000) || decide (1000000000000000 < vn)))) ∧ Below W0.heap.size W0 wx)
    case first =>
      obtain ⟨a0, a1, a2, a3, _⟩ := CE.out _ HBE.out
      have eg : ∀ args w, (callFunc 57 args).run Tryz.prog w = .ok (.enter 57 args) w := enters_of Tryz.func57 (by kernel_rfl) rfl
      go_wp2_with fail
      refine calls_then (odd_any (bs vt) _) ?_
      rintro e w2 ⟨rfl, hb2⟩
      rw [show (bs vt).data.toList = vt from rfl]
      have HB2 := Lib.hid (HBE.out.trans (hb2.mono HBE.out.size))
      clear a0 a1 a2 a3 hb2
      obtain ⟨a0, a1, a2, a3, _⟩ := CE.out _ HB2.out
      cases hq1 : okT vt with
      | false =>
        go_wp2_with fail
        all_goals (go_meet; exact ⟨by first | rfl | (simp; done) | (simp [hq1]; done), HB2.out⟩)
      | true =>
        have HC := Lib.hid (cons_any ns nA nc B w2 (HNR.out.below (HB2.out.mono HBB.out)) (Nat.le_trans HBB.out HB2.out.size) (by have := HSN.out; omega))
        rw [← HN.out] at HC
        go_wp2_with fail
        refine calls_then HC.out ?_
        rintro e w3 ⟨rfl, hb3⟩
        have HB3 := Lib.hid (HB2.out.trans (hb3.mono HB2.out.size))
        clear a0 a1 a2 a3 hb3 HC
        obtain ⟨a0, a1, a2, a3, _⟩ := CE.out _ HB3.out
        cases hq2 : ns.all okT with
        | false =>
          go_wp2_with fail
          all_goals (go_meet; exact ⟨by first | rfl | (simp; done) | (simp only [hq1, hq2]; rfl), HB3.out⟩)
        | true =>
          go_wp2_with fail
          all_goals (go_meet; exact ⟨by rw [hq1, hq2]; first | rfl | (simp; done) | (simp_all; done) | grind, HB3.out⟩)
    case rest =>
    obtain ⟨rfl, hbel⟩ := hcut
    clear HBE
    have HBE := Lib.hid hbel
    clear hbel
    obtain ⟨X2, hX2⟩ : ∃ X2, X2 = (!okT vt || !ns.all okT || (vk == 2 && (decide (vn < -1000000000000000) || decide (1000000000000000 < vn)))) := ⟨_, rfl⟩
    rw [← hX2]
    have HQ2 := Lib.hid (show rightV d (.mk vk vn vt ns ks) = (!X2 && distinct ns && rightsV (d - 1) ks) by
      have e1 : decide (-1000000000000000 ≤ vn) = !decide (vn < -1000000000000000) := by rw [Bool.eq_iff_iff]; simp
      have e2 : decide (vn ≤ 1000000000000000) = !decide (1000000000000000 < vn) := by rw [Bool.eq_iff_iff]; simp
      rw [HQ1.out, hX2, e1, e2]
      unfold bne
      cases okT vt <;> cases ns.all okT <;> cases (vk == 2) <;> cases decide (vn < -1000000000000000) <;> cases decide (1000000000000000 < vn) <;> simp)
    clear hX2 HQ1
    cases X2 with
    | true =>
      go_wp2_with fail
      go_ret
      exact ⟨by rw [HQ2.out]; simp, HB0.out.trans (HBE.out.mono HB0.out.size)⟩
    | false =>
      obtain ⟨_, _, _, a3, _⟩ := CE.out _ HBE.out
      go_wp2_with fail
      clear a3
      have hsn : (nn : Int) ≤ 4096 := by have := HSN.out; have := HN.out; omega
      have hnl : nn = ns.length := by have := HN.out; omega
      have HNL := Lib.hid hnl
      clear hnl
      go_loopw [72] (fun x wr => ∃ i : Nat, i ≤ nn ∧ x = .int .i64 (i : Int) ∧ distinct (ns.take i) = true ∧ Below W0.heap.size W0 wr) (fun x _ => nn - (intOf x).toNat)
      case atStart => exact ⟨0, by omega, rfl, by simp [distinct], HBE.out⟩
      case round =>
        obtain ⟨i, hi, rfl, hok, hb⟩ := hrel
        have HB3 := Lib.hid hb
        have HOK := Lib.hid hok
        clear hb hok
        obtain ⟨_, _, _, a3, a4, _⟩ := CE.out _ HB3.out
        by_cases hlt : i < nn
        · have hil : i < ns.length := by rw [← HNL.out]; exact hlt
          have hlt' : (i : Int) < (nn : Int) := by omega
          have HLT := Lib.hid hlt
          obtain ⟨ad, hA, hadb, hcell⟩ := rd_rows (f := sCell) (m := 1) (fun _ => rfl) (by decide) (HNR.out.below (HB3.out.mono HBB.out)) hil
          subst hA
          obtain ⟨X, hX⟩ : ∃ X, X = ns[i] := ⟨_, rfl⟩
          have hdt := distinct_take hil HOK.out
          rw [← hX] at hcell hdt
          have HDT := Lib.hid hdt
          have hc0 : wr.cell? (ad.add i) = some (.string (bs X)) := by
            have h := hcell 0 _ rfl
            rw [Nat.mul_one] at h
            exact h
          have HC := Lib.hid (has_any (ns.take i) X (some ad) nc B wr (fun j u hu => (HNR.out.below (HB3.out.mono HBB.out)) j u (by
            have h1 : rowsV sCell (ns.take i) = (rowsV sCell ns).take (i * 1) := rowsV_take (f := sCell) (m := 1) (fun _ => rfl) ns i
            rw [h1, List.getElem?_take] at hu
            split at hu
            · exact hu
            · cases hu)) (by rw [List.length_take]; have := HSN.out; omega))
          have hli : (ns.take i).length = i := by rw [List.length_take]; omega
          rw [hli] at HC
          obtain ⟨b, hb⟩ : ∃ b, b = decide (X ∈ ns.take i) := ⟨_, rfl⟩
          rw [← hb] at HC
          have HBX := Lib.hid hb
          have hnc : (i : Int) ≤ (nc : Int) := by have := HNC.out; omega
          clear hX hdt hcell hadb hil hli hb
          go_wp2_with fail
          refine calls_then HC.out ?_
          rintro e w2 ⟨rfl, rfl⟩
          cases b with
          | true =>
            have HD := Lib.hid (HDT.out.1 (by have := HBX.out; exact of_decide_eq_true this.symm))
            go_wp2_with fail
            go_ret
            exact ⟨by rw [HQ2.out, HD.out]; rfl, HB0.out.trans (HB3.out.mono HB0.out.size)⟩
          | false =>
            have HD := Lib.hid (HDT.out.2 (by have := HBX.out; exact of_decide_eq_false this.symm))
            go_wp2_with fail
            go_roundw
            case rel => exact ⟨i + 1, HLT.out, by go_num, HD.out, HB3.out⟩
            case measure => have := HLT.out; simp [intOf]; omega
        · obtain rfl : i = nn := by omega
          have HD := Lib.hid (show distinct ns = true by
            have := HOK.out
            rwa [HNL.out, List.take_length] at this)
          have hmf : ∀ (fn : Fn) (first cap : Array Value) (u : World), (Instr.makeFunc fn first cap).run Tryz.prog u = .ok (.func fn first cap) u := fun _ _ _ _ => rfl
          clear a3
          go_wp2_with fail
          have HFIN := Lib.hid (show Calls Tryz.prog 62 #[.slice kA kn kc, .func (.func 63) #[] #[.pointer (some ⟨w.heap.size + 1, 0, none⟩)]] wr fun e w' => e = .returned (.bool (!rightsV (d - 1) ks)) ∧ Below W0.heap.size W0 w' by
            have hkn : kn = ks.length := by have := HKN.out; omega
            by_cases h0 : d = 0
            · have hk0 := HKE.out h0
              subst hk0
              subst hkn
              refine calls_then (conj_nil kA kc _ wr) ?_
              rintro e w5 ⟨rfl, rfl⟩
              exact ⟨by simp [rightsV], HB3.out⟩
            · obtain ⟨d', rfl⟩ : ∃ d', d = d' + 1 := ⟨d - 1, by omega⟩
              have h5 := (CE.out _ HB3.out).2.2.2.2.2
              subst hkn
              refine calls_then (conj_any d' (by have := HD9.out; omega) (HIH.out d' rfl) ks kv kA kc B _ wr HSM.out HSK.out HKV.out (HKR.out.below (HB3.out.mono HBB.out)) (fun i h h' => (HKI.out i h h').under (HB3.out.mono HBB.out)) (Nat.le_trans HBB.out HB3.out.size) (by simpa using h5)) ?_
              rintro e w5 ⟨rfl, hb5⟩
              exact ⟨rfl, HB3.out.trans (hb5.mono HB3.out.size)⟩)
          refine calls_then HFIN.out ?_
          rintro e w4 ⟨rfl, hb4⟩
          have HB4 := Lib.hid hb4
          clear hb4
          go_wp2_with fail
          go_ret
          exact ⟨by rw [HQ2.out, HD.out]; simp, HB0.out.trans (HB4.out.mono HB0.out.size)⟩
theorem right_any : ∀ d : Nat, (d : Int) ≤ 1000 → RVal d := by
  intro d
  induction d with
  | zero => exact fun h => right_step 0 h (fun d' h' => by omega)
  | succ d ih => exact fun h => right_step (d + 1) h (fun d' h' => by
      have : d' = d := by omega
      subst this
      exact ih (by omega))
end Go.Proofs.YtoihgnkhalhocaaGreatDoor.Js
/-
  Walks: strings.Builder, as it lies in a block of some type.
-/
namespace Go.Proofs.YtoihgnkhalhocaaGreatDoor
set_option linter.unusedSimpArgs false
set_option linter.unusedVariables false
open Go.RowKit
structure BT (T : TypeId) : Prop where
  lies : liesAt Tryz.prog Tryz.prog.depth T (2 / Tryz.prog.cellsOf T) 0 72 1 = true
  ne : T ≠ 5
theorem bldT_size : (Tryz.prog.info? 72).map (·.size) = some 2 := by kernel_rfl
def SelfOk (p : Nat) (v : Value) : Prop := v = .pointer none ∨ v = .pointer (some ⟨p, 0, none⟩)
theorem Blk.shape {w : World} {g : Nat} {t : TypeId} {cs : Array Value} (h : Blk w g t cs) : w.shape? g = some (t, cs.size) := by
  unfold Blk at h
  simp [World.shape?, h]
theorem Wrote.refl (g : Nat) (w : World) : Wrote g w w := ⟨World.grownBy.refl _ _, rfl⟩
set_option maxHeartbeats 1000000 in
set_option maxRecDepth 100000 in
theorem bld_check {T : TypeId} (HT : BT T) (p : Nat) (self sl : Value) (w : World) (hb : Blk w p T #[self, sl]) (hs : SelfOk p self) :
    Calls Tryz.prog 94 #[.pointer (some ⟨p, 0, none⟩)] w fun e w' => e = .returned (.tuple #[]) ∧ Blk w' p T #[.pointer (some ⟨p, 0, none⟩), sl] ∧ Wrote p w w' := by
  obtain ⟨j, hj, hjs⟩ := Option.map_eq_some_iff.1 bldT_size
  have t41 := Tryz.underlying70
  have c0 : w.cell? ⟨p, 0, none⟩ = some self := hb.cell 0
  have hsh := hb.shape
  have HB := Lib.hid hb
  rcases hs with rfl | rfl
  · clear hb
    go_enter Tryz.func94, Tryz.ntmps94
    go_wp2_with fail
    rw [Lib.run_to_unsafe w ⟨p, 0, none⟩ t41 Tryz.underlying175 hj (by rw [hjs]; decide) hsh (by simp)]
    simp only [Result.andThen]
    rw [Oper.upon_value]
    go_wp2
    rw [run_callFunc_extern Tryz.func130 (by kernel_rfl) (by kernel_rfl) (by kernel_rfl) (e := Extern.AbiNoEscape.same) (by kernel_rfl)]
    rw [Lib.run_noEscape]
    simp only [Result.andThen]
    rw [Oper.upon_value]
    go_wp2_with fail
    rw [Lib.run_from_unsafe w ⟨p, 0, none⟩ Tryz.underlying175 t41 hj hsh HT.lies]
    simp only [Result.andThen]
    rw [Oper.upon_value]
    go_wp2_with (refine wpList_put_cell (x := .tmp 13) (i := 0) HB.out rfl rfl rfl rfl (by kernel_rfl) (by simp) rfl ?_; intro w1 hb1 hw1)
    go_end0
    exact ⟨rfl, hb1, hw1⟩
  · clear hb
    go_enter Tryz.func94, Tryz.ntmps94
    go_wp2
    rw [Lib.run_neq_ptr_same w _ t41 hj]
    go_wp2
    go_end0
    exact ⟨rfl, HB.out, Wrote.refl _ _⟩
def IsB (w : World) (B : Nat) (T : TypeId) (p : Nat) (l : List UInt8) : Prop :=
  B ≤ p ∧ ∃ self A c, SelfOk p self ∧ Blk w p T #[self, .slice A l.length c] ∧ OwnX w B 5 1 (.slice A l.length c) l.length (bytesV l)
theorem IsB.lt {w : World} {B : Nat} {T : TypeId} {p : Nat} {l : List UInt8} (h : IsB w B T p l) : B ≤ p ∧ p < w.heap.size := by
  obtain ⟨h1, _, _, _, _, h2, _⟩ := h
  exact ⟨h1, h2.lt⟩
theorem IsB.below {w w' : World} {B : Nat} {T : TypeId} {p : Nat} {l : List UInt8} (h : IsB w B T p l) (hb : Below w.heap.size w w') : IsB w' B T p l := by
  obtain ⟨h1, self, A, c, h2, h3, h4⟩ := h
  exact ⟨h1, self, A, c, h2, h3.below hb h3.lt, h4.below hb (Nat.le_refl _)⟩
theorem IsB.new (w : World) (T : TypeId) {B : Nat} (hB : B ≤ w.heap.size) : IsB (w.alloc (.cells #[.pointer none, .slice none 0 0] T)) B T w.heap.size [] :=
  ⟨hB, _, none, 0, .inl rfl, Blk.new _ _ _, OwnX.nil _ _ _ _⟩
theorem sl_u8 : SlT Tryz.prog 42 5 1 1 := SlT.mk1 (z := .int .u8 0) Tryz.underlying42 (by kernel_rfl) rfl (by decide)
structure BK (B p : Nat) (w w' : World) : Prop where
  below : Below B w w'
  size : w.heap.size ≤ w'.heap.size
  keep : ∀ (k : Nat) (cs : Array Value) (t : TypeId) (fz : Nat × Nat), k ≠ p → t ≠ 5 → w.heap[k]? = some (Obj.cells cs t fz) → w'.heap[k]? = some (Obj.cells cs t fz)
section
variable {B p : Nat} {w w1 w2 w' : World}
theorem BK.refl (B p : Nat) (w : World) : BK B p w w := ⟨Below.refl _ _, Nat.le_refl _, fun _ _ _ _ _ _ h => h⟩
theorem BK.trans (h : BK B p w w1) (h' : BK B p w1 w2) : BK B p w w2 := ⟨h.below.trans h'.below, Nat.le_trans h.size h'.size, fun k cs t fz h1 h2 h3 => h'.keep k cs t fz h1 h2 (h.keep k cs t fz h1 h2 h3)⟩
theorem BK.drew (h : BK B p w w1) : BK B p w w1.drew := ⟨h.below.drew, h.size, h.keep⟩
theorem BK.wrote (h : Wrote p w w1) (hB : B ≤ p) (hs : B ≤ w.heap.size) : BK B p w w1 := ⟨h.below (Below.refl _ _) hB hs, by rw [h.size]; exact Nat.le_refl _, fun k cs t fz h1 _ h3 => (h.grown.block k (Array.getElem?_eq_some_iff.1 h3).1 (by simpa using h1)).trans h3⟩
theorem BK.own {e s n : Nat} {v : Value} {xs : List Value} (ho : OwnX w B 5 s v n xs) (hg : w.grownBy w1 v.ownBlock) (hs : B ≤ w.heap.size) : BK B p w w1 :=
  ⟨(Below.refl B w).grown hg hs (fun k hk => (ho.lt k hk).1), hg.size, fun k cs t fz _ h2 h3 => (keepBut_of_grown ho hg).2 k cs t fz h2 h3⟩
theorem BK.fresh {g : Nat} (hg : w.grownBy w1 (some g)) (hs : w.heap.size ≤ g) (hB : B ≤ w.heap.size) : BK B p w w1 :=
  ⟨(Below.refl B w).grown hg hB (fun k hk => by injection hk with hk; omega), hg.size, fun k cs t fz _ _ h3 => by
    have hlt := (Array.getElem?_eq_some_iff.1 h3).1
    exact (hg.block k hlt (by intro e; injection e with e; omega)).trans h3⟩
theorem BK.all (h : Below w.heap.size w w1) (hB : B ≤ w.heap.size) : BK B p w w1 := ⟨h.mono hB, h.size, fun k cs t fz _ _ h3 => (h.block k (Array.getElem?_eq_some_iff.1 h3).1).trans h3⟩
theorem BK.blk {g : Nat} {t : TypeId} {cs : Array Value} (h : BK B p w w1) (hb : Blk w g t cs) (hg : g ≠ p) (ht : t ≠ 5) : Blk w1 g t cs := h.keep g cs t (0, 0) hg ht hb
end
theorem isB_put {T : TypeId} {B p n m c2 : Nat} {A2 : Option Addr} {s v : Value} {xs : List Value} {l' : List UInt8} {w w1 w2 w3 : World} (hB : B ≤ p) (hp : p < w.heap.size) (hs : SelfOk p s) (hw1 : Wrote p w w1) (ho1 : OwnX w1 B 5 1 v m xs) (hg2 : w1.grownBy w2 v.ownBlock) (HT : BT T)
    (hb2 : Blk w2 p T #[s, v]) (ho2 : OwnX w2 B 5 1 (.slice A2 n c2) n (bytesV l')) (hn : n = l'.length) (hb3 : Blk w3 p T (#[s, v].setIfInBounds 1 (.slice A2 n c2))) (hw3 : Wrote p w2 w3) : IsB w3 B T p l' ∧ BK B p w w3 := by
  subst hn
  refine ⟨⟨hB, s, A2, c2, hs, hb3, hw3.own ho2 (own_ne_blk ho2 hb2 HT.ne)⟩, ?_⟩
  have h1 : BK B p w w1 := .wrote hw1 hB (by omega)
  have h2 : BK B p w1 w2 := .own (e := 0) ho1 hg2 (by have := hw1.size; omega)
  have h3 : BK B p w2 w3 := .wrote hw3 hB (by have := h2.size; have := h1.size; omega)
  exact (h1.trans h2).trans h3
set_option maxHeartbeats 1000000 in
set_option maxRecDepth 100000 in
theorem bld_byte {T : TypeId} (HT : BT T) (B p : Nat) (l : List UInt8) (x : UInt8) (w : World) (hb : IsB w B T p l) (hl : l.length + 1 ≤ 140737488355328) :
    Calls Tryz.prog 55 #[.pointer (some ⟨p, 0, none⟩), byteV x] w fun e w' => e = .returned .nilIface ∧ IsB w' B T p (l ++ [x]) ∧ BK B p w w' := by
  obtain ⟨hB, self, A, c, hs, hblk, hown⟩ := hb
  have C := Lib.hid (bld_check HT p self _ w hblk hs)
  have HO := Lib.hid hown
  have HK := Lib.hid hblk
  have hl' : (l.length : Int) ≤ 140737488355327 := by omega
  clear hblk hown
  unfold byteV
  go_enter Tryz.func55, Tryz.ntmps55
  go_wp2_with fail
  refine calls_then C.out ?_
  rintro e w1 ⟨rfl, hb1, hw1⟩
  have hne : (Value.slice A l.length c).ownBlock ≠ some p := own_ne_blk HO.out HK.out HT.ne
  have ho1 := hw1.own HO.out hne
  have c1 : w1.cell? ⟨p, 1, none⟩ = some (.slice A l.length c) := hb1.cell 1
  have HW := Lib.hid hw1
  have HB1 := Lib.hid hb1
  have HO1 := Lib.hid ho1
  have hBw : B ≤ w1.heap.size := by have := HK.out.lt; have := hw1.size; omega
  clear hw1 hb1 ho1
  go_wp2_with (first
    | (refine wpList_append_one sl_u8 rfl rfl HO1.out rfl rfl rfl (by rfl) (by unfold maxLen; omega) (by omega) hBw ?_; intro A2 c2 w2 ho2 hg2 hn2; have hb2 := Lib.hid (HB1.out.grown hg2 (by intro h; exact hne h.symm)))
    | (refine wpList_put_cell (x := .tmp 16) (i := 1) hb2.out rfl rfl rfl rfl (by kernel_rfl) (by simp) rfl ?_; intro w3 hb3 hw3))
  go_ret
  exact ⟨rfl, isB_put hB HK.out.lt (.inr rfl) HW.out HO1.out hg2 HT hb2.out (by rw [bytesV_append]; exact ho2) (by simp) hb3 hw3⟩
set_option maxHeartbeats 1000000 in
set_option maxRecDepth 100000 in
theorem bld_str {T : TypeId} (HT : BT T) (B p : Nat) (l : List UInt8) (s : ByteArray) (w : World) (hb : IsB w B T p l) (hl : l.length + s.size ≤ 140737488355328) :
    Calls Tryz.prog 64 #[.pointer (some ⟨p, 0, none⟩), .string s] w fun e w' => e = .returned (.tuple #[.int .i64 s.size, .nilIface]) ∧ IsB w' B T p (l ++ s.data.toList) ∧ BK B p w w' := by
  obtain ⟨hB, self, A, c, hs, hblk, hown⟩ := hb
  have C := Lib.hid (bld_check HT p self _ w hblk hs)
  have HO := Lib.hid hown
  have HK := Lib.hid hblk
  have hl' : (l.length : Int) + (s.size : Int) ≤ 140737488355328 := by omega
  have zero_u8' : ∃ i, Tryz.prog.info? 5 = some i ∧ i.zero = some (.int .u8 0) := by
    obtain ⟨i, h1, h2, _⟩ := info_parts (show (Tryz.prog.info? 5).map (fun i => (i.zero, i.size, i.bytes)) = some (some (.int .u8 0), 1, 1) by kernel_rfl)
    exact ⟨i, h1, h2⟩
  have HZ := Lib.hid zero_u8'
  clear hblk hown zero_u8'
  go_enter Tryz.func64, Tryz.ntmps64
  go_wp2_with fail
  refine calls_then C.out ?_
  rintro e w1 ⟨rfl, hb1, hw1⟩
  have hne : (Value.slice A l.length c).ownBlock ≠ some p := own_ne_blk HO.out HK.out HT.ne
  have ho1 := hw1.own HO.out hne
  have c1 : w1.cell? ⟨p, 1, none⟩ = some (.slice A l.length c) := hb1.cell 1
  have HW := Lib.hid hw1
  have HB1 := Lib.hid hb1
  have HO1 := Lib.hid ho1
  have hBw : B ≤ w1.heap.size := by have := HK.out.lt; have := hw1.size; omega
  clear hw1 hb1 ho1
  go_wp2_with (first
    | (refine wpList_append_str sl_u8 HZ.out Tryz.underlying9 rfl rfl HO1.out rfl rfl (by omega) hBw ?_; intro A2 c2 w2 ho2 hg2 hn2; have hb2 := Lib.hid (HB1.out.grown hg2 (by intro h; exact hne h.symm)))
    | (refine wpList_put_cell (x := .tmp 16) (i := 1) hb2.out rfl rfl rfl rfl (by kernel_rfl) (by simp) rfl ?_; intro w3 hb3 hw3))
  go_ret2
  exact ⟨rfl, isB_put hB HK.out.lt (.inr rfl) HW.out HO1.out hg2 HT hb2.out (by rw [bytesV_append]; exact ho2) (by rw [List.length_append]; rfl) hb3 hw3⟩
set_option maxHeartbeats 1000000 in
set_option maxRecDepth 100000 in
theorem bld_write {T : TypeId} (HT : BT T) (B p B2 m cx : Nat) (Ad : Option Addr) (l s : List UInt8) (w : World) (hb : IsB w B T p l) (hr : Rd w B2 Ad (bytesV s)) (hpr : ∀ ad, Ad = some ad → ad.block ≠ p) (hm : s.length = m) (hl : l.length + m ≤ 140737488355328) :
    Calls Tryz.prog 99 #[.pointer (some ⟨p, 0, none⟩), .slice Ad m cx] w fun e w' => e = .returned (.tuple #[.int .i64 m, .nilIface]) ∧ IsB w' B T p (l ++ s) ∧ BK B p w w' := by
  obtain ⟨hB, self, A, c, hs, hblk, hown⟩ := hb
  have C := Lib.hid (bld_check HT p self _ w hblk hs)
  have HO := Lib.hid hown
  have HK := Lib.hid hblk
  have HR := Lib.hid hr
  have hl' : (l.length : Int) + (m : Int) ≤ 140737488355328 := by omega
  clear hblk hown hr
  go_enter Tryz.func99, Tryz.ntmps99
  go_wp2_with fail
  refine calls_then C.out ?_
  rintro e w1 ⟨rfl, hb1, hw1⟩
  have hne : (Value.slice A l.length c).ownBlock ≠ some p := own_ne_blk HO.out HK.out HT.ne
  have ho1 := hw1.own HO.out hne
  have c1 : w1.cell? ⟨p, 1, none⟩ = some (.slice A l.length c) := hb1.cell 1
  have HW := Lib.hid hw1
  have HB1 := Lib.hid hb1
  have HO1 := Lib.hid ho1
  have hBw : B ≤ w1.heap.size := by have := HK.out.lt; have := hw1.size; omega
  have HR1 := Lib.hid (show Rd w1 w1.heap.size Ad (bytesV s) from fun i u hu => by
    obtain ⟨ad, h1, _, h3⟩ := HR.out i u hu
    have hlt := World.block_lt_of_cell? w _ h3
    rw [block_of_add] at hlt
    refine ⟨ad, h1, by have := hw1.size; omega, ?_⟩
    rw [← h3]
    exact World.cell?_of_block (w := w) (w' := w1) (by rw [block_of_add]; exact hw1.grown.block _ hlt (by simpa using hpr ad h1)))
  have H1 := Lib.hid (show ∀ u ∈ bytesV s, u.oneCell' = true from fun u hu => by
    simp [bytesV, byteV] at hu
    obtain ⟨x, _, rfl⟩ := hu
    rfl)
  clear hw1 hb1 ho1
  go_wp2_with (first
    | (refine wpList_append_rd (cx := cx) (m := m) sl_u8 rfl rfl HO1.out rfl rfl (by rw [bytesV_length]; omega) HR1.out H1.out (by unfold maxLen; omega) (by omega) hBw ?_; intro A2 c2 w2 ho2 hg2 hn2; have hb2 := Lib.hid (HB1.out.grown hg2 (by intro h; exact hne h.symm)))
    | (refine wpList_put_cell (x := .tmp 16) (i := 1) hb2.out rfl rfl rfl rfl (by kernel_rfl) (by simp) rfl ?_; intro w3 hb3 hw3))
  go_ret2
  exact ⟨rfl, isB_put hB HK.out.lt (.inr rfl) HW.out HO1.out hg2 HT hb2.out (by rw [bytesV_append]; exact ho2) (by simp; omega) hb3 hw3⟩
theorem bld_len {T : TypeId} (B p : Nat) (l : List UInt8) (w : World) (hb : IsB w B T p l) :
    Calls Tryz.prog 38 #[.pointer (some ⟨p, 0, none⟩)] w fun e w' => e = .returned (.int .i64 l.length) ∧ w' = w := by
  obtain ⟨hB, self, A, c, hs, hblk, hown⟩ := hb
  have c1 : w.cell? ⟨p, 1, none⟩ = some (.slice A l.length c) := hblk.cell 1
  clear hblk hown
  go_enter Tryz.func38, Tryz.ntmps38
  go_wp2_with fail
  go_ret
  exact ⟨rfl, rfl⟩
set_option maxHeartbeats 1000000 in
set_option maxRecDepth 100000 in
theorem bld_string {T : TypeId} (B p : Nat) (l : List UInt8) (w : World) (hb : IsB w B T p l) (h0 : l ≠ []) :
    Calls Tryz.prog 39 #[.pointer (some ⟨p, 0, none⟩)] w fun e w' => e = .returned (.string ⟨l.toArray⟩) ∧ Below B w w' := by
  obtain ⟨hB, self, A, c, hs, hblk, hown⟩ := hb
  have hl0 : l.length ≠ 0 := by simpa using h0
  obtain ⟨g, cur, fz, rfl, hbg, hg, hnc, hcm, hcs, htake⟩ : ∃ g cur fz, A = some ⟨g, 0, none⟩ ∧ B ≤ g ∧ w.heap[g]? = some (.cells cur 5 fz) ∧ l.length ≤ c ∧ c ≤ maxLen ∧ cur.size = c * 1 ∧ cur.toList.take (l.length * 1) = bytesV l := by
    rcases hown.2 with ⟨_, hz⟩ | ⟨g, cap, cur, fz, hv, h1, h2, h3, h4, h5, h6, _⟩
    · exact absurd hz hl0
    · injection hv with e1 e2 e3
      subst e3
      exact ⟨g, cur, fz, e1, h1, h2, h3, h4, h5, h6⟩
  have c1 : w.drew.cell? ⟨p, 1, none⟩ = some (.slice (some ⟨g, 0, none⟩) l.length c) := hblk.cell 1
  have hSD : (Builtin.unsafeSliceData_ #[42] 108 #[.slice (some ⟨g, 0, none⟩) l.length c]).run Tryz.prog w.drew = .ok (.pointer (some ⟨g, 0, none⟩)) w.drew :=
    Lib.run_unsafeSliceData_row _ _ _ _ _ _ (by omega)
  have hUS : (Builtin.unsafeString_ #[108, 3] 9 #[.pointer (some ⟨g, 0, none⟩), .int .i64 l.length]).run Tryz.prog w.drew = .ok (.string ⟨l.toArray⟩) (w.drew.freeze ⟨g, 0, none⟩ l.length) := by
    refine Lib.run_unsafeString_row w.drew 108 3 9 5 Tryz.underlying108 (by kernel_rfl) g cur.size (by have hg' : w.drew.heap[g]? = some (.cells cur 5 fz) := hg; simp [World.shape?, hg']) l h0 (by omega) (by unfold maxLen at hcm; omega) ?_
    intro j x hx
    exact hown.cells (g := g) rfl j (.int .u8 x.toNat) (by simp [bytesV, byteV, hx])
  have hbel : Below B w (w.drew.freeze ⟨g, 0, none⟩ l.length) := Lib.below_freeze (Below.drew (Below.refl B w)) (p := ⟨g, 0, none⟩) hbg _
  have mixed : Tryz.prog.follows .mixedOrders = true := by kernel_rfl
  clear hg hown hblk
  go_enter Tryz.func39, Tryz.ntmps39
  go_wp2
  go_region_o
  all_goals (go_wp2; go_ret; exact ⟨rfl, hbel⟩)
end Go.Proofs.YtoihgnkhalhocaaGreatDoor
