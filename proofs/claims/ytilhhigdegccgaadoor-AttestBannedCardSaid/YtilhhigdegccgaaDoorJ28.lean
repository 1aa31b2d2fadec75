/-
  Joined texts: Open Opo.
-/
import Derived.Test.YtilhhigdegccgaaDoorRows
import Derived.ProofKit
import Derived.OpenShut
import Derived.SizedLaws
import Derived.Lib.SmallJoins
import Derived.SliceStrings
import Derived.Deep.Slices
import Derived.Test.YtilhhigdegccgaaDoorJ1
import Derived.Test.YtilhhigdegccgaaDoorJ27
import Derived.Test.YtilhhigdegccgaaDoorJ8
/-
  Opening arguments; what a law's row asks of a walk that leaves old memory as it was.
-/
namespace Go.Proofs.YtilhhigdegccgaaDoor
set_option linter.unusedSimpArgs false
set_option linter.unusedVariables false
open Go.ChangeShapes Go.WideShapes Go.ChangeAt Go.RowKit Go.Joins
open Go.WideMaps Go.WideElems
open Go.ChangeMaps (open_string shut_string)
theorem own : ownKnob Tryd.prog.godebug = none := by kernel_rfl
theorem laidOut : laidOutB Tryd.prog = true := by kernel_rfl
section
variable {H : Type} {enc : TypeId × Value → H} {P : Program}
theorem post_of_below {f : Func} {s : ChangeSpec} {apart fresh handsOn again : Bool} {W W' : World} {args : Array Value} {v : Value} {ds gs : List (DataW H)} {before pa pv : List MemPlace}
    (hW : DataW.Whole enc P f.params.toList s.vars apart W args.toList ds gs before)
    (hres : ∀ (b : Nat) (sp : Nat → Bool) (hd : Bool), DataW.TrodAll enc P W' b sp hd f.resultTypes.toList (v.resultList f.resultTypes.size) (s.fn H (ds ++ gs)).results [])
    (hargs : ∀ sp : Nat → Bool, (∀ p ∈ before, sp p.block = true) → DataW.TrodAll enc P W' 0 sp true f.params.toList args.toList (s.fn H (ds ++ gs)).args pa)
    (hvars : ∀ sp : Nat → Bool, (∀ p ∈ before, sp p.block = true) → DataW.TrodVars enc P W' sp s.vars (s.fn H (ds ++ gs)).vars pv)
    (hps : before = pa ++ pv) (hb : Below W.heap.size W W')
    (hok : ∀ (j : Nat) (t : TypeId) (r : Value), f.resultTypes[j]? = some t → (v.resultList f.resultTypes.size)[j]? = some r → Value.okWide P W' .any 0 t r) :
    s.post enc P f apart fresh handsOn again W args v W' := by
  have hlt : ∀ p ∈ before, p.block < W.heap.size := fun p hp => hW.lt p hp
  have hold : ∀ p ∈ before, (fun b => decide (b < W.heap.size)) p.block = true := fun p hp => by simpa using hlt p hp
  refine ⟨ds, gs, before, [], pa, pv, hW, hres _ _ _, hargs _ hold, hvars _ hold, World.keptBut_mono (fun p hp => ⟨hp, ?_⟩) (hb.frame (· ∈ before)), fun _ => ?_⟩
  · rw [hps, List.mem_append] at hp
    exact Or.inr hp
  · obtain ⟨_, _, _, _, _, hz, hn⟩ := hW
    refine ⟨hok, _, _, ([] ++ pa) ++ pv, ⟨[] ++ pa, pv, trodAll_append (hargs _ (fun _ _ => rfl)) (hres _ _ _), hvars _ (fun _ _ => rfl), rfl, ?_, ?_⟩, ?_⟩
    · intro b off hp
      have hin : MemPlace.cell b off ∈ before := by rw [hps]; simpa using hp
      rw [hb.frozen (hlt _ hin)]
      exact hz b off hin
    · intro ha
      have := hn ha
      rw [hps] at this
      simpa using this
    · intro p hp _
      rw [hps]
      simpa using hp
theorem stays {t : TypeId} (hl : laidOutB P = true) (hr : P.readableRec t = true) (hrow : t < P.types.size) {W W' : World} {v : Value} {d : DataW H} {ps : List MemPlace}
    (h : DataW.Trod enc P W 0 (fun _ => true) true t v d ps) (hb : Below W.heap.size W W') (hlt : ∀ x ∈ ps, x.block < W.heap.size) {sp : Nat → Bool} (hsp : ∀ x ∈ ps, sp x.block = true) :
    DataW.Trod enc P W' 0 sp true t v d ps :=
  WideElems.Trod_stays hl hr hrow h (fun x hx => hb.same (hlt x hx)) hsp
section
variable {w : World} {base : Nat} {spare : Nat → Bool} {held : Bool}
open Go.Deep
theorem open_agg6 {r : Reach} {b0 : Nat} {t : TypeId} {f0 f1 f2 f3 f4 f5 : Field} {v : Value} {d : DataW H} {p : List MemPlace} (hs : P.underlying t = some (.struct #[f0, f1, f2, f3, f4, f5])) (hone : oneCellFields P #[f0, f1, f2, f3, f4, f5] = true) (hC : P.cellsOf t = 6)
    (hv : Value.okWide P w r b0 t v) (h : DataW.Trod enc P w base spare held t v d p) :
    ∃ (v0 v1 v2 v3 v4 v5 : Value) (y0 y1 y2 y3 y4 y5 : DataW H × List MemPlace) (n : Nat), v = .agg #[v0, v1, v2, v3, v4, v5] ∧ d = .agg [y0.1, y1.1, y2.1, y3.1, y4.1, y5.1] ∧ p = y0.2 ++ (y1.2 ++ (y2.2 ++ (y3.2 ++ (y4.2 ++ y5.2)))) ∧
      DataW.trod enc P w base spare held n f0.type [v0] = some y0 ∧ DataW.trod enc P w base spare held n f1.type [v1] = some y1 ∧ DataW.trod enc P w base spare held n f2.type [v2] = some y2 ∧ DataW.trod enc P w base spare held n f3.type [v3] = some y3 ∧ DataW.trod enc P w base spare held n f4.type [v4] = some y4 ∧ DataW.trod enc P w base spare held n f5.type [v5] = some y5 := by
  obtain ⟨cs, rfl, hsz⟩ := okWide_struct hs hv
  obtain ⟨l⟩ := cs
  match l, hsz.trans hC with
  | [c0, c1, c2, c3, c4, c5], _ =>
    obtain ⟨fuel, hf⟩ := h
    obtain ⟨xs, n, _, hx, _, hlen, hg⟩ := DataW.trod_struct hs hf
    obtain ⟨o0, k0⟩ := hone_of hone 0 f0 rfl
    obtain ⟨o1, k1⟩ := hone_of hone 1 f1 rfl
    obtain ⟨o2, k2⟩ := hone_of hone 2 f2 rfl
    obtain ⟨o3, k3⟩ := hone_of hone 3 f3 rfl
    obtain ⟨o4, k4⟩ := hone_of hone 4 f4 rfl
    obtain ⟨o5, k5⟩ := hone_of hone 5 f5 rfl
    match xs, hlen with
    | [y0, y1, y2, y3, y4, y5], _ =>
      simp only [Prod.mk.injEq] at hx
      exact ⟨c0, c1, c2, c3, c4, c5, y0, y1, y2, y3, y4, y5, n, rfl, by simpa using hx.1, by simpa using hx.2, by simpa [Value.cells, o0, k0] using hg 0 f0 rfl, by simpa [Value.cells, o1, k1] using hg 1 f1 rfl, by simpa [Value.cells, o2, k2] using hg 2 f2 rfl, by simpa [Value.cells, o3, k3] using hg 3 f3 rfl, by simpa [Value.cells, o4, k4] using hg 4 f4 rfl, by simpa [Value.cells, o5, k5] using hg 5 f5 rfl⟩
end
theorem open_strs_rd {t e : TypeId} {fuel : Nat} {cs : List Value} {x : DataW H × List MemPlace} {W : World} {base : Nat} {sp : Nat → Bool} {held : Bool} (ht : P.underlying t = some (.slice e)) (he : P.underlying e = some .string) (hc : P.cellsOf e = 1)
    (h : DataW.trod enc P W base sp held fuel t cs = some x) : ∃ (A : Option Addr) (c : Nat) (l : List ByteArray), cs = [.slice A l.length c] ∧ l.length ≤ c ∧ l.length ≤ maxLen ∧ Rd W W.heap.size A (l.map Value.string) ∧ (∀ s ∈ l, s.size ≤ maxLen) := by
  rcases open_strings ht he hc h with ⟨rfl, _⟩ | ⟨a, len, cap, ss, rfl, _, hl, hm, hz, _, hcell, hs⟩
  · exact ⟨none, 0, [], rfl, Nat.le_refl _, Nat.zero_le _, Rd.nil _ _ _, fun s hs => by simp at hs⟩
  · have hlen : len ≤ ss.length := by rw [hz]; split <;> omega
    refine ⟨some a, cap, ss.take len, by rw [List.length_take, Nat.min_eq_left hlen], by rw [List.length_take]; omega, by rw [List.length_take]; omega, fun i u hu => ?_, fun s hs' => hs s (List.mem_of_mem_take hs')⟩
    rw [List.getElem?_map] at hu
    obtain ⟨s, hs1, rfl⟩ := Option.map_eq_some_iff.1 hu
    have hi : i < (ss.take len).length := (List.getElem?_eq_some_iff.1 hs1).1
    rw [List.length_take] at hi
    have hcl := hcell i (by omega)
    rw [List.getElem?_take, if_pos (by omega)] at hs1
    have e1 : ss.getD i ByteArray.empty = s := by simp [List.getD, hs1]
    rw [e1] at hcl
    refine ⟨a, rfl, ?_, hcl⟩
    have := World.block_lt_of_cell? W _ hcl
    rwa [block_of_add] at this
end
end Go.Proofs.YtilhhigdegccgaaDoor
/-
  Opening an argument that is a list of operations; one that is an ask.
-/
namespace Go.Proofs.YtilhhigdegccgaaDoor
set_option linter.unusedSimpArgs false
set_option linter.unusedVariables false
open Go.ChangeShapes Go.WideShapes Go.ChangeAt Go.RowKit Go.Joins
theorem inR_wf {n : Int} (h : (Lit.int .i64 n).wf = true) : InR n := by
  rw [Lit.wf, Bool.and_eq_true, decide_eq_true_iff, decide_eq_true_iff, show IntKind.i64.min = -9223372036854775808 by decide, show IntKind.i64.max = 9223372036854775807 by decide] at h
  exact h
instance : Inhabited OpD := ⟨⟨0, 0, ⟨#[]⟩, ⟨0, ⟨#[]⟩, ⟨#[]⟩, 0, none, 0, 0⟩, ⟨⟨#[]⟩, ⟨#[]⟩, 0, false⟩, ⟨⟨#[]⟩, ⟨#[]⟩, 0, 0, ⟨#[]⟩⟩, ⟨⟨#[]⟩, ⟨#[]⟩, 0, 0⟩, ⟨⟨#[]⟩, 0, none, 0, 0⟩⟩⟩
instance : Inhabited JwkD := ⟨⟨⟨#[]⟩, ⟨#[]⟩⟩⟩
section
variable {H : Type} {enc : TypeId × Value → H} {w : World} {base : Nat} {spare : Nat → Bool} {held : Bool}
theorem open_rows {α : Type} [Inhabited α] {f : α → Array Value} {m : Nat} (hf : ∀ x, (f x).size = m) (hm0 : 0 < m) {t e : TypeId} (ht : Tryd.prog.underlying t = some (.slice e)) (hc : Tryd.prog.cellsOf e = m) {P0 : α → Prop}
    (hel : ∀ {fuel : Nat} {cs : List Value} {x : DataW H × List MemPlace}, DataW.trod enc Tryd.prog w base spare held fuel e cs = some x → cs.length = m → ∃ k, cs = (f k).toList ∧ P0 k)
    {fuel : Nat} {cs : List Value} {x : DataW H × List MemPlace} (h : DataW.trod enc Tryd.prog w base spare held fuel t cs = some x) :
    ∃ (A : Option Addr) (c : Nat) (l : List α), cs = [.slice A l.length c] ∧ Rd w w.heap.size A (rowsV f l) ∧ l.length ≤ maxLen ∧ ∀ k ∈ l, P0 k := by
  rcases Deep.open_slice ht h with ⟨rfl, _⟩ | ⟨a, len, cap, mm, n, D, Pl, rfl, hb, hl, hm, hmm, rfl, hx⟩
  · exact ⟨none, 0, [], rfl, Rd.nil _ _ _, Nat.zero_le _, fun k hk => by cases hk⟩
  · have hlm : len ≤ mm := by rw [hmm]; split <;> omega
    rw [hc] at hx
    obtain ⟨g, hg⟩ := Deep.choose_lt (α := α) (n := mm) (p := fun i q => w.cells? base (a.add (i * m)) m = some (f q).toList ∧ P0 q) (fun i hi => by
      obtain ⟨cs', h1, h2⟩ := hx i hi
      obtain ⟨_, hlen, _⟩ := World.cells?_some h1
      obtain ⟨k, rfl, hk⟩ := hel h2 hlen
      exact ⟨k, h1, hk⟩)
    refine ⟨some a, cap, (List.range len).map g, by simp, fun i u hu => ?_, by simp; omega, fun k hk => ?_⟩
    · have hl5 : (rowsV f ((List.range len).map g)).length = len * m := by rw [rowsV_len hf]; simp
      have hi : i < len * m := by
        have := (List.getElem?_eq_some_iff.1 hu).1
        rwa [hl5] at this
      have hq : i / m < len := (Nat.div_lt_iff_lt_mul hm0).2 hi
      have hr : i % m < m := Nat.mod_lt _ hm0
      have he : i / m * m + i % m = i := by rw [Nat.mul_comm]; exact Nat.div_add_mod i m
      obtain ⟨_, hlen, hcell⟩ := World.cells?_some (hg (i / m) (by omega)).1
      have hc := hcell (i % m) hr
      obtain ⟨v, hv⟩ : ∃ v, (f (g (i / m)))[i % m]? = some v := ⟨_, Array.getElem?_eq_getElem (by rw [hf]; exact hr)⟩
      have hkv := rowsV_at (f := f) hf ((List.range len).map g) (i / m) (by simpa using hq) (i % m) v (by rw [List.getElem_map, List.getElem_range]; exact hv)
      rw [he] at hkv
      rw [hkv] at hu
      injection hu with hu
      subst hu
      rw [Deep.add_add, he] at hc
      have hc' : w.cell? (a.add i) = some v := by
        rw [hc, Array.getElem?_toList]
        exact hv
      refine ⟨a, rfl, ?_, hc'⟩
      have := World.block_lt_of_cell? w _ hc'
      rwa [block_of_add] at this
    · obtain ⟨i, hi, rfl⟩ := List.mem_map.1 hk
      exact (hg i (by have := List.mem_range.1 hi; omega)).2
set_option maxRecDepth 100000 in
theorem open_jwk2 {fuel : Nat} {cs : List Value} {x : DataW H × List MemPlace} (h : DataW.trod enc Tryd.prog w base spare held fuel 77 cs = some x) (hl : cs.length = 2) :
    ∃ k : JwkD, cs = (jwkCells k).toList ∧ True := by
  obtain ⟨xs, n, _, hx, _, hlen, hf⟩ := DataW.trod_struct Tryd.underlying77 h
  match xs, hlen, cs, hl with
  | [y0, y1], _, [v0, v1], _ =>
    have c0 : Tryd.prog.cellsOf 9 = 1 := by kernel_rfl
    have g0 := hf 0 _ rfl
    have g1 := hf 1 _ rfl
    simp [c0] at g0 g1
    obtain ⟨s0, e0, -, w0⟩ := DataW.trod_string Tryd.underlying9 g0
    obtain ⟨s1, e1, -, w1⟩ := DataW.trod_string Tryd.underlying9 g1
    injection e0 with e0
    injection e1 with e1
    subst e0 e1
    exact ⟨⟨s0, s1⟩, rfl, trivial⟩
set_option maxRecDepth 100000 in
theorem open_ent {fuel : Nat} {cs : List Value} {x : DataW H × List MemPlace} (h : DataW.trod enc Tryd.prog w base spare held fuel 36 cs = some x) (hl : cs.length = 5) :
    ∃ k : EntD, cs = (entCells k).toList ∧ (∃ l : List ByteArray, l.length = k.sn ∧ Rd w w.heap.size k.sA (l.map Value.string)) ∧ k.sn ≤ maxLen := by
  obtain ⟨xs, n, _, hx, _, hlen, hf⟩ := DataW.trod_struct Tryd.underlying36 h
  match xs, hlen, cs, hl with
  | [y0, y1, y2, y3, y4], _, [v0, v1, v2, v3, v4], _ =>
    have c0 : Tryd.prog.cellsOf 9 = 1 := by kernel_rfl
    have c1 : Tryd.prog.cellsOf 3 = 1 := by kernel_rfl
    have c2 : Tryd.prog.cellsOf 28 = 1 := by kernel_rfl
    have g0 := hf 0 _ rfl
    have g1 := hf 1 _ rfl
    have g2 := hf 2 _ rfl
    have g3 := hf 3 _ rfl
    have g4 := hf 4 _ rfl
    simp [c0, c1, c2] at g0 g1 g2 g3 g4
    obtain ⟨n0, e0, -, w0⟩ := DataW.trod_int Tryd.underlying3 g0
    obtain ⟨s1, e1, -, w1⟩ := DataW.trod_string Tryd.underlying9 g1
    obtain ⟨s2, e2, -, w2⟩ := DataW.trod_string Tryd.underlying9 g2
    obtain ⟨n3, e3, -, w3⟩ := DataW.trod_int Tryd.underlying3 g3
    obtain ⟨A, c, l, e4, -, hm, hr, -⟩ := open_strs_rd Tryd.underlying28 Tryd.underlying9 c0 g4
    injection e0 with e0
    injection e1 with e1
    injection e2 with e2
    injection e3 with e3
    injection e4 with e4
    subst e0 e1 e2 e3 e4
    exact ⟨⟨n0, s1, s2, n3, A, l.length, c⟩, rfl, ⟨l, rfl, hr⟩, hm⟩
set_option maxRecDepth 100000 in
theorem open_join {fuel : Nat} {cs : List Value} {x : DataW H × List MemPlace} (h : DataW.trod enc Tryd.prog w base spare held fuel 38 cs = some x) (hl : cs.length = 4) :
    ∃ k : JoinD, cs = (joinCells k).toList := by
  obtain ⟨xs, n, _, hx, _, hlen, hf⟩ := DataW.trod_struct Tryd.underlying38 h
  match xs, hlen, cs, hl with
  | [y0, y1, y2, y3], _, [v0, v1, v2, v3], _ =>
    have c0 : Tryd.prog.cellsOf 9 = 1 := by kernel_rfl
    have c1 : Tryd.prog.cellsOf 3 = 1 := by kernel_rfl
    have c2 : Tryd.prog.cellsOf 4 = 1 := by kernel_rfl
    have g0 := hf 0 _ rfl
    have g1 := hf 1 _ rfl
    have g2 := hf 2 _ rfl
    have g3 := hf 3 _ rfl
    simp [c0, c1, c2] at g0 g1 g2 g3
    obtain ⟨s0, e0, -, w0⟩ := DataW.trod_string Tryd.underlying9 g0
    obtain ⟨s1, e1, -, w1⟩ := DataW.trod_string Tryd.underlying9 g1
    obtain ⟨n2, e2, -, w2⟩ := DataW.trod_int Tryd.underlying3 g2
    obtain ⟨b3, e3, -⟩ := DataW.trod_bool Tryd.underlying4 g3
    injection e0 with e0
    injection e1 with e1
    injection e2 with e2
    injection e3 with e3
    subst e0 e1 e2 e3
    exact ⟨⟨s0, s1, n2, b3⟩, rfl⟩
set_option maxRecDepth 100000 in
theorem open_node {fuel : Nat} {cs : List Value} {x : DataW H × List MemPlace} (h : DataW.trod enc Tryd.prog w base spare held fuel 40 cs = some x) (hl : cs.length = 5) :
    ∃ k : NodeD, cs = (nodeCells k).toList := by
  obtain ⟨xs, n, _, hx, _, hlen, hf⟩ := DataW.trod_struct Tryd.underlying40 h
  match xs, hlen, cs, hl with
  | [y0, y1, y2, y3, y4], _, [v0, v1, v2, v3, v4], _ =>
    have c0 : Tryd.prog.cellsOf 9 = 1 := by kernel_rfl
    have c1 : Tryd.prog.cellsOf 3 = 1 := by kernel_rfl
    have g0 := hf 0 _ rfl
    have g1 := hf 1 _ rfl
    have g2 := hf 2 _ rfl
    have g3 := hf 3 _ rfl
    have g4 := hf 4 _ rfl
    simp [c0, c1] at g0 g1 g2 g3 g4
    obtain ⟨s0, e0, -, w0⟩ := DataW.trod_string Tryd.underlying9 g0
    obtain ⟨s1, e1, -, w1⟩ := DataW.trod_string Tryd.underlying9 g1
    obtain ⟨n2, e2, -, w2⟩ := DataW.trod_int Tryd.underlying3 g2
    obtain ⟨n3, e3, -, w3⟩ := DataW.trod_int Tryd.underlying3 g3
    obtain ⟨s4, e4, -, w4⟩ := DataW.trod_string Tryd.underlying9 g4
    injection e0 with e0
    injection e1 with e1
    injection e2 with e2
    injection e3 with e3
    injection e4 with e4
    subst e0 e1 e2 e3 e4
    exact ⟨⟨s0, s1, n2, n3, s4⟩, rfl⟩
set_option maxRecDepth 100000 in
theorem open_skey {fuel : Nat} {cs : List Value} {x : DataW H × List MemPlace} (h : DataW.trod enc Tryd.prog w base spare held fuel 42 cs = some x) (hl : cs.length = 4) :
    ∃ k : SkeyD, cs = (skeyCells k).toList := by
  obtain ⟨xs, n, _, hx, _, hlen, hf⟩ := DataW.trod_struct Tryd.underlying42 h
  match xs, hlen, cs, hl with
  | [y0, y1, y2, y3], _, [v0, v1, v2, v3], _ =>
    have c0 : Tryd.prog.cellsOf 9 = 1 := by kernel_rfl
    have c1 : Tryd.prog.cellsOf 3 = 1 := by kernel_rfl
    have g0 := hf 0 _ rfl
    have g1 := hf 1 _ rfl
    have g2 := hf 2 _ rfl
    have g3 := hf 3 _ rfl
    simp [c0, c1] at g0 g1 g2 g3
    obtain ⟨s0, e0, -, w0⟩ := DataW.trod_string Tryd.underlying9 g0
    obtain ⟨s1, e1, -, w1⟩ := DataW.trod_string Tryd.underlying9 g1
    obtain ⟨n2, e2, -, w2⟩ := DataW.trod_int Tryd.underlying3 g2
    obtain ⟨n3, e3, -, w3⟩ := DataW.trod_int Tryd.underlying3 g3
    injection e0 with e0
    injection e1 with e1
    injection e2 with e2
    injection e3 with e3
    subst e0 e1 e2 e3
    exact ⟨⟨s0, s1, n2, n3⟩, rfl⟩
set_option maxRecDepth 100000 in
theorem open_bun2 {fuel : Nat} {cs : List Value} {x : DataW H × List MemPlace} (h : DataW.trod enc Tryd.prog w base spare held fuel 45 cs = some x) (hl : cs.length = 3) :
    ∃ k : BunD, cs = (bunCells k).toList ∧ (∃ l : List JwkD, l.length = k.kn ∧ Rd w w.heap.size k.kA (rowsV jwkCells l)) ∧ k.kn ≤ maxLen := by
  obtain ⟨xs, n, _, hx, _, hlen, hf⟩ := DataW.trod_struct Tryd.underlying45 h
  match xs, hlen, cs, hl with
  | [y0, y1, y2], _, [v0, v1, v2], _ =>
    have c0 : Tryd.prog.cellsOf 9 = 1 := by kernel_rfl
    have c1 : Tryd.prog.cellsOf 3 = 1 := by kernel_rfl
    have c2 : Tryd.prog.cellsOf 43 = 1 := by kernel_rfl
    have g0 := hf 0 _ rfl
    have g1 := hf 1 _ rfl
    have g2 := hf 2 _ rfl
    simp [c0, c1, c2] at g0 g1 g2
    obtain ⟨s0, e0, -, w0⟩ := DataW.trod_string Tryd.underlying9 g0
    obtain ⟨n1, e1, -, w1⟩ := DataW.trod_int Tryd.underlying3 g1
    obtain ⟨A, c, l, e2, hr, hm, -⟩ := open_rows (f := jwkCells) (m := 2) (P0 := fun _ => True) (fun _ => rfl) (by decide) Tryd.underlying43 (by kernel_rfl) (fun h hl => open_jwk2 h hl) g2
    injection e0 with e0
    injection e1 with e1
    injection e2 with e2
    subst e0 e1 e2
    exact ⟨⟨s0, n1, A, l.length, c⟩, rfl, ⟨l, rfl, hr⟩, hm⟩
set_option maxRecDepth 100000 in
set_option maxHeartbeats 1000000 in
theorem open_op {fuel : Nat} {cs : List Value} {x : DataW H × List MemPlace} (h : DataW.trod enc Tryd.prog w base spare held fuel 47 cs = some x) (hl : cs.length = 24) :
    ∃ k : OpD, cs = (opC k).toList ∧ OpSee w w.heap.size k := by
  obtain ⟨xs, n, _, hx, _, hlen, hf⟩ := DataW.trod_struct Tryd.underlying47 h
  match xs, hlen, cs, hl with
  | [y0, y1, y2, y3, y4, y5, y6, y7], _, [v0, v1, v2, v3, v4, v5, v6, v7, v8, v9, v10, v11, v12, v13, v14, v15, v16, v17, v18, v19, v20, v21, v22, v23], _ =>
    have c0 : Tryd.prog.cellsOf 9 = 1 := by kernel_rfl
    have c1 : Tryd.prog.cellsOf 3 = 1 := by kernel_rfl
    have c3 : Tryd.prog.cellsOf 36 = 5 := by kernel_rfl
    have c4 : Tryd.prog.cellsOf 38 = 4 := by kernel_rfl
    have c5 : Tryd.prog.cellsOf 40 = 5 := by kernel_rfl
    have c6 : Tryd.prog.cellsOf 42 = 4 := by kernel_rfl
    have c7 : Tryd.prog.cellsOf 45 = 3 := by kernel_rfl
    have g0 := hf 0 _ rfl
    have g1 := hf 1 _ rfl
    have g2 := hf 2 _ rfl
    have g3 := hf 3 _ rfl
    have g4 := hf 4 _ rfl
    have g5 := hf 5 _ rfl
    have g6 := hf 6 _ rfl
    have g7 := hf 7 _ rfl
    simp [c0, c1, c3, c4, c5, c6, c7] at g0 g1 g2 g3 g4 g5 g6 g7
    obtain ⟨n0, e0, -, -⟩ := DataW.trod_int Tryd.underlying3 g0
    obtain ⟨n1, e1, -, -⟩ := DataW.trod_int Tryd.underlying3 g1
    obtain ⟨s2, e2, -, -⟩ := DataW.trod_string Tryd.underlying9 g2
    obtain ⟨k3, e3, h3, m3⟩ := open_ent g3 rfl
    obtain ⟨k4, e4⟩ := open_join g4 rfl
    obtain ⟨k5, e5⟩ := open_node g5 rfl
    obtain ⟨k6, e6⟩ := open_skey g6 rfl
    obtain ⟨k7, e7, h7, m7⟩ := open_bun2 g7 rfl
    simp [entCells, joinCells, nodeCells, skeyCells, bunCells] at e0 e1 e2 e3 e4 e5 e6 e7
    obtain ⟨rfl, rfl, rfl, rfl, rfl⟩ := e3
    obtain ⟨rfl, rfl, rfl, rfl⟩ := e4
    obtain ⟨rfl, rfl, rfl, rfl, rfl⟩ := e5
    obtain ⟨rfl, rfl, rfl, rfl⟩ := e6
    obtain ⟨rfl, rfl, rfl⟩ := e7
    subst e0 e1 e2
    simp only [maxLen] at m3 m7
    exact ⟨⟨n0, n1, s2, k3, k4, k5, k6, k7⟩, rfl, h3, h7, by show (k3.sn : Int) ≤ _; omega, by show (k7.kn : Int) ≤ _; omega⟩
set_option maxRecDepth 100000 in
theorem open_ops_arg {r : Reach} {b0 : Nat} {v : Value} {d : DataW H} {p : List MemPlace} (hv : Value.okWide Tryd.prog w r b0 22 v) (h : DataW.Trod enc Tryd.prog w base spare held 22 v d p) :
    ∃ (A : Option Addr) (c : Nat) (l : List OpD), v = .slice A l.length c ∧ Rd w w.heap.size A (rowsV opC l) ∧ (l.length : Int) ≤ 9223372036854775807 ∧ ∀ o ∈ l, OpSee w w.heap.size o := by
  obtain ⟨a1, len, cap, rfl⟩ := okWide_slice Tryd.underlying22 hv
  obtain ⟨fuel, hf⟩ := h
  obtain ⟨A, c, l, e, h1, h2, h3⟩ := open_rows (f := opC) (m := 24) (P0 := OpSee w w.heap.size) (fun _ => rfl) (by decide) Tryd.underlying22 (by kernel_rfl) (fun h hl => open_op h hl) hf
  simp [Value.cells] at e
  obtain ⟨rfl, rfl, rfl⟩ := e
  simp only [maxLen] at h2
  exact ⟨_, _, l, rfl, h1, by omega, h3⟩
structure AskD where
  name : ByteArray
  agent : ByteArray
  key : ByteArray
  now : Int
  ttl : Int
def askC (k : AskD) : Array Value := #[.string k.name, .string k.agent, .string k.key, .int .i64 k.now, .int .i64 k.ttl]
set_option maxRecDepth 100000 in
theorem open_ask_arg {r : Reach} {b0 : Nat} {v : Value} {d : DataW H} {p : List MemPlace} (hv : Value.okWide Tryd.prog w r b0 24 v) (h : DataW.Trod enc Tryd.prog w base spare held 24 v d p) :
    ∃ k : AskD, v = .agg (askC k) ∧ InR k.now ∧ InR k.ttl := by
  have c5 : Tryd.prog.cellsOf 24 = 5 := by kernel_rfl
  obtain ⟨cs, rfl, hsz⟩ := okWide_struct Tryd.underlying24 hv
  obtain ⟨fuel, hf⟩ := h
  have hl : cs.toList.length = 5 := by rw [← c5]; exact hsz
  obtain ⟨xs, n, _, hx, _, hlen, hf⟩ := DataW.trod_struct Tryd.underlying24 (show DataW.trod enc Tryd.prog w base spare held fuel 24 cs.toList = some (d, p) from hf)
  generalize hcs : cs.toList = l at hl hf
  match xs, hlen, l, hl with
  | [y0, y1, y2, y3, y4], _, [v0, v1, v2, v3, v4], _ =>
    have c0 : Tryd.prog.cellsOf 9 = 1 := by kernel_rfl
    have c1 : Tryd.prog.cellsOf 3 = 1 := by kernel_rfl
    have g0 := hf 0 _ rfl
    have g1 := hf 1 _ rfl
    have g2 := hf 2 _ rfl
    have g3 := hf 3 _ rfl
    have g4 := hf 4 _ rfl
    simp [c0, c1] at g0 g1 g2 g3 g4
    obtain ⟨s0, e0, -, -⟩ := DataW.trod_string Tryd.underlying9 g0
    obtain ⟨s1, e1, -, -⟩ := DataW.trod_string Tryd.underlying9 g1
    obtain ⟨s2, e2, -, -⟩ := DataW.trod_string Tryd.underlying9 g2
    obtain ⟨n3, e3, -, w3⟩ := DataW.trod_int Tryd.underlying3 g3
    obtain ⟨n4, e4, -, w4⟩ := DataW.trod_int Tryd.underlying3 g4
    injection e0 with e0
    injection e1 with e1
    injection e2 with e2
    injection e3 with e3
    injection e4 with e4
    subst e0 e1 e2 e3 e4
    have e' : cs = askC ⟨s0, s1, s2, n3, n4⟩ := Array.ext' hcs
    exact ⟨⟨s0, s1, s2, n3, n4⟩, by rw [e'], inR_wf w3, inR_wf w4⟩
end
end Go.Proofs.YtilhhigdegccgaaDoor
