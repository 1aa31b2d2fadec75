/-
  Joined texts: Opo Lw2.
-/
import Derived.Deep.Slices
import Derived.Great.Walk
import Derived.Test.YtpfnigndhkcknaaGreatDoorJ29
import Derived.Test.YtpfnigndhkcknaaGreatDoorJ9
import Derived.Test.YtpfnigndhkcknaaGreatDoorJ1
import Derived.Test.YtpfnigndhkcknaaGreatDoorJ14
import Derived.Test.YtpfnigndhkcknaaGreatDoorJ15
/-
  Opening an argument that is a list of operations; one that is an ask.
-/
namespace Go.Proofs.YtpfnigndhkcknaaGreatDoor
set_option linter.unusedSimpArgs false
set_option linter.unusedVariables false
open Go.ChangeShapes Go.WideShapes Go.ChangeAt Go.RowKit Go.Joins
theorem inR_wf {n : Int} (h : (Lit.int .i64 n).wf = true) : InR n := by
  rw [Lit.wf, Bool.and_eq_true, decide_eq_true_iff, decide_eq_true_iff, show IntKind.i64.min = -9223372036854775808 by decide, show IntKind.i64.max = 9223372036854775807 by decide] at h
  exact h
instance : Inhabited OpD := ⟨⟨0, 0, ⟨#[]⟩, ⟨0, ⟨#[]⟩, ⟨#[]⟩, 0, none, 0, 0⟩, ⟨⟨#[]⟩, ⟨#[]⟩, 0, false⟩, ⟨⟨#[]⟩, ⟨#[]⟩, 0, 0, ⟨#[]⟩⟩, ⟨⟨#[]⟩, ⟨#[]⟩, 0, 0⟩, ⟨⟨#[]⟩, 0, none, 0, 0⟩⟩⟩
instance : Inhabited JwkD := ⟨⟨⟨#[]⟩, ⟨#[]⟩⟩⟩
section
variable {H : Type} {enc : TypeId × Value → H} {w : World} {base : Nat} {spare : Nat → Bool} {held : Bool}
theorem open_rows {α : Type} [Inhabited α] {f : α → Array Value} {m : Nat} (hf : ∀ x, (f x).size = m) (hm0 : 0 < m) {t e : TypeId} (ht : Tryz.prog.underlying t = some (.slice e)) (hc : Tryz.prog.cellsOf e = m) {P0 : α → Prop}
    (hel : ∀ {fuel : Nat} {cs : List Value} {x : DataW H × List MemPlace}, DataW.trod enc Tryz.prog w base spare held fuel e cs = some x → cs.length = m → ∃ k, cs = (f k).toList ∧ P0 k)
    {fuel : Nat} {cs : List Value} {x : DataW H × List MemPlace} (h : DataW.trod enc Tryz.prog w base spare held fuel t cs = some x) :
    ∃ (A : Option Addr) (c : Nat) (l : List α), cs = [.slice A l.length c] ∧ Rd w w.heap.size A (rowsV f l) ∧ l.length ≤ maxLen ∧ ∀ k ∈ l, P0 k := by
  rcases Deep.open_slice ht h with ⟨rfl, _⟩ | ⟨a, len, cap, mm, n, D, Pl, rfl, hb, hl, hm, hmm, rfl, hx⟩
  · exact ⟨none, 0, [], rfl, Rd.nil _ _ _, Nat.zero_le _, fun k hk => by cases hk⟩
  · have hlm : len ≤ mm := by rw [hmm]; split <;> omega
    rw [hc] at hx
    obtain ⟨g, hg⟩ := Deep.choose_lt (α := α) (n := mm) (p := fun i q => w.cells? base (a.add (i * m)) m = some (f q).toList ∧ P0 q) (fun i hi => by
      obtain ⟨cs', h1, h2⟩ := hx i hi
      obtain ⟨_, hlen, _⟩ := World.cells?_some h1
      obtain ⟨k, rfl, hk⟩ := hel h2 hlen
      exact ⟨k, h1, hk⟩)
    refine ⟨some a, cap, (List.range len).map g, by simp, fun i u hu => ?_, by simp; omega, fun k hk => ?_⟩
    · have hl5 : (rowsV f ((List.range len).map g)).length = len * m := by rw [rowsV_len hf]; simp
      have hi : i < len * m := by
        have := (List.getElem?_eq_some_iff.1 hu).1
        rwa [hl5] at this
      have hq : i / m < len := (Nat.div_lt_iff_lt_mul hm0).2 hi
      have hr : i % m < m := Nat.mod_lt _ hm0
      have he : i / m * m + i % m = i := by rw [Nat.mul_comm]; exact Nat.div_add_mod i m
      obtain ⟨_, hlen, hcell⟩ := World.cells?_some (hg (i / m) (by omega)).1
      have hc := hcell (i % m) hr
      obtain ⟨v, hv⟩ : ∃ v, (f (g (i / m)))[i % m]? = some v := ⟨_, Array.getElem?_eq_getElem (by rw [hf]; exact hr)⟩
      have hkv := rowsV_at (f := f) hf ((List.range len).map g) (i / m) (by simpa using hq) (i % m) v (by rw [List.getElem_map, List.getElem_range]; exact hv)
      rw [he] at hkv
      rw [hkv] at hu
      injection hu with hu
      subst hu
      rw [Deep.add_add, he] at hc
      have hc' : w.cell? (a.add i) = some v := by
        rw [hc, Array.getElem?_toList]
        exact hv
      refine ⟨a, rfl, ?_, hc'⟩
      have := World.block_lt_of_cell? w _ hc'
      rwa [block_of_add] at this
    · obtain ⟨i, hi, rfl⟩ := List.mem_map.1 hk
      exact (hg i (by have := List.mem_range.1 hi; omega)).2
set_option maxRecDepth 100000 in
theorem open_jwk2 {fuel : Nat} {cs : List Value} {x : DataW H × List MemPlace} (h : DataW.trod enc Tryz.prog w base spare held fuel 74 cs = some x) (hl : cs.length = 2) :
    ∃ k : JwkD, cs = (jwkCells k).toList ∧ True := by
  obtain ⟨xs, n, _, hx, _, hlen, hf⟩ := DataW.trod_struct Tryz.underlying74 h
  match xs, hlen, cs, hl with
  | [y0, y1], _, [v0, v1], _ =>
    have c0 : Tryz.prog.cellsOf 9 = 1 := by kernel_rfl
    have g0 := hf 0 _ rfl
    have g1 := hf 1 _ rfl
    simp [c0] at g0 g1
    obtain ⟨s0, e0, -, w0⟩ := DataW.trod_string Tryz.underlying9 g0
    obtain ⟨s1, e1, -, w1⟩ := DataW.trod_string Tryz.underlying9 g1
    injection e0 with e0
    injection e1 with e1
    subst e0 e1
    exact ⟨⟨s0, s1⟩, rfl, trivial⟩
set_option maxRecDepth 100000 in
theorem open_ent {fuel : Nat} {cs : List Value} {x : DataW H × List MemPlace} (h : DataW.trod enc Tryz.prog w base spare held fuel 36 cs = some x) (hl : cs.length = 5) :
    ∃ k : EntD, cs = (entCells k).toList ∧ (∃ l : List ByteArray, l.length = k.sn ∧ Rd w w.heap.size k.sA (l.map Value.string)) ∧ k.sn ≤ maxLen := by
  obtain ⟨xs, n, _, hx, _, hlen, hf⟩ := DataW.trod_struct Tryz.underlying36 h
  match xs, hlen, cs, hl with
  | [y0, y1, y2, y3, y4], _, [v0, v1, v2, v3, v4], _ =>
    have c0 : Tryz.prog.cellsOf 9 = 1 := by kernel_rfl
    have c1 : Tryz.prog.cellsOf 3 = 1 := by kernel_rfl
    have c2 : Tryz.prog.cellsOf 28 = 1 := by kernel_rfl
    have g0 := hf 0 _ rfl
    have g1 := hf 1 _ rfl
    have g2 := hf 2 _ rfl
    have g3 := hf 3 _ rfl
    have g4 := hf 4 _ rfl
    simp [c0, c1, c2] at g0 g1 g2 g3 g4
    obtain ⟨n0, e0, -, w0⟩ := DataW.trod_int Tryz.underlying3 g0
    obtain ⟨s1, e1, -, w1⟩ := DataW.trod_string Tryz.underlying9 g1
    obtain ⟨s2, e2, -, w2⟩ := DataW.trod_string Tryz.underlying9 g2
    obtain ⟨n3, e3, -, w3⟩ := DataW.trod_int Tryz.underlying3 g3
    obtain ⟨A, c, l, e4, -, hm, hr, -⟩ := open_strs_rd Tryz.underlying28 Tryz.underlying9 c0 g4
    injection e0 with e0
    injection e1 with e1
    injection e2 with e2
    injection e3 with e3
    injection e4 with e4
    subst e0 e1 e2 e3 e4
    exact ⟨⟨n0, s1, s2, n3, A, l.length, c⟩, rfl, ⟨l, rfl, hr⟩, hm⟩
set_option maxRecDepth 100000 in
theorem open_join {fuel : Nat} {cs : List Value} {x : DataW H × List MemPlace} (h : DataW.trod enc Tryz.prog w base spare held fuel 38 cs = some x) (hl : cs.length = 4) :
    ∃ k : JoinD, cs = (joinCells k).toList := by
  obtain ⟨xs, n, _, hx, _, hlen, hf⟩ := DataW.trod_struct Tryz.underlying38 h
  match xs, hlen, cs, hl with
  | [y0, y1, y2, y3], _, [v0, v1, v2, v3], _ =>
    have c0 : Tryz.prog.cellsOf 9 = 1 := by kernel_rfl
    have c1 : Tryz.prog.cellsOf 3 = 1 := by kernel_rfl
    have c2 : Tryz.prog.cellsOf 4 = 1 := by kernel_rfl
    have g0 := hf 0 _ rfl
    have g1 := hf 1 _ rfl
    have g2 := hf 2 _ rfl
    have g3 := hf 3 _ rfl
    simp [c0, c1, c2] at g0 g1 g2 g3
    obtain ⟨s0, e0, -, w0⟩ := DataW.trod_string Tryz.underlying9 g0
    obtain ⟨s1, e1, -, w1⟩ := DataW.trod_string Tryz.underlying9 g1
    obtain ⟨n2, e2, -, w2⟩ := DataW.trod_int Tryz.underlying3 g2
    obtain ⟨b3, e3, -⟩ := DataW.trod_bool Tryz.underlying4 g3
    injection e0 with e0
    injection e1 with e1
    injection e2 with e2
    injection e3 with e3
    subst e0 e1 e2 e3
    exact ⟨⟨s0, s1, n2, b3⟩, rfl⟩
set_option maxRecDepth 100000 in
theorem open_node {fuel : Nat} {cs : List Value} {x : DataW H × List MemPlace} (h : DataW.trod enc Tryz.prog w base spare held fuel 40 cs = some x) (hl : cs.length = 5) :
    ∃ k : NodeD, cs = (nodeCells k).toList := by
  obtain ⟨xs, n, _, hx, _, hlen, hf⟩ := DataW.trod_struct Tryz.underlying40 h
  match xs, hlen, cs, hl with
  | [y0, y1, y2, y3, y4], _, [v0, v1, v2, v3, v4], _ =>
    have c0 : Tryz.prog.cellsOf 9 = 1 := by kernel_rfl
    have c1 : Tryz.prog.cellsOf 3 = 1 := by kernel_rfl
    have g0 := hf 0 _ rfl
    have g1 := hf 1 _ rfl
    have g2 := hf 2 _ rfl
    have g3 := hf 3 _ rfl
    have g4 := hf 4 _ rfl
    simp [c0, c1] at g0 g1 g2 g3 g4
    obtain ⟨s0, e0, -, w0⟩ := DataW.trod_string Tryz.underlying9 g0
    obtain ⟨s1, e1, -, w1⟩ := DataW.trod_string Tryz.underlying9 g1
    obtain ⟨n2, e2, -, w2⟩ := DataW.trod_int Tryz.underlying3 g2
    obtain ⟨n3, e3, -, w3⟩ := DataW.trod_int Tryz.underlying3 g3
    obtain ⟨s4, e4, -, w4⟩ := DataW.trod_string Tryz.underlying9 g4
    injection e0 with e0
    injection e1 with e1
    injection e2 with e2
    injection e3 with e3
    injection e4 with e4
    subst e0 e1 e2 e3 e4
    exact ⟨⟨s0, s1, n2, n3, s4⟩, rfl⟩
set_option maxRecDepth 100000 in
theorem open_skey {fuel : Nat} {cs : List Value} {x : DataW H × List MemPlace} (h : DataW.trod enc Tryz.prog w base spare held fuel 42 cs = some x) (hl : cs.length = 4) :
    ∃ k : SkeyD, cs = (skeyCells k).toList := by
  obtain ⟨xs, n, _, hx, _, hlen, hf⟩ := DataW.trod_struct Tryz.underlying42 h
  match xs, hlen, cs, hl with
  | [y0, y1, y2, y3], _, [v0, v1, v2, v3], _ =>
    have c0 : Tryz.prog.cellsOf 9 = 1 := by kernel_rfl
    have c1 : Tryz.prog.cellsOf 3 = 1 := by kernel_rfl
    have g0 := hf 0 _ rfl
    have g1 := hf 1 _ rfl
    have g2 := hf 2 _ rfl
    have g3 := hf 3 _ rfl
    simp [c0, c1] at g0 g1 g2 g3
    obtain ⟨s0, e0, -, w0⟩ := DataW.trod_string Tryz.underlying9 g0
    obtain ⟨s1, e1, -, w1⟩ := DataW.trod_string Tryz.underlying9 g1
    obtain ⟨n2, e2, -, w2⟩ := DataW.trod_int Tryz.underlying3 g2
    obtain ⟨n3, e3, -, w3⟩ := DataW.trod_int Tryz.underlying3 g3
    injection e0 with e0
    injection e1 with e1
    injection e2 with e2
    injection e3 with e3
    subst e0 e1 e2 e3
    exact ⟨⟨s0, s1, n2, n3⟩, rfl⟩
set_option maxRecDepth 100000 in
theorem open_bun2 {fuel : Nat} {cs : List Value} {x : DataW H × List MemPlace} (h : DataW.trod enc Tryz.prog w base spare held fuel 45 cs = some x) (hl : cs.length = 3) :
    ∃ k : BunD, cs = (bunCells k).toList ∧ (∃ l : List JwkD, l.length = k.kn ∧ Rd w w.heap.size k.kA (rowsV jwkCells l)) ∧ k.kn ≤ maxLen := by
  obtain ⟨xs, n, _, hx, _, hlen, hf⟩ := DataW.trod_struct Tryz.underlying45 h
  match xs, hlen, cs, hl with
  | [y0, y1, y2], _, [v0, v1, v2], _ =>
    have c0 : Tryz.prog.cellsOf 9 = 1 := by kernel_rfl
    have c1 : Tryz.prog.cellsOf 3 = 1 := by kernel_rfl
    have c2 : Tryz.prog.cellsOf 43 = 1 := by kernel_rfl
    have g0 := hf 0 _ rfl
    have g1 := hf 1 _ rfl
    have g2 := hf 2 _ rfl
    simp [c0, c1, c2] at g0 g1 g2
    obtain ⟨s0, e0, -, w0⟩ := DataW.trod_string Tryz.underlying9 g0
    obtain ⟨n1, e1, -, w1⟩ := DataW.trod_int Tryz.underlying3 g1
    obtain ⟨A, c, l, e2, hr, hm, -⟩ := open_rows (f := jwkCells) (m := 2) (P0 := fun _ => True) (fun _ => rfl) (by decide) Tryz.underlying43 (by kernel_rfl) (fun h hl => open_jwk2 h hl) g2
    injection e0 with e0
    injection e1 with e1
    injection e2 with e2
    subst e0 e1 e2
    exact ⟨⟨s0, n1, A, l.length, c⟩, rfl, ⟨l, rfl, hr⟩, hm⟩
set_option maxRecDepth 100000 in
set_option maxHeartbeats 1000000 in
theorem open_op {fuel : Nat} {cs : List Value} {x : DataW H × List MemPlace} (h : DataW.trod enc Tryz.prog w base spare held fuel 47 cs = some x) (hl : cs.length = 24) :
    ∃ k : OpD, cs = (opC k).toList ∧ OpSee w w.heap.size k := by
  obtain ⟨xs, n, _, hx, _, hlen, hf⟩ := DataW.trod_struct Tryz.underlying47 h
  match xs, hlen, cs, hl with
  | [y0, y1, y2, y3, y4, y5, y6, y7], _, [v0, v1, v2, v3, v4, v5, v6, v7, v8, v9, v10, v11, v12, v13, v14, v15, v16, v17, v18, v19, v20, v21, v22, v23], _ =>
    have c0 : Tryz.prog.cellsOf 9 = 1 := by kernel_rfl
    have c1 : Tryz.prog.cellsOf 3 = 1 := by kernel_rfl
    have c3 : Tryz.prog.cellsOf 36 = 5 := by kernel_rfl
    have c4 : Tryz.prog.cellsOf 38 = 4 := by kernel_rfl
    have c5 : Tryz.prog.cellsOf 40 = 5 := by kernel_rfl
    have c6 : Tryz.prog.cellsOf 42 = 4 := by kernel_rfl
    have c7 : Tryz.prog.cellsOf 45 = 3 := by kernel_rfl
    have g0 := hf 0 _ rfl
    have g1 := hf 1 _ rfl
    have g2 := hf 2 _ rfl
    have g3 := hf 3 _ rfl
    have g4 := hf 4 _ rfl
    have g5 := hf 5 _ rfl
    have g6 := hf 6 _ rfl
    have g7 := hf 7 _ rfl
    simp [c0, c1, c3, c4, c5, c6, c7] at g0 g1 g2 g3 g4 g5 g6 g7
    obtain ⟨n0, e0, -, -⟩ := DataW.trod_int Tryz.underlying3 g0
    obtain ⟨n1, e1, -, -⟩ := DataW.trod_int Tryz.underlying3 g1
    obtain ⟨s2, e2, -, -⟩ := DataW.trod_string Tryz.underlying9 g2
    obtain ⟨k3, e3, h3, m3⟩ := open_ent g3 rfl
    obtain ⟨k4, e4⟩ := open_join g4 rfl
    obtain ⟨k5, e5⟩ := open_node g5 rfl
    obtain ⟨k6, e6⟩ := open_skey g6 rfl
    obtain ⟨k7, e7, h7, m7⟩ := open_bun2 g7 rfl
    simp [entCells, joinCells, nodeCells, skeyCells, bunCells] at e0 e1 e2 e3 e4 e5 e6 e7
    obtain ⟨rfl, rfl, rfl, rfl, rfl⟩ := e3
    obtain ⟨rfl, rfl, rfl, rfl⟩ := e4
    obtain ⟨rfl, rfl, rfl, rfl, rfl⟩ := e5
    obtain ⟨rfl, rfl, rfl, rfl⟩ := e6
    obtain ⟨rfl, rfl, rfl⟩ := e7
    subst e0 e1 e2
    simp only [maxLen] at m3 m7
    exact ⟨⟨n0, n1, s2, k3, k4, k5, k6, k7⟩, rfl, h3, h7, by show (k3.sn : Int) ≤ _; omega, by show (k7.kn : Int) ≤ _; omega⟩
set_option maxRecDepth 100000 in
theorem open_ops_arg {r : Reach} {b0 : Nat} {v : Value} {d : DataW H} {p : List MemPlace} (hv : Value.okWide Tryz.prog w r b0 22 v) (h : DataW.Trod enc Tryz.prog w base spare held 22 v d p) :
    ∃ (A : Option Addr) (c : Nat) (l : List OpD), v = .slice A l.length c ∧ Rd w w.heap.size A (rowsV opC l) ∧ (l.length : Int) ≤ 9223372036854775807 ∧ ∀ o ∈ l, OpSee w w.heap.size o := by
  obtain ⟨a1, len, cap, rfl⟩ := okWide_slice Tryz.underlying22 hv
  obtain ⟨fuel, hf⟩ := h
  obtain ⟨A, c, l, e, h1, h2, h3⟩ := open_rows (f := opC) (m := 24) (P0 := OpSee w w.heap.size) (fun _ => rfl) (by decide) Tryz.underlying22 (by kernel_rfl) (fun h hl => open_op h hl) hf
  simp [Value.cells] at e
  obtain ⟨rfl, rfl, rfl⟩ := e
  simp only [maxLen] at h2
  exact ⟨_, _, l, rfl, h1, by omega, h3⟩
structure AskD where
  name : ByteArray
  agent : ByteArray
  key : ByteArray
  now : Int
  ttl : Int
def askC (k : AskD) : Array Value := #[.string k.name, .string k.agent, .string k.key, .int .i64 k.now, .int .i64 k.ttl]
set_option maxRecDepth 100000 in
theorem open_ask_arg {r : Reach} {b0 : Nat} {v : Value} {d : DataW H} {p : List MemPlace} (hv : Value.okWide Tryz.prog w r b0 24 v) (h : DataW.Trod enc Tryz.prog w base spare held 24 v d p) :
    ∃ k : AskD, v = .agg (askC k) ∧ InR k.now ∧ InR k.ttl := by
  have c5 : Tryz.prog.cellsOf 24 = 5 := by kernel_rfl
  obtain ⟨cs, rfl, hsz⟩ := okWide_struct Tryz.underlying24 hv
  obtain ⟨fuel, hf⟩ := h
  have hl : cs.toList.length = 5 := by rw [← c5]; exact hsz
  obtain ⟨xs, n, _, hx, _, hlen, hf⟩ := DataW.trod_struct Tryz.underlying24 (show DataW.trod enc Tryz.prog w base spare held fuel 24 cs.toList = some (d, p) from hf)
  generalize hcs : cs.toList = l at hl hf
  match xs, hlen, l, hl with
  | [y0, y1, y2, y3, y4], _, [v0, v1, v2, v3, v4], _ =>
    have c0 : Tryz.prog.cellsOf 9 = 1 := by kernel_rfl
    have c1 : Tryz.prog.cellsOf 3 = 1 := by kernel_rfl
    have g0 := hf 0 _ rfl
    have g1 := hf 1 _ rfl
    have g2 := hf 2 _ rfl
    have g3 := hf 3 _ rfl
    have g4 := hf 4 _ rfl
    simp [c0, c1] at g0 g1 g2 g3 g4
    obtain ⟨s0, e0, -, -⟩ := DataW.trod_string Tryz.underlying9 g0
    obtain ⟨s1, e1, -, -⟩ := DataW.trod_string Tryz.underlying9 g1
    obtain ⟨s2, e2, -, -⟩ := DataW.trod_string Tryz.underlying9 g2
    obtain ⟨n3, e3, -, w3⟩ := DataW.trod_int Tryz.underlying3 g3
    obtain ⟨n4, e4, -, w4⟩ := DataW.trod_int Tryz.underlying3 g4
    injection e0 with e0
    injection e1 with e1
    injection e2 with e2
    injection e3 with e3
    injection e4 with e4
    subst e0 e1 e2 e3 e4
    have e' : cs = askC ⟨s0, s1, s2, n3, n4⟩ := Array.ext' hcs
    exact ⟨⟨s0, s1, s2, n3, n4⟩, by rw [e'], inR_wf w3, inR_wf w4⟩
end
end Go.Proofs.YtpfnigndhkcknaaGreatDoor
/-
  Walks: brevetlaw20.few, cut, lives.
-/
namespace Go.Proofs.YtpfnigndhkcknaaGreatDoor
set_option linter.unusedSimpArgs false
set_option linter.unusedVariables false
open Go.RowKit
set_option maxHeartbeats 2000000 in
theorem few20_any (s : ByteArray) (w : World) : Calls Tryz.prog 10 #[.string s] w fun e w' => e = .returned (.string (few60 s)) ∧ w' = w := by
  go_enter Tryz.func10, Tryz.ntmps10
  by_cases hl : 60 < s.size
  · have hl' : (60 : Int) < (s.size : Int) := by omega
    have hl2 : 60 ≤ s.size := by omega
    have HF := Lib.hid (show few60 s = s.extract 0 60 by rw [few60, if_pos hl])
    clear hl
    go_wp2_with fail
    go_ret
    exact ⟨by rw [HF.out]; rfl, rfl⟩
  · have hl' : ¬ (60 : Int) < (s.size : Int) := by omega
    have HF := Lib.hid (show few60 s = s by rw [few60, if_neg hl])
    clear hl
    go_wp2_with fail
    go_ret
    exact ⟨by rw [HF.out]; rfl, rfl⟩
def zAsk : AskD := ⟨⟨#[]⟩, ⟨#[]⟩, ⟨#[]⟩, 0, 0⟩
def cutA (k : AskD) : AskD := ⟨few60 k.name, few60 k.agent, few60 k.key, k.now, k.ttl⟩
theorem askC_one (k : AskD) : (askC k).all (·.oneCell') = true := by simp [askC, Value.oneCell']
theorem askT_size : (Tryz.prog.info? 24).map (·.size) = some 5 := by kernel_rfl
set_option maxRecDepth 100000 in
set_option maxHeartbeats 4000000 in
theorem cut20_any (k : AskD) (w : World) : Calls Tryz.prog 4 #[.agg (askC k)] w fun e w' => e = .returned (.agg (askC (cutA k))) ∧ Below w.heap.size w w' := by
  have hua := Tryz.underlying24
  obtain ⟨W0, hW0⟩ : ∃ W0, W0 = (w.alloc (.cells (askC k) 24)).alloc (.cells (askC zAsk) 24) := ⟨_, rfl⟩
  have hb0 : Below w.heap.size w W0 := by rw [hW0]; exact ((Below.refl _ w).alloc (Nat.le_refl _) _).alloc (by simp) _
  have HB0 := Lib.hid hb0
  have HK0 := Lib.hid (show Blk W0 w.heap.size 24 (askC k) by rw [hW0]; exact (Blk.new _ _ _).alloc _)
  have HZ0 := Lib.hid (show Blk W0 (w.heap.size + 1) 24 (askC zAsk) by rw [hW0]; have := Blk.new (w.alloc (.cells (askC k) 24)) 24 (askC zAsk); simpa using this)
  have HW0 := Lib.hid hW0
  have HF := Lib.hid few20_any
  obtain ⟨R, hR⟩ : ∃ R, R = askC (cutA k) := ⟨_, rfl⟩
  have HRE := Lib.hid (show R = askC ⟨few60 k.name, few60 k.agent, few60 k.key, k.now, k.ttl⟩ from hR)
  rw [← hR]
  clear hW0 hb0 hR
  go_enter Tryz.func4, Tryz.ntmps4
  go_upto_region 1 with (fail)
  rw [show (w.alloc (.cells (askC k) 24)).alloc (.cells #[.string ⟨#[]⟩, .string ⟨#[]⟩, .string ⟨#[]⟩, .int .i64 0, .int .i64 0] 24) = W0 from HW0.out.symm]
  generalize Value.agg (askC k) = AV
  go_wp2_with fail
  have HC0 : Below W0.heap.size W0 W0.drew := (Below.refl _ _).drew
  apply wp_region_seqh (fun u => Below W0.heap.size W0 u) (fun u u' => Below u.heap.size u u') [_, _, _, _, _, _, _, _, _, _, _, _, _, .agg (askC ⟨few60 k.name, few60 k.agent, few60 k.key, k.now, k.ttl⟩)] (gOf []) 14 (by kernel_rfl) (by kernel_rfl) (by decide) (by kernel_rfl) (stabL_of _ trivial) HC0
  simp only [List.take_succ_cons, List.take_zero, List.drop_succ_cons, List.drop_zero]
  iterate 1
    ((first | (apply SeqG.next; rfl; rfl; rfl)); (simp only [act_put, act_put_none, List.setIfInBounds_toArray, List.set_cons_zero, List.set_cons_succ]; rfl); (intro w1 hC1 hf E hE; go_wp2; exact .mk (hE _ hC1 (Below.refl _ _))))
  apply SeqG.next
  · rfl
  · rfl
  · rfl
  · simp only [act_put, act_put_none, List.setIfInBounds_toArray, List.set_cons_zero, List.set_cons_succ]
    rfl
  · intro w1 hC1 hf E hE
    have d0 : w1.cell? ⟨w.heap.size, 0, none⟩ = some (.string k.name) := (HK0.out.below hC1 HK0.out.lt).cell 0
    go_wp2
    exact .mk (hE _ hC1 (Below.refl _ _))
  apply SeqG.next
  · rfl
  · rfl
  · rfl
  · simp only [act_put, act_put_none, List.setIfInBounds_toArray, List.set_cons_zero, List.set_cons_succ]
    rfl
  · intro w1 hC1 hf E hE
    go_wp2_with fail
    refine calls_then (HF.out _ _) ?_
    rintro e w7 ⟨rfl, rfl⟩
    go_wp2_with fail
    exact .mk (hE _ hC1 (Below.refl _ _))
  iterate 1
    ((first | (apply SeqG.next; rfl; rfl; rfl)); (simp only [act_put, act_put_none, List.setIfInBounds_toArray, List.set_cons_zero, List.set_cons_succ]; rfl); (intro w1 hC1 hf E hE; go_wp2; exact .mk (hE _ hC1 (Below.refl _ _))))
  apply SeqG.next
  · rfl
  · rfl
  · rfl
  · simp only [act_put, act_put_none, List.setIfInBounds_toArray, List.set_cons_zero, List.set_cons_succ]
    rfl
  · intro w1 hC1 hf E hE
    have d0 : w1.cell? ⟨w.heap.size, 1, none⟩ = some (.string k.agent) := (HK0.out.below hC1 HK0.out.lt).cell 1
    go_wp2
    exact .mk (hE _ hC1 (Below.refl _ _))
  apply SeqG.next
  · rfl
  · rfl
  · rfl
  · simp only [act_put, act_put_none, List.setIfInBounds_toArray, List.set_cons_zero, List.set_cons_succ]
    rfl
  · intro w1 hC1 hf E hE
    go_wp2_with fail
    refine calls_then (HF.out _ _) ?_
    rintro e w7 ⟨rfl, rfl⟩
    go_wp2_with fail
    exact .mk (hE _ hC1 (Below.refl _ _))
  iterate 1
    ((first | (apply SeqG.next; rfl; rfl; rfl)); (simp only [act_put, act_put_none, List.setIfInBounds_toArray, List.set_cons_zero, List.set_cons_succ]; rfl); (intro w1 hC1 hf E hE; go_wp2; exact .mk (hE _ hC1 (Below.refl _ _))))
  apply SeqG.next
  · rfl
  · rfl
  · rfl
  · simp only [act_put, act_put_none, List.setIfInBounds_toArray, List.set_cons_zero, List.set_cons_succ]
    rfl
  · intro w1 hC1 hf E hE
    have d0 : w1.cell? ⟨w.heap.size, 2, none⟩ = some (.string k.key) := (HK0.out.below hC1 HK0.out.lt).cell 2
    go_wp2
    exact .mk (hE _ hC1 (Below.refl _ _))
  apply SeqG.next
  · rfl
  · rfl
  · rfl
  · simp only [act_put, act_put_none, List.setIfInBounds_toArray, List.set_cons_zero, List.set_cons_succ]
    rfl
  · intro w1 hC1 hf E hE
    go_wp2_with fail
    refine calls_then (HF.out _ _) ?_
    rintro e w7 ⟨rfl, rfl⟩
    go_wp2_with fail
    exact .mk (hE _ hC1 (Below.refl _ _))
  iterate 1
    ((first | (apply SeqG.next; rfl; rfl; rfl)); (simp only [act_put, act_put_none, List.setIfInBounds_toArray, List.set_cons_zero, List.set_cons_succ]; rfl); (intro w1 hC1 hf E hE; go_wp2; exact .mk (hE _ hC1 (Below.refl _ _))))
  apply SeqG.next
  · rfl
  · rfl
  · rfl
  · simp only [act_put, act_put_none, List.setIfInBounds_toArray, List.set_cons_zero, List.set_cons_succ]
    rfl
  · intro w1 hC1 hf E hE
    have d0 : w1.cell? ⟨w.heap.size, 3, none⟩ = some (.int .i64 k.now) := (HK0.out.below hC1 HK0.out.lt).cell 3
    go_wp2
    exact .mk (hE _ hC1 (Below.refl _ _))
  iterate 1
    ((first | (apply SeqG.next; rfl; rfl; rfl)); (simp only [act_put, act_put_none, List.setIfInBounds_toArray, List.set_cons_zero, List.set_cons_succ]; rfl); (intro w1 hC1 hf E hE; go_wp2; exact .mk (hE _ hC1 (Below.refl _ _))))
  apply SeqG.next
  · rfl
  · rfl
  · rfl
  · simp only [act_put, act_put_none, List.setIfInBounds_toArray, List.set_cons_zero, List.set_cons_succ]
    rfl
  · intro w1 hC1 hf E hE
    have d0 : w1.cell? ⟨w.heap.size, 4, none⟩ = some (.int .i64 k.ttl) := (HK0.out.below hC1 HK0.out.lt).cell 4
    go_wp2
    exact .mk (hE _ hC1 (Below.refl _ _))
  apply SeqG.next
  · rfl
  · rfl
  · rfl
  · simp only [act_put, act_put_none, List.setIfInBounds_toArray, List.set_cons_zero, List.set_cons_succ]
    rfl
  · intro w1 hC1 hf E hE
    refine wpList_build_any (cells := askC ⟨few60 k.name, few60 k.agent, few60 k.key, k.now, k.ttl⟩) rfl _ rfl (by kernel_rfl) ?_
    go_wp2_with fail
    exact .mk (hE _ hC1 (Below.refl _ _))
  refine SeqG.nil ?_
  intro w1 hC1 hf
  clear hf
  refine SeqT.step rfl ?_
  intro E hE
  simp only [act_put, act_put_none, List.setIfInBounds_toArray, List.set_cons_zero, List.set_cons_succ] at hE
  have HBC := Lib.hid hC1
  refine wpList_put_box (cells := askC ⟨few60 k.name, few60 k.agent, few60 k.key, k.now, k.ttl⟩) (HZ0.out.below hC1 HZ0.out.lt) rfl rfl rfl rfl askT_size rfl (askC_one _) ?_
  intro w9 hb9 hw9
  have HB9 := Lib.hid hb9
  have HW9 := Lib.hid hw9
  clear hb9 hw9
  go_wp2_with fail
  refine .mk (hE undef _ ?_)
  clear hE E
  refine SeqT.nil ?_
  have HF9 := Lib.hid (HW9.out.below (HB0.out.trans (HBC.out.mono HB0.out.size)) (by omega) (HB0.out.trans (HBC.out.mono HB0.out.size)).size)
  clear hC1 HC0
  go_wp2_with fail
  refine bodyPost_ret (results_box (P := Tryz.prog) rfl rfl HB9.out hua rfl askT_size) rfl ?_
  exact ⟨by rw [HRE.out], HF9.out⟩
theorem row_one {w : World} {g : Nat} {s : ByteArray} (h : Blk w g 9 #[.string s]) : Row w w.heap.size 9 (some ⟨g, 0, none⟩) (rowsV strCell [s]) := fun i u hu => by
  match i with
  | 0 =>
    have e : u = .string s := by simpa [rowsV, strCell] using hu.symm
    subst e
    exact ⟨⟨g, 0, none⟩, _, _, rfl, h.lt, h.cell 0, h⟩
  | i + 1 => simp [rowsV, strCell] at hu
def exD (g : Nat) (a : ByteArray) : LedD := { zLed with bans := ⟨some ⟨g, 0, none⟩, 1, [a]⟩ }
theorem exD_ok {w : World} {g : Nat} {a : ByteArray} (h : Blk w g 9 #[.string a]) : LedOk w 900 (exD g a) := by
  have z := (zLed_ok w).more (K' := 900) (by omega)
  exact ⟨z.ents, z.nodes, ⟨row_one h, by show 1 ≤ 900; omega, Nat.le_refl _⟩, z.joins, z.keys, z.buns, z.entOk, z.bunOk⟩
theorem exD_good (g : Nat) (a : ByteArray) (now : Int) : goodX (exD g a) a now = (zNd, 21) := by
  rw [goodX, if_pos]
  show hasB [a] a = true
  simp [hasB]
theorem led_none : Tryz.prog.built 33 [] = some (ledCells zLed) := by kernel_rfl
theorem led_bans (g : Nat) (a : ByteArray) : Tryz.prog.built 33 [(2, .slice (some ⟨g, 0, none⟩) 1 1)] = some (ledCells (exD g a)) := by kernel_rfl
set_option maxRecDepth 100000 in
set_option maxHeartbeats 4000000 in
theorem lives20_any (w : World) : Calls Tryz.prog 9 #[] w fun e w' => e = .returned (.bool true) ∧ Below w.heap.size w w' := by
  have hus := Tryz.underlying28
  obtain ⟨ag, hag⟩ : ∃ a : ByteArray, a = ⟨#[47, 97, 103, 101, 110, 116, 47, 97]⟩ := ⟨_, rfl⟩
  have HJ := Lib.hid (show ∀ tok key u, Calls Tryz.prog 28 #[.agg (ledCells zLed), .string tok, .string ag, .string key, .int .i64 1, .int .i64 1] u (fun e w' => e = .returned (.tuple #[.agg (opN 0 0 ⟨#[]⟩ zNo), .int .i64 7]) ∧ Below u.heap.size u w') from
    fun tok key u => ajoin_any zLed tok ag key 1 1 u ((zLed_ok u).more (by omega)))
  have HG := Lib.hid (show ∀ g u, Blk u g 9 #[.string ag] → Calls Tryz.prog 29 #[.agg (ledCells (exD g ag)), .string ag, .int .i64 1] u (fun e w' => e = .returned (.tuple #[.agg (nodeCells zNd), .int .i64 21]) ∧ Below u.heap.size u w') from
    fun g u h => (agood_any (exD g ag) ag 1 u (exD_ok h)).mono fun e w' h2 => by
      obtain ⟨h2, h3⟩ := h2
      rw [exD_good] at h2
      exact ⟨h2, h3⟩)
  rw [show ag = ⟨#[47, 97, 103, 101, 110, 116, 47, 97]⟩ from hag] at HJ HG
  have HAG := Lib.hid hag
  clear hag
  go_enter Tryz.func9, Tryz.ntmps9
  go_wp2_with (refine wpList_build_any (cells := ledCells zLed) rfl #[] rfl led_none ?_)
  refine calls_then (HJ.out _ _ _) ?_
  rintro e w1 ⟨rfl, hb1⟩
  have HB1 := Lib.hid hb1
  clear hb1
  go_upto_region 2 with (refine wpList_put_box (cells := opN 0 0 ⟨#[]⟩ zNo) (Blk.new _ _ _) rfl rfl rfl rfl opQ2_size rfl (opN_one _ _ _ _) ?_; intro w2 hb2 hw2)
  have hbw2 : Below w1.heap.size w1 w2 := box_low9 hw2
  have HB2 := Lib.hid (HB1.out.trans (hbw2.mono HB1.out.size))
  clear hb2 hw2 hbw2
  obtain ⟨W3, hW3⟩ : ∃ W, W = w2.alloc (.cells #[.string ⟨#[47, 97, 103, 101, 110, 116, 47, 97]⟩] 9) := ⟨_, rfl⟩
  have HK3 := Lib.hid (show Blk W3 w2.heap.size 9 #[.string ⟨#[47, 97, 103, 101, 110, 116, 47, 97]⟩] by rw [hW3]; exact Blk.new _ _ _)
  have HB3 := Lib.hid (show Below w.heap.size w W3 by rw [hW3]; exact HB2.out.alloc HB2.out.size _)
  have HW3 := Lib.hid hW3
  clear hW3
  go_wp2_with (first
    | (refine Great.wpList_buildSliceTo rfl _ _ 1 _ rfl _ rfl _ rfl hus #[.string ⟨#[47, 97, 103, 101, 110, 116, 47, 97]⟩] (by kernel_rfl) ?_; rw [show w2.alloc (.cells #[.string ⟨#[47, 97, 103, 101, 110, 116, 47, 97]⟩] 9) = W3 from HW3.out.symm])
    | (refine wpList_build_any (cells := ledCells (exD w2.heap.size ⟨#[47, 97, 103, 101, 110, 116, 47, 97]⟩)) rfl _ rfl (by kernel_rfl) ?_))
  refine calls_then (HG.out _ _ HK3.out) ?_
  rintro e w4 ⟨rfl, hb4⟩
  have HB4 := Lib.hid (HB3.out.trans (hb4.mono HB3.out.size))
  clear hb4
  go_upto_region 3 with (refine wpList_put_box (cells := nodeCells zNd) (Blk.new _ _ _) rfl rfl rfl rfl nodeT_size rfl (nodeCells_one _) ?_; intro w5 hb5 hw5)
  have hbw5 : Below w4.heap.size w4 w5 := box_low9 hw5
  have HB5 := Lib.hid (HB4.out.trans (hbw5.mono HB4.out.size))
  clear hb5 hw5 hbw5
  go_wp2_with fail
  go_ret
  exact ⟨rfl, HB5.out⟩
end Go.Proofs.YtpfnigndhkcknaaGreatDoor
