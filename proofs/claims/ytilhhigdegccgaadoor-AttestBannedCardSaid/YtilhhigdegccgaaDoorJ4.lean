/-
  Joined texts: Led R9c R9d.
-/
import Derived.Test.YtilhhigdegccgaaDoorProg
import Derived.Test.YtilhhigdegccgaaDoorJ3
/-
  Plain: a ledger, as it lies in memory.
-/
namespace Go.Proofs.YtilhhigdegccgaaDoor
set_option linter.unusedSimpArgs false
set_option linter.unusedVariables false
open Go.RowKit
structure NodeD where
  name : ByteArray
  key : ByteArray
  exp : Int
  seq : Int
  doc : ByteArray
def nodeCells (k : NodeD) : Array Value := #[.string k.name, .string k.key, .int .i64 k.exp, .int .i64 k.seq, .string k.doc]
structure JoinD where
  text : ByteArray
  name : ByteArray
  exp : Int
  used : Bool
def joinCells (k : JoinD) : Array Value := #[.string k.text, .string k.name, .int .i64 k.exp, .bool k.used]
structure SkeyD where
  kid : ByteArray
  seed : ByteArray
  state : Int
  since : Int
def skeyCells (k : SkeyD) : Array Value := #[.string k.kid, .string k.seed, .int .i64 k.state, .int .i64 k.since]
structure EntD where
  n : Int
  path : ByteArray
  parent : ByteArray
  ttl : Int
  sA : Option Addr
  sn : Nat
  sc : Nat
def entCells (k : EntD) : Array Value := #[.int .i64 k.n, .string k.path, .string k.parent, .int .i64 k.ttl, .slice k.sA k.sn k.sc]
structure JwkD where
  kid : ByteArray
  x : ByteArray
def jwkCells (k : JwkD) : Array Value := #[.string k.kid, .string k.x]
structure BunD where
  dom : ByteArray
  num : Int
  kA : Option Addr
  kn : Nat
  kc : Nat
def bunCells (k : BunD) : Array Value := #[.string k.dom, .int .i64 k.num, .slice k.kA k.kn k.kc]
def strCell (s : ByteArray) : Array Value := #[.string s]
theorem nodeCells_one (k : NodeD) : (nodeCells k).all (·.oneCell') = true := by simp [nodeCells, Value.oneCell']
theorem joinCells_one (k : JoinD) : (joinCells k).all (·.oneCell') = true := by simp [joinCells, Value.oneCell']
theorem skeyCells_one (k : SkeyD) : (skeyCells k).all (·.oneCell') = true := by simp [skeyCells, Value.oneCell']
theorem entCells_one (k : EntD) : (entCells k).all (·.oneCell') = true := by simp [entCells, Value.oneCell']
theorem jwkCells_one (k : JwkD) : (jwkCells k).all (·.oneCell') = true := by simp [jwkCells, Value.oneCell']
theorem bunCells_one (k : BunD) : (bunCells k).all (·.oneCell') = true := by simp [bunCells, Value.oneCell']
theorem strCell_one (k : ByteArray) : (strCell k).all (·.oneCell') = true := by simp [strCell, Value.oneCell']
theorem nodeT_size : (Tryd.prog.info? 40).map (·.size) = some 5 := by kernel_rfl
theorem joinT_size : (Tryd.prog.info? 38).map (·.size) = some 4 := by kernel_rfl
theorem skeyT_size : (Tryd.prog.info? 42).map (·.size) = some 4 := by kernel_rfl
theorem entT_size : (Tryd.prog.info? 36).map (·.size) = some 5 := by kernel_rfl
theorem bunT_size : (Tryd.prog.info? 45).map (·.size) = some 3 := by kernel_rfl
theorem jwkT_size : (Tryd.prog.info? 77).map (·.size) = some 2 := by kernel_rfl
theorem ledT_size : (Tryd.prog.info? 33).map (·.size) = some 6 := by kernel_rfl
theorem opT_size : (Tryd.prog.info? 47).map (·.size) = some 24 := by kernel_rfl
theorem sl_nodes : SlT Tryd.prog 27 40 5 64 := SlT.mk1 (z := .agg #[.string ⟨#[]⟩, .string ⟨#[]⟩, .int .i64 0, .int .i64 0, .string ⟨#[]⟩]) Tryd.underlying27 (by kernel_rfl) rfl (by decide)
theorem sl_joins : SlT Tryd.prog 29 38 4 48 := SlT.mk1 (z := .agg #[.string ⟨#[]⟩, .string ⟨#[]⟩, .int .i64 0, .bool false]) Tryd.underlying29 (by kernel_rfl) rfl (by decide)
theorem sl_skeys : SlT Tryd.prog 30 42 4 48 := SlT.mk1 (z := .agg #[.string ⟨#[]⟩, .string ⟨#[]⟩, .int .i64 0, .int .i64 0]) Tryd.underlying30 (by kernel_rfl) rfl (by decide)
theorem sl_ents : SlT Tryd.prog 26 36 5 72 := SlT.mk1 (z := .agg #[.int .i64 0, .string ⟨#[]⟩, .string ⟨#[]⟩, .int .i64 0, .slice none 0 0]) Tryd.underlying26 (by kernel_rfl) rfl (by decide)
theorem sl_buns : SlT Tryd.prog 31 45 3 48 := SlT.mk1 (z := .agg #[.string ⟨#[]⟩, .int .i64 0, .slice none 0 0]) Tryd.underlying31 (by kernel_rfl) rfl (by decide)
theorem sl_jwks : SlT Tryd.prog 43 77 2 32 := SlT.mk1 (z := .agg #[.string ⟨#[]⟩, .string ⟨#[]⟩]) Tryd.underlying43 (by kernel_rfl) rfl (by decide)
theorem sl_strz : SlT Tryd.prog 28 9 1 16 := SlT.mk1 (z := .string ⟨#[]⟩) Tryd.underlying28 (by kernel_rfl) rfl (by decide)
structure Sl (α : Type) where
  A : Option Addr
  c : Nat
  l : List α
def Sl.v {α : Type} (s : Sl α) : Value := .slice s.A s.l.length s.c
def Sl.nil {α : Type} : Sl α := ⟨none, 0, []⟩
structure LedD where
  ents : Sl EntD
  nodes : Sl NodeD
  bans : Sl ByteArray
  joins : Sl JoinD
  keys : Sl SkeyD
  buns : Sl BunD
def ledCells (d : LedD) : Array Value := #[d.ents.v, d.nodes.v, d.bans.v, d.joins.v, d.keys.v, d.buns.v]
def zLed : LedD := ⟨.nil, .nil, .nil, .nil, .nil, .nil⟩
theorem ledCells_one (d : LedD) : (ledCells d).all (·.oneCell') = true := by simp [ledCells, Sl.v, Value.oneCell']
structure Sl.Ok {α : Type} (w : World) (t : TypeId) (f : α → Array Value) (K : Nat) (s : Sl α) : Prop where
  row : Row w w.heap.size t s.A (rowsV f s.l)
  len : s.l.length ≤ K
  cap : s.l.length ≤ s.c
structure Sl.Own {α : Type} (w : World) (base : Nat) (t : TypeId) (m : Nat) (f : α → Array Value) (K : Nat) (s : Sl α) : Prop where
  own : OwnR w base t m s.A s.c s.l.length (rowsV f s.l)
  len : s.l.length ≤ K
theorem Sl.Own.ok {α : Type} {w : World} {base : Nat} {t : TypeId} {m : Nat} {f : α → Array Value} {K : Nat} {s : Sl α} (h : s.Own w base t m f K) : s.Ok w t f K := ⟨h.own.row, h.len, h.own.cap⟩
def EntOk (w : World) (x : EntD) : Prop := x.sn ≤ x.sc ∧ x.sn ≤ 1000 ∧ ∃ l : List ByteArray, l.length = x.sn ∧ Row w w.heap.size 9 x.sA (rowsV strCell l)
def BunOk (w : World) (x : BunD) : Prop := x.kn ≤ x.kc ∧ x.kn ≤ 1000 ∧ ∃ l : List JwkD, l.length = x.kn ∧ Row w w.heap.size 77 x.kA (rowsV jwkCells l)
structure LedOk (w : World) (K : Nat) (d : LedD) : Prop where
  ents : d.ents.Ok w 36 entCells K
  nodes : d.nodes.Ok w 40 nodeCells K
  bans : d.bans.Ok w 9 strCell K
  joins : d.joins.Ok w 38 joinCells K
  keys : d.keys.Ok w 42 skeyCells K
  buns : d.buns.Ok w 45 bunCells K
  entOk : ∀ x ∈ d.ents.l, EntOk w x
  bunOk : ∀ x ∈ d.buns.l, BunOk w x
section
variable {w w' : World} {K : Nat} {d : LedD}
theorem Sl.Ok.grow {α : Type} {t : TypeId} {f : α → Array Value} {s : Sl α} (h : s.Ok w t f K) (hb : Below w.heap.size w w') : s.Ok w' t f K := ⟨h.row.grow hb, h.len, h.cap⟩
theorem Sl.Ok.keep {α : Type} {t e : TypeId} {f : α → Array Value} {s : Sl α} (h : s.Ok w t f K) (hk : KeepBut e w w') (ht : t ≠ e) : s.Ok w' t f K := ⟨(h.row.keep hk ht).mono hk.1, h.len, h.cap⟩
theorem Sl.Ok.more {α : Type} {t : TypeId} {f : α → Array Value} {s : Sl α} {K' : Nat} (h : s.Ok w t f K) (hk : K ≤ K') : s.Ok w t f K' := ⟨h.row, Nat.le_trans h.len hk, h.cap⟩
theorem Sl.Ok.nil {α : Type} (w : World) (t : TypeId) (f : α → Array Value) (K : Nat) : (Sl.nil : Sl α).Ok w t f K := ⟨Row.nil _ _ _ _, Nat.zero_le _, Nat.zero_le _⟩
theorem EntOk.grow {x : EntD} (h : EntOk w x) (hb : Below w.heap.size w w') : EntOk w' x := by
  obtain ⟨h1, h2, l, h3, h4⟩ := h
  exact ⟨h1, h2, l, h3, h4.grow hb⟩
theorem EntOk.keep {e : TypeId} {x : EntD} (h : EntOk w x) (hk : KeepBut e w w') (ht : 9 ≠ e) : EntOk w' x := by
  obtain ⟨h1, h2, l, h3, h4⟩ := h
  exact ⟨h1, h2, l, h3, (h4.keep hk ht).mono hk.1⟩
theorem BunOk.grow {x : BunD} (h : BunOk w x) (hb : Below w.heap.size w w') : BunOk w' x := by
  obtain ⟨h1, h2, l, h3, h4⟩ := h
  exact ⟨h1, h2, l, h3, h4.grow hb⟩
theorem BunOk.keep {e : TypeId} {x : BunD} (h : BunOk w x) (hk : KeepBut e w w') (ht : 77 ≠ e) : BunOk w' x := by
  obtain ⟨h1, h2, l, h3, h4⟩ := h
  exact ⟨h1, h2, l, h3, (h4.keep hk ht).mono hk.1⟩
theorem LedOk.grow (h : LedOk w K d) (hb : Below w.heap.size w w') : LedOk w' K d :=
  ⟨h.ents.grow hb, h.nodes.grow hb, h.bans.grow hb, h.joins.grow hb, h.keys.grow hb, h.buns.grow hb, fun x hx => (h.entOk x hx).grow hb, fun x hx => (h.bunOk x hx).grow hb⟩
theorem LedOk.more {K' : Nat} (h : LedOk w K d) (hk : K ≤ K') : LedOk w K' d :=
  ⟨h.ents.more hk, h.nodes.more hk, h.bans.more hk, h.joins.more hk, h.keys.more hk, h.buns.more hk, h.entOk, h.bunOk⟩
theorem LedOk.box (h : LedOk w K d) (hk : KeepBut 33 w w') : LedOk w' K d :=
  ⟨h.ents.keep hk (by decide), h.nodes.keep hk (by decide), h.bans.keep hk (by decide), h.joins.keep hk (by decide), h.keys.keep hk (by decide), h.buns.keep hk (by decide), fun x hx => (h.entOk x hx).keep hk (by decide), fun x hx => (h.bunOk x hx).keep hk (by decide)⟩
theorem zLed_ok (w : World) : LedOk w 0 zLed := ⟨.nil _ _ _ _, .nil _ _ _ _, .nil _ _ _ _, .nil _ _ _ _, .nil _ _ _ _, .nil _ _ _ _, fun x hx => (by cases hx), fun x hx => (by cases hx)⟩
end
end Go.Proofs.YtilhhigdegccgaaDoor
/-
  Walks: the reference's Selector, Has, Same (some answer each; Has: whether it is there).
-/
namespace Go.Proofs.YtilhhigdegccgaaDoor
set_option linter.unusedSimpArgs false
set_option linter.unusedVariables false
open Go.RowKit
theorem rowsV_str (l : List ByteArray) : rowsV strCell l = l.map Value.string := by
  induction l with
  | nil => rfl
  | cons x r ih => rw [show rowsV strCell (x :: r) = (strCell x).toList ++ rowsV strCell r by simp [rowsV], ih]; rfl
set_option maxHeartbeats 1000000 in
theorem selector9_any (s : ByteArray) (hs : s.size ≤ 1000) (w : World) : Calls Tryd.prog 72 #[.string s] w (SomeB w) := by
  have hs' : (s.size : Int) ≤ 1000 := by omega
  have CO := Lib.hid (fun (u t : ByteArray) (n : Int) (hu : u.size ≤ 1000) (ht : t.size ≤ 1000) => of9_any u t n hu ht w)
  go_enter Tryd.func72, Tryd.ntmps72
  go_wp2_with fail
  go_loop [3] (fun i => ∃ k : Nat, k ≤ s.size ∧ i = .int .i64 (k : Int)) (fun i => s.size - (intOf i).toNat)
  case atStart => exact ⟨0, by omega, rfl⟩
  case round =>
    obtain ⟨k, hk, rfl⟩ := hrel
    by_cases hlt : k < s.size
    · have l2 : decide ((k : Int) < (s.size : Int)) = true := by simp; omega
      have l2' : (k : Int) < (s.size : Int) := by omega
      by_cases hq : ((s[k].toNat : Nat) : Int) = 58
      · have l3 : ((k : Int) == (s.size : Int)) = false := by simp; omega
        have l4 : ¬ (k : Int) = (s.size : Int) := by omega
        have HW : (s.extract 0 k).size ≤ 1000 := by simp; omega
        have i1 : (k : Int) + 1 ≤ (s.size : Int) := by omega
        have HV : (s.extract (k + 1) s.size).size ≤ 1000 := by simp; omega
        go_wp2_with fail
        refine calls_then (CO.out _ _ _ HW (by decide)) ?_
        rintro e w' ⟨⟨b, rfl, _⟩, rfl⟩
        generalize s.extract 0 k = u0 at *
        go_wp2_with fail
        generalize hv : s.extract (k + 1) s.size = v at *
        have hv' : (v.size : Int) ≤ 1000 := by omega
        clear hv
        go_loop [6] (fun i => ∃ j : Nat, j ≤ v.size ∧ i = .int .i64 (j : Int)) (fun i => v.size - (intOf i).toNat)
        case atStart => exact ⟨0, by omega, rfl⟩
        case round =>
          obtain ⟨j, hj, rfl⟩ := hrel
          by_cases hlj : j < v.size
          · by_cases c1 : ((v[j].toNat : Nat) : Int) < 33
            · have e1 : decide (((v[j].toNat : Nat) : Int) < 33) = true := by simpa using c1
              go_wp2_with fail
              go_ret
              exact ⟨⟨_, rfl⟩, rfl⟩
            · have e1 : decide (((v[j].toNat : Nat) : Int) < 33) = false := by simpa using c1
              by_cases c2 : (126 : Int) < ((v[j].toNat : Nat) : Int)
              · go_wp2_with fail
                go_ret
                exact ⟨⟨_, rfl⟩, rfl⟩
              · go_wp2_with fail
                go_round
                case rel => exact ⟨j + 1, by omega, by go_num⟩
                case measure => simp [intOf]; omega
          · cases b with
            | false =>
              go_wp2_with fail
              go_ret
              exact ⟨⟨_, rfl⟩, rfl⟩
            | true =>
              by_cases c1 : (1 : Int) ≤ (v.size : Int)
              · have e1 : decide ((1 : Int) ≤ (v.size : Int)) = true := by simpa using c1
                go_wp2_with fail
                go_ret
                exact ⟨⟨_, rfl⟩, rfl⟩
              · have e1 : decide ((1 : Int) ≤ (v.size : Int)) = false := by simpa using c1
                go_wp2_with fail
                go_ret
                exact ⟨⟨_, rfl⟩, rfl⟩
      · go_wp2_with fail
        go_round
        case rel => exact ⟨k + 1, by omega, by go_num⟩
        case measure => simp [intOf]; omega
    · obtain rfl : k = s.size := by omega
      go_wp2_with fail
      go_ret
      exact ⟨⟨_, rfl⟩, rfl⟩
end Go.Proofs.YtilhhigdegccgaaDoor
/-
  Walks: the reference's Same, Set.
-/
namespace Go.Proofs.YtilhhigdegccgaaDoor
set_option linter.unusedSimpArgs false
set_option linter.unusedVariables false
open Go.RowKit
set_option maxHeartbeats 1000000 in
theorem same9_some (A1 A2 : Option Addr) (c1 c2 B : Nat) (a b : List ByteArray) (w : World) (h1 : Rd w B A1 (a.map Value.string)) (h2 : Rd w B A2 (b.map Value.string)) (hm1 : a.length ≤ 1000) (hm2 : b.length ≤ 1000) :
    Calls Tryd.prog 53 #[.slice A1 a.length c1, .slice A2 b.length c2] w fun e w' => (∃ r : Bool, e = .returned (.bool r)) ∧ ∃ n, w' = w.drewN n := by
  by_cases hl : a.length = b.length
  · have hlb : ((a.length : Int) != (b.length : Int)) = false := by simp [hl]
    have HL := Lib.hid hl
    clear hl
    go_enter Tryd.func53, Tryd.ntmps53
    go_wp2_with fail
    go_loopw [5] (fun i wr => ∃ k : Nat, k ≤ a.length ∧ i = .int .i64 k ∧ ∃ n, wr = w.drewN n) (fun i _ => a.length - (intOf i).toNat)
    case atStart => exact ⟨0, Nat.zero_le _, rfl, 0, rfl⟩
    case round =>
      obtain ⟨k, hk, rfl, n, rfl⟩ := hrel
      by_cases hlt : k < a.length
      · have hltb : k < b.length := by have := HL.out; omega
        obtain ⟨ad1, rfl, _, hc1⟩ := h1.at_ (k := k) (by simp; omega)
        obtain ⟨ad2, rfl, _, hc2⟩ := h2.at_ (k := k) (by simp; omega)
        simp only [List.getElem_map] at hc1 hc2
        have hk1 : (0 : Int) ≤ (k : Int) := by omega
        have hk2 : (k : Int) < (a.length : Int) := by omega
        have hk3 : (k : Int) < (b.length : Int) := by omega
        go_wp2_with fail
        go_quiet (fail)
        go_wp2_with fail
        · go_ret
          exact ⟨⟨_, rfl⟩, _, World.drewN_drewN _ _ _⟩
        · go_roundw
          case rel => exact ⟨k + 1, hlt, by go_num, _, rfl⟩
          case measure => simp [intOf]; omega
      · go_wp2_with fail
        go_ret
        exact ⟨⟨_, rfl⟩, _, rfl⟩
  · have hlb : ((a.length : Int) != (b.length : Int)) = true := by simp; omega
    clear hl
    go_enter Tryd.func53, Tryd.ntmps53
    go_wp2_with fail
    go_ret
    exact ⟨⟨_, rfl⟩, 0, rfl⟩
end Go.Proofs.YtilhhigdegccgaaDoor
