/-
  Joined texts: Box.
-/
import Derived.Laws.Rows
import Derived.Laws.Tables
import Derived.Lib.SmallJoins
import Derived.Test.YtpfnigndhkcknaaGreatDoorJ1
/-
  Laws of my own on structs that lie in a block of the call's own: whole and field by field; a result that is such a struct.
-/
namespace Go.Proofs.YtpfnigndhkcknaaGreatDoor
set_option linter.unusedSimpArgs false
set_option linter.unusedVariables false
open Go.RowKit
def Blk (w : World) (g : Nat) (t : TypeId) (cs : Array Value) : Prop := w.heap[g]? = some (.cells cs t (0, 0))
section
variable {w w' : World} {g : Nat} {t : TypeId} {cs : Array Value}
theorem Blk.lt (h : Blk w g t cs) : g < w.heap.size := (Array.getElem?_eq_some_iff.1 h).1
theorem Blk.cell (h : Blk w g t cs) (i : Nat) : w.cell? ⟨g, i, none⟩ = cs[i]? := cell_of_row w g i cs t (0, 0) h
theorem Blk.free (h : Blk w g t cs) (i : Nat) : w.frozen? ⟨g, i, none⟩ = false := by
  unfold Blk at h
  simp [World.frozen?, h]
theorem Blk.new (w : World) (t : TypeId) (cs : Array Value) : Blk (w.alloc (.cells cs t)) w.heap.size t cs := heap_alloc_new w _
theorem Blk.alloc (h : Blk w g t cs) (o : Obj) : Blk (w.alloc o) g t cs := (Below.heap_alloc w o g h.lt).trans h
theorem Blk.below {B : Nat} (h : Blk w g t cs) (hb : Below B w w') (hg : g < B) : Blk w' g t cs := (hb.block g hg).trans h
theorem Blk.grown {row : Option Nat} (h : Blk w g t cs) (hb : w.grownBy w' row) (hg : some g ≠ row) : Blk w' g t cs := (hb.block g h.lt hg).trans h
theorem Blk.keep {e : TypeId} (h : Blk w g t cs) (hk : KeepBut e w w') (hne : t ≠ e) : Blk w' g t cs := heap_keep hk hne h
theorem Blk.alloc1 (h : Blk w g t cs) (hk : Alloc1 w w') : Blk w' g t cs := heap_alloc1 hk h
theorem own_ne_blk {B : Nat} {e : TypeId} {s n : Nat} {v : Value} {xs : List Value} (ho : OwnX w B e s v n xs) (h : Blk w g t cs) (hne : t ≠ e) : v.ownBlock ≠ some g := by
  intro hb
  rcases ho.2 with ⟨rfl, _⟩ | ⟨g', cap, cur, fz, rfl, _, hgg, _⟩
  · simp [Value.ownBlock] at hb
  · simp [Value.ownBlock] at hb
    subst hb
    unfold Blk at h
    rw [hgg] at h
    simp at h
    exact hne h.2.1.symm
end
theorem Rd.of_blk {w : World} {g B : Nat} {t : TypeId} {l : List Value} (h : Blk w g t l.toArray) (hB : g < B) : Rd w B (some ⟨g, 0, none⟩) l := fun i u hu => by
  refine ⟨_, rfl, hB, ?_⟩
  have hadd : (⟨g, 0, none⟩ : Addr).add i = ⟨g, i, none⟩ := by unfold Addr.add; split <;> simp_all
  rw [hadd, h.cell i]
  simpa using hu
structure Wrote (g : Nat) (w w' : World) : Prop where
  grown : w.grownBy w' (some g)
  size : w'.heap.size = w.heap.size
theorem Wrote.below {B g : Nat} {a w w' : World} (h : Wrote g w w') (hb : Below B a w) (hg : B ≤ g) (hB : B ≤ w.heap.size) : Below B a w' := hb.grown h.grown hB fun k hk => by injection hk with hk; omega
theorem Wrote.own {g : Nat} {w w' : World} {B : Nat} {e : TypeId} {s n : Nat} {v : Value} {xs : List Value} (h : Wrote g w w') (ho : OwnX w B e s v n xs) (hne : v.ownBlock ≠ some g) : OwnX w' B e s v n xs := ho.kept h.grown (.inr hne)
theorem Wrote.blk {g g' : Nat} {w w' : World} {t : TypeId} {cs : Array Value} (h : Wrote g w w') (hb : Blk w g' t cs) (hne : g' ≠ g) : Blk w' g' t cs := hb.grown h.grown (by simpa using hne)
theorem wrote_setRow (w : World) (g : Nat) (cs : Array Value) : Wrote g w (w.setRow g cs) :=
  ⟨⟨rfl, rfl, rfl, by simp, fun k _ hk => setRow_other w g k _ (fun e => hk (by rw [e]))⟩, by simp⟩
section
variable {P : Program}
theorem wpList_put_box {w : World} {ops : Array Oper} {rest : List Oper} {o : Oper} {a : Act} {Q : Exit → Act → World → Prop} {ty : TypeId} {x y : Operand} {g : Nat} {cells old : Array Value} {t : TypeId}
    (hg : Blk w g t old) (hgd : o.guard = none) (ho : o.op = .store ty x y) (hx : a.eval x = .pointer (some ⟨g, 0, none⟩)) (hy : a.eval y = .agg cells)
    (hi : (P.info? ty).map (·.size) = some cells.size) (hold : old.size = cells.size) (h1 : cells.all (·.oneCell') = true)
    (h : ∀ w', Blk w' g t cells → Wrote g w w' → wpList P ops Q rest (a.put o.dst undef) w') : wpList P ops Q (o :: rest) a w :=
  wpList_store_row hgd ty x y ho g cells hx hy t old hg hi hold h1 (h _ (setRow_heap w g old cells t (0, 0) hg) (wrote_setRow w g cells))
theorem wpList_get_box {w : World} {ops : Array Oper} {rest : List Oper} {o : Oper} {a : Act} {Q : Exit → Act → World → Prop} {ty : TypeId} {x : Operand} {g : Nat} {cs : Array Value} {t : TypeId} {d : TypeDesc}
    (hg : Blk w g t cs) (hgd : o.guard = none) (ho : o.op = .load ty x) (hx : a.eval x = .pointer (some ⟨g, 0, none⟩))
    (hu : P.underlying ty = some d) (hd : (match d with | .struct _ | .array _ _ => true | _ => false) = true) (hi : (P.info? ty).map (·.size) = some cs.size)
    (h : wpList P ops Q rest (a.put o.dst (.agg cs)) w) : wpList P ops Q (o :: rest) a w :=
  wpList_load_row hgd ty x ho g hx t cs (0, 0) d hg hu hd hi h
theorem results_box {fn : Func} {p : Tmp} {ty : TypeId} (h : fn.results = #[.cell p ty]) {tmps : Array Value} {w : World} {g : Nat} {cs : Array Value} {t : TypeId} {d : TypeDesc} (hp : tmps.getD p undef = .pointer (some ⟨g, 0, none⟩))
    (hg : Blk w g t cs) (hu : P.underlying ty = some d) (hd : (match d with | .struct _ | .array _ _ => true | _ => false) = true) (hi : (P.info? ty).map (·.size) = some cs.size) :
    (results fn tmps).run P w = .ok (.agg cs) w := by
  have hl := run_loadVar_row (P := P) w g t ty cs (0, 0) d hg hu hd hi
  have hp' : tmps[p]?.getD undef = .pointer (some ⟨g, 0, none⟩) := by simpa using hp
  simp only [results, h]
  simp [Sem.run_bind, Result.andThen, hp', asAddr, hl]
theorem results_box_tmp {fn : Func} {p u : Tmp} {ty : TypeId} (h : fn.results = #[.cell p ty, .tmp u]) {tmps : Array Value} {w : World} {g : Nat} {cs : Array Value} {t : TypeId} {d : TypeDesc} (hp : tmps.getD p undef = .pointer (some ⟨g, 0, none⟩))
    (hg : Blk w g t cs) (hu : P.underlying ty = some d) (hd : (match d with | .struct _ | .array _ _ => true | _ => false) = true) (hi : (P.info? ty).map (·.size) = some cs.size) :
    (results fn tmps).run P w = .ok (.tuple #[.agg cs, tmps.getD u undef]) w := by
  have hl := run_loadVar_row (P := P) w g t ty cs (0, 0) d hg hu hd hi
  have hp' : tmps[p]?.getD undef = .pointer (some ⟨g, 0, none⟩) := by simpa using hp
  simp only [results, h]
  simp [Sem.run_bind, Result.andThen, hp', asAddr, hl]
theorem run_store_cell {w : World} {ty : TypeId} {g i : Nat} {v : Value} {cs : Array Value} {t : TypeId} (hg : Blk w g t cs) (hi : (P.info? ty).map (·.size) = some 1) (hlt : i < cs.size) (h1 : v.oneCell' = true) :
    (storeVar ty ⟨g, i, none⟩ v).run P w = .ok () (w.setRow g (cs.setIfInBounds i v)) := by
  have hc1 : v.cells = #[v] := by cases v <;> first | rfl | simp [Value.oneCell'] at h1
  have hst := run_storeCells_at P g i t [v] 0 cs w hg (by simp; omega) (by intro u hu; simp at hu; subst hu; exact h1)
  cases hq : P.info? ty with
  | none => simp [hq] at hi
  | some j =>
    have hj : j.size = 1 := by simpa [hq] using hi
    have e : (cs.toList.take (i + 0) ++ [v] ++ cs.toList.drop (i + 0 + [v].length)).toArray = cs.setIfInBounds i v := by
      apply Array.ext'
      simp only [Nat.add_zero, List.length_cons, List.length_nil, Array.toList_setIfInBounds]
      rw [List.set_eq_take_append_cons_drop, if_pos (by simpa using hlt)]
      simp
    rw [e] at hst
    simp [storeVar, hc1, sizeOf, typeInfo, hq, hj, hst]
theorem wpList_put_cell {w : World} {ops : Array Oper} {rest : List Oper} {o : Oper} {a : Act} {Q : Exit → Act → World → Prop} {ty : TypeId} {x y : Operand} {g i : Nat} {v : Value} {cs : Array Value} {t : TypeId}
    (hg : Blk w g t cs) (hgd : o.guard = none) (ho : o.op = .store ty x y) (hx : a.eval x = .pointer (some ⟨g, i, none⟩)) (hy : a.eval y = v)
    (hi : (P.info? ty).map (·.size) = some 1) (hlt : i < cs.size) (h1 : v.oneCell' = true)
    (h : ∀ w', Blk w' g t (cs.setIfInBounds i v) → Wrote g w w' → wpList P ops Q rest (a.put o.dst undef) w') : wpList P ops Q (o :: rest) a w := by
  refine wpList_plain hgd fun K hK => ?_
  have hr := run_store_cell (P := P) (ty := ty) hg hi hlt h1
  unfold Oper.wp execOp
  simp only [ho, hx, hy, Instr.storeAt, Instr.sureAddr, Sem.run_bind, Sem.run_pure, Result.andThen_ok, hr]
  exact hK _ _ (h _ (setRow_heap w g cs _ t (0, 0) hg) (wrote_setRow w g _))
end
end Go.Proofs.YtpfnigndhkcknaaGreatDoor
