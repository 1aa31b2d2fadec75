/-
  Laws of my own: rows of structs that the call owns and may write to.
-/
import Derived.Test.YtcfbnjaelniahaaRwz
import Derived.Maps.AppendAt
namespace Go.Proofs.Ytcfbnjaelniahaa
set_option linter.unusedSimpArgs false
set_option linter.unusedVariables false
open Go.RowKit

/-- a row that the call owns and may write to -/
def OwnR (w : World) (base : Nat) (e : TypeId) (size : Nat) (A : Option Addr) (c : Nat) (n : Nat) (xs : List Value) : Prop := w.ownsRow base e size (.slice A n c) n xs
section
variable {w w' : World} {base : Nat} {e : TypeId} {size : Nat} {A : Option Addr} {c n : Nat} {xs : List Value}
theorem OwnR.x (h : OwnR w base e size A c n xs) : OwnX w base e size (.slice A n c) n xs := .of h
theorem OwnR.nil (w : World) (base : Nat) (e : TypeId) (size : Nat) : OwnR w base e size none 0 0 [] := ⟨by simp, .inl ⟨rfl, rfl⟩⟩
theorem OwnR.cap (h : OwnR w base e size A c n xs) : n ≤ c := by
  rcases h.2 with ⟨h1, h2⟩ | ⟨g, cap, cur, h1, h2, h3, h4, h5, h6, h7⟩
  · omega
  · injection h1 with e1 e2 e3
    omega
theorem OwnR.capm (h : OwnR w base e size A c n xs) : c ≤ maxLen := by
  rcases h.2 with ⟨h1, h2⟩ | ⟨g, cap, cur, h1, h2, h3, h4, h5, h6, h7⟩
  · injection h1 with e1 e2 e3
    unfold maxLen
    omega
  · injection h1 with e1 e2 e3
    omega
theorem OwnR.lt (h : OwnR w base e size A c n xs) : ∀ k, (Value.slice A n c).ownBlock = some k → base ≤ k ∧ k < w.heap.size := h.x.lt
theorem OwnR.mono {base' : Nat} (h : OwnR w base e size A c n xs) (hb : base' ≤ base) : OwnR w base' e size A c n xs := by
  refine ⟨h.1, ?_⟩
  rcases h.2 with h0 | ⟨g, cap, cur, h1, h2, h3⟩
  · exact .inl h0
  · exact .inr ⟨g, cap, cur, h1, by omega, h3⟩
theorem OwnR.heap (h : OwnR w base e size A c n xs) (hk : ∀ k cs, w.heap[k]? = some (.cells cs e (0, 0)) → base ≤ k → w'.heap[k]? = some (.cells cs e (0, 0))) : OwnR w' base e size A c n xs := by
  refine ⟨h.1, ?_⟩
  rcases h.2 with h0 | ⟨g, cap, cur, h1, h2, h3, h4⟩
  · exact .inl h0
  · exact .inr ⟨g, cap, cur, h1, h2, hk _ _ h3 h2, h4⟩
theorem OwnR.keep {f : TypeId} (h : OwnR w base e size A c n xs) (hk : KeepBut f w w') (ht : e ≠ f) : OwnR w' base e size A c n xs := h.heap fun k cs h1 _ => heap_keep hk ht h1
theorem OwnR.alloc (h : OwnR w base e size A c n xs) (o : Obj) : OwnR (w.alloc o) base e size A c n xs := h.heap fun k cs h1 _ => (Below.heap_alloc w o k (Array.getElem?_eq_some_iff.1 h1).1).trans h1
theorem OwnR.below (h : OwnR w base e size A c n xs) (hb : Below w.heap.size w w') : OwnR w' base e size A c n xs := h.heap fun k cs h1 _ => (hb.block k (Array.getElem?_eq_some_iff.1 h1).1).trans h1
theorem OwnR.row (h : OwnR w base e size A c n xs) : Row w w.heap.size e A xs := .of_own h.x
end
theorem KeepBut.refl (e : TypeId) (w : World) : KeepBut e w w := ⟨Nat.le_refl _, fun _ _ _ _ _ h => h⟩
theorem KeepBut.trans {e : TypeId} {a b c : World} (h : KeepBut e a b) (h' : KeepBut e b c) : KeepBut e a c := ⟨Nat.le_trans h.1 h'.1, fun k cs t fz ht hk => h'.2 k cs t fz ht (h.2 k cs t fz ht hk)⟩
theorem KeepBut.of_below {e : TypeId} {a b : World} (h : Below a.heap.size a b) : KeepBut e a b := ⟨h.size, fun k cs t fz _ hk => (h.block k (Array.getElem?_eq_some_iff.1 hk).1).trans hk⟩
theorem KeepBut.of_wrote {e : TypeId} {a b : World} {g : Nat} {cs : Array Value} (h : Wrote g a b) (hb : Blk a g e cs) : KeepBut e a b := ⟨h.grown.size, fun k cs' t fz ht hk => by
  refine (h.grown.block k (Array.getElem?_eq_some_iff.1 hk).1 (fun hg => ?_)).trans hk
  injection hg with hg
  subst hg
  unfold Blk at hb
  rw [hb] at hk
  injection hk with hk
  injection hk with h1 h2
  exact ht h2.symm⟩
section
variable {P : Program}
/-- 'append(s, x...)', x a row that reads. -/
theorem run_append_r {w : World} {t ty e : TypeId} {size bytes : Nat} (T : SlT P t e size bytes) {base n c : Nat} {A : Option Addr} {xs : List Value} (hown : OwnR w base e size A c n xs)
    {Ad : Option Addr} {m cx : Nat} {news : List Value} (hl : news.length = m * size) (hnews : ∀ j u, news[j]? = some u → ∃ ad, Ad = some ad ∧ w.cell? (ad.add j) = some u) (h1 : ∀ u ∈ news, u.oneCell' = true)
    (h63 : n + m ≤ maxLen) (hbytes : (n + m) * bytes ≤ 140737488355328) (hbase : base ≤ w.heap.size) :
    ∃ A' c' w', (Builtin.append_ #[t, t] ty #[.slice A n c, .slice Ad m cx]).run P w = .ok (.slice A' (n + m) c') w' ∧ OwnR w' base e size A' c' (n + m) (xs ++ news) ∧ w.grownBy w' (Value.slice A n c).ownBlock ∧ Next w (.slice A n c) (.slice A' (n + m) c') := by
  obtain ⟨i, z, hi, hz, hsz, hby, hzs⟩ := T.info
  by_cases hm : m = 0
  · subst hm
    have hnn : news = [] := List.eq_nil_of_length_eq_zero (by simpa using hl)
    subst hnn
    have hcap := hown.cap
    refine ⟨A, c, w, ?_, by simpa using hown, World.grownBy.refl _ _, .inl rfl⟩
    rcases hown.2 with ⟨h1, h2⟩ | ⟨g, cap, cur, h1, h2, h3, h4, h5, h6, h7⟩
    · injection h1 with e1 e2 e3
      subst e1 e2 e3
      cases Ad <;> simp [Builtin.append_, run_underlying T.und, sizeOf, typeInfo, hi, Builtin.lenOf, Builtin.firstCells, loadCells, loadCellsFrom]
    · injection h1 with e1 e2 e3
      subst e1 e3
      cases Ad <;> simp [Builtin.append_, run_underlying T.und, sizeOf, typeInfo, hi, Builtin.lenOf, Builtin.firstCells, loadCells, loadCellsFrom, hcap, storeCells]
  · have hpos : 0 < news.length := by rw [hl]; exact Nat.mul_pos (by omega) T.pos
    obtain ⟨ad, rfl, _⟩ := hnews 0 _ (List.getElem?_eq_getElem hpos)
    have hcells : ∀ j u, news[j]? = some u → w.cell? (ad.add j) = some u := fun j u hu => by
      obtain ⟨ad', he, hc⟩ := hnews j u hu
      injection he with he
      subst he
      exact hc
    obtain ⟨v', w', hr, h2, h3, _, h5⟩ := run_append_own_at (P := P) w base t ty e i z size bytes T.und hi hz hsz hby hzs T.pos (.slice A n c) n xs hown ad m cx news hl hcells h1 h63 hbytes hbase
    have hn : Next w (.slice A n c) v' := by
      rcases h5 with h5 | h5
      · exact .inl h5
      · exact .inr fun k hk => by rw [h5] at hk; simp at hk; omega
    have hv : ∃ A' c', v' = .slice A' (n + m) c' := by
      rcases h2.2 with ⟨_, h0⟩ | ⟨g, cap, cur, rfl, _⟩
      · omega
      · exact ⟨_, _, rfl⟩
    obtain ⟨A', c', rfl⟩ := hv
    exact ⟨A', c', w', hr, h2, h3, hn⟩
theorem wpList_append_r {w : World} {ops : Array Oper} {rest : List Oper} {o : Oper} {a : Act} {Q : Exit → Act → World → Prop} {sl x : Operand} {t e : TypeId} {size bytes : Nat} (T : SlT P t e size bytes)
    (hgd : o.guard = none) (ho : o.op = .call { callee := .builtin .append, args := #[sl, x], argTypes := #[t, t] })
    {base n c B : Nat} {A : Option Addr} {xs : List Value} {Ad : Option Addr} {m cx : Nat} {news : List Value} (hown : OwnR w base e size A c n xs) (hs : a.eval sl = .slice A n c) (hx : a.eval x = .slice Ad m cx)
    (hl : news.length = m * size) (hr : Rd w B Ad news) (h1 : ∀ u ∈ news, u.oneCell' = true)
    (h63 : n + m ≤ maxLen) (hbytes : (n + m) * bytes ≤ 140737488355328) (hbase : base ≤ w.heap.size)
    (h : ∀ A' c' w', OwnR w' base e size A' c' (n + m) (xs ++ news) → w.grownBy w' (Value.slice A n c).ownBlock → Next w (.slice A n c) (.slice A' (n + m) c') → wpList P ops Q rest (a.put o.dst (.slice A' (n + m) c')) w') :
    wpList P ops Q (o :: rest) a w := by
  obtain ⟨A', c', w', hrun, h2, h3, h4⟩ := run_append_r (ty := o.type) (cx := cx) T hown hl (fun j u hu => by
    obtain ⟨ad, h1, _, h3⟩ := hr j u hu
    exact ⟨ad, h1, h3⟩) h1 h63 hbytes hbase
  refine wpList_of_append (R := fun v' w1 => v' = .slice A' (n + m) c' ∧ w1 = w') hgd ho hs hx ⟨_, _, hrun, rfl, rfl⟩ ?_
  rintro v' w1 ⟨rfl, rfl⟩
  exact h _ _ _ h2 h3 h4
/-- 'append(s, x)': the one struct lies in a block that was just laid. -/
theorem wpList_append_r1 {w0 : World} {ys : List Value} {ops : Array Oper} {rest : List Oper} {o : Oper} {a : Act} {Q : Exit → Act → World → Prop} {s x : Operand} {t e : TypeId} {size bytes : Nat} (T : SlT P t e size bytes)
    (hgd : o.guard = none) (ho : o.op = .call { callee := .builtin .append, args := #[s, x], argTypes := #[t, t] })
    {base n c ad : Nat} {A : Option Addr} {xs : List Value} (hown : OwnR w0 base e size A c n xs) (hs : a.eval s = .slice A n c) (hx : a.eval x = .slice (some ⟨ad, 0, none⟩) 1 1) (had : ad = w0.heap.size) (hm : ys.length = size)
    (hy : ∀ u ∈ ys, u.oneCell' = true)
    (h63 : n + 1 ≤ maxLen) (hbytes : (n + 1) * bytes ≤ 140737488355328) (hbase : base ≤ w0.heap.size)
    (h : ∀ A' c' w', OwnR w' base e size A' c' (n + 1) (xs ++ ys) → w0.grownBy w' (Value.slice A n c).ownBlock → Next w0 (.slice A n c) (.slice A' (n + 1) c') → wpList P ops Q rest (a.put o.dst (.slice A' (n + 1) c')) w') :
    wpList P ops Q (o :: rest) a (w0.alloc (.cells ys.toArray e)) := by
  subst had
  obtain ⟨A', c', w', hrun, h2, h3, h4⟩ := run_append_r (ty := o.type) (cx := 1) (Ad := some ⟨w0.heap.size, 0, none⟩) T (hown.alloc (.cells ys.toArray e)) (news := ys) (m := 1) (by omega) (fun j u hu => ⟨_, rfl, by
    have hadd : (⟨w0.heap.size, 0, none⟩ : Addr).add j = ⟨w0.heap.size, j, none⟩ := by unfold Addr.add; split <;> simp_all
    rw [hadd, cell_of_row _ _ _ _ _ (0, 0) (heap_alloc_new w0 _)]
    simpa using hu⟩) hy h63 hbytes (by simp; omega)
  refine wpList_of_append (R := fun v' w1 => v' = .slice A' (n + 1) c' ∧ w1 = w') hgd ho hs hx ⟨_, _, hrun, rfl, rfl⟩ ?_
  rintro v' w1 ⟨rfl, rfl⟩
  exact h _ _ _ h2 ((World.grownBy_alloc w0 _ _).trans h3) (h4.back (by simp))
end
end Go.Proofs.Ytcfbnjaelniahaa
