/-
  Plain: json's reader: the memory of a list that is being read.
-/
import Derived.Test.YtcfbnjaelniahaaJs12
import Derived.Test.YtcfbnjaelniahaaOwr
import Derived.Test.YtcfbnjaelniahaaOpen
import Derived.Defers
namespace Go.Proofs.Ytcfbnjaelniahaa.Js
set_option linter.unusedSimpArgs false
set_option linter.unusedVariables false
open Go.RowKit

theorem sl_strz : SlT Try.prog 22 9 1 16 := SlT.mk1 (z := .string ⟨#[]⟩) Try.underlying22 (by kernel_rfl) rfl (by decide)
theorem sl_jsons : SlT Try.prog 23 25 5 80 := SlT.mk1 (z := .agg #[.int .i64 0, .int .i64 0, .string ⟨#[]⟩, .slice none 0 0, .slice none 0 0]) Try.underlying23 (by kernel_rfl) rfl (by decide)
theorem ownR_blk {w : World} {base : Nat} {e : TypeId} {size : Nat} {A : Option Addr} {c n : Nat} {xs : List Value} (h : OwnR w base e size A c n xs) {g : Nat} (hg : (Value.slice A n c).ownBlock = some g) : ∃ cs, w.heap[g]? = some (.cells cs e (0, 0)) := by
  rcases h.2 with ⟨h1, h2⟩ | ⟨g', cap, cur, h1, h2, h3, h4⟩
  · injection h1 with e1
    subst e1
    simp [Value.ownBlock] at hg
  · injection h1 with e1
    subst e1
    simp [Value.ownBlock] at hg
    subst hg
    exact ⟨_, h3⟩
theorem ownR_rds {w : World} {base : Nat} {e : TypeId} {size : Nat} {A : Option Addr} {c n : Nat} {xs : List Value} (h : OwnR w base e size A c n xs) : RdS w (fun b => base ≤ b) A xs := fun i u hu => by
  obtain ⟨ad, h1, h2, h3⟩ := Rd.of_own h.x (Nat.le_refl _) i u hu
  refine ⟨ad, h1, ?_, h3⟩
  exact (h.lt ad.block (by rw [h1]; rfl)).1
/-- what may lie where the trees of a list's kids lie -/
def KS (G : Nat) (X Y : Value) (b : Nat) : Prop := G + 3 ≤ b ∧ X.ownBlock ≠ some b ∧ Y.ownBlock ≠ some b
/-- list's memory, but for its rows -/
structure LsM (w0 : World) (G r : Nat) (s : ByteArray) (D1 : Int) (T : JV) (u : World) (a1 : Nat) (e1 : Int) : Prop where
  low : r < G
  wg : w0.heap.size = G
  box : Blk u G 53 #[.pointer (some ⟨r, 0, none⟩)]
  res : Blk u (G + 1) 25 (jvCells zJV)
  tree : Blk u (G + 2) 25 (jvCells T)
  rd : RD u r s a1 D1 e1
  rg : RG r w0 u
structure Ls (w0 : World) (G r : Nat) (s : ByteArray) (D1 : Int) (T : JV) (A1 : Option Addr) (c1 : Nat) (ns : List Bs) (A2 : Option Addr) (c2 : Nat) (ks : List JT) (u : World) (a1 : Nat) (e1 : Int) : Prop where
  m : LsM w0 G r s D1 T u a1 e1
  names : OwnR u (G + 3) 9 1 A1 c1 ns.length (rowsV sCell ns)
  kids : ∃ kv : List JV, kv.length = ks.length ∧ OwnR u (G + 3) 25 5 A2 c2 ks.length (rowsV jvCells kv) ∧
    ∀ i (h : i < ks.length) (h' : i < kv.length), JRep u (KS G (.slice A1 ns.length c1) (.slice A2 ks.length c2)) ks[i] kv[i]
section
variable {w0 : World} {G r : Nat} {s : ByteArray} {D1 : Int} {T : JV} {A1 : Option Addr} {c1 : Nat} {ns : List Bs} {A2 : Option Addr} {c2 : Nat} {ks : List JT} {u u' : World} {a1 a' : Nat} {e1 e' : Int}
theorem LsM.step {D2 : Int} (h : LsM w0 G r s D1 T u a1 e1) (hg : RG r u u') (hr : RD u' r s a' D2 e') : LsM w0 G r s D2 T u' a' e' :=
  ⟨h.low, h.wg, h.box.grown hg (by have := h.low; intro h; injection h with h; omega), h.res.grown hg (by have := h.low; intro h; injection h with h; omega), h.tree.grown hg (by have := h.low; intro h; injection h with h; omega), hr, h.rg.trans hg⟩
theorem LsM.new (h : LsM w0 G r s D1 T u a1 e1) (hb : Below u.heap.size u u') : LsM w0 G r s D1 T u' a1 e1 := h.step (.below hb) (h.rd.grow hb)
theorem LsM.drew (h : LsM w0 G r s D1 T u a1 e1) : LsM w0 G r s D1 T u.drew a1 e1 := ⟨h.low, h.wg, h.box, h.res, h.tree, h.rd, grown_drew h.rg⟩
theorem LsM.size (h : LsM w0 G r s D1 T u a1 e1) : G + 3 ≤ u.heap.size := h.tree.lt
/-- a row of the list's own was written, or memory was made -/
theorem LsM.grown {g : Option Nat} (h : LsM w0 G r s D1 T u a1 e1) (hg : u.grownBy u' g) (hb : ∀ k, g = some k → G + 3 ≤ k) : LsM w0 G r s D1 T u' a1 e1 := by
  have hne : ∀ k, k < G + 3 → some k ≠ g := fun k hk he => by have := hb k he.symm; omega
  have hl := h.low
  exact ⟨h.low, h.wg, h.box.grown hg (hne _ (by omega)), h.res.grown hg (hne _ (by omega)), h.tree.grown hg (hne _ (by omega)), Blk.grown h.rd hg (hne _ (by omega)), h.rg.andThen hg (fun j hj => .inl (by have := hb j hj; rw [h.wg]; omega))⟩
theorem LsM.put {T' : JV} (h : LsM w0 G r s D1 T u a1 e1) (hw : Wrote (G + 2) u u') (ht : Blk u' (G + 2) 25 (jvCells T')) : LsM w0 G r s D1 T' u' a1 e1 :=
  ⟨h.low, h.wg, hw.blk h.box (by omega), hw.blk h.res (by omega), ht, hw.blk h.rd (by have := h.low; omega), h.rg.wrote_new hw (by rw [h.wg]; omega)⟩
theorem KS.le {X Y : Value} {b : Nat} (h : KS G X Y b) : G + 3 ≤ b := h.1
theorem Ls.heap (h : Ls w0 G r s D1 T A1 c1 ns A2 c2 ks u a1 e1) (hm : LsM w0 G r s D1 T u' a' e') (hk : ∀ b, b < u.heap.size → G + 3 ≤ b → u'.heap[b]? = u.heap[b]?) : Ls w0 G r s D1 T A1 c1 ns A2 c2 ks u' a' e' := by
  obtain ⟨kv, h1, h2, h3⟩ := h.kids
  have hlt : ∀ {k cs t}, u.heap[k]? = some (.cells cs t (0, 0)) → k < u.heap.size := fun hq => (Array.getElem?_eq_some_iff.1 hq).1
  exact ⟨hm, h.names.heap fun k cs hq hl => (hk k (hlt hq) hl).trans hq, kv, h1, h2.heap fun k cs hq hl => (hk k (hlt hq) hl).trans hq, fun i hi hi' => (h3 i hi hi').heap fun b hb hs => hk b hb hs.le⟩
theorem Ls.step (h : Ls w0 G r s D1 T A1 c1 ns A2 c2 ks u a1 e1) (hg : RG r u u') (hr : RD u' r s a' D1 e') : Ls w0 G r s D1 T A1 c1 ns A2 c2 ks u' a' e' :=
  h.heap (h.m.step hg hr) fun b hb hl => hg.block b hb (by have := h.m.low; intro h; injection h with h; omega)
theorem Ls.new (h : Ls w0 G r s D1 T A1 c1 ns A2 c2 ks u a1 e1) (hb : Below u.heap.size u u') : Ls w0 G r s D1 T A1 c1 ns A2 c2 ks u' a1 e1 := h.step (.below hb) (h.m.rd.grow hb)
theorem Ls.drew (h : Ls w0 G r s D1 T A1 c1 ns A2 c2 ks u a1 e1) : Ls w0 G r s D1 T A1 c1 ns A2 c2 ks u.drew a1 e1 := h.heap h.m.drew fun b _ _ => rfl
theorem Ls.put {T' : JV} (h : Ls w0 G r s D1 T A1 c1 ns A2 c2 ks u a1 e1) (hw : Wrote (G + 2) u u') (ht : Blk u' (G + 2) 25 (jvCells T')) : Ls w0 G r s D1 T' A1 c1 ns A2 c2 ks u' a1 e1 := by
  obtain ⟨kv, h1, h2, h3⟩ := h.kids
  have hk : ∀ b, b < u.heap.size → G + 3 ≤ b → u'.heap[b]? = u.heap[b]? := fun b hb hl => hw.grown.block b hb (by intro h; injection h with h; omega)
  have hlt : ∀ {k cs t}, u.heap[k]? = some (.cells cs t (0, 0)) → k < u.heap.size := fun hq => (Array.getElem?_eq_some_iff.1 hq).1
  exact ⟨h.m.put hw ht, h.names.heap fun k cs hq hl => (hk k (hlt hq) hl).trans hq, kv, h1, h2.heap fun k cs hq hl => (hk k (hlt hq) hl).trans hq, fun i hi hi' => (h3 i hi hi').heap fun b hb hs => hk b hb hs.le⟩
/-- a name more -/
theorem Ls.name {t : Bs} {A' : Option Addr} {c' : Nat} (h : Ls w0 G r s D1 T A1 c1 ns A2 c2 ks u a1 e1) (ho : OwnR u' (G + 3) 9 1 A' c' (ns.length + 1) (rowsV sCell ns ++ [.string (bs t)])) (hg : u.grownBy u' (Value.slice A1 ns.length c1).ownBlock)
    (hn : Next u (.slice A1 ns.length c1) (.slice A' (ns.length + 1) c')) : Ls w0 G r s D1 T A' c' (ns ++ [t]) A2 c2 ks u' a1 e1 := by
  obtain ⟨kv, h1, h2, h3⟩ := h.kids
  refine ⟨h.m.grown hg (fun k hk => (h.names.lt k hk).1), by rw [rowsV_append, rowsV_one, List.length_append]; exact ho, kv, h1, h2.heap fun k cs hq hl => ?_, fun i hi hi' => ?_⟩
  · refine (hg.block k (Array.getElem?_eq_some_iff.1 hq).1 fun he => ?_).trans hq
    obtain ⟨cs', hq'⟩ := ownR_blk h.names he.symm
    rw [hq] at hq'
    injection hq' with hq'
    injection hq' with _ ht
    exact absurd ht (by decide)
  · have h5 : JRep u (fun b => KS G (.slice A1 ns.length c1) (.slice A2 ks.length c2) b ∧ KS G (.slice A' (ns ++ [t]).length c') (.slice A2 ks.length c2) b) ks[i] kv[i] := (h3 i hi hi').imp fun b hb hs => ⟨hs, hs.1, fun he => by
      rw [List.length_append] at he
      rcases hn with hn | hn
      · exact hs.2.1 (hn.symm.trans he)
      · have := hn b he
        omega, hs.2.2⟩
    exact (h5.grown hg (fun b hb he => hb.1.2.1 he.symm)).imp fun b _ hs => hs.2
/-- a kid more -/
theorem Ls.kid {k : JT} {v : JV} {A' : Option Addr} {c' : Nat} (h : Ls w0 G r s D1 T A1 c1 ns A2 c2 ks u a1 e1) (hv : JRep u (KS G (.slice A1 ns.length c1) (.slice A2 ks.length c2)) k v)
    {kv : List JV} (h1 : kv.length = ks.length) (h2 : OwnR u (G + 3) 25 5 A2 c2 ks.length (rowsV jvCells kv)) (h3 : ∀ i (h : i < ks.length) (h' : i < kv.length), JRep u (KS G (.slice A1 ns.length c1) (.slice A2 ks.length c2)) ks[i] kv[i])
    (ho : OwnR u' (G + 3) 25 5 A' c' (ks.length + 1) (rowsV jvCells kv ++ (jvCells v).toList)) (hg : u.grownBy u' (Value.slice A2 ks.length c2).ownBlock)
    (hn : Next u (.slice A2 ks.length c2) (.slice A' (ks.length + 1) c')) : Ls w0 G r s D1 T A1 c1 ns A' c' (ks ++ [k]) u' a1 e1 := by
  have hS : ∀ b, b < u.heap.size → KS G (.slice A1 ns.length c1) (.slice A2 ks.length c2) b → KS G (.slice A1 ns.length c1) (.slice A2 ks.length c2) b ∧ KS G (.slice A1 ns.length c1) (.slice A' (ks ++ [k]).length c') b := fun b hb hs => ⟨hs, hs.1, hs.2.1, fun he => by
      rw [List.length_append] at he
      rcases hn with hn | hn
      · exact hs.2.2 (hn.symm.trans he)
      · have := hn b he
        omega⟩
  have hstep : ∀ j x, JRep u (KS G (.slice A1 ns.length c1) (.slice A2 ks.length c2)) j x → JRep u' (KS G (.slice A1 ns.length c1) (.slice A' (ks ++ [k]).length c')) j x := fun j x hj =>
    ((hj.imp hS).grown hg (fun b hb he => hb.1.2.2 he.symm)).imp fun b _ hs => hs.2
  refine ⟨h.m.grown hg (fun k hk => (h2.lt k hk).1), h.names.heap fun k cs hq hl => ?_, kv ++ [v], by simp [h1], by rw [rowsV_append, rowsV_one, List.length_append]; exact ho, fun i hi hi' => ?_⟩
  · refine (hg.block k (Array.getElem?_eq_some_iff.1 hq).1 fun he => ?_).trans hq
    obtain ⟨cs', hq'⟩ := ownR_blk h2 he.symm
    rw [hq] at hq'
    injection hq' with hq'
    injection hq' with _ ht
    exact absurd ht (by decide)
  · by_cases hl : i < ks.length
    · rw [List.getElem_append_left hl, List.getElem_append_left (by omega)]
      exact hstep _ _ (h3 i hl (by omega))
    · have e1 : i = ks.length := by simp at hi; omega
      subst e1
      rw [List.getElem_append_right (Nat.le_refl _), List.getElem_append_right (by omega)]
      simp only [Nat.sub_self, h1, List.getElem_cons_zero]
      exact hstep _ _ hv
/-- the tree, read -/
theorem Ls.rep {kk : Int} (h : Ls w0 G r s D1 T A1 c1 ns A2 c2 ks u a1 e1) : JRep u (fun b => G + 3 ≤ b) (.mk kk 0 [] ns ks) ⟨kk, 0, [], A1, ns.length, c1, A2, ks.length, c2⟩ := by
  obtain ⟨kv, h1, h2, h3⟩ := h.kids
  exact .mk ⟨kk, 0, [], A1, ns.length, c1, A2, ks.length, c2⟩ ns ks kv rfl h.names.cap (ownR_rds h.names) rfl h2.cap h1 (ownR_rds h2)
    (fun i hi hi' => (h3 i hi hi').imp fun b _ hs => hs.le)
theorem LsM.start (h : LsM w0 G r s D1 T u a1 e1) : Ls w0 G r s D1 T none 0 [] none 0 [] u a1 e1 := ⟨h, OwnR.nil _ _ _ _, [], rfl, OwnR.nil _ _ _ _, fun i hi _ => by simp at hi⟩
/-- what a value has laid lies beside the rows -/
theorem Ls.fresh (h : Ls w0 G r s D1 T A1 c1 ns A2 c2 ks u a1 e1) {j : JT} {v : JV} (hj : JRep u' (fun b => u.heap.size ≤ b) j v) : JRep u' (KS G (.slice A1 ns.length c1) (.slice A2 ks.length c2)) j v := by
  obtain ⟨kv, h1, h2, h3⟩ := h.kids
  have hs := h.m.size
  exact hj.imp fun b _ hb => ⟨by omega, fun he => by have := (h.names.lt b he).2; omega, fun he => by have := (h2.lt b he).2; omega⟩
end
def kindV (m : Bool) : Int := if m then 5 else 4
def treeV (m : Bool) (A1 : Option Addr) (n1 c1 : Nat) (A2 : Option Addr) (n2 c2 : Nat) : JV := ⟨kindV m, 0, [], A1, n1, c1, A2, n2, c2⟩
def isMap (X : Bs) : Bool := look X == 123
theorem sign_parts (c : UInt8) (r : Bs) : signB c 0 r = (signP c r).1 ∧ signR c 0 r = (signP c r).2 := by
  unfold signR signB signP
  by_cases h : look (skip r) = c <;> simp [h]
/-- what a list comes to -/
def lres (m : Bool) : Except Int (List Bs × List JT × Bs) → Except Int (JT × Bs)
  | .error e => .error e
  | .ok (ns, ks, r) => .ok (.mk (kindV m) 0 [] ns ks, r)
theorem listP_lres (val : Bs → Except Int (JT × Bs)) (r : Bs) : listP val r = lres (isMap r) (listL val (isMap r) r.length [] [] (skip r.tail)) := by
  unfold listP lres isMap kindV
  cases h : listL val (look r == 123) r.length [] [] (skip r.tail) with
  | error e => rfl
  | ok x => rfl
/-- a comma, and a name -/
def nameK (m : Bool) (ns : List Bs) : Except Int Bs → Except Int (List Bs × Bs)
  | .error e => .error e
  | .ok r2 => keyP m ns r2
/-- and a value -/
def kidK (val : Bs → Except Int (JT × Bs)) : Except Int (List Bs × Bs) → Except Int (List Bs × JT × Bs)
  | .error e => .error e
  | .ok (ns, r3) => match val r3 with
    | .error e => .error e
    | .ok (k, r4) => .ok (ns, k, r4)
/-- and the others -/
def moreK (val : Bs → Except Int (JT × Bs)) (m : Bool) (n : Nat) (ks : List JT) : Except Int (List Bs × JT × Bs) → Except Int (List Bs × List JT × Bs)
  | .error e => .error e
  | .ok (ns, k, r4) => listL val m n ns (ks ++ [k]) r4
theorem listL_end {val : Bs → Except Int (JT × Bs)} {m : Bool} {n : Nat} {ns : List Bs} {ks : List JT} {r r1 : Bs} (h : signP (endC m) r = (true, r1)) : listL val m (n + 1) ns ks r = .ok (ns, ks, r1) := by
  rw [listL, h]
theorem listL_more {val : Bs → Except Int (JT × Bs)} {m : Bool} {n : Nat} {ns : List Bs} {ks : List JT} {r r1 : Bs} (h : signP (endC m) r = (false, r1)) : listL val m (n + 1) ns ks r = moreK val m n ks (kidK val (nameK m ns (commaP ks.isEmpty r1))) := by
  rw [listL, h]
  dsimp only
  unfold moreK kidK nameK
  cases commaP ks.isEmpty r1 with
  | error e => rfl
  | ok r2 =>
    dsimp only
    cases keyP m ns r2 with
    | error e => rfl
    | ok x =>
      dsimp only
      cases val x.2 with
      | error e => rfl
      | ok y => rfl
theorem mustP_err {c : UInt8} {r : Bs} {e : Int} (h : mustP c r = .error e) : e ≠ 0 := by
  unfold mustP at h
  split at h
  · cases h
  · injection h with h
    omega
theorem commaP_err {b : Bool} {r : Bs} {e : Int} (h : commaP b r = .error e) : e ≠ 0 := by
  unfold commaP at h
  split at h
  · cases h
  · exact mustP_err h
theorem nameP_err {ns : List Bs} {r : Bs} {e : Int} (h : nameP ns r = .error e) : e ≠ 0 := by
  unfold nameP at h
  split at h
  · injection h with h; omega
  · split at h
    · injection h with h; omega
    · split at h
      · rename_i hm
        injection h with h
        subst h
        exact mustP_err hm
      · cases h
theorem nameK_err {m : Bool} {ns : List Bs} {b : Bool} {r : Bs} {e : Int} (h : nameK m ns (commaP b r) = .error e) : e ≠ 0 := by
  unfold nameK at h
  split at h
  · rename_i hc
    injection h with h
    subst h
    exact commaP_err hc
  · unfold keyP at h
    split at h
    · exact nameP_err h
    · cases h
theorem kidK_err {val : Bs → Except Int (JT × Bs)} (hv : ∀ {r e}, val r = .error e → e ≠ 0) {m : Bool} {ns : List Bs} {b : Bool} {r : Bs} {e : Int} (h : kidK val (nameK m ns (commaP b r)) = .error e) : e ≠ 0 := by
  unfold kidK at h
  split at h
  · rename_i hc
    injection h with h
    subst h
    exact nameK_err hc
  · split at h
    · rename_i hc
      injection h with h
      subst h
      exact hv hc
    · cases h
theorem listL_err {val : Bs → Except Int (JT × Bs)} (hv : ∀ {r e}, val r = .error e → e ≠ 0) {m : Bool} : ∀ (n : Nat) {ns : List Bs} {ks : List JT} {r : Bs} {e : Int}, listL val m n ns ks r = .error e → e ≠ 0
  | 0, ns, ks, r, e, h => by
    rw [listL] at h
    injection h with h
    omega
  | n + 1, ns, ks, r, e, h => by
    rcases hs : signP (endC m) r with ⟨b, r1⟩
    cases b with
    | true =>
      rw [listL_end hs] at h
      cases h
    | false =>
      rw [listL_more hs] at h
      unfold moreK at h
      split at h
      · rename_i hc
        injection h with h
        subst h
        exact kidK_err hv hc
      · exact listL_err hv n h
theorem lpOf_err {val : Bs → Except Int (JT × Bs)} (hv : ∀ {r e}, val r = .error e → e ≠ 0) {r : Bs} {e : Int} (h : listP val r = .error e) : e ≠ 0 := by
  rw [listP_lres] at h
  unfold lres at h
  split at h
  · rename_i hc
    injection h with h
    subst h
    exact listL_err hv _ hc
  · cases h
theorem rawP_err {lp : Bs → Except Int (JT × Bs)} (hl : ∀ {r e}, lp r = .error e → e ≠ 0) {r : Bs} {e : Int} (h : rawP lp r = .error e) : e ≠ 0 := by
  have hw : ∀ {w r v}, wordR w r v = .error e → e ≠ 0 := by
    intro w r v h
    unfold wordR at h
    split at h
    · injection h with h; omega
    · cases h
  have ho : ∀ {α : Type} {x : Option (α × Bs)} {f : α → JT}, optR x f = .error e → e ≠ 0 := by
    intro α x f h
    unfold optR at h
    split at h
    · injection h with h; omega
    · cases h
  unfold rawP at h
  split at h
  · exact hw h
  split at h
  · exact hw h
  split at h
  · exact hw h
  split at h
  · exact ho h
  split at h
  · exact hl h
  · exact ho h
theorem skipR_err {x : Except Int (JT × Bs)} {e : Int} (h : skipR x = .error e) : x = .error e := by
  unfold skipR at h
  split at h
  · injection h with h
    subst h
    rfl
  · cases h
theorem valueP_err : ∀ (d : Nat) {r : Bs} {e : Int}, valueP d r = .error e → e ≠ 0
  | 0, r, e, h => rawP_err (by intro r e h; injection h with h; omega) (skipR_err h)
  | d + 1, r, e, h => rawP_err (fun h => lpOf_err (fun h => valueP_err d h) h) (skipR_err h)
/-- behind a name -/
def NmQ (s : ByteArray) (a4 : Nat) (e4 : Int) (ns : List Bs) (t : Bs) (a5 : Nat) (e5 : Int) : Prop :=
  (a5 : Int) ≤ 1500000 ∧ e5 = errP e4 (nameP ns (s.data.toList.drop a4)) ∧ (e4 = 0 → ∀ ns' r1, nameP ns (s.data.toList.drop a4) = .ok (ns', r1) → ns' = ns ++ [t] ∧ At s a4 a5 r1)
/-- behind a value -/
def VlQ (s : ByteArray) (a3 : Nat) (E4 : Except Int (List Bs × JT × Bs)) (ns : List Bs) (a6 : Nat) (e6 : Int) : Prop :=
  (a6 : Int) ≤ 1500000 ∧ e6 = errE E4 ∧ ∀ ns' k r4, E4 = .ok (ns', k, r4) → ns' = ns ∧ At s a3 a6 r4
theorem nmq_done {s : ByteArray} {a3 a4 a5 : Nat} {e4 e5 : Int} {ns : List Bs} {t r1 : Bs} {b : Bool} (h : NmQ s a4 e4 ns t a5 e5) (he : e4 = errE (commaP b r1)) (hat : ∀ r2, commaP b r1 = .ok r2 → At s a3 a4 r2) :
    e5 = errE (nameK true ns (commaP b r1)) ∧ ∀ x r3, nameK true ns (commaP b r1) = .ok (x, r3) → x = ns ++ [t] ∧ At s a3 a5 r3 := by
  obtain ⟨h1, h2, h3⟩ := h
  cases hc : commaP b r1 with
  | error e =>
    rw [hc] at he
    have h0 := commaP_err hc
    rw [errP_ne (by rw [he]; exact h0)] at h2
    exact ⟨by rw [h2, he]; rfl, fun x r3 h => by cases h⟩
  | ok r2 =>
    rw [hc] at he
    have he0 : e4 = 0 := he
    have ha := hat r2 hc
    subst he0
    rw [errP_z, ha.rest] at h2
    refine ⟨h2, fun x r3 hx => ?_⟩
    have h5 := h3 rfl x r3 (by rw [ha.rest]; exact hx)
    exact ⟨h5.1, ha.trans h5.2⟩
theorem vlq_of {d : Nat} {s : ByteArray} {a3 a5 a6 : Nat} {ns' : List Bs} {e5 : Int} {K3 : Except Int (List Bs × Bs)} (hK : ∀ e, K3 = .error e → e ≠ 0) (he : e5 = errE K3) (hat : ∀ x r3, K3 = .ok (x, r3) → x = ns' ∧ At s a3 a5 r3)
    {P : JT → Prop} (ha : (a6 : Int) ≤ 1500000) (hok : e5 = 0 → ∀ j r1, valueP d (s.data.toList.drop a5) = .ok (j, r1) → At s a5 a6 r1 ∧ P j) :
    VlQ s a3 (kidK (valueP d) K3) ns' a6 (errP e5 (valueP d (s.data.toList.drop a5))) ∧ ∀ x k r4, kidK (valueP d) K3 = .ok (x, k, r4) → P k := by
  cases hc : K3 with
  | error e =>
    rw [hc] at he
    have h0 := hK e hc
    rw [errP_ne (by rw [he]; exact h0)]
    exact ⟨⟨ha, by rw [he]; rfl, fun x k r4 h => by cases h⟩, fun x k r4 h => by cases h⟩
  | ok y =>
    obtain ⟨x, r3⟩ := y
    rw [hc] at he
    have he0 : e5 = 0 := he
    obtain ⟨rfl, h2⟩ := hat x r3 hc
    subst he0
    rw [errP_z, h2.rest]
    rw [h2.rest] at hok
    unfold kidK
    dsimp only
    cases hv : valueP d r3 with
    | error e => exact ⟨⟨ha, rfl, fun x k r4 h => by cases h⟩, fun x k r4 h => by cases h⟩
    | ok z =>
      obtain ⟨k, r4⟩ := z
      obtain ⟨h5, h6⟩ := hok rfl k r4 hv
      refine ⟨⟨ha, rfl, fun x' k' r4' h => ?_⟩, fun x' k' r4' h => ?_⟩
      · injection h with h
        injection h with h1 h
        injection h with h3 h4
        subst h1 h3 h4
        exact ⟨rfl, h2.trans h5⟩
      · injection h with h
        injection h with h1 h
        injection h with h3 h4
        subst h1 h3 h4
        exact h6
theorem kidK_len {d : Nat} {m b : Bool} {ns x : List Bs} {k : JT} {r1 r4 : Bs} (h : kidK (valueP d) (nameK m ns (commaP b r1)) = .ok (x, k, r4)) : r4.length < r1.length ∧ x.length ≤ ns.length + 1 := by
  unfold kidK at h
  split at h
  · cases h
  · rename_i ns' r3 hn
    have hx : ns' = x ∧ valueP d r3 = .ok (k, r4) := by
      split at h
      · cases h
      · rename_i hv
        injection h with h
        injection h with h1 h
        injection h with h2 h3
        subst h1 h2 h3
        exact ⟨rfl, hv⟩
    obtain ⟨rfl, hv⟩ := hx
    have l4 := valueP_len d hv
    unfold nameK at hn
    split at hn
    · cases hn
    · rename_i r2 hc
      have l2 : r2.length ≤ r1.length := by
        unfold commaP at hc
        split at hc
        · injection hc with hc; subst hc; exact Nat.le_refl _
        · exact mustP_len hc
      unfold keyP at hn
      split at hn
      · have l3 := nameP_len hn
        refine ⟨by omega, ?_⟩
        unfold nameP at hn
        split at hn
        · cases hn
        · split at hn
          · cases hn
          · split at hn
            · cases hn
            · injection hn with hn
              injection hn with hn _
              subst hn
              simp
      · injection hn with hn
        injection hn with h1 h2
        subst h1 h2
        exact ⟨by omega, by omega⟩
end Go.Proofs.Ytcfbnjaelniahaa.Js
