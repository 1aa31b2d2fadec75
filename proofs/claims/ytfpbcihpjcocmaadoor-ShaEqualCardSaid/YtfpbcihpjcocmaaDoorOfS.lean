/-
  The state while the reference's Of makes its H.
-/
import Derived.Test.YtfpbcihpjcocmaaDoorPrimes
import Derived.Test.YtfpbcihpjcocmaaDoorRoot3
import Derived.Test.YtfpbcihpjcocmaaDoorTailb
namespace Go.Proofs.YtfpbcihpjcocmaaDoor
set_option linter.unusedSimpArgs false
set_option linter.unusedVariables false
open Go.RowKit

theorem own_ne_own {w : World} {B1 B2 n1 n2 s1 s2 : Nat} {e1 e2 : TypeId} {v1 v2 : Value} {x1 x2 : List Value} (h1 : OwnX w B1 e1 s1 v1 n1 x1) (h2 : OwnX w B2 e2 s2 v2 n2 x2) (hne : e1 ≠ e2) : v1.ownBlock = none ∨ v1.ownBlock ≠ v2.ownBlock := by
  rcases h1.2 with ⟨rfl, _⟩ | ⟨g, cap, cur, fz, rfl, _, hg, _⟩
  · exact .inl rfl
  · refine .inr fun e => ?_
    have e2' : v2.ownBlock = some g := e.symm
    rcases h2.2 with ⟨rfl, _⟩ | ⟨g', cap', cur', fz', rfl, _, hg', _⟩
    · simp [Value.ownBlock] at e2'
    · simp [Value.ownBlock] at e2'
      subst e2'
      rw [hg] at hg'
      simp at hg'
      exact hne hg'.2.1
theorem slu_size : (Tryd.prog.info? 36).map (·.size) = some 1 := by kernel_rfl
structure OfG where
  g0 : Nat
  gh : Nat
  ga : Nat
  gb : Nat
  gc : Nat
  gd : Nat
/-- the state while H is made -/
structure OfSt (w0 : World) (G : OfG) (F : ShaF) (z : Array Value) (vP : Value) (cs : Array Value) (vK : Value) (kl : List Nat) (vF : Value) (fl : List Nat) (u : World) : Prop where
  bel : Below G.g0 w0 u
  res : Blk u G.g0 38 z
  h : Blk u G.gh 38 cs
  a : Blk u G.ga 3 (tri F.s0).toArray
  b : Blk u G.gb 3 (tri F.s1).toArray
  c : Blk u G.gc 3 (tri F.t0).toArray
  d : Blk u G.gd 3 (tri F.t1).toArray
  p : OwnX u G.g0 3 1 vP 80 (wordsV .i64 primes80)
  k : OwnX u G.g0 40 1 vK kl.length (wordsV .u64 kl)
  f : OwnX u G.g0 40 1 vF fl.length (wordsV .u64 fl)
  ne : vF.ownBlock = none ∨ vF.ownBlock ≠ vK.ownBlock
  lt : G.g0 < G.gh
section
variable {w0 u u' : World} {G : OfG} {F : ShaF} {z cs cs' : Array Value} {vP vK vF v' : Value} {kl fl : List Nat}
theorem OfSt.next (h : OfSt w0 G F z vP cs vK kl vF fl u) (hb : Below u.heap.size u u') : OfSt w0 G F z vP cs vK kl vF fl u' :=
  ⟨h.bel.trans (hb.mono (by have := h.res.lt; omega)), h.res.below hb h.res.lt, h.h.below hb h.h.lt, h.a.below hb h.a.lt, h.b.below hb h.b.lt, h.c.below hb h.c.lt, h.d.below hb h.d.lt,
    h.p.below hb (Nat.le_refl _), h.k.below hb (Nat.le_refl _), h.f.below hb (Nat.le_refl _), h.ne, h.lt⟩
theorem OfSt.drew (h : OfSt w0 G F z vP cs vK kl vF fl u) : OfSt w0 G F z vP cs vK kl vF fl u.drew := h.next (Below.refl _ _).drew
theorem OfSt.put (h : OfSt w0 G F z vP cs vK kl vF fl u) (hw : Wrote G.gh u u') (hb : Blk u' G.gh 38 cs') (hd : G.ga ≠ G.gh ∧ G.gb ≠ G.gh ∧ G.gc ≠ G.gh ∧ G.gd ≠ G.gh) : OfSt w0 G F z vP cs' vK kl vF fl u' :=
  ⟨hw.below h.bel (Nat.le_of_lt h.lt) (by have := h.res.lt; omega), hw.blk h.res (Nat.ne_of_lt h.lt), hb, hw.blk h.a hd.1, hw.blk h.b hd.2.1, hw.blk h.c hd.2.2.1, hw.blk h.d hd.2.2.2,
    hw.own h.p (own_ne_blk h.p h.h (by decide)), hw.own h.k (own_ne_blk h.k h.h (by decide)), hw.own h.f (own_ne_blk h.f h.h (by decide)), h.ne, h.lt⟩
theorem ne_some {g : Nat} {o : Option Nat} (h : o ≠ some g) : some g ≠ o := fun e => h e.symm
theorem OfSt.appK {x : Nat} (h : OfSt w0 G F z vP cs vK kl vF fl u) (ho : OwnX u' G.g0 40 1 v' (kl.length + 1) (wordsV .u64 kl ++ [.int .u64 (x : Int)])) (hg : u.grownBy u' vK.ownBlock) (hn : vF.ownBlock = none) : OfSt w0 G F z vP cs v' (kl ++ [x]) vF fl u' :=
  ⟨h.bel.grown hg (by have := h.res.lt; omega) (fun k hk => (h.k.lt k hk).1), h.res.grown hg (ne_some (own_ne_blk h.k h.res (by decide))), h.h.grown hg (ne_some (own_ne_blk h.k h.h (by decide))), h.a.grown hg (ne_some (own_ne_blk h.k h.a (by decide))), h.b.grown hg (ne_some (own_ne_blk h.k h.b (by decide))),
    h.c.grown hg (ne_some (own_ne_blk h.k h.c (by decide))), h.d.grown hg (ne_some (own_ne_blk h.k h.d (by decide))), h.p.kept hg (own_ne_own h.p h.k (by decide)), by rw [List.length_append, wordsV_snoc]; exact ho, h.f.kept hg (.inl hn), .inl hn, h.lt⟩
theorem OfSt.appF {x : Nat} (h : OfSt w0 G F z vP cs vK kl vF fl u) (ho : OwnX u' G.g0 40 1 v' (fl.length + 1) (wordsV .u64 fl ++ [.int .u64 (x : Int)])) (hg : u.grownBy u' vF.ownBlock) (hn : Next u vF v') : OfSt w0 G F z vP cs vK kl v' (fl ++ [x]) u' := by
  refine ⟨h.bel.grown hg (by have := h.res.lt; omega) (fun k hk => (h.f.lt k hk).1), h.res.grown hg (ne_some (own_ne_blk h.f h.res (by decide))), h.h.grown hg (ne_some (own_ne_blk h.f h.h (by decide))), h.a.grown hg (ne_some (own_ne_blk h.f h.a (by decide))), h.b.grown hg (ne_some (own_ne_blk h.f h.b (by decide))),
    h.c.grown hg (ne_some (own_ne_blk h.f h.c (by decide))), h.d.grown hg (ne_some (own_ne_blk h.f h.d (by decide))), h.p.kept hg (own_ne_own h.p h.f (by decide)), h.k.kept hg ?_, by rw [List.length_append, wordsV_snoc]; exact ho, ?_, h.lt⟩
  · rcases h.ne with h1 | h1
    · rw [h1]
      cases vK.ownBlock with
      | none => exact .inl rfl
      | some k => exact .inr (by simp)
    · exact .inr (Ne.symm h1)
  · rcases hn with h1 | h1
    · rw [h1]; exact h.ne
    · cases ho2 : v'.ownBlock with
      | none => exact .inl rfl
      | some k =>
        have h2 := h1 k ho2
        refine .inr fun e => ?_
        have := (h.k.lt k e.symm).2
        omega
end
def OfPost (F : ShaF) (w : World) (e : Ending) (w' : World) : Prop :=
  ∃ p : HP, e = .returned (.agg (hv F p)) ∧ HOk F p w' w'.heap.size ∧ Below w.heap.size w w'
theorem prime_lt (i : Nat) (h : i < 80) : primes80.getD i 0 < 65536 := by
  have hm : primes80.getD i 0 ∈ primes80 := by
    rw [List.getD_eq_getElem?_getD, List.getElem?_eq_getElem (show i < primes80.length from h)]; exact List.getElem_mem _
  have := (List.all_eq_true.1 primes_lt) _ hm
  rw [decide_eq_true_eq] at this
  exact this.2
end Go.Proofs.YtfpbcihpjcocmaaDoor
