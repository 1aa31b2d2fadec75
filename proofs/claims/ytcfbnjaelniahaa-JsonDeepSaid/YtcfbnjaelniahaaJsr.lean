/-
  Plain: a JSON value, as it lies in memory.
-/
import Derived.Test.YtcfbnjaelniahaaRwz
import Derived.Test.YtcfbnjaelniahaaJsp
namespace Go.Proofs.Ytcfbnjaelniahaa.Js
set_option linter.unusedVariables false
open Go.RowKit

structure JV where
  k : Int
  n : Int
  t : Bs
  nA : Option Addr
  nn : Nat
  nc : Nat
  kA : Option Addr
  kn : Nat
  kc : Nat
def jvCells (v : JV) : Array Value := #[.int .i64 v.k, .int .i64 v.n, .string (bs v.t), .slice v.nA v.nn v.nc, .slice v.kA v.kn v.kc]
def sCell (s : Bs) : Array Value := #[.string (bs s)]
theorem bs_self (s : ByteArray) : bs s.data.toList = s := by
  cases s
  rfl
theorem bs_inj {a b : Bs} (h : bs a = bs b) : a = b := by
  unfold bs at h
  injection h with h
  simpa using congrArg Array.toList h
theorem bs_size (s : Bs) : (bs s).size = s.length := by simp [bs, ByteArray.size]
theorem jvCells_one (k : JV) : (jvCells k).all (·.oneCell') = true := by simp [jvCells, Value.oneCell']
theorem sCell_one (k : Bs) : (sCell k).all (·.oneCell') = true := by simp [sCell, Value.oneCell']
/-- cells that read, in some blocks -/
def RdS (w : World) (S : Nat → Prop) (A : Option Addr) (xs : List Value) : Prop := ∀ i u, xs[i]? = some u → ∃ ad, A = some ad ∧ S ad.block ∧ w.cell? (ad.add i) = some u
section
variable {w w' : World} {S S' : Nat → Prop} {A : Option Addr} {xs : List Value} {B : Nat}
theorem RdS.nil (w : World) (S : Nat → Prop) (A : Option Addr) : RdS w S A [] := fun i u hu => by simp at hu
theorem RdS.lt (h : RdS w S A xs) {i : Nat} {u : Value} (hu : xs[i]? = some u) : ∃ ad, A = some ad ∧ S ad.block ∧ ad.block < w.heap.size ∧ w.cell? (ad.add i) = some u := by
  obtain ⟨ad, h1, h2, h3⟩ := h i u hu
  refine ⟨ad, h1, h2, ?_, h3⟩
  have := World.block_lt_of_cell? w _ h3
  rwa [block_of_add] at this
theorem RdS.rd (h : RdS w S A xs) (hS : ∀ b, b < w.heap.size → S b → b < B) : Rd w B A xs := fun i u hu => by
  obtain ⟨ad, h1, h2, h3, h4⟩ := h.lt hu
  exact ⟨ad, h1, hS _ h3 h2, h4⟩
theorem RdS.imp (h : RdS w S A xs) (hS : ∀ b, b < w.heap.size → S b → S' b) : RdS w S' A xs := fun i u hu => by
  obtain ⟨ad, h1, h2, h3, h4⟩ := h.lt hu
  exact ⟨ad, h1, hS _ h3 h2, h4⟩
theorem RdS.of_rd (h : Rd w B A xs) : RdS w (fun b => b < B) A xs := fun i u hu => h i u hu
theorem RdS.heap (h : RdS w S A xs) (hk : ∀ b, b < w.heap.size → S b → w'.heap[b]? = w.heap[b]?) : RdS w' S A xs := fun i u hu => by
  obtain ⟨ad, h1, h2, h3, h4⟩ := h.lt hu
  refine ⟨ad, h1, h2, ?_⟩
  rw [← h4]
  exact World.cell?_of_block (w := w) (w' := w') (by rw [block_of_add]; exact hk _ h3 h2)
end
inductive JRep (w : World) (S : Nat → Prop) : JT → JV → Prop
  | mk (v : JV) (ns : List Bs) (ks : List JT) (kv : List JV) (hn : v.nn = ns.length) (hnc : v.nn ≤ v.nc) (hnr : RdS w S v.nA (rowsV sCell ns)) (hk : v.kn = ks.length) (hkc : v.kn ≤ v.kc) (hkv : kv.length = ks.length)
      (hkr : RdS w S v.kA (rowsV jvCells kv)) (hkids : ∀ i (h : i < ks.length) (h' : i < kv.length), JRep w S ks[i] kv[i]) : JRep w S (.mk v.k v.n v.t ns ks) v
section
variable {w w' : World} {S S' : Nat → Prop} {j : JT} {v : JV}
theorem JRep.imp (h : JRep w S j v) (hS : ∀ b, b < w.heap.size → S b → S' b) : JRep w S' j v := by
  induction h with
  | mk v ns ks kv hn hnc hnr hk hkc hkv hkr hkids ih => exact .mk v ns ks kv hn hnc (hnr.imp hS) hk hkc hkv (hkr.imp hS) ih
theorem JRep.heap (h : JRep w S j v) (hk : ∀ b, b < w.heap.size → S b → w'.heap[b]? = w.heap[b]?) : JRep w' S j v := by
  induction h with
  | mk v ns ks kv hn hnc hnr hk' hkc hkv hkr hkids ih => exact .mk v ns ks kv hn hnc (hnr.heap hk) hk' hkc hkv (hkr.heap hk) ih
theorem JRep.under {B : Nat} (h : JRep w (fun b => b < B) j v) (hb : Below B w w') : JRep w' (fun b => b < B) j v := h.heap fun b _ hlt => hb.block b hlt
theorem JRep.grown {g : Option Nat} (h : JRep w S j v) (hg : w.grownBy w' g) (hS : ∀ b, S b → some b ≠ g) : JRep w' S j v := h.heap fun b hlt hs => hg.block b hlt (hS b hs)
/-- its parts -/
theorem JRep.inv (h : JRep w S j v) : ∃ ns ks kv, j = .mk v.k v.n v.t ns ks ∧ v.nn = ns.length ∧ v.nn ≤ v.nc ∧ RdS w S v.nA (rowsV sCell ns) ∧ v.kn = ks.length ∧ v.kn ≤ v.kc ∧ kv.length = ks.length ∧
    RdS w S v.kA (rowsV jvCells kv) ∧ ∀ i (h : i < ks.length) (h' : i < kv.length), JRep w S ks[i] kv[i] := by
  cases h with
  | mk v ns ks kv hn hnc hnr hk hkc hkv hkr hkids => exact ⟨ns, ks, kv, rfl, hn, hnc, hnr, hk, hkc, hkv, hkr, hkids⟩
end
def zJV : JV := ⟨0, 0, [], none, 0, 0, none, 0, 0⟩
/-- a value without names and kids -/
theorem JRep.flat (w : World) (S : Nat → Prop) (k n : Int) (t : Bs) : JRep w S (.mk k n t [] []) ⟨k, n, t, none, 0, 0, none, 0, 0⟩ :=
  .mk ⟨k, n, t, none, 0, 0, none, 0, 0⟩ [] [] [] rfl (Nat.le_refl _) (RdS.nil _ _ _) rfl (Nat.le_refl _) rfl (RdS.nil _ _ _) (fun i h _ => by simp at h)
end Go.Proofs.Ytcfbnjaelniahaa.Js
