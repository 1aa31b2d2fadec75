/-
  Plain words: messages, as data.
-/
import Derived.Test.YtlngjalclagojaaBase
namespace Go.Proofs.Ytlngjalclagojaa
open Go.RowKit

def strsV (l : List ByteArray) : List Value := l.map Value.string
theorem strsV_length (l : List ByteArray) : (strsV l).length = l.length := by simp [strsV]

/-- where the first long one is -/
def firstLong (l : List ByteArray) : Int := match l.findIdx? (fun s => decide (1000 < s.size)) with | some k => (k : Int) | none => -1
theorem firstLong_none {l : List ByteArray} (h : ∀ j, (h : j < l.length) → ¬ 1000 < (l[j]).size) : firstLong l = -1 := by
  have : l.findIdx? (fun s => decide (1000 < s.size)) = none := by
    rw [List.findIdx?_eq_none_iff]
    intro x hx
    obtain ⟨j, hj, rfl⟩ := List.getElem_of_mem hx
    simpa using h j hj
  simp [firstLong, this]
theorem firstLong_some {l : List ByteArray} {k : Nat} (hk : k < l.length) (hl : 1000 < (l[k]).size) (h : ∀ j, (h : j < l.length) → j < k → ¬ 1000 < (l[j]).size) : firstLong l = k := by
  have : l.findIdx? (fun s => decide (1000 < s.size)) = some k := by
    rw [List.findIdx?_eq_some_iff_getElem]
    exact ⟨hk, by simpa using hl, fun j hj => by simpa using h j (by omega) hj⟩
  simp [firstLong, this]
theorem firstLong_neg (l : List ByteArray) : (0 ≤ firstLong l) ↔ l.any (fun s => decide (1000 < s.size)) = true := by
  by_cases h : l.any (fun s => decide (1000 < s.size)) = true
  · simp only [h, iff_true]
    have : (l.findIdx? (fun s => decide (1000 < s.size))).isSome = true := by rw [List.findIdx?_isSome]; exact h
    obtain ⟨k, hk⟩ := Option.isSome_iff_exists.1 this
    simp [firstLong, hk]
  · have : l.findIdx? (fun s => decide (1000 < s.size)) = none := by
      rw [List.findIdx?_eq_none_iff]
      intro x hx
      simp only [List.any_eq_true, not_exists, not_and] at h
      simpa using h x hx
    simp [firstLong, this, h]

def anyLong (l : List ByteArray) : Bool := l.any fun s => decide (1000 < s.size)

/-- a message, as plain data -/
structure MsgD where
  kind : Int
  src : ByteArray
  dst : ByteArray
  seq : Int
  fields : List ByteArray
  sig : ByteArray

def msgCells (m : MsgD) (A : Option Addr) (c : Nat) : Array Value := #[.int .i64 m.kind, .string m.src, .string m.dst, .int .i64 m.seq, .slice A m.fields.length c, .string m.sig]
def mayB (m : MsgD) : Bool :=
  (decide (1 ≤ m.kind) && decide (m.kind ≤ 255) && decide (0 ≤ m.seq) && decide (m.seq ≤ 1099511627776) && decide (m.fields.length ≤ 8)) &&
  !decide (1000 < m.src.size) && !decide (1000 < m.dst.size) && !anyLong m.fields && (decide (m.sig.size = 0) || decide (m.sig.size = 64))

/-- sizes that fit any machine -/
structure MsgOk (m : MsgD) : Prop where
  src : m.src.size ≤ 9223372036854775807
  dst : m.dst.size ≤ 9223372036854775807
  sig : m.sig.size ≤ 9223372036854775807
  fields : m.fields.length ≤ 9223372036854775807
  each : ∀ s ∈ m.fields, s.size ≤ 9223372036854775807


theorem may_end (kind seq : Int) (src dst sig : ByteArray) (fields : List ByteArray) (a : 1 ≤ kind) (b : kind ≤ 255) (c : 0 ≤ seq) (d : seq ≤ 1099511627776) (e : (fields.length : Int) ≤ 8) (f : src.size ≤ 1000) (g : dst.size ≤ 1000)
    (h : ¬ anyLong fields = true) (hsg : ¬ sig.toList = []) : (!decide (1000 < src.size) && !decide (1000 < dst.size) && (sig.toList.isEmpty || (sig.size : Int) == 64)) = mayB ⟨kind, src, dst, seq, fields, sig⟩ := by
  have hz : ¬ sig.size = 0 := fun h => hsg ((toList_nil_iff sig).2 h)
  have hi : sig.toList.isEmpty = false := by simpa using hsg
  have h64 : ((sig.size : Int) == 64) = decide (sig.size = 64) := by rw [Bool.eq_iff_iff]; simp; omega
  have h1 : ¬ 1000 < src.size := by omega
  have h2 : ¬ 1000 < dst.size := by omega
  have h3 : fields.length ≤ 8 := by omega
  simp only [mayB]
  simp [*]
theorem may_end0 (kind seq : Int) (src dst sig : ByteArray) (fields : List ByteArray) (a : 1 ≤ kind) (b : kind ≤ 255) (c : 0 ≤ seq) (d : seq ≤ 1099511627776) (e : (fields.length : Int) ≤ 8) (f : src.size ≤ 1000) (g : dst.size ≤ 1000)
    (h : ¬ anyLong fields = true) (hsg : sig.toList = []) : (!decide (1000 < src.size) && !decide (1000 < dst.size)) = mayB ⟨kind, src, dst, seq, fields, sig⟩ := by
  have hz : sig.size = 0 := ((toList_nil_iff sig).1 hsg)
  have h1 : ¬ 1000 < src.size := by omega
  have h2 : ¬ 1000 < dst.size := by omega
  have h3 : fields.length ≤ 8 := by omega
  simp only [mayB]
  simp [*]

end Go.Proofs.Ytlngjalclagojaa
