/-
  Plain: JSON's texts: lists and maps in one another.
-/
import Derived.Test.YtcfbnjaelniahaaJst
namespace Go.Proofs.Ytcfbnjaelniahaa.Js
set_option linter.unusedVariables false

def opn (b : Bool) : Nat → Bs
  | 0 => []
  | n + 1 => opn b n ++ (if b then [123, 34, 97, 34, 58] else [91])
def cls (b : Bool) : Nat → Bs
  | 0 => []
  | n + 1 => cls b n ++ (if b then [125] else [93])
def nest (b : Bool) : Nat → JT
  | 0 => jzero
  | n + 1 => if b then .mk 5 0 [] [[97]] [nest b n] else .mk 4 0 [] [] [nest b n]
def deepT (b : Bool) (n : Nat) : Bs := opn b n ++ [110, 117, 108, 108] ++ cls b n
def isErr (e : Int) : Except Int JT → Bool
  | .error x => x == e
  | .ok _ => false
theorem isErr_eq {e : Int} {x : Except Int JT} (h : isErr e x = true) : x = .error e := by
  unfold isErr at h
  split at h
  · rw [beq_iff_eq.1 h]
  · cases h
set_option maxRecDepth 10000 in
theorem deep_ok : ∀ (b : Bool) (n : Fin 21), if n.1 ≤ 6 then rightV 6 (nest b n.1) = true ∧ writeV (nest b n.1) = deepT b n.1 ∧ (deepT b n.1).length ≤ 2000 else isErr 9 (readP (deepT b n.1)) = true ∧ rightV 6 (nest b n.1) = false := by decide +kernel
theorem deep_read {b : Bool} {n : Nat} (h : n ≤ 6) : readP (deepT b n) = .ok (nest b n) ∧ rightV 6 (nest b n) = true ∧ writeV (nest b n) = deepT b n ∧ (deepT b n).length ≤ 2000 := by
  have := deep_ok b ⟨n, by omega⟩
  rw [if_pos h] at this
  obtain ⟨h1, h2, h3⟩ := this
  exact ⟨by rw [← h2]; exact readP_write _ h1 (by rw [h2]; exact h3), h1, h2, h3⟩
theorem deep_err {b : Bool} {n : Nat} (h : 6 < n) (h2 : n < 21) : readP (deepT b n) = .error 9 ∧ rightV 6 (nest b n) = false := by
  have := deep_ok b ⟨n, h2⟩
  rw [if_neg (by simp; omega)] at this
  exact ⟨isErr_eq this.1, this.2⟩
/-- the document's example -/
def exT : Bs := [32, 123, 34, 97, 34, 32, 58, 32, 91, 49, 44, 116, 114, 117, 101, 93, 125]
def exV : JT := .mk 5 0 [] [[97]] [.mk 4 0 [] [] [jint 1, jtrue]]
def exW : Bs := [123, 34, 97, 34, 58, 91, 49, 44, 116, 114, 117, 101, 93, 125]
def isEx : Except Int JT → Bool
  | .ok (.mk 5 0 [] [[97]] [.mk 4 0 [] [] [.mk 2 1 [] [] [], .mk 1 1 [] [] []]]) => true
  | _ => false
theorem isEx_eq {x : Except Int JT} (h : isEx x = true) : x = .ok exV := by
  unfold isEx at h
  split at h
  · rfl
  · cases h
theorem ex_read : readP exT = .ok exV := isEx_eq (by decide +kernel)
theorem ex_write : rightV 6 exV = true ∧ writeV exV = exW := by decide +kernel
theorem ex_deep : readP [91, 91, 91, 91, 91, 91, 91] = .error 9 := isErr_eq (by decide +kernel)
end Go.Proofs.Ytcfbnjaelniahaa.Js
