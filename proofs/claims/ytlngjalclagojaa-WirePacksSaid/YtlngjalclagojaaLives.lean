/-
  Walks: brevetlaw12.lives.
-/
import Derived.Test.YtlngjalclagojaaPack
import Derived.Test.YtlngjalclagojaaConv
namespace Go.Proofs.Ytlngjalclagojaa
open Go.RowKit

def livM : MsgD := ⟨1, ⟨#[97]⟩, ⟨#[98]⟩, 0, [], ⟨#[]⟩⟩
theorem livM_pack : packB livM = [1, 0, 0, 0, 0, 0, 0, 0, 0, 0, 1, 97, 0, 1, 98, 0, 0] := by decide +kernel

set_option maxHeartbeats 1000000 in
theorem lives_any (w : World) : Calls Try.prog 8 #[] w fun e w' => e = .returned (.bool true) ∧ Below w.heap.size w w' := by
  have hp := pack_any livM none 0 0 w (Rd.nil _ _ _) (Nat.zero_le _) (by decide) ⟨by decide, by decide, by decide, by decide, fun s hs => by simp [livM] at hs⟩
  have HP := Lib.hid hp
  clear hp
  go_enter Try.func8, Try.ntmps8
  go_wp2_with fail
  refine calls_then HP.out ?_
  rintro e w1 ⟨hb, h⟩
  rw [if_pos (by decide +kernel)] at h
  obtain ⟨A, c, rfl, hown⟩ := h
  obtain ⟨L, hL⟩ : ∃ L, L = packB livM := ⟨_, rfl⟩
  rw [← hL] at hown ⊢
  have hrd := Rd.of_own hown (Nat.le_refl _)
  have heq : ((⟨L.toArray⟩ : ByteArray).toList == [1, 0, 0, 0, 0, 0, 0, 0, 0, 0, 1, 97, 0, 1, 98, 0, 0]) = true := by
    rw [toList_eq, hL, livM_pack]; rfl
  have HL := Lib.hid hL
  clear hL
  go_wp2_with (refine wpList_str_of hrd Try.underlying26 Try.underlying5 Try.underlying9 rfl rfl rfl ?_)
  go_ret
  exact ⟨rfl, hb⟩
end Go.Proofs.Ytlngjalclagojaa
