/- Law 21: a known grid, what is known of it. -/
import Derived.Test.YtcheljogpffabaaR12
namespace Go.Rev
open Go.Words Go.Proofs.Ytcheljogpffabaa
def oneG : Gd := ⟨[[⟨97, [], 0⟩, ⟨98, [], 0⟩, ⟨32, [], 0⟩, ⟨99, [], 0⟩]], [1], 0, 0⟩
theorem one_words : words (oneG.bl 0) = [(0, 2), (3, 4)] := by
  have : oneG.bl 0 = [false, false, true, false] := by decide
  rw [this]
  refine (words_eq ?_).symm
  refine ⟨?_, ?_, ?_, ?_⟩
  · decide
  · decide
  · intro x hx j h1 h2
    simp at hx
    rcases hx with rfl | rfl
    · have : j = 0 ∨ j = 1 := by simp at h2; omega
      rcases this with rfl | rfl <;> rfl
    · have : j = 3 := by simp at h1 h2; omega
      subst this; rfl
  · intro j _ h
    have hj := (List.getElem?_eq_some_iff.1 h).1
    have : j = 0 ∨ j = 1 ∨ j = 2 ∨ j = 3 := by simp at hj; omega
    rcases this with rfl | rfl | rfl | rfl
    · exact ⟨(0, 2), by simp, by decide, by decide⟩
    · exact ⟨(0, 2), by simp, by decide, by decide⟩
    · simp at h
    · exact ⟨(3, 4), by simp, by decide, by decide⟩
theorem one_fit : Fit oneG 1 4 := ⟨by decide, by decide, by decide, rfl, rfl, by decide, by decide⟩
theorem k1 : doA oneG ⟨0, 0, 0⟩ (12 : Nat) = ⟨0, 0, 0, 1, [97], false⟩ ∧ doV oneG ⟨0, 0, 0⟩ (12 : Nat) = ⟨1, 0, 0⟩ := ⟨rfl, rfl⟩
theorem k2 : doA oneG ⟨1, 0, 0⟩ (13 : Nat) = ⟨0, 0, 0, 2, [97, 98], false⟩ ∧ doV oneG ⟨1, 0, 0⟩ (13 : Nat) = ⟨1, 0, 0⟩ := by
  have h : doR oneG ⟨1, 0, 0⟩ (13 : Nat) = (0, 0, false) := rfl
  refine ⟨?_, rfl⟩
  unfold doA
  rw [h]
  show ans oneG 1 0 0 false = _
  unfold ans
  rw [one_words]
  rfl
theorem k3 : doA oneG ⟨1, 0, 0⟩ (6 : Nat) = ⟨0, 3, 3, 4, [99], false⟩ ∧ doV oneG ⟨1, 0, 0⟩ (6 : Nat) = ⟨1, 0, 3⟩ := by
  have h : doR oneG ⟨1, 0, 0⟩ (6 : Nat) = (0, 3, false) := by
    have : goTo oneG 0 0 (6 : Nat) = some (0, 3) := by
      show rightW oneG 1 0 0 = _
      unfold rightW
      rw [one_words]
      rfl
    unfold doR
    show (match goTo oneG 0 0 (6 : Nat) with | some p => (p.1, p.2, false) | none => _) = _
    rw [this]
  constructor
  · unfold doA
    rw [h]
    show ans oneG 1 0 3 false = _
    unfold ans
    rw [one_words]
    rfl
  · unfold doV
    rw [h]
    rfl
theorem k4 : doA oneG ⟨1, 0, 3⟩ (2 : Nat) = ⟨0, 3, 3, 4, [99], true⟩ ∧ doV oneG ⟨1, 0, 3⟩ (2 : Nat) = ⟨1, 0, 3⟩ := ⟨rfl, rfl⟩
theorem k5 : doA oneG ⟨1, 0, 3⟩ (3 : Nat) = ⟨0, 3, 0, 4, [97, 98, 32, 99], true⟩ ∧ doV oneG ⟨1, 0, 3⟩ (3 : Nat) = ⟨1, 0, 3⟩ := ⟨rfl, rfl⟩
end Go.Rev
