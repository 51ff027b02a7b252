/- Law 16: ClassifyTyped, in plain Lean: the typing, the end. -/
import Derived.Test.YtkldbppldomjhaaR18
namespace Go.Proofs.Ytkldbppldomjhaa
open Go.Typed Go.Front Go.Classify
def wantR (T M : List Int) : List Run := (if T = [] then [] else [⟨1, 0, T.length, T⟩]) ++ (if M = [] then [] else [⟨2, T.length, T.length + M.length, M⟩])
theorem push_typed {T : List Int} {k : Nat} {r t : Int} (hT : T.length ≤ 60) (hr : T[k]? = some r) : push ((T.take k).map fun r => ⟨r, t + 10⟩) ⟨r, t + 10⟩ = (T.take (k + 1)).map fun r => ⟨r, t + 10⟩ := by
  unfold push
  have h : ¬ ((T.take k).map fun r => (⟨r, t + 10⟩ : One)).length = 64 := by
    rw [List.length_map, List.length_take]
    omega
  rw [if_neg h, List.take_add_one, hr, List.map_append]
  rfl
theorem inv_start {t tn : Int} {T M : List Int} (h0 : 0 ≤ t) (h2 : 0 ≤ tn) (h3 : tn ≤ t) : Inv t T M 0 ⟨T.map fun r => ⟨r, t + 10⟩, 10, tn, Front.new, 10, zr, 0, 0⟩ [] :=
  ⟨rfl, rfl, rfl, h2, h3, rfl, Int.le_refl _, h0, Int.le_refl _, h0, .inl rfl, .inl ⟨Nat.zero_le _, rfl, rfl⟩⟩
theorem inv_ok {t : Int} {T M : List Int} {k : Nat} {c : Cl} {out : List Run} (h : Inv t T M k c out) (h1 : t ≤ 1099511627776) (hT : T.length ≤ 60) (hM : M.length ≤ 60) : c.ok := by
  obtain ⟨i1, i2, i3, i4, i5, i6, i7, i8, i9, i10, i11, i12⟩ := h
  refine ⟨by omega, by omega, i4, by omega, i7, by omega, i9, by omega, by omega, by omega, ?_⟩
  have hl : ∀ (k f : Int) (l : List Int), l.length ≤ 60 → (ru k f l).text.length ≤ 200 := by
    intro k f l h
    unfold ru
    split
    · simp [zr]
    · simp only; omega
  rcases i12 with ⟨_, j, _⟩ | ⟨_, j, _⟩
  · rw [j]; exact hl _ _ _ (by rw [List.length_take]; omega)
  · rw [j]; exact hl _ _ _ (by rw [List.length_take]; omega)
theorem inv_end {t : Int} {T M : List Int} {c : Cl} {out : List Run} (h : Inv t T M (T.length + M.length) c out) : ∃ c' o, endr c = (c', o) ∧ out ++ o = wantR T M ∧ endr c' = (c', []) := by
  obtain ⟨-, -, -, -, -, -, -, -, -, -, -, i12⟩ := h
  refine ⟨_, _, rfl, ?_, ?_⟩
  · rcases i12 with ⟨j1, j2, j3⟩ | ⟨j1, j2, j3⟩
    · have hM : M = [] := List.eq_nil_of_length_eq_zero (by omega)
      subst hM
      have e : T.take (T.length + ([] : List Int).length) = T := List.take_of_length_le (by simp)
      rw [j2, j3, e]
      unfold ru wantR
      by_cases hT : T = []
      · simp [hT, zr]
      · simp [hT]
    · have e : M.take (T.length + M.length - T.length) = M := List.take_of_length_le (by omega)
      have hM : M ≠ [] := by rintro rfl; simp at j1
      rw [j2, j3, e]
      unfold ru wantR
      by_cases hT : T = []
      · simp [hT, hM]
      · simp [hT, hM]
  · simp [endr, zr]
end Go.Proofs.Ytkldbppldomjhaa
