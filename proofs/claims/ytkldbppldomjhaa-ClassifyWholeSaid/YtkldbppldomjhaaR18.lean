/- Law 16: ClassifyTyped, in plain Lean: what holds behind k prints. -/
import Derived.Test.YtkldbppldomjhaaR17
namespace Go.Proofs.Ytkldbppldomjhaa
open Go.Typed Go.Front Go.Classify
structure Inv (t : Int) (T M : List Int) (k : Nat) (c : Cl) (out : List Run) : Prop where
  q : c.q = (T.drop k).map (fun r => ⟨r, t + 10⟩)
  life : c.life = 10
  quiet : c.quiet = 10
  tn0 : 0 ≤ c.tnow
  tn : c.tnow ≤ t
  off : c.fr.off = false
  n0 : 0 ≤ c.now
  n1 : c.now ≤ t
  l0 : 0 ≤ c.last
  l1 : c.last ≤ t
  lt : k = 0 ∨ c.last = t
  run : (k ≤ T.length ∧ c.run = ru 1 0 (T.take k) ∧ out = []) ∨ (T.length < k ∧ c.run = ru 2 T.length (M.take (k - T.length)) ∧ out = if T = [] then [] else [ru 1 0 T])
theorem ru_nil (k f k' f' : Int) : ru k f [] = ru k' f' [] := rfl
theorem inv_step {t : Int} {T M : List Int} {k : Nat} {c : Cl} {out : List Run} {r : Int} (h : Inv t T M k c out) (h0 : 0 ≤ t) (h1 : t ≤ 1099511627776) (hT : T.length ≤ 60) (hM : M.length ≤ 60) (hr : (T ++ M)[k]? = some r) :
    ∃ c' o, feedc c ⟨1, k, 0, 0, false, r, true, false, false, false⟩ t = (c', o) ∧ Inv t T M (k + 1) c' (out ++ o) := by
  obtain ⟨i1, i2, i3, i4, i5, i6, i7, i8, i9, i10, i11, i12⟩ := h
  by_cases hk : k < T.length
  · have hr2 : T[k]? = some r := by rw [List.getElem?_append_left hk] at hr; exact hr
    have hd : T.drop k = r :: T.drop (k + 1) := by
      rw [List.drop_eq_getElem_cons hk]
      congr 1
      rw [List.getElem?_eq_getElem hk] at hr2
      exact Option.some.inj hr2
    have ht : T.take (k + 1) = T.take k ++ [r] := by rw [List.take_add_one, hr2]; rfl
    have htk : take c.q r t = ((T.drop (k + 1)).map (fun r => ⟨r, t + 10⟩), true) := by
      rw [i1, hd]
      unfold take
      have : ¬ (t + 10 ≤ t) := by omega
      simp [expire, this]
    rcases i12 with ⟨j1, j2, j3⟩ | ⟨j1, _⟩
    · have hs := step_on (c := c) (e := ⟨1, k, 0, 0, false, r, true, false, false, false⟩) (t := t) (k := 1) (f := 0) (xs := T.take k) j2 (by decide) (by rcases i11 with rfl | h; exact .inl rfl; exact .inr h) i3 i8 h1 i5 rfl (by simp; omega) (by simp; omega) (by rw [htk]; simp [feed])
      refine ⟨_, _, hs, ?_⟩
      simp only [htk]
      exact ⟨rfl, i2, i3, h0, Int.le_refl _, by simp [feed, i6], h0, Int.le_refl _, h0, Int.le_refl _, .inr rfl, .inl ⟨by omega, by rw [ht], by simp [j3]⟩⟩
    · omega
  · have hd : T.drop k = [] := List.drop_eq_nil_of_le (by omega)
    have hd2 : T.drop (k + 1) = [] := List.drop_eq_nil_of_le (by omega)
    have hr2 : M[k - T.length]? = some r := by rw [List.getElem?_append_right (by omega)] at hr; exact hr
    have hlt : k - T.length < M.length := by
      rcases Nat.lt_or_ge (k - T.length) M.length with h | h
      · exact h
      · rw [List.getElem?_eq_none h] at hr2; cases hr2
    have e1 : k + 1 - T.length = k - T.length + 1 := by omega
    have ht : M.take (k + 1 - T.length) = M.take (k - T.length) ++ [r] := by rw [e1, List.take_add_one, hr2]; rfl
    have htk : take c.q r t = ([], false) := by
      rw [i1, hd]
      rfl
    have hkd : (feed c.fr ⟨1, k, 0, 0, false, r, true, false, false, false⟩ (take c.q r t).2).2 = 2 := by rw [htk]; simp [feed, i6]
    by_cases hB : k = T.length ∧ T ≠ []
    · obtain ⟨hB1, hB2⟩ := hB
      rcases i12 with ⟨j1, j2, j3⟩ | ⟨j1, _⟩
      · rw [hB1, List.take_length] at j2
        have hkl : c.last = t := by
          rcases i11 with h | h
          · exact absurd (List.eq_nil_of_length_eq_zero (by omega)) hB2
          · exact h
        have hs := step_next (c := c) (e := ⟨1, k, 0, 0, false, r, true, false, false, false⟩) (t := t) (k := 2) (f := T.length) j2 hB2 (by decide) (by decide) hkl i3 i8 h1 i5 rfl (by simp [hB1]) hkd
        refine ⟨_, _, hs, ?_⟩
        simp only [htk]
        have e3 : M.take (k - T.length) = [] := by rw [hB1, Nat.sub_self]; rfl
        rw [e3] at ht
        exact ⟨by rw [hd2]; rfl, i2, i3, h0, Int.le_refl _, by simp [feed, i6], h0, Int.le_refl _, h0, Int.le_refl _, .inr rfl, .inr ⟨by omega, by rw [ht]; rfl, by simp [j3, hB2]⟩⟩
      · omega
    · have hrun : c.run = ru 2 T.length (M.take (k - T.length)) ∧ out = if T = [] then [] else [ru 1 0 T] := by
        rcases i12 with ⟨j1, j2, j3⟩ | ⟨_, j2, j3⟩
        · have hk2 : k = T.length := by omega
          have hT0 : T = [] := by
            by_cases hT0 : T = []
            · exact hT0
            · exact absurd ⟨hk2, hT0⟩ hB
          subst hT0
          refine ⟨?_, by simp [j3]⟩
          rw [j2, hk2]
          rfl
        · exact ⟨j2, j3⟩
      have hs := step_on (c := c) (e := ⟨1, k, 0, 0, false, r, true, false, false, false⟩) (t := t) (k := 2) (f := T.length) (xs := M.take (k - T.length)) hrun.1 (by decide) (by
        rcases i11 with h | h
        · left; rw [h, Nat.zero_sub]; rfl
        · exact .inr h) i3 i8 h1 i5 rfl (by simp; omega) (by simp; omega) hkd
      refine ⟨_, _, hs, ?_⟩
      simp only [htk]
      exact ⟨by rw [hd2]; rfl, i2, i3, h0, Int.le_refl _, by simp [feed, i6], h0, Int.le_refl _, h0, Int.le_refl _, .inr rfl, .inr ⟨by omega, by rw [ht], by simp [hrun.2]⟩⟩
end Go.Proofs.Ytkldbppldomjhaa
