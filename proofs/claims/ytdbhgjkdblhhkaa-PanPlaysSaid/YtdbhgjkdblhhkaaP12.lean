/- Each cell's window; a word that is no longer than the window stands whole in one. -/
import Derived.Test.YtdbhgjkdblhhkaaP10
namespace Go.Pan
variable {cells : List Int} {w : Nat} {hw : 0 < w}
theorem back_spec (b : Nat) : ∀ n, (∀ k, back cells b n < k → k ≤ n → cells.getD k 0 ≠ 0 ∧ cells.getD (k - 1) 0 ≠ 0) ∧ (b < back cells b n → 0 < back cells b n ∧ (cells.getD (back cells b n) 0 = 0 ∨ cells.getD (back cells b n - 1) 0 = 0))
  | 0 => ⟨fun k h1 h2 => by simp [back] at h1; omega, fun h => by simp [back] at h⟩
  | n + 1 => by
    unfold back
    split
    · rename_i h
      obtain ⟨h1, h2⟩ := back_spec b n
      refine ⟨fun k k1 k2 => ?_, h2⟩
      by_cases e : k = n + 1
      · subst e; exact ⟨h.2.1, h.2.2⟩
      · exact h1 k k1 (by omega)
    · rename_i h
      refine ⟨fun k k1 k2 => by omega, fun hb => ⟨by omega, ?_⟩⟩
      by_cases e : cells.getD (n + 1) 0 = 0
      · exact .inl e
      · by_cases e2 : cells.getD n 0 = 0
        · exact .inr e2
        · exact absurd ⟨hb, e, e2⟩ h
/-- No begin stands within a word that is no longer than the window. -/
theorem word_whole {x i t : Nat} (hxi : x ≤ i) (hi : i < next cells w x) (ht : next cells w x < t) (hall : ∀ k, i ≤ k → k < t → cells.getD k 0 ≠ 0) (hpre : i = 0 ∨ cells.getD (i - 1) 0 = 0) (hlen : t - i ≤ w) : False := by
  have h1 := hall (next cells w x) (by omega) ht
  have h2 := hall (next cells w x - 1) (by omega) (by omega)
  obtain ⟨s1, s2⟩ := back_spec (cells := cells) x (x + w)
  by_cases e : back cells x (x + w) = x
  · have hn : next cells w x = x + w := by unfold next; rw [if_pos e]
    rw [e] at s1
    by_cases hx : x = i
    · omega
    · have h3 := (s1 i (by omega) (by omega)).2
      rcases hpre with h | h
      · omega
      · exact h3 h
  · have hn : next cells w x = back cells x (x + w) := by unfold next; rw [if_neg e]
    have hge := back_ge cells x (x + w) (by omega)
    obtain ⟨_, s3⟩ := s2 (by omega)
    rw [← hn] at s3
    rcases s3 with h | h
    · exact h1 h
    · exact h2 h
/-- F tells, of the cells below 'top', the number of each one's window. -/
def Told (B : List Nat) (F : List Nat) (top : Nat) : Prop := ∀ k, k < top → ∃ j x, F[k]? = some j ∧ B[j]? = some x ∧ x ≤ k ∧ ∀ y, B[j + 1]? = some y → k < y
theorem told_zero {B F : List Nat} : Told B F 0 := fun k h => by omega
theorem told_set {B F : List Nat} {k i x : Nat} (h : Told B F k) (hk : k < F.length) (hx : B[i]? = some x) (hxk : x ≤ k) (hy : ∀ y, B[i + 1]? = some y → k < y) : Told B (F.set k i) (k + 1) := by
  intro k' hk'
  by_cases e : k' = k
  · subst e
    exact ⟨i, x, by simp [hk], hx, hxk, hy⟩
  · obtain ⟨j, x', h1, h2⟩ := h k' (by omega)
    exact ⟨j, x', by rw [List.getElem?_set_ne (by omega)]; exact h1, h2⟩
/-- The two ends of a short word are in one window. -/
theorem told_word {F : List Nat} {i t j1 j2 : Nat} (h : Told (begs cells w hw 0) F cells.length) (hit : i < t) (htn : t ≤ cells.length) (h1 : F[i]? = some j1) (h2 : F[t - 1]? = some j2) (hall : ∀ k, i ≤ k → k < t → cells.getD k 0 ≠ 0) (hpre : i = 0 ∨ cells.getD (i - 1) 0 = 0) (hlen : t - i ≤ w) : j1 = j2 := by
  obtain ⟨a1, x1, e1, b1, c1, d1⟩ := h i (by omega)
  obtain ⟨a2, x2, e2, b2, c2, d2⟩ := h (t - 1) (by omega)
  rw [h1] at e1; cases e1
  rw [h2] at e2; cases e2
  have hpw := begs_pw (cells := cells) (hw := hw) cells.length 0 (by omega)
  have mono : ∀ p q x y, (begs cells w hw 0)[p]? = some x → (begs cells w hw 0)[q]? = some y → p < q → x < y := fun p q x y hp hq hpq => by
    obtain ⟨k1, k2⟩ := List.getElem?_eq_some_iff.1 hp
    obtain ⟨k3, k4⟩ := List.getElem?_eq_some_iff.1 hq
    have := List.pairwise_iff_getElem.1 hpw p q k1 k3 hpq
    omega
  rcases Nat.lt_trichotomy j1 j2 with hlt | rfl | hgt
  · exfalso
    rcases begs_step (cells := cells) (hw := hw) cells.length 0 (by omega) j1 x1 b1 with ⟨hy, _⟩ | ⟨hy, _⟩
    · have k1 := d1 _ hy
      have k2 : next cells w x1 ≤ x2 := by
        by_cases e : j1 + 1 = j2
        · subst e; rw [hy] at b2; cases b2; exact Nat.le_refl _
        · have := mono _ _ _ _ hy b2 (by omega); omega
      exact word_whole c1 k1 (by omega) hall hpre hlen
    · have := List.getElem?_eq_none_iff.1 hy
      have := (List.getElem?_eq_some_iff.1 b2).1
      omega
  · rfl
  · exfalso
    cases hy : (begs cells w hw 0)[j2 + 1]? with
    | none =>
      have := List.getElem?_eq_none_iff.1 hy
      have := (List.getElem?_eq_some_iff.1 b1).1
      omega
    | some y =>
      have k1 := d2 y hy
      have k2 : y ≤ x1 := by
        by_cases e : j2 + 1 = j1
        · subst e; rw [hy] at b1; cases b1; exact Nat.le_refl _
        · have := mono _ _ _ _ hy b1 (by omega); omega
      omega
end Go.Pan
