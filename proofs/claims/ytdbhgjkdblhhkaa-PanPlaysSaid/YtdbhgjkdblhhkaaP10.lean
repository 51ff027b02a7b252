/- The begins rise, step by step; the greatest one not above a number. -/
import Derived.Test.YtdbhgjkdblhhkaaP1
namespace Go.Pan
variable {cells : List Int} {w : Nat} {hw : 0 < w}
theorem begs_ge : ∀ (m b : Nat), cells.length - b ≤ m → ∀ x ∈ begs cells w hw b, b ≤ x
  | 0, b, h, x, hx => by
    rw [begs_last (by omega)] at hx
    rw [List.mem_singleton.1 hx]; exact Nat.le_refl _
  | m + 1, b, h, x, hx => by
    by_cases hb : w < cells.length - b
    · rw [begs_more hb] at hx
      have h1 := next_gt (cells := cells) (b := b) hw
      rcases List.mem_cons.1 hx with rfl | hx
      · exact Nat.le_refl _
      · have := begs_ge m (next cells w b) (by omega) x hx
        omega
    · rw [begs_last hb] at hx
      rw [List.mem_singleton.1 hx]; exact Nat.le_refl _
theorem begs_pw : ∀ (m b : Nat), cells.length - b ≤ m → (begs cells w hw b).Pairwise (· < ·)
  | 0, b, h => by rw [begs_last (by omega)]; simp
  | m + 1, b, h => by
    by_cases hb : w < cells.length - b
    · rw [begs_more hb]
      have h1 := next_gt (cells := cells) (b := b) hw
      refine List.Pairwise.cons (fun x hx => ?_) (begs_pw m (next cells w b) (by omega))
      have := begs_ge (cells := cells) (hw := hw) m (next cells w b) (by omega) x hx
      omega
    · rw [begs_last hb]; simp
theorem begs_step : ∀ (m b : Nat), cells.length - b ≤ m → ∀ (i x : Nat), (begs cells w hw b)[i]? = some x →
    ((begs cells w hw b)[i + 1]? = some (next cells w x) ∧ w < cells.length - x) ∨ ((begs cells w hw b)[i + 1]? = none ∧ ¬ w < cells.length - x)
  | m, b, h, 0, x, hx => by
    by_cases hb : w < cells.length - b
    · rw [begs_more hb] at hx ⊢
      simp at hx
      subst hx
      refine .inl ⟨?_, hb⟩
      by_cases h2 : w < cells.length - next cells w b
      · rw [begs_more h2]; rfl
      · rw [begs_last h2]; rfl
    · rw [begs_last hb] at hx ⊢
      simp at hx
      subst hx
      exact .inr ⟨rfl, hb⟩
  | 0, b, h, i + 1, x, hx => by
    rw [begs_last (by omega)] at hx
    simp at hx
  | m + 1, b, h, i + 1, x, hx => by
    by_cases hb : w < cells.length - b
    · rw [begs_more hb] at hx ⊢
      have h1 := next_gt (cells := cells) (b := b) hw
      exact begs_step m (next cells w b) (by omega) i x (by simpa using hx)
    · rw [begs_last hb] at hx
      simp at hx
theorem begs_zero : (begs cells w hw 0)[0]? = some 0 := by
  by_cases hb : w < cells.length - 0
  · rw [begs_more hb]; rfl
  · rw [begs_last hb]; rfl
theorem begs_pos : 0 < (begs cells w hw 0).length := by
  by_cases hb : w < cells.length - 0
  · rw [begs_more hb]; simp
  · rw [begs_last hb]; simp
/-- In a list that rises: all of the first ones. -/
theorem pw_take {l : List Nat} (h : l.Pairwise (· < ·)) {i x : Nat} (hx : l[i]? = some x) : ∀ y ∈ l.take (i + 1), y ≤ x := by
  intro y hy
  obtain ⟨j, hj⟩ := List.mem_iff_getElem?.1 hy
  rw [List.getElem?_take] at hj
  split at hj
  · rename_i hji
    obtain ⟨h1, h2⟩ := List.getElem?_eq_some_iff.1 hj
    obtain ⟨h3, h4⟩ := List.getElem?_eq_some_iff.1 hx
    by_cases e : j = i
    · subst e; rw [← h2, ← h4]; exact Nat.le_refl _
    · have := List.pairwise_iff_getElem.1 h j i h1 h3 (by omega)
      omega
  · cases hj
theorem lastD_take {l : List Nat} {i x : Nat} (hx : l[i]? = some x) : lastD (l.take (i + 1)) = x := by
  rw [List.take_add_one, hx]
  exact lastD_snoc _ _
theorem split_at {l : List Nat} {i y : Nat} (hy : l[i + 1]? = some y) : l = l.take (i + 1) ++ y :: l.drop (i + 2) := by
  obtain ⟨h1, h2⟩ := List.getElem?_eq_some_iff.1 hy
  rw [← h2, ← List.drop_eq_getElem_cons h1, List.take_append_drop]
/-- The one that is not above, the next one being above. -/
theorem lastB_at {l : List Nat} (h : l.Pairwise (· < ·)) {i x : Nat} {most : Int} (hx : l[i]? = some x) (hm : (x : Int) ≤ most) (hn : ∀ y, l[i + 1]? = some y → most < (y : Int)) : lastB most 0 l = x := by
  have hall : ∀ y ∈ l.take (i + 1), (y : Int) ≤ most := fun y hy => by have := pw_take h hx y hy; omega
  cases hy : l[i + 1]? with
  | none =>
    have e : l.take (i + 1) = l := List.take_of_length_le (by have := List.getElem?_eq_none_iff.1 hy; omega)
    rw [e] at hall
    rw [lastB_all' l hall]
    have := lastD_take hx
    rwa [e] at this
  | some y =>
    have e := split_at hy
    have h2 := lastB_stop' (l.take (i + 1)) y (l.drop (i + 2)) hall (hn y hy)
    rw [← e, lastD_take hx] at h2
    exact h2
theorem lastB_self {l : List Nat} (h : l.Pairwise (· < ·)) {i x : Nat} (hx : l[i]? = some x) : lastB (x : Int) 0 l = x :=
  lastB_at h hx (Int.le_refl _) fun y hy => by
    obtain ⟨h1, h2⟩ := List.getElem?_eq_some_iff.1 hy
    obtain ⟨h3, h4⟩ := List.getElem?_eq_some_iff.1 hx
    have := List.pairwise_iff_getElem.1 h i (i + 1) h3 h1 (by omega)
    omega
theorem lastB_prev {l : List Nat} (h : l.Pairwise (· < ·)) {i x y : Nat} (hx : l[i]? = some x) (hy : l[i + 1]? = some y) : lastB ((y : Int) - 1) 0 l = x :=
  lastB_at h hx (by
    obtain ⟨h1, h2⟩ := List.getElem?_eq_some_iff.1 hy
    obtain ⟨h3, h4⟩ := List.getElem?_eq_some_iff.1 hx
    have := List.pairwise_iff_getElem.1 h i (i + 1) h3 h1 (by omega)
    omega) fun z hz => by rw [hy] at hz; cases hz; omega
/-- Each cell is in the window of the greatest begin not above it. -/
theorem lastB_cover {i : Nat} (hi : i < cells.length) : ∀ (m b at' : Nat), cells.length - b ≤ m → b ≤ i → b ≤ lastB (i : Int) at' (begs cells w hw b) ∧ lastB (i : Int) at' (begs cells w hw b) ≤ i ∧ i < lastB (i : Int) at' (begs cells w hw b) + w
  | 0, b, at', h, hb => by omega
  | m + 1, b, at', h, hbi => by
    by_cases hb : w < cells.length - b
    · have h1 := next_gt (cells := cells) (b := b) hw
      have h2 := next_le (cells := cells) (w := w) (b := b)
      rw [begs_more hb, lastB, if_neg (by omega)]
      by_cases hn : next cells w b ≤ i
      · have := lastB_cover hi m (next cells w b) b (by omega) hn
        omega
      · have e : lastB (i : Int) b (begs cells w hw (next cells w b)) = b := by
          by_cases h3 : w < cells.length - next cells w b
          · rw [begs_more h3, lastB, if_pos (by omega)]
          · rw [begs_last h3, lastB, if_pos (by omega)]
        rw [e]; omega
    · rw [begs_last hb, lastB, if_neg (by omega), lastB]
      omega
end Go.Pan
