/- The document's next begin, last begin: the same. -/
import Derived.Test.YtdbhgjkdblhhkaaP12
namespace Go.Pan
variable {cells : List Int} {w : Nat} {hw : 0 < w}
/-- Where the word begins that ends ahead of n. -/
def first (cells : List Int) : Nat → Nat
  | 0 => 0
  | n + 1 => if cells.getD n 0 ≠ 0 then first cells n else n + 1
theorem first_le (cells : List Int) : ∀ n, first cells n ≤ n
  | 0 => Nat.le_refl _
  | n + 1 => by
    unfold first
    split
    · have := first_le cells n; omega
    · exact Nat.le_refl _
theorem back_first (b : Nat) : ∀ n, b ≤ n → cells.getD n 0 ≠ 0 → back cells b n = max b (first cells n)
  | 0, h, _ => by simp [back, first]; omega
  | n + 1, h, hn => by
    have hf := first_le cells (n + 1)
    unfold back
    by_cases e : cells.getD n 0 = 0
    · rw [if_neg (by rintro ⟨_, _, h3⟩; exact h3 e)]
      have : first cells (n + 1) = n + 1 := by unfold first; rw [if_neg (by rw [e]; simp)]
      omega
    · have ef : first cells (n + 1) = first cells n := by conv => lhs; unfold first
                                                          rw [if_pos e]
      by_cases hb : b < n + 1
      · rw [if_pos ⟨hb, hn, e⟩, back_first b n (by omega) e, ef]
      · rw [if_neg (by rintro ⟨h1, _⟩; exact hb h1)]
        omega
theorem next_blank {b : Nat} (h : cells.getD (b + w) 0 = 0 ∨ cells.getD (b + w - 1) 0 = 0) (hw : 0 < w) : next cells w b = b + w := by
  have e : b + w = (b + w - 1) + 1 := by omega
  have hb : back cells b (b + w) = b + w := by
    rw [e, back, if_neg]
    rintro ⟨_, h1, h2⟩
    rw [← e] at h1
    rcases h with h | h
    · exact h1 h
    · exact h2 h
  unfold next
  rw [hb]
  split <;> rfl
theorem next_word {b : Nat} (h : cells.getD (b + w) 0 ≠ 0) (hw : 0 < w) : next cells w b = if b < first cells (b + w) then first cells (b + w) else b + w := by
  have hb := back_first (cells := cells) b (b + w) (by omega) h
  unfold next
  rw [hb]
  by_cases e : b < first cells (b + w)
  · rw [if_pos e, if_neg (by omega)]; omega
  · rw [if_neg e, if_pos (by omega)]
theorem first_on {n : Nat} (h : cells.getD n 0 ≠ 0) : first cells (n + 1) = first cells n := by
  conv => lhs; unfold first
  rw [if_pos h]
theorem first_stop {n : Nat} (h : cells.getD n 0 = 0) : first cells (n + 1) = n + 1 := by
  unfold first; rw [if_neg (by rw [h]; simp)]
/-- The last one that is not above. -/
def lastAll (most : Int) (at' : Nat) (l : List Nat) : Nat := l.foldl (fun (a x : Nat) => if (x : Int) ≤ most then x else a) at'
theorem lastAll_above {most : Int} : ∀ (l : List Nat) (at' : Nat), (∀ x ∈ l, most < (x : Int)) → lastAll most at' l = at'
  | [], _, _ => rfl
  | x :: l, at', h => by
    have hx := h x (by simp)
    unfold lastAll
    rw [List.foldl_cons, if_neg (by omega)]
    exact lastAll_above l at' fun y hy => h y (by simp [hy])
theorem lastAll_eq {most : Int} : ∀ (l : List Nat) (at' : Nat), l.Pairwise (· < ·) → lastAll most at' l = lastB most at' l
  | [], _, _ => rfl
  | b :: l, at', h => by
    rw [List.pairwise_cons] at h
    unfold lastB
    by_cases e : most < (b : Int)
    · rw [if_pos e]
      exact lastAll_above (b :: l) at' fun x hx => by
        rcases List.mem_cons.1 hx with rfl | hx
        · exact e
        · have := h.1 x hx; omega
    · rw [if_neg e]
      unfold lastAll
      rw [List.foldl_cons, if_pos (by omega)]
      exact lastAll_eq l b h.2
theorem lastAll_snoc (most : Int) (at' : Nat) (l : List Nat) (x : Nat) : lastAll most at' (l ++ [x]) = if (x : Int) ≤ most then x else lastAll most at' l := by simp [lastAll]
end Go.Pan
