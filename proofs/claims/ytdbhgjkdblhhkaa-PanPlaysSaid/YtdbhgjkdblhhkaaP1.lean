/- The windows' begins as plain functions. -/
import Derived.WalkKit
namespace Go.Pan
/-- How far back a begin goes that would stand in a word. -/
def back (cells : List Int) (b : Nat) : Nat → Nat
  | 0 => 0
  | n + 1 => if b < n + 1 ∧ cells.getD (n + 1) 0 ≠ 0 ∧ cells.getD n 0 ≠ 0 then back cells b n else n + 1
theorem back_le (cells : List Int) (b : Nat) : ∀ n, back cells b n ≤ n
  | 0 => Nat.le_refl _
  | n + 1 => by
    unfold back
    split
    · have := back_le cells b n; omega
    · exact Nat.le_refl _
theorem back_ge (cells : List Int) (b : Nat) : ∀ n, b ≤ n → b ≤ back cells b n
  | 0, h => by simpa [back] using h
  | n + 1, h => by
    unfold back
    split
    · rename_i hh
      exact back_ge cells b n (by omega)
    · exact h
def next (cells : List Int) (w b : Nat) : Nat := if back cells b (b + w) = b then b + w else back cells b (b + w)
theorem next_gt {cells : List Int} {w b : Nat} (hw : 0 < w) : b < next cells w b := by
  unfold next
  split
  · omega
  · have := back_ge cells b (b + w) (by omega)
    omega
theorem next_le {cells : List Int} {w b : Nat} : next cells w b ≤ b + w := by
  unfold next
  split
  · exact Nat.le_refl _
  · exact back_le cells b (b + w)
theorem next_stop {cells : List Int} {w b k : Nat} (hb : b < k + 1) (h : cells.getD (k + 1) 0 = 0 ∨ cells.getD k 0 = 0) (HB : back cells b (k + 1) = back cells b (b + w)) : next cells w b = k + 1 := by
  have e : back cells b (k + 1) = k + 1 := by
    unfold back
    rw [if_neg]
    rintro ⟨_, h1, h2⟩
    rcases h with h | h
    · exact h1 h
    · exact h2 h
  unfold next
  rw [← HB, e, if_neg (by omega)]
theorem next_full {cells : List Int} {w b : Nat} (HB : back cells b b = back cells b (b + w)) : next cells w b = b + w := by
  unfold next
  have e1 := back_le cells b b
  have e2 := back_ge cells b b (Nat.le_refl _)
  rw [if_pos (by omega)]
theorem back_on {cells : List Int} {w b k : Nat} (hb : b < k + 1) (h1 : cells.getD (k + 1) 0 ≠ 0) (h2 : cells.getD k 0 ≠ 0) (HB : back cells b (k + 1) = back cells b (b + w)) : back cells b k = back cells b (b + w) := by
  rw [← HB, back, if_pos ⟨hb, h1, h2⟩]
/-- The begins from b on. -/
def begs (cells : List Int) (w : Nat) (hw : 0 < w) (b : Nat) : List Nat :=
  b :: if _h : w < cells.length - b then begs cells w hw (next cells w b) else []
termination_by cells.length - b
decreasing_by
  have := next_gt (cells := cells) (b := b) hw
  omega
theorem begs_more {cells : List Int} {w b : Nat} {hw : 0 < w} (h : w < cells.length - b) : begs cells w hw b = b :: begs cells w hw (next cells w b) := by
  rw [begs]; simp [h]
theorem begs_last {cells : List Int} {w b : Nat} {hw : 0 < w} (h : ¬ w < cells.length - b) : begs cells w hw b = [b] := by
  rw [begs]; simp [h]
theorem begs_len {cells : List Int} {w : Nat} {hw : 0 < w} : ∀ (m b : Nat), cells.length - b ≤ m → (begs cells w hw b).length ≤ m + 1
  | 0, b, h => by rw [begs_last (by omega)]; simp
  | m + 1, b, h => by
    by_cases hb : w < cells.length - b
    · rw [begs_more hb]
      have := begs_len (cells := cells) (hw := hw) m (next cells w b) (by have := next_gt (cells := cells) (b := b) hw; omega)
      simp; omega
    · rw [begs_last hb]; simp
/-- The last one of those that are not above 'most', up to the first one that is. -/
def lastB (most : Int) : Nat → List Nat → Nat
  | at', [] => at'
  | at', b :: l => if most < (b : Int) then at' else lastB most b l
/-- Whether all of them were not above. -/
theorem lastB_stop {most : Int} : ∀ (pre : List Nat) (at' : Nat) (b : Nat) (l : List Nat), (∀ x ∈ pre, (x : Int) ≤ most) → most < (b : Int) → lastB most at' (pre ++ b :: l) = pre.getLastD at'
  | [], at', b, l, _, hb => by simp [lastB, hb]
  | x :: pre, at', b, l, h, hb => by
    have hx := h x (by simp)
    rw [List.cons_append, lastB, if_neg (by omega), lastB_stop pre x b l (fun y hy => h y (by simp [hy])) hb]
    cases pre <;> simp [List.getLastD]
theorem lastB_all {most : Int} : ∀ (pre : List Nat) (at' : Nat), (∀ x ∈ pre, (x : Int) ≤ most) → lastB most at' pre = pre.getLastD at'
  | [], at', _ => by simp [lastB]
  | x :: pre, at', h => by
    have hx := h x (by simp)
    rw [lastB, if_neg (by omega), lastB_all pre x (fun y hy => h y (by simp [hy]))]
    cases pre <;> simp [List.getLastD]
theorem begs_mem {cells : List Int} {w : Nat} {hw : 0 < w} : ∀ (m b : Nat), cells.length - b ≤ m → ∀ x ∈ begs cells w hw b, x = b ∨ x < cells.length
  | 0, b, h, x, hx => by
    rw [begs_last (by omega)] at hx
    exact .inl (List.mem_singleton.1 hx)
  | m + 1, b, h, x, hx => by
    by_cases hb : w < cells.length - b
    · rw [begs_more hb] at hx
      rcases List.mem_cons.1 hx with rfl | hx
      · exact .inl rfl
      · have h1 := next_gt (cells := cells) (b := b) hw
        have h2 := next_le (cells := cells) (w := w) (b := b)
        rcases begs_mem m (next cells w b) (by omega) x hx with rfl | h3
        · exact .inr (by omega)
        · exact .inr h3
    · rw [begs_last hb] at hx
      exact .inl (List.mem_singleton.1 hx)
theorem lastB_mem {most : Int} : ∀ (l : List Nat) (at' : Nat), lastB most at' l = at' ∨ lastB most at' l ∈ l
  | [], _ => .inl rfl
  | b :: l, at' => by
    unfold lastB
    split
    · exact .inl rfl
    · rcases lastB_mem (most := most) l b with h | h
      · exact .inr (by rw [h]; simp)
      · exact .inr (by simp [h])
theorem lastB_le {cells : List Int} {w : Nat} {hw : 0 < w} (most : Int) : lastB most 0 (begs cells w hw 0) ≤ cells.length := by
  rcases lastB_mem (most := most) (begs cells w hw 0) 0 with h | h
  · omega
  · rcases begs_mem cells.length 0 (by omega) _ h with h | h <;> omega
def lastD (l : List Nat) : Nat := l.getLastD 0
theorem lastD_snoc (l : List Nat) (x : Nat) : lastD (l ++ [x]) = x := by simp [lastD]
theorem lastB_stop' {most : Int} (pre : List Nat) (b : Nat) (l : List Nat) (h : ∀ x ∈ pre, (x : Int) ≤ most) (hb : most < (b : Int)) : lastB most 0 (pre ++ b :: l) = lastD pre := lastB_stop pre 0 b l h hb
theorem lastB_all' {most : Int} (pre : List Nat) (h : ∀ x ∈ pre, (x : Int) ≤ most) : lastB most 0 pre = lastD pre := lastB_all pre 0 h
end Go.Pan
