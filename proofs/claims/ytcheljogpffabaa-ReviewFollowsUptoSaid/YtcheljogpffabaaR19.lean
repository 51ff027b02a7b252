/- Law 21: Within, as plain lists. -/
import Derived.Test.YtcheljogpffabaaR18
namespace Go.Rev
open Go.Words Go.Proofs.Ytcheljogpffabaa
variable {g : Gd} {n m : Nat}
/-- On no right half whose left half is there. -/
def Fine (g : Gd) (y x : Nat) : Prop := ¬ (0 < x ∧ g.wd y x = 2 ∧ g.wd y (x - 1) = 1)
/-- Halves of one wide rune do not stand in a row: a left half is no right one. -/
theorem held_fine (g : Gd) (py px : Int) : Fine g (heldP g py px).1 (heldP g py px).2 := by
  unfold heldP Fine
  simp only
  generalize clampN py g.n = y
  generalize clampN px g.m = x
  unfold heldX
  split
  · rename_i h
    rintro ⟨h1, h2, h3⟩
    rw [h.2.2] at h2
    cases h2
  · rename_i h
    exact h
/-- A word begins where the cell ahead is blank: so it is no left half. -/
theorem beg_fine (hF : Fit g n m) {y : Nat} (hy : y < n) {p : Nat × Nat} (hp : p ∈ words (g.bl y)) : Fine g y p.1 := by
  rintro ⟨h1, h2, h3⟩
  have ok := ws_ok (g.bl y)
  obtain ⟨_, hlt, hle⟩ := ok.each p hp
  have hlen := hF.bl_len hy
  have hx : p.1 - 1 < (g.row y).length := by rw [hF.row_len hy]; omega
  have hw : ((g.row y)[p.1 - 1]).wide = 1 := by
    have e : g.wd y (p.1 - 1) = ((g.row y)[p.1 - 1]).wide := by
      unfold Gd.wd
      show ((g.row y).getD (p.1 - 1) nul).wide = _
      rw [List.getD_eq_getElem?_getD, List.getElem?_eq_getElem hx]; rfl
    rw [← e]; exact h3
  have hb : (g.bl y)[p.1 - 1]? = some false := by
    unfold Gd.bl
    rw [List.getElem?_map, List.getElem?_eq_getElem hx]
    have : isB (g.row y)[p.1 - 1] = false := by
      unfold isB
      simp [hw]
    simp [this]
  obtain ⟨q, hq, hq1, hq2⟩ := ok.all (p.1 - 1) (Nat.zero_le _) hb
  obtain ⟨i, hi⟩ := List.mem_iff_getElem?.1 hp
  obtain ⟨j, hj⟩ := List.mem_iff_getElem?.1 hq
  have hil := (List.getElem?_eq_some_iff.1 hi).1
  have hjl := (List.getElem?_eq_some_iff.1 hj).1
  have hqe := ok.each q hq
  rcases Nat.lt_trichotomy i j with h | h | h
  · have := List.pairwise_iff_getElem.1 ok.apart i j hil hjl h
    rw [(List.getElem?_eq_some_iff.1 hi).2, (List.getElem?_eq_some_iff.1 hj).2] at this
    omega
  · subst h
    rw [hi] at hj
    cases hj
    omega
  · have := List.pairwise_iff_getElem.1 ok.apart j i hjl hil h
    rw [(List.getElem?_eq_some_iff.1 hi).2, (List.getElem?_eq_some_iff.1 hj).2] at this
    omega
theorem beg_fine' (hF : Fit g n m) {y : Nat} (hy : y < n) {v : Int} (h : v = -1 ∨ ∃ x ∈ words (g.bl y), v = (x.1 : Int)) (h0 : 0 ≤ v) : Fine g y v.toNat := by
  rcases h with h | ⟨x, hx, h⟩
  · omega
  · rw [h, Int.toNat_natCast]; exact beg_fine hF hy hx
theorem left_fine (hF : Fit g n m) : ∀ (y : Nat) (c : Int) (p : Nat × Nat), y < n → leftW g y c = some p → Fine g p.1 p.2
  | 0, c, p, hy, e => by
    unfold leftW at e
    split at e
    · rename_i h0
      cases e
      exact beg_fine' hF hy (prev_val _ _) h0
    · cases e
  | y + 1, c, p, hy, e => by
    unfold leftW at e
    split at e
    · rename_i h0
      cases e
      exact beg_fine' hF hy (prev_val _ _) h0
    · exact left_fine hF y _ p (by omega) e
theorem right_fine (hF : Fit g n m) : ∀ (k y : Nat) (c : Int) (p : Nat × Nat), y + k = n → rightW g k y c = some p → Fine g p.1 p.2
  | 0, y, c, p, hy, e => by cases e
  | k + 1, y, c, p, hy, e => by
    unfold rightW at e
    split at e
    · rename_i h0
      cases e
      exact beg_fine' hF (show y < n by omega) (next_val _ _) h0
    · exact right_fine hF k (y + 1) _ p (by omega) e
theorem goTo_fine (hF : Fit g n m) {y x : Nat} (hy : y < n) (hf : Fine g y x) {c : Int} {p : Nat × Nat} (e : goTo g y x c = some p) : Fine g p.1 p.2 := by
  unfold goTo at e
  repeat' split at e
  all_goals first
    | (cases e; exact held_fine _ _ _)
    | (cases e; done)
    | (cases e; exact hf)
    | exact left_fine hF _ _ _ hy e
    | exact right_fine hF _ _ _ _ (by rw [hF.gn]; omega) e
theorem do_fine (hF : Fit g n m) (v : Pl) (c : Int) : Fine g (doR g v c).1 (doR g v c).2.1 := by
  unfold doR
  have h0 := hF.hold_lt v
  have h1 : Fine g (holdP g v).1 (holdP g v).2 := held_fine _ _ _
  split
  · rename_i p hp
    exact goTo_fine hF h0.1 h1 hp
  · exact h1
/-- What is said has the place in it, and lies in the row. -/
theorem ans_within (hF : Fit g n m) {y x : Nat} (hy : y < n) (hx : x < m) (s : Nat) (e : Bool) : (ans g s y x e).y = y ∧ (ans g s y x e).x = x ∧ (ans g s y x e).f ≤ x ∧ x < (ans g s y x e).t ∧ (ans g s y x e).t ≤ m := by
  unfold ans
  split
  · exact ⟨rfl, rfl, Nat.zero_le _, by rw [hF.gm]; exact hx, by rw [hF.gm]; exact Nat.le_refl _⟩
  · split
    · rename_i a b hab
      have hs : wordW (words (g.bl y)) x = some (a, b) := by
        split at hab
        · exact hab
        · cases hab
      unfold wordW at hs
      have h1 := List.find?_some hs
      have h2 := List.mem_of_find?_eq_some hs
      obtain ⟨_, _, h3⟩ := (ws_ok (g.bl y)).each _ h2
      rw [hF.bl_len hy] at h3
      simp at h1 h3
      exact ⟨rfl, rfl, by show a ≤ x; omega, by show x < b; omega, h3⟩
    · refine ⟨rfl, rfl, Nat.le_refl _, ?_, ?_⟩
      · show x < x + sizeP g y x
        unfold sizeP; split <;> omega
      · show x + sizeP g y x ≤ m
        unfold sizeP
        rw [hF.gm]
        split <;> omega
theorem do_within (hF : Fit g n m) (v : Pl) (c : Int) : ∃ y x : Nat, doV g v c = ⟨g.id y, y, x⟩ ∧ y < n ∧ x < m ∧ Fine g y x ∧ (doA g v c).y = y ∧ (doA g v c).x = x ∧ (doA g v c).f ≤ x ∧ x < (doA g v c).t ∧ (doA g v c).t ≤ m := by
  have h := hF.do_lt v c
  exact ⟨(doR g v c).1, (doR g v c).2.1, rfl, h.1, h.2, do_fine hF v c, ans_within hF h.1 h.2 _ _⟩
end Go.Rev
