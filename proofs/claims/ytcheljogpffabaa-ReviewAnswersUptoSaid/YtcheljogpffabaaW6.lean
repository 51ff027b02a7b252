/- Law 20: the words of a row of cells (each blank, or not), as plain lists. -/
import Derived.Outline
namespace Go.Words
/-- Where the cells that are not blank end, from i on. -/
def stop (bl : List Bool) (i : Nat) : Nat := i + ((bl.drop i).takeWhile (fun b => !b)).length
theorem stop_ge (bl : List Bool) (i : Nat) : i ≤ stop bl i := Nat.le_add_right _ _
theorem stop_le (bl : List Bool) {i : Nat} (h : i ≤ bl.length) : stop bl i ≤ bl.length := by
  have := (List.takeWhile_sublist (fun b => !b) (l := bl.drop i)).length_le
  rw [List.length_drop] at this
  unfold stop; omega
theorem stop_on {bl : List Bool} {i : Nat} (h : bl[i]? = some false) : stop bl i = stop bl (i + 1) := by
  have hi := (List.getElem?_eq_some_iff.1 h).1
  unfold stop
  rw [List.drop_eq_getElem_cons hi, (List.getElem?_eq_some_iff.1 h).2, List.takeWhile_cons_of_pos (by rfl), List.length_cons]
  omega
theorem stop_at {bl : List Bool} {i : Nat} (h : bl[i]? = some true) : stop bl i = i := by
  have hi := (List.getElem?_eq_some_iff.1 h).1
  unfold stop
  rw [List.drop_eq_getElem_cons hi, (List.getElem?_eq_some_iff.1 h).2, List.takeWhile_cons_of_neg (by simp)]
  rfl
theorem stop_end {bl : List Bool} {i : Nat} (h : bl.length ≤ i) : stop bl i = i := by
  unfold stop
  rw [List.drop_eq_nil_of_le h]; rfl
/-- What lies between i and where they end is not blank, and what lies there is, if anything. -/
theorem stop_in {bl : List Bool} {i j : Nat} (h1 : i ≤ j) (h2 : j < stop bl i) : bl[j]? = some false := by
  obtain ⟨d, rfl⟩ : ∃ d, j = i + d := ⟨j - i, by omega⟩
  induction d generalizing i with
  | zero =>
    cases hb : bl[i]? with
    | none =>
      rw [stop_end (List.getElem?_eq_none_iff.1 hb)] at h2
      exact absurd h2 (Nat.lt_irrefl _)
    | some b =>
      cases b with
      | true => rw [stop_at hb] at h2; exact absurd h2 (Nat.lt_irrefl _)
      | false => rfl
  | succ d ih =>
    have h0 : bl[i]? = some false := by
      cases hb : bl[i]? with
      | none =>
        rw [stop_end (List.getElem?_eq_none_iff.1 hb)] at h2
        omega
      | some b =>
        cases b with
        | true => rw [stop_at hb] at h2; omega
        | false => rfl
    have := ih (i := i + 1) (by omega) (by rw [← stop_on h0]; omega)
    rwa [show i + 1 + d = i + (d + 1) by omega] at this
theorem stop_blank {bl : List Bool} {i : Nat} (h : stop bl i < bl.length) : bl[stop bl i]? = some true := by
  obtain ⟨n, hn⟩ : ∃ n, n = bl.length - i := ⟨_, rfl⟩
  induction n generalizing i with
  | zero => rw [stop_end (by omega)] at h; omega
  | succ n ih =>
    have hi : i < bl.length := by omega
    cases hb : bl[i]? with
    | none => exact absurd (List.getElem?_eq_none_iff.1 hb) (by omega)
    | some b =>
      cases b with
      | true => rw [stop_at hb]; exact hb
      | false =>
        rw [stop_on hb] at h ⊢
        exact ih h (by omega)
def wordsFrom (bl : List Bool) (i : Nat) : List (Nat × Nat) :=
  if _h : i < bl.length then (if i < stop bl i then (i, stop bl i) :: wordsFrom bl (stop bl i + 1) else wordsFrom bl (i + 1)) else []
termination_by bl.length - i
decreasing_by
  · have := stop_ge bl i; omega
  · omega
def words (bl : List Bool) : List (Nat × Nat) := wordsFrom bl 0
theorem words_end {bl : List Bool} {i : Nat} (h : bl.length ≤ i) : wordsFrom bl i = [] := by rw [wordsFrom]; rw [dif_neg (by omega)]
theorem words_one {bl : List Bool} {i : Nat} (h : i < bl.length) (h2 : i < stop bl i) : wordsFrom bl i = (i, stop bl i) :: wordsFrom bl (stop bl i + 1) := by rw [wordsFrom, dif_pos h, if_pos h2]
theorem words_skip {bl : List Bool} {i : Nat} (h : i < bl.length) (h2 : ¬ i < stop bl i) : wordsFrom bl i = wordsFrom bl (i + 1) := by rw [wordsFrom, dif_pos h, if_neg h2]
theorem words_len (bl : List Bool) : ∀ (n i : Nat), n = bl.length - i → (wordsFrom bl i).length ≤ bl.length - i := by
  intro n
  induction n using Nat.strongRecOn with
  | _ n ih =>
    intro i hn
    by_cases h : i < bl.length
    · by_cases h2 : i < stop bl i
      · rw [words_one h h2, List.length_cons]
        by_cases h3 : stop bl i + 1 < bl.length
        · have := ih (bl.length - (stop bl i + 1)) (by omega) (stop bl i + 1) rfl
          omega
        · rw [words_end (by omega)]; simp; omega
      · rw [words_skip h h2]
        have := ih (bl.length - (i + 1)) (by omega) (i + 1) rfl
        omega
    · rw [words_end (by omega)]; simp
/-! ## What is asked of words -/
def nextW (ws : List (Nat × Nat)) (col : Int) : Int := match ws.find? (fun x => decide (col < (x.1 : Int))) with | some x => x.1 | none => -1
def wordW (ws : List (Nat × Nat)) (col : Int) : Option (Nat × Nat) := ws.find? (fun x => decide ((x.1 : Int) ≤ col) && decide (col < (x.2 : Int)))
def prevStep (col : Int) (at_ : Int) (x : Nat × Nat) : Int := if (x.1 : Int) < col then x.1 else at_
def prevW (ws : List (Nat × Nat)) (col : Int) : Int := ws.foldl (prevStep col) (-1)
end Go.Words
