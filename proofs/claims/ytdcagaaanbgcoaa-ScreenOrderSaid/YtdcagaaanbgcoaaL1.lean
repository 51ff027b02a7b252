/-
  A ring of lines: what it has, in its order.
-/
import Derived.WalkKit
namespace Go.Lines
variable {α β : Type}
/-- What a ring has, the oldest one first. -/
def lst (first : Nat) (l : List α) : List α := l.drop first ++ l.take first
structure Rok (most first n : Nat) : Prop where
  le : n ≤ most
  zero : n < most → first = 0
  lt : first < n ∨ first = 0
theorem lst_zero (l : List α) : lst 0 l = l := by simp [lst]
theorem lst_map (f : α → β) (k : Nat) (l : List α) : (lst k l).map f = lst k (l.map f) := by unfold lst; rw [List.map_append, List.map_drop, List.map_take]
theorem lst_len (k : Nat) (l : List α) (h : k ≤ l.length) : (lst k l).length = l.length := by unfold lst; rw [List.length_append, List.length_drop, List.length_take]; omega
theorem Rok.start (most : Nat) : Rok most 0 0 := ⟨Nat.zero_le _, fun _ => rfl, .inr rfl⟩
theorem Rok.le_len {most first n : Nat} (h : Rok most first n) : first ≤ n := by rcases h.lt with h | h <;> omega
theorem lst_get {most first : Nat} {l : List α} (h : Rok most first l.length) {i : Nat} (hi : i < l.length) : (lst first l)[i]? = l[(first + i) % l.length]? := by
  have hl := h.le_len
  unfold lst
  by_cases hc : first + i < l.length
  · rw [Nat.mod_eq_of_lt hc, List.getElem?_append_left (by rw [List.length_drop]; omega), List.getElem?_drop]
  · have e : (first + i) % l.length = first + i - l.length := by
      rw [Nat.mod_eq_sub_mod (by omega), Nat.mod_eq_of_lt (by omega)]
    rw [e, List.getElem?_append_right (by rw [List.length_drop]; omega), List.length_drop, List.getElem?_take, if_pos (by omega)]
    congr 1
    omega
/-- One more line, of at most so many. -/
def push (most : Nat) (l : List α) (x : α) : List α := if most < (l ++ [x]).length then (l ++ [x]).drop 1 else l ++ [x]
theorem push_map (f : α → β) (most : Nat) (l : List α) (x : α) : (push most l x).map f = push most (l.map f) (f x) := by
  unfold push
  by_cases h : most < (l ++ [x]).length
  · rw [if_pos h, if_pos (by simpa using h)]; simp
  · rw [if_neg h, if_neg (by simpa using h)]; simp
theorem push_len (most : Nat) (l : List α) (x : α) (h : l.length ≤ most) : (push most l x).length ≤ most := by
  unfold push
  split <;> simp at * <;> omega
theorem add_none {first : Nat} {l : List α} (h : Rok 0 first l.length) (x : α) : push 0 (lst first l) x = lst first l := by
  have h1 := h.le
  have h2 : l = [] := List.length_eq_zero_iff.1 (by omega)
  subst h2
  simp [push, lst]
theorem add_more {most first : Nat} {l : List α} (h : Rok most first l.length) (hl : l.length < most) (x : α) : push most (lst first l) x = lst first (l ++ [x]) ∧ Rok most first (l ++ [x]).length := by
  have h0 := h.zero hl
  subst h0
  rw [lst_zero, lst_zero]
  refine ⟨?_, ?_, fun _ => rfl, .inr rfl⟩
  · unfold push
    rw [if_neg (by simp; omega)]
  · simp; omega
theorem add_over {most first : Nat} {l : List α} (h : Rok most first l.length) (h0 : 0 < most) (hl : ¬ l.length < most) (x : α) : push most (lst first l) x = lst ((first + 1) % most) (l.set first x) ∧ Rok most ((first + 1) % most) (l.set first x).length ∧ first < l.length := by
  have h1 := h.le
  have h2 : l.length = most := by omega
  have h3 : first < l.length := by rcases h.lt with h | h <;> omega
  refine ⟨?_, ?_, h3⟩
  · unfold push
    rw [if_pos (by rw [List.length_append, lst_len _ _ (by omega)]; simp; omega)]
    obtain ⟨A, y, B, rfl, rfl⟩ : ∃ A y B, l = A ++ y :: B ∧ A.length = first := by
      refine ⟨l.take first, l[first], l.drop (first + 1), ?_, by rw [List.length_take]; omega⟩
      have e := List.take_append_drop first l
      rw [List.drop_eq_getElem_cons h3] at e
      exact e.symm
    have e1 : lst A.length (A ++ y :: B) = y :: (B ++ A) := by simp [lst]
    have e2 : (A ++ y :: B).set A.length x = A ++ x :: B := by simp
    rw [e1, e2]
    by_cases hB : B = []
    · subst hB
      simp at h2
      rw [h2, Nat.mod_self, lst_zero]
      simp
    · have hb : 0 < B.length := List.length_pos_iff.2 hB
      rw [Nat.mod_eq_of_lt (by simp at h2; omega)]
      unfold lst
      have e3 : (A ++ x :: B).drop (A.length + 1) = B := by rw [show A ++ x :: B = (A ++ [x]) ++ B by simp, show A.length + 1 = (A ++ [x]).length by simp, List.drop_left]
      have e4 : (A ++ x :: B).take (A.length + 1) = A ++ [x] := by rw [show A ++ x :: B = (A ++ [x]) ++ B by simp, show A.length + 1 = (A ++ [x]).length by simp, List.take_left]
      rw [e3, e4]
      simp
  · have h4 : (first + 1) % most < most := Nat.mod_lt _ h0
    rw [List.length_set]
    exact ⟨h1, fun h5 => absurd h5 hl, .inl (by omega)⟩
/-- The newest place of what answers so; -1: there is none. -/
def find (p : α → Bool) : List α → Int
  | [] => -1
  | x :: l => if 0 ≤ find p l then find p l + 1 else if p x then 0 else -1
theorem find_snoc (p : α → Bool) : ∀ (l : List α) (x : α), find p (l ++ [x]) = if p x then (l.length : Int) else find p l
  | [], x => by
    have e : find p [] = -1 := rfl
    show (if 0 ≤ find p [] then find p [] + 1 else if p x then 0 else -1) = if p x then ((0 : Nat) : Int) else find p []
    rw [if_neg (by omega), e]
    rfl
  | y :: l, x => by
    rw [List.cons_append, find, find_snoc p l x, find]
    by_cases h : p x = true
    · rw [if_pos h, if_pos h, if_pos (by omega)]; simp
    · rw [if_neg h, if_neg h]
theorem find_ge (p : α → Bool) : ∀ (l : List α), -1 ≤ find p l
  | [] => by simp [find]
  | x :: l => by
    have := find_ge p l
    unfold find
    split
    · omega
    · split <;> omega
theorem find_none (p : α → Bool) : ∀ (l : List α), (∀ x ∈ l, p x = false) → find p l = -1
  | [], _ => rfl
  | x :: l, h => by
    rw [find, find_none p l (fun y hy => h y (List.mem_cons_of_mem _ hy)), if_neg (by omega), h x List.mem_cons_self]
    rfl
theorem find_take_succ (p : α → Bool) (l : List α) (i : Nat) (x : α) (h : l[i]? = some x) : find p (l.take (i + 1)) = if p x then (i : Int) else find p (l.take i) := by
  have hi := (List.getElem?_eq_some_iff.1 h).1
  rw [List.take_add_one, h]
  show find p (l.take i ++ [x]) = _
  rw [find_snoc, List.length_take, Nat.min_eq_left (by omega)]
end Go.Lines
