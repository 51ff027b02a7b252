/- Law 18: the document's ways of choosing, held against the queue's. -/
import Derived.Test.YtinfgebdcjaabaaQ21
namespace Go.Queue
theorem least_facts (l : List Ut) : ∀ k, (∀ i, i < k → prio l (leastUpto l k) ≤ prio l i) ∧ ∀ i, leastUpto l k < i → i < k → prio l (leastUpto l k) < prio l i
  | 0 => ⟨fun i hi => by omega, fun i _ hi => by omega⟩
  | k + 1 => by
    obtain ⟨h1, h2⟩ := least_facts l k
    unfold leastUpto
    split
    · rename_i h
      refine ⟨fun i hi => ?_, fun i hi hk => by omega⟩
      rcases Nat.lt_or_ge i k with h3 | h3
      · have := h1 i h3; omega
      · obtain rfl : i = k := by omega
        exact Int.le_refl _
    · rename_i h
      refine ⟨fun i hi => ?_, fun i hi hk => ?_⟩
      · rcases Nat.lt_or_ge i k with h3 | h3
        · exact h1 i h3
        · obtain rfl : i = k := by omega
          omega
      · rcases Nat.lt_or_ge i k with h3 | h3
        · exact h2 i hi h3
        · obtain rfl : i = k := by omega
          omega
theorem least_is {l : List Ut} {i : Nat} (hi : i < l.length) (h1 : ∀ j, j < l.length → prio l i ≤ prio l j) (h2 : ∀ j, i < j → j < l.length → prio l j ≠ prio l i) : leastAt l = i := by
  obtain ⟨f1, f2⟩ := least_facts l l.length
  have hm : leastAt l < l.length := least_lt' (by omega)
  have e : leastUpto l l.length = leastAt l := rfl
  rw [e] at f1 f2
  have e1 := f1 i hi
  have e2 := h1 _ hm
  rcases Nat.lt_trichotomy (leastAt l) i with h | h | h
  · have := f2 i h hi; omega
  · exact h
  · exact (h2 _ h hm (by omega)).elim
theorem best_is {l : List Ut} {i : Nat} (hi : i < l.length) (h1 : ∀ j, j < l.length → prio l j ≤ prio l i) (h2 : ∀ j, j < i → prio l j ≠ prio l i) : bestAt l = i := by
  obtain ⟨f1, f2⟩ := best_facts l l.length
  have e : bestUpto l l.length = bestAt l := rfl
  rw [e] at f1 f2
  have hm : bestAt l < l.length := by have := best_le l l.length; rw [e] at this; omega
  have e1 := f1 i hi
  have e2 := h1 _ hm
  rcases Nat.lt_trichotomy (bestAt l) i with h | h | h
  · exact (h2 _ h (by omega)).elim
  · exact h
  · have := f2 i h; omega
/-- The last of the first j of a priority; -1: there is none. -/
def lastOf (l : List Ut) (p : Int) : Nat → Int
  | 0 => -1
  | j + 1 => if prio l j = p then j else lastOf l p j
theorem lastOf_facts (l : List Ut) (p : Int) : ∀ j, (lastOf l p j = -1 ∧ ∀ i, i < j → prio l i ≠ p) ∨ ∃ i : Nat, lastOf l p j = i ∧ i < j ∧ prio l i = p ∧ ∀ k, i < k → k < j → prio l k ≠ p
  | 0 => .inl ⟨rfl, fun i hi => by omega⟩
  | j + 1 => by
    unfold lastOf
    split
    · rename_i h
      exact .inr ⟨j, rfl, Nat.lt_succ_self _, h, fun k h1 h2 => by omega⟩
    · rename_i h
      rcases lastOf_facts l p j with ⟨h1, h2⟩ | ⟨i, h1, h2, h3, h4⟩
      · refine .inl ⟨h1, fun i hi => ?_⟩
        rcases Nat.lt_or_ge i j with h3 | h3
        · exact h2 i h3
        · obtain rfl : i = j := by omega
          exact h
      · refine .inr ⟨i, h1, by omega, h3, fun k h5 h6 => ?_⟩
        rcases Nat.lt_or_ge k j with h7 | h7
        · exact h4 k h5 h7
        · obtain rfl : k = j := by omega
          exact h
/-- Behind a round of the search for the least one. -/
theorem lastOf_round {l : List Ut} {p : Int} (h : ∀ i, i < l.length → p ≤ prio l i) :
    (lastOf l p l.length = -1 ∧ ∀ i, i < l.length → p + 1 ≤ prio l i) ∨ ∃ i : Nat, lastOf l p l.length = i ∧ i < l.length ∧ leastAt l = i ∧ prio l i = p := by
  rcases lastOf_facts l p l.length with ⟨h1, h2⟩ | ⟨i, h1, h2, h3, h4⟩
  · exact .inl ⟨h1, fun i hi => by have := h i hi; have := h2 i hi; omega⟩
  · exact .inr ⟨i, h1, h2, least_is h2 (fun j hj => by rw [h3]; exact h j hj) (fun j hj hk => by rw [h3]; exact h4 j hj hk), h3⟩
theorem prio_get {l : List Ut} {i : Nat} {u : Ut} (h : l[i]? = some u) : prio l i = u.pr := prio_eq h
/-- Those but one, of the first j. -/
def but (l : List Ut) (k j : Nat) : List Ut := (l.take j).eraseIdx k
theorem but_zero (l : List Ut) (k : Nat) : but l k 0 = [] := by simp [but]
theorem but_same {l : List Ut} {j : Nat} {x : Ut} (h : l[j]? = some x) : but l j (j + 1) = but l j j := by
  obtain ⟨hj, _⟩ := List.getElem?_eq_some_iff.1 h
  unfold but
  rw [List.take_add_one, h]
  have e : (l.take j).length = j := by rw [List.length_take]; omega
  show (l.take j ++ [x]).eraseIdx j = (l.take j).eraseIdx j
  rw [List.eraseIdx_append_of_length_le (Nat.le_of_eq e), e, Nat.sub_self, List.eraseIdx_of_length_le (Nat.le_of_eq e)]
  simp
theorem but_step {l : List Ut} {j k : Nat} {x : Ut} (h : l[j]? = some x) (hk : j ≠ k) : but l k (j + 1) = but l k j ++ [x] := by
  obtain ⟨hj, _⟩ := List.getElem?_eq_some_iff.1 h
  unfold but
  rw [List.take_add_one, h]
  have e : (l.take j).length = j := by rw [List.length_take]; omega
  rcases Nat.lt_or_ge k j with h1 | h1
  · rw [List.eraseIdx_append_of_lt_length (by omega)]; rfl
  · rw [List.eraseIdx_append_of_length_le (by omega), e, List.eraseIdx_of_length_le (l := l.take j) (by omega)]
    congr 1
    have : k - j ≠ 0 := by omega
    obtain ⟨m, hm⟩ := Nat.exists_eq_succ_of_ne_zero this
    rw [hm]; rfl
theorem but_len (l : List Ut) (k j : Nat) : (but l k j).length ≤ j := Nat.le_trans (List.length_eraseIdx_le _ _) (by rw [List.length_take]; omega)
theorem but_all (l : List Ut) (k : Nat) : but l k l.length = l.eraseIdx k := by simp [but]
theorem but_none {l : List Ut} {k : Nat} (h : l.length ≤ k) : but l k l.length = l := by rw [but_all, List.eraseIdx_of_length_le h]
/-- Priorities that may be. -/
def Pri (q : Qu) : Prop := ∀ u ∈ q.waits, 0 ≤ u.pr ∧ u.pr ≤ 2
theorem pri_get {q : Qu} (h : Pri q) {i : Nat} (hi : i < q.waits.length) : 0 ≤ prio q.waits i ∧ prio q.waits i ≤ 2 := by
  have e : q.waits[i]? = some q.waits[i] := List.getElem?_eq_getElem hi
  rw [prio_eq e]
  exact h _ (List.getElem_mem hi)
end Go.Queue
