/- Law 18: what abides a queue's calls; an interruption. -/
import Derived.Test.YtinfgebdcjaabaaQ1
namespace Go.Queue
structure Inv (s k : Nat) (q : Qu) : Prop where
  size : q.size = s
  len : q.waits.length ≤ s
  lenk : q.waits.length ≤ k
  sp : q.spoken.length ≤ 1
  c0 : 0 ≤ q.count
  ck : q.count ≤ k
theorem Inv.more {s k : Nat} {q : Qu} (h : Inv s k q) : Inv s (k + 1) q := ⟨h.size, h.len, Nat.le_succ_of_le h.lenk, h.sp, h.c0, by have := h.ck; omega⟩
theorem new_inv (s : Nat) : Inv s 0 ⟨s, [], [], 0, 0, 0⟩ := ⟨rfl, Nat.zero_le _, Nat.le_refl _, Nat.zero_le _, Int.le_refl _, Int.le_refl _⟩
theorem least_lt' {l : List Ut} (hn : 0 < l.length) : leastAt l < l.length := by have := least_le l l.length; unfold leastAt; omega
/-- Behind room: as many as there were, or one less; where there's room one more goes in. -/
theorem room_len (q : Qu) (p : Int) (hs : 0 < q.size) (hl : q.waits.length ≤ q.size) : (room q p).1 = { q with waits := (room q p).1.waits } ∧ (room q p).1.waits.length ≤ q.waits.length ∧ ((room q p).2.2 = true → (room q p).1.waits.length + 1 ≤ q.size) := by
  unfold room
  split
  · rename_i h; exact ⟨rfl, Nat.le_refl _, fun _ => h⟩
  · rename_i h
    split
    · exact ⟨rfl, Nat.le_refl _, fun h => by cases h⟩
    · have hlt : leastAt q.waits < q.waits.length := least_lt' (by omega)
      have e : (q.waits.eraseIdx (leastAt q.waits)).length = q.waits.length - 1 := by rw [List.length_eraseIdx, if_pos hlt]
      refine ⟨rfl, ?_, fun _ => ?_⟩
      · show (q.waits.eraseIdx _).length ≤ _; omega
      · show (q.waits.eraseIdx _).length + 1 ≤ _; omega
theorem put_inv {s k : Nat} {q : Qu} {u : Ut} {intr : Bool} (hs : 0 < s) (h : Inv s k q) : Inv s (k + 1) (put q u intr).1 := by
  unfold put
  split
  · exact h.more
  · simp only
    -- the queue that makes room
    have key : ∀ q2 : Qu, Inv s k q2 → ∀ fl : List Ut, Inv s (k + 1) (if (room q2 u.pr).2.2 = true then ({ (room q2 u.pr).1 with count := (room q2 u.pr).1.count + 1, waits := (room q2 u.pr).1.waits ++ [{ u with num := (room q2 u.pr).1.count + 1 }] }, (⟨(room q2 u.pr).1.count + 1, fl, (room q2 u.pr).2.1⟩ : Out), (0 : Int)) else ((room q2 u.pr).1, ⟨0, fl, (room q2 u.pr).2.1⟩, 0)).1 := by
      intro q2 h2 fl
      obtain ⟨e1, e2, e3⟩ := room_len q2 u.pr (by rw [h2.size]; exact hs) (by rw [h2.size]; exact h2.len)
      have hl := h2.len
      have hk := h2.lenk
      have c0 := h2.c0
      have ck := h2.ck
      have e4 : (room q2 u.pr).1.count = q2.count := by rw [e1]
      have e5 : (room q2 u.pr).1.size = q2.size := by rw [e1]
      have e6 : (room q2 u.pr).1.spoken = q2.spoken := by rw [e1]
      split
      · rename_i hok
        have := e3 hok
        rw [h2.size] at this
        refine ⟨e5.trans h2.size, ?_, ?_, by rw [e6]; exact h2.sp, ?_, ?_⟩
        · show ((room q2 u.pr).1.waits ++ [_]).length ≤ s
          simp only [List.length_append, List.length_cons, List.length_nil]; omega
        · show ((room q2 u.pr).1.waits ++ [_]).length ≤ k + 1
          simp only [List.length_append, List.length_cons, List.length_nil]; omega
        · show 0 ≤ (room q2 u.pr).1.count + 1; omega
        · show (room q2 u.pr).1.count + 1 ≤ ((k + 1 : Nat) : Int); omega
      · exact ⟨e5.trans h2.size, by show (room q2 u.pr).1.waits.length ≤ s; omega, by show (room q2 u.pr).1.waits.length ≤ k + 1; omega, by rw [e6]; exact h2.sp, by show 0 ≤ (room q2 u.pr).1.count; omega, by show (room q2 u.pr).1.count ≤ ((k + 1 : Nat) : Int); omega⟩
    cases intr with
    | false => exact key { q with last := max q.last u.to_ } ⟨h.size, h.len, h.lenk, h.sp, h.c0, h.ck⟩ []
    | true =>
      refine key (cut { q with last := max q.last u.to_ } u.pr) ⟨h.size, ?_, ?_, ?_, h.c0, h.ck⟩ _
      · exact Nat.le_trans (List.length_filter_le _ _) h.len
      · exact Nat.le_trans (List.length_filter_le _ _) h.lenk
      · exact Nat.le_trans (List.length_filter_le _ _) h.sp
theorem accept_inv {s k : Nat} {q : Qu} (h : Inv s k q) : Inv s k (accept q).1 := by
  unfold accept
  split
  · exact h
  · exact ⟨h.size, Nat.le_trans (List.length_eraseIdx_le _ _) h.len, Nat.le_trans (List.length_eraseIdx_le _ _) h.lenk, Nat.le_refl _, h.c0, h.ck⟩
theorem prio_ge {l : List Ut} {p : Int} {i : Nat} (h : ∀ x ∈ l, p ≤ x.pr) (hi : i < l.length) : p ≤ prio l i := by
  unfold prio
  rw [List.getElem?_eq_getElem hi]
  exact h _ (List.getElem_mem hi)
/-- Those that are as great. -/
def want (q : Qu) (p : Int) : List Ut := q.waits.filter (fun x => !decide (x.pr < p))
theorem want_ge (q : Qu) (p : Int) : ∀ x ∈ want q p, p ≤ x.pr := fun x hx => by
  have := (List.mem_filter.1 hx).2
  simp at this
  exact this
theorem room_want {q : Qu} {p : Int} (hs : 0 < q.size) (h : ∀ x ∈ q.waits, p ≤ x.pr) : room q p = (q, [], decide (q.waits.length < q.size)) := by
  unfold room
  split
  · rename_i h1; rw [decide_eq_true h1]
  · rename_i h1
    rw [if_pos (prio_ge h (least_lt' (by omega))), decide_eq_false h1]
/-- An interruption that is taken. -/
theorem put_int {s k : Nat} {q : Qu} {u : Ut} (hs : 0 < s) (h : Inv s k q) (he : (put q u true).2.2 = 0) :
    (put q u true).2.1.dropped = [] ∧ (∀ y ∈ (put q u true).1.spoken, ¬ y.pr < u.pr) ∧
      (((put q u true).2.1.num = 0 ∧ (want q u.pr).length = s ∧ (put q u true).1.waits = want q u.pr) ∨
        ((put q u true).2.1.num ≠ 0 ∧ (want q u.pr).length ≠ s ∧ (put q u true).1.waits = want q u.pr ++ [{ u with num := (put q u true).2.1.num }])) := by
  unfold put at he ⊢
  split
  · rename_i h1; rw [if_pos h1] at he; cases he
  · simp only [if_true] at he ⊢
    have hw : (cut { q with last := max q.last u.to_ } u.pr).waits = want q u.pr := rfl
    have hl : (want q u.pr).length ≤ s := Nat.le_trans (List.length_filter_le _ _) h.len
    have hr := room_want (q := cut { q with last := max q.last u.to_ } u.pr) (p := u.pr) (by show 0 < q.size; rw [h.size]; exact hs) (by rw [hw]; exact want_ge q u.pr)
    have hsz : (cut { q with last := max q.last u.to_ } u.pr).size = s := h.size
    rw [hr, hw, hsz]
    have hsp : ∀ y ∈ (cut { q with last := max q.last u.to_ } u.pr).spoken, ¬ y.pr < u.pr := fun y hy => by
      have := (List.mem_filter.1 hy).2
      simpa using this
    have hc : (cut { q with last := max q.last u.to_ } u.pr).count = q.count := rfl
    have c0 := h.c0
    by_cases hlt : (want q u.pr).length < s
    · simp only [decide_eq_true hlt, if_true]
      exact ⟨trivial, hsp, .inr ⟨by rw [hc]; omega, by omega, trivial⟩⟩
    · simp only [decide_eq_false hlt, Bool.false_eq_true, if_false]
      exact ⟨trivial, hsp, .inl ⟨trivial, by omega, hw⟩⟩
end Go.Queue
