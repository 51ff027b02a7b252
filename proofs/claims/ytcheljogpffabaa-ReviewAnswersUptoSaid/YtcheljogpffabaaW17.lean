/- Law 20: Cover, as plain lists. -/
import Derived.Test.YtcheljogpffabaaW6
namespace Go.Words
/-- What holds of the words from i on. -/
structure WsOk (bl : List Bool) (i : Nat) (ws : List (Nat × Nat)) : Prop where
  each : ∀ x ∈ ws, i ≤ x.1 ∧ x.1 < x.2 ∧ x.2 ≤ bl.length
  apart : ws.Pairwise (fun x y => x.2 < y.1)
  dark : ∀ x ∈ ws, ∀ j, x.1 ≤ j → j < x.2 → bl[j]? = some false
  all : ∀ j, i ≤ j → bl[j]? = some false → ∃ x ∈ ws, x.1 ≤ j ∧ j < x.2
theorem words_ok (bl : List Bool) : ∀ (n i : Nat), n = bl.length - i → WsOk bl i (wordsFrom bl i) := by
  intro n
  induction n using Nat.strongRecOn with
  | _ n ih =>
    intro i hn
    by_cases h : i < bl.length
    · by_cases h2 : i < stop bl i
      · rw [words_one h h2]
        have hsl := stop_le bl (Nat.le_of_lt h)
        have ok : WsOk bl (stop bl i + 1) (wordsFrom bl (stop bl i + 1)) := by
          by_cases h3 : stop bl i + 1 < bl.length
          · exact ih _ (by omega) _ rfl
          · rw [words_end (by omega)]
            exact ⟨by simp, List.Pairwise.nil, by simp, fun j hj hb => absurd ((List.getElem?_eq_some_iff.1 hb).1) (by omega)⟩
        refine ⟨fun x hx => ?_, ?_, fun x hx j hj1 hj2 => ?_, fun j hj hb => ?_⟩
        · rcases List.mem_cons.1 hx with rfl | hx
          · exact ⟨Nat.le_refl _, h2, hsl⟩
          · obtain ⟨a, b, c⟩ := ok.each x hx
            exact ⟨by omega, b, c⟩
        · refine List.Pairwise.cons (fun y hy => ?_) ok.apart
          have := (ok.each y hy).1
          show stop bl i < y.1
          omega
        · rcases List.mem_cons.1 hx with rfl | hx
          · exact stop_in hj1 hj2
          · exact ok.dark x hx j hj1 hj2
        · by_cases hjs : j < stop bl i
          · exact ⟨_, List.mem_cons_self, hj, hjs⟩
          · have hjn : j < bl.length := (List.getElem?_eq_some_iff.1 hb).1
            have hne : j ≠ stop bl i := fun e => by
              subst e
              rw [stop_blank hjn] at hb
              cases hb
            obtain ⟨x, hx, h4⟩ := ok.all j (by omega) hb
            exact ⟨x, List.mem_cons_of_mem _ hx, h4⟩
      · rw [words_skip h h2]
        have ok := ih (bl.length - (i + 1)) (by omega) (i + 1) rfl
        refine ⟨fun x hx => ?_, ok.apart, ok.dark, fun j hj hb => ?_⟩
        · obtain ⟨a, b, c⟩ := ok.each x hx
          exact ⟨by omega, b, c⟩
        · refine ok.all j ?_ hb
          by_cases e : j = i
          · subst e
            have := stop_on hb
            have := stop_ge bl (j + 1)
            omega
          · omega
    · rw [words_end (by omega)]
      exact ⟨by simp, List.Pairwise.nil, by simp, fun j hj hb => absurd ((List.getElem?_eq_some_iff.1 hb).1) (by omega)⟩
section
variable {ws : List (Nat × Nat)} {bl : List Bool} {i : Nat} {x : Nat × Nat}
theorem ws_ok (bl : List Bool) : WsOk bl 0 (words bl) := words_ok bl _ 0 rfl
theorem ws_split (h : ws[i]? = some x) : ws = ws.take i ++ x :: ws.drop (i + 1) := by
  have hi := (List.getElem?_eq_some_iff.1 h).1
  rw [← (List.getElem?_eq_some_iff.1 h).2, ← List.drop_eq_getElem_cons hi, List.take_append_drop]
theorem ws_before (ok : WsOk bl 0 ws) (h : ws[i]? = some x) : ∀ y ∈ ws.take i, y.1 < y.2 ∧ y.2 < x.1 := by
  intro y hy
  have hp := ok.apart
  rw [ws_split h] at hp
  have h1 := (List.pairwise_append.1 hp).2.2 y hy x List.mem_cons_self
  exact ⟨(ok.each y (List.mem_of_mem_take hy)).2.1, h1⟩
theorem ws_behind (ok : WsOk bl 0 ws) (h : ws[i]? = some x) : ∀ y ∈ ws.drop (i + 1), x.2 < y.1 := by
  intro y hy
  have hp := ok.apart
  rw [ws_split h] at hp
  exact (List.pairwise_cons.1 (List.pairwise_append.1 hp).2.1).1 y hy
theorem find_at' {P : Nat × Nat → Bool} : ∀ (pr : List (Nat × Nat)) (x : Nat × Nat) (r : List (Nat × Nat)), (∀ y ∈ pr, P y = false) → P x = true → (pr ++ x :: r).find? P = some x
  | [], x, r, _, h => by simp [h]
  | y :: pr, x, r, ha, h => by
    rw [List.cons_append, List.find?_cons_of_neg (by simp [ha y (by simp)])]
    exact find_at' pr x r (fun z hz => ha z (by simp [hz])) h
/-- Each column of a word is that one's. -/
theorem cover_word (ok : WsOk bl 0 ws) (h : ws[i]? = some x) {j : Nat} (h1 : x.1 ≤ j) (h2 : j < x.2) : wordW ws j = some x := by
  unfold wordW
  rw [ws_split h]
  refine find_at' _ _ _ (fun y hy => ?_) (by simp; omega)
  have := ws_before ok h y hy
  simp; omega
theorem cover_next (ok : WsOk bl 0 ws) (h : ws[i]? = some x) : nextW ws x.1 = (match ws[i + 1]? with | some y => (y.1 : Int) | none => -1) := by
  unfold nextW
  have hb := ws_before ok h
  have hx := ok.each x (List.mem_of_getElem? h)
  cases hn : ws[i + 1]? with
  | none =>
    have hd : ws.drop (i + 1) = [] := List.drop_eq_nil_of_le (List.getElem?_eq_none_iff.1 hn)
    have : ws.find? (fun y => decide ((x.1 : Int) < (y.1 : Int))) = none := by
      rw [List.find?_eq_none]
      intro y hy
      rw [ws_split h, hd] at hy
      rcases List.mem_append.1 hy with hy | hy
      · have := hb y hy
        simp; omega
      · rw [List.mem_singleton.1 hy]; simp
    rw [this]
  | some y =>
    have hbn := ws_before ok hn
    have h3 : x.2 < y.1 := by
      refine (hbn x ?_).2
      have hi := (List.getElem?_eq_some_iff.1 h).1
      rw [List.take_succ_eq_append_getElem hi, (List.getElem?_eq_some_iff.1 h).2]
      simp
    have : ws.find? (fun y => decide ((x.1 : Int) < (y.1 : Int))) = some y := by
      rw [ws_split hn]
      refine find_at' _ _ _ (fun z hz => ?_) (by simp; omega)
      have hi := (List.getElem?_eq_some_iff.1 h).1
      rw [List.take_succ_eq_append_getElem hi, (List.getElem?_eq_some_iff.1 h).2] at hz
      rcases List.mem_append.1 hz with hz | hz
      · have := hb z hz
        simp; omega
      · rw [List.mem_singleton.1 hz]; simp
    rw [this]
theorem prev_all {col : Int} : ∀ (pr : List (Nat × Nat)) (s : Int), (∀ y ∈ pr, (y.1 : Int) < col) → pr.foldl (prevStep col) s = (match pr.getLast? with | some y => (y.1 : Int) | none => s)
  | [], s, _ => rfl
  | [y], s, h => by simp [prevStep, h y (by simp)]
  | y :: z :: pr, s, h => by
    rw [List.foldl_cons, prev_all (z :: pr) _ (fun u hu => h u (by simp at hu ⊢; right; exact hu))]
    simp [List.getLast?_cons_cons]
    cases hg : (z :: pr).getLast? with
    | none => simp at hg
    | some u => rfl
theorem prev_none {col : Int} : ∀ (pr : List (Nat × Nat)) (s : Int), (∀ y ∈ pr, ¬ (y.1 : Int) < col) → pr.foldl (prevStep col) s = s
  | [], s, _ => rfl
  | y :: pr, s, h => by
    rw [List.foldl_cons, show prevStep col s y = s by unfold prevStep; rw [if_neg (h y (by simp))]]
    exact prev_none pr s (fun u hu => h u (by simp [hu]))
theorem cover_prev (ok : WsOk bl 0 ws) (h : ws[i]? = some x) : prevW ws x.1 = (if 0 < i then (match ws[i - 1]? with | some y => (y.1 : Int) | none => -1) else -1) := by
  have hb := ws_before ok h
  have ha := ws_behind ok h
  have hx := ok.each x (List.mem_of_getElem? h)
  have hi := (List.getElem?_eq_some_iff.1 h).1
  unfold prevW
  rw [ws_split h, List.foldl_append, prev_none (x :: ws.drop (i + 1)) _ (fun y hy => by
    rcases List.mem_cons.1 hy with rfl | hy
    · omega
    · have := ha y hy; omega), prev_all _ _ (fun y hy => by have := hb y hy; omega)]
  rw [← ws_split h]
  by_cases h0 : 0 < i
  · rw [if_pos h0]
    have e : (ws.take i).getLast? = ws[i - 1]? := by
      rw [List.getLast?_eq_getElem?, List.length_take, List.getElem?_take, if_pos (by omega), show min i ws.length - 1 = i - 1 by omega]
    rw [e]
  · obtain rfl : i = 0 := by omega
    rfl
/-! ## How often a column is met -/
def cnt (ws : List (Nat × Nat)) (j : Nat) : Nat := (ws.filter fun x => decide (x.1 ≤ j) && decide (j < x.2)).length
theorem cnt_le (ws : List (Nat × Nat)) (j : Nat) : cnt ws j ≤ ws.length := List.length_filter_le _ _
theorem cnt_snoc (ws : List (Nat × Nat)) (x : Nat × Nat) (j : Nat) : cnt (ws ++ [x]) j = cnt ws j + (if x.1 ≤ j ∧ j < x.2 then 1 else 0) := by
  unfold cnt
  rw [List.filter_append, List.length_append]
  by_cases h : x.1 ≤ j ∧ j < x.2
  · rw [if_pos h]; simp [h]
  · rw [if_neg h]
    have : (decide (x.1 ≤ j) && decide (j < x.2)) = false := by
      simp only [Bool.and_eq_false_iff, decide_eq_false_iff_not]
      by_cases h1 : x.1 ≤ j
      · exact .inr (fun h2 => h ⟨h1, h2⟩)
      · exact .inl h1
    simp [this]
theorem cnt_zero {ws : List (Nat × Nat)} {j : Nat} (h : ∀ x ∈ ws, ¬ (x.1 ≤ j ∧ j < x.2)) : cnt ws j = 0 := by
  unfold cnt
  rw [List.length_eq_zero_iff, List.filter_eq_nil_iff]
  intro x hx
  simpa using fun h1 => by have := h x hx; omega
theorem cnt_end (ok : WsOk bl 0 ws) {j : Nat} {b : Bool} (h : bl[j]? = some b) : cnt ws j = if b = true then 0 else 1 := by
  cases b with
  | true =>
    rw [if_pos rfl]
    refine cnt_zero fun x hx h1 => ?_
    have := ok.dark x hx j h1.1 h1.2
    rw [h] at this
    cases this
  | false =>
    rw [if_neg (by simp)]
    obtain ⟨x, hx, h1⟩ := ok.all j (Nat.zero_le _) h
    obtain ⟨i, hi⟩ := List.mem_iff_getElem?.1 hx
    have hs := ws_split hi
    have h2 : ws.take i ++ x :: ws.drop (i + 1) = (ws.take i ++ [x]) ++ ws.drop (i + 1) := by simp
    have hb := ws_before ok hi
    have ha := ws_behind ok hi
    have e : cnt ws j = cnt (ws.take i) j + 1 + cnt (ws.drop (i + 1)) j := by
      conv => lhs; rw [hs, h2]
      have h3 : ∀ a b : List (Nat × Nat), cnt (a ++ b) j = cnt a j + cnt b j := fun a b => by unfold cnt; rw [List.filter_append, List.length_append]
      rw [h3, cnt_snoc, if_pos h1]
    rw [e, cnt_zero (fun y hy h4 => by have := hb y hy; omega), cnt_zero (fun y hy h4 => by have := ha y hy; have := ok.each x hx; omega)]
end
end Go.Words
