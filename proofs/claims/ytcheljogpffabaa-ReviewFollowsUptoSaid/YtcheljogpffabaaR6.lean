/- Law 21: ends of rows; what words answer of a row. -/
import Derived.Test.YtcheljogpffabaaR5
namespace Go.Rev
open Go.Words Go.Proofs.Ytcheljogpffabaa
theorem trim_at : ∀ (bl : List Bool) (t : Nat), (∀ j, t ≤ j → bl[j]? ≠ some false) → (t = 0 ∨ bl[t - 1]? = some false) → trim bl = t := by
  intro bl
  induction bl using Go.Words.snoc_ind with
  | h0 => intro t h1 h2; rcases h2 with rfl | h2
          · rfl
          · simp at h2
  | h1 l b ih =>
    intro t h1 h2
    rw [trim_snoc]
    by_cases hb : b = true
    · rw [if_pos hb]
      subst hb
      refine ih t (fun j hj h => h1 j hj ?_) ?_
      · have := (List.getElem?_eq_some_iff.1 h).1
        rw [List.getElem?_append_left this]; exact h
      · rcases h2 with h2 | h2
        · exact .inl h2
        · right
          by_cases hl : t - 1 < l.length
          · rwa [List.getElem?_append_left hl] at h2
          · rw [List.getElem?_append_right (by omega)] at h2
            have := List.mem_of_getElem? h2
            simp at this
    · rw [if_neg hb]
      have hb : b = false := by simpa using hb
      subst hb
      by_cases ht : t ≤ l.length
      · exact absurd (by simp) (h1 l.length ht)
      · rcases h2 with h2 | h2
        · omega
        · have := (List.getElem?_eq_some_iff.1 h2).1
          simp at this
          omega
theorem end_nil {bl : List Bool} (h : words bl = []) : endX bl = 0 := by
  unfold endX
  rw [trim_at bl 0 (fun j _ hj => ?_) (.inl rfl)]
  obtain ⟨x, hx, _⟩ := (ws_ok bl).all j (Nat.zero_le _) hj
  rw [h] at hx
  cases hx
theorem end_last {bl : List Bool} {k : Nat} {p : Nat × Nat} (hk : (words bl).length = k + 1) (h : (words bl)[k]? = some p) : (endX bl : Int) = (p.2 : Int) - 1 ∧ 1 ≤ p.2 ∧ p.2 ≤ bl.length := by
  have ok := ws_ok bl
  obtain ⟨_, h2, h3⟩ := ok.each p (List.mem_of_getElem? h)
  have e : trim bl = p.2 := by
    refine trim_at bl p.2 (fun j hj hb => ?_) (.inr (ok.dark p (List.mem_of_getElem? h) (p.2 - 1) (by omega) (by omega)))
    obtain ⟨x, hx, hx1, hx2⟩ := ok.all j (Nat.zero_le _) hb
    obtain ⟨i, hi⟩ := List.mem_iff_getElem?.1 hx
    have hil := (List.getElem?_eq_some_iff.1 hi).1
    by_cases hik : i = k
    · subst hik; rw [h] at hi; cases hi; omega
    · have hkl := (List.getElem?_eq_some_iff.1 h).1
      have := List.pairwise_iff_getElem.1 ok.apart i k hil hkl (by omega)
      rw [(List.getElem?_eq_some_iff.1 hi).2, (List.getElem?_eq_some_iff.1 h).2] at this
      omega
  unfold endX
  rw [e]
  omega
end Go.Rev
namespace Go.Proofs.Ytcheljogpffabaa
open Go.RowKit Go.Mem Go.Words Go.Deep Go.Rev
variable {W w : World} {H : List HProp} {t : Nat} {l : List Cl}
theorem prev_q {col v : Int} (hl : l.length ≤ 600) (e : prevW (words (l.map isB)) col = v) (hs : sat W (tx t (textOf l) :: H) w) :
    Calls Try.prog 55 #[.pointer (some ⟨t, 0, none⟩), .int .i64 col] w fun e w' => e = .returned (.int .i64 v) ∧ sat W (tx t (textOf l) :: H) w' := by
  have := prev16 (Hc := [tx t (textOf l)]) (ws_tx (x := textOf l) rfl (by rw [text_blank]; omega)) col hs
  rw [tx_cells, e] at this
  exact this
theorem next_q {col v : Int} (hl : l.length ≤ 600) (e : nextW (words (l.map isB)) col = v) (hs : sat W (tx t (textOf l) :: H) w) :
    Calls Try.prog 56 #[.pointer (some ⟨t, 0, none⟩), .int .i64 col] w fun e w' => e = .returned (.int .i64 v) ∧ sat W (tx t (textOf l) :: H) w' := by
  have := next15 (Hc := [tx t (textOf l)]) (ws_tx (x := textOf l) rfl (by rw [text_blank]; omega)) col hs
  rw [tx_cells, e] at this
  exact this
theorem wordq_t {col : Int} {v : Option (Nat × Nat)} (hl : l.length ≤ 600) (e : wordW (words (l.map isB)) col = v) (hs : sat W (tx t (textOf l) :: H) w) :
    Calls Try.prog 59 #[.pointer (some ⟨t, 0, none⟩), .int .i64 col] w fun e w' => e = .returned (wordV v) ∧ sat W (tx t (textOf l) :: H) w' := by
  have := word17 (Hc := [tx t (textOf l)]) (ws_tx (x := textOf l) rfl (by rw [text_blank]; omega)) col hs
  rw [tx_cells, e] at this
  exact this
theorem words_q {ws : List (Nat × Nat)} {k : Nat} (hl : l.length ≤ 600) (e : words (l.map isB) = ws) (ek : ws.length = k) (hs : sat W (tx t (textOf l) :: H) w) :
    Calls Try.prog 58 #[.pointer (some ⟨t, 0, none⟩)] w fun e w' => ∃ a c, e = .returned (.slice a k c) ∧ sat W (own 87 2 (.slice a k c) k (exs ws) :: tx t (textOf l) :: H) w' := by
  have h0 := words_len (l.map isB) _ 0 rfl
  have := words14 (Hc := [tx t (textOf l)]) (ws_tx (x := textOf l) rfl (by rw [text_blank]; omega)) (by rw [tx_cells]; unfold words; rw [List.length_map] at h0; omega) hs
  rw [tx_cells, e, ek] at this
  exact this
theorem part_q {v : List Int} {fr to_ : Int} (hl : size l ≤ 600) (e : rpart l fr to_ = v) (hs : sat W (tx t (textOf l) :: H) w) :
    Calls Try.prog 60 #[.pointer (some ⟨t, 0, none⟩), .int .i64 fr, .int .i64 to_] w fun e w' => ∃ a c, e = .returned (.slice a v.length c) ∧ sat W (own 21 1 (.slice a v.length c) v.length (i32s v) :: tx t (textOf l) :: H) w' := by
  have h0 := (ok_run l).hz
  have h1 := (ok_run l).hc
  exact part_t (tx_ok l) (show (run l).cols.length ≤ 1000 by omega) (by rw [part_text, e]) hs
theorem trim_q {v : List Int} (hl : size l ≤ 600) (e : rpart l 0 (trim (l.map isB)) = v) (hs : sat W (tx t (textOf l) :: H) w) :
    Calls Try.prog 62 #[.pointer (some ⟨t, 0, none⟩)] w fun e w' => ∃ a c, e = .returned (.slice a v.length c) ∧ sat W (own 21 1 (.slice a v.length c) v.length (i32s v) :: tx t (textOf l) :: H) w' := by
  have h0 := (ok_run l).hz
  have h1 := (ok_run l).hc
  have h2 := len_le_size l
  exact trimmed20 (tx_ok l) (show (run l).cols.length ≤ 1000 by omega) (by rw [text_blank]; omega) (by rw [part_text, tx_cells, e]) hs
end Go.Proofs.Ytcheljogpffabaa
