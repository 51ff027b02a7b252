/- Law 20: what the document answers, out of the cells each time; it is the text's answer. -/
import Derived.Test.YtcheljogpffabaaW12
import Derived.Test.YtcheljogpffabaaW17
namespace Go.Words
/-- What a cell shows between a and b. -/
def shows (a b : Int) (c : Cl) (i : Nat) : List Int := if a ≤ (i : Int) ∧ (i : Int) < b ∧ c.wide ≠ 2 then c.r :: c.comb else []
def rpart (l : List Cl) (a b : Int) : List Int := l.zipIdx.flatMap fun p => shows a b p.1 p.2
theorem rpart_snoc (l : List Cl) (c : Cl) (a b : Int) : rpart (l ++ [c]) a b = rpart l a b ++ shows a b c l.length := by
  unfold rpart
  rw [List.zipIdx_append, List.flatMap_append]
  simp
theorem part_block (a b : Int) (k : Nat) : ∀ l : List Int, ((List.replicate l.length k).zip l).filter (fun p => decide (a ≤ (p.1 : Int)) && decide ((p.1 : Int) < b)) = if a ≤ (k : Int) ∧ (k : Int) < b then (List.replicate l.length k).zip l else []
  | [] => by simp
  | x :: l => by
    have ih := part_block a b k l
    by_cases h : a ≤ (k : Int) ∧ (k : Int) < b
    · rw [if_pos h] at ih ⊢
      rw [List.length_cons, List.replicate_succ, List.zip_cons_cons, List.filter_cons_of_pos (by simp [h]), ih]
    · rw [if_neg h] at ih ⊢
      rw [List.length_cons, List.replicate_succ, List.zip_cons_cons, List.filter_cons_of_neg (by simp; omega), ih]
theorem part_run (a b : Int) : ∀ l : List Cl, (((run l).cols.zip (run l).runes).filter (fun p => decide (a ≤ (p.1 : Int)) && decide ((p.1 : Int) < b))).map Prod.snd = rpart l a b := by
  intro l
  induction l using snoc_ind with
  | h0 => rfl
  | h1 l c ih =>
    have ho := ok_run l
    rw [run_snoc, rpart_snoc, ← ih]
    unfold step shows
    by_cases hw : c.wide = 2
    · rw [if_pos hw, if_neg (by omega), List.append_nil]
    · rw [if_neg hw]
      have hb : (run l).blank.length = l.length := by rw [ho.hb, List.length_map]
      simp only
      rw [List.zip_append ho.hc, List.filter_append, List.map_append, hb]
      congr 1
      have := part_block a b l.length (c.r :: c.comb)
      rw [List.length_cons] at this
      rw [this]
      by_cases h : a ≤ (l.length : Int) ∧ (l.length : Int) < b
      · rw [if_pos h, if_pos ⟨h.1, h.2, hw⟩, List.map_snd_zip (by simp)]
      · rw [if_neg h, if_neg (by omega)]; rfl
theorem part_text (l : List Cl) (a b : Int) : (textOf l).part a b = rpart l a b := part_run a b l
/-! ## Places -/
theorem rpart_cut {l : List Cl} {c : Cl} {b : Nat} (h : b ≤ l.length) : rpart (l ++ [c]) 0 b = rpart l 0 b := by
  rw [rpart_snoc]
  unfold shows
  rw [if_neg (by omega), List.append_nil]
theorem rpart_more (l : List Cl) {b : Int} (h : (l.length : Int) ≤ b) : rpart l 0 b = rpart l 0 l.length := by
  have e : ∀ m : List Cl, (∀ b : Int, (m.length : Int) ≤ b → rpart m 0 b = (run m).runes) := by
    intro m b hb
    rw [← part_run]
    have ho := ok_run m
    rw [List.filter_eq_self.2 ?_, List.map_snd_zip (by rw [ho.hc]; exact Nat.le_refl _)]
    intro p hp
    have := ho.cols_lt p.1 (List.of_mem_zip hp).1
    simp; omega
  rw [e l b h, e l l.length (Int.le_refl _)]
theorem rpart_all (l : List Cl) : rpart l 0 l.length = (textOf l).runes := by
  have h := part_all (tx_ok l)
  rw [part_text, text_blank] at h
  exact h
def back (l : List Cl) : Nat → Nat
  | 0 => 0
  | k + 1 => if (l[k + 1]?).any (fun c => decide (c.wide = 2)) then back l k else k + 1
theorem back_le (l : List Cl) : ∀ k, back l k ≤ k
  | 0 => Nat.le_refl _
  | k + 1 => by
    unfold back
    split
    · exact Nat.le_succ_of_le (back_le l k)
    · exact Nat.le_refl _
theorem back_snoc (l : List Cl) (c : Cl) : ∀ k, k < l.length → back (l ++ [c]) k = back l k
  | 0, _ => rfl
  | k + 1, h => by
    unfold back
    rw [List.getElem?_append_left h, back_snoc l c k (by omega)]
theorem places_run : ∀ l : List Cl, (∀ k, k < l.length → (run l).places[k]? = some (rpart l 0 (back l k)).length) ∧ (run l).last = (rpart l 0 (back l (l.length - 1))).length ∧ (run l).runes.length = (rpart l 0 l.length).length := by
  intro l
  induction l using snoc_ind with
  | h0 => exact ⟨fun k h => by simp at h, rfl, rfl⟩
  | h1 l c ih =>
    obtain ⟨h1, h2, h3⟩ := ih
    have ho := ok_run l
    have hr : (run (l ++ [c])).runes.length = (rpart (l ++ [c]) 0 (l ++ [c]).length).length := by rw [rpart_all]; rfl
    have hk : ∀ k, k < l.length → (rpart (l ++ [c]) 0 (back (l ++ [c]) k)).length = (rpart l 0 (back l k)).length := fun k h => by
      rw [back_snoc l c k h, rpart_cut (Nat.le_trans (back_le l k) (Nat.le_of_lt h))]
    have hnew : (rpart (l ++ [c]) 0 (back (l ++ [c]) l.length)).length = if c.wide = 2 then (run l).last else (run l).runes.length := by
      cases hl : l.length with
      | zero =>
        have : l = [] := List.length_eq_zero_iff.1 hl
        subst this
        have e0 : (rpart ([] ++ [c]) 0 (back ([] ++ [c]) 0)).length = 0 := by
          show (rpart ([] ++ [c]) 0 ((0 : Nat) : Int)).length = 0
          rw [rpart_cut (l := []) (b := 0) (Nat.le_refl _)]; rfl
        rw [e0]
        split <;> rfl
      | succ m =>
        have e1 : back (l ++ [c]) (m + 1) = if c.wide = 2 then back (l ++ [c]) m else m + 1 := by
          conv => lhs; unfold back
          rw [← hl, List.getElem?_append_right (Nat.le_refl _), Nat.sub_self]
          by_cases hw : c.wide = 2
          · simp [hw]
          · simp [hw]
        rw [e1]
        by_cases hw : c.wide = 2
        · rw [if_pos hw, if_pos hw, hk m (by omega), h2, hl]; rfl
        · rw [if_neg hw, if_neg hw, h3, rpart_cut (by omega), ← hl]
    refine ⟨fun k h => ?_, ?_, hr⟩
    · have hp : (run (l ++ [c])).places = (run l).places ++ [if c.wide = 2 then (run l).last else (run l).runes.length] := by
        rw [run_snoc]; unfold step
        split <;> rfl
      rw [hp]
      by_cases hkl : k < l.length
      · rw [List.getElem?_append_left (by rw [ho.hp]; exact hkl), h1 k hkl, hk k hkl]
      · obtain rfl : k = l.length := by simp at h; omega
        rw [List.getElem?_append_right (by rw [ho.hp]; exact Nat.le_refl _), ho.hp, Nat.sub_self, hnew]
        rfl
    · have e : (l ++ [c]).length - 1 = l.length := by simp
      rw [e, hnew, run_snoc]
      unfold step
      split <;> rfl
theorem place_text {l : List Cl} {k : Nat} (h : k < l.length) : (textOf l).place k = (rpart l 0 (back l k)).length := by
  rw [place_lt h]
  exact (List.getElem?_eq_some_iff.1 ((places_run l).1 k h)).2
theorem place_over {l : List Cl} {k : Int} (h : (l.length : Int) ≤ k) : (textOf l).place k = (rpart l 0 l.length).length := by
  rw [rpart_all, ← place_end]
  unfold Tx.place
  by_cases h0 : l.length = 0
  · rw [if_pos (.inr (by rw [text_blank]; exact h0)), if_pos (.inr (by rw [text_blank]; exact h0))]
  · rw [if_neg (by rw [text_blank]; omega), if_neg (by rw [text_blank]; omega), text_blank, show min k.toNat l.length = l.length by omega, show min (l.length : Int).toNat l.length = l.length by omega]
/-! ## Columns -/
theorem sorted_filter : ∀ (s : List Nat) (m p : Nat), s.Pairwise (· ≤ ·) → (p < (s.filter (fun x => decide (x < m))).length ↔ ∃ x, s[p]? = some x ∧ x < m)
  | [], m, p, _ => by simp
  | y :: s, m, p, h => by
    obtain ⟨h1, h2⟩ := List.pairwise_cons.1 h
    by_cases hy : y < m
    · rw [List.filter_cons_of_pos (by simpa using hy), List.length_cons]
      cases p with
      | zero => simp [hy]
      | succ p =>
        rw [Nat.succ_lt_succ_iff, sorted_filter s m p h2]
        simp
    · have hn : ∀ x ∈ s, ¬ x < m := fun x hx => by have := h1 x hx; omega
      rw [List.filter_cons_of_neg (by simpa using hy), List.filter_eq_nil_iff.2 (fun x hx => by simpa using hn x hx)]
      simp only [List.length_nil, Nat.not_lt_zero, false_iff]
      rintro ⟨x, hx, hm⟩
      rcases List.mem_cons.1 (List.mem_of_getElem? hx) with rfl | hx
      · exact hy hm
      · exact hn x hx hm
theorem cols_sorted (l : List Cl) : (run l).cols.Pairwise (· ≤ ·) := by
  induction l using snoc_ind with
  | h0 => exact List.Pairwise.nil
  | h1 l c ih =>
    have ho := ok_run l
    rw [run_snoc]
    unfold step
    split
    · exact ih
    · refine List.pairwise_append.2 ⟨ih, ?_, fun x hx y hy => ?_⟩
      · rw [List.pairwise_replicate]; exact .inr (Nat.le_refl _)
      · have := ho.cols_lt x hx
        rw [List.eq_of_mem_replicate hy, ho.hb, List.length_map]
        omega
theorem rpart_len (l : List Cl) (m : Nat) : (rpart l 0 m).length = ((run l).cols.filter (fun x => decide (x < m))).length := by
  rw [← part_run, List.length_map]
  have hc := (ok_run l).hc
  have e : ∀ (s : List Nat) (r : List Int), s.length = r.length → ((s.zip r).filter (fun p => decide ((0 : Int) ≤ (p.1 : Int)) && decide ((p.1 : Int) < (m : Int)))).length = (s.filter (fun x => decide (x < m))).length := by
    intro s
    induction s with
    | nil => intro r _; rfl
    | cons y s ih =>
      intro r hr
      cases r with
      | nil => simp at hr
      | cons z r =>
        have ih' := ih r (by simpa using hr)
        rw [List.zip_cons_cons]
        by_cases hy : y < m
        · rw [List.filter_cons_of_pos (by simp; omega), List.filter_cons_of_pos (by simpa using hy), List.length_cons, List.length_cons, ih']
        · rw [List.filter_cons_of_neg (by simp; omega), List.filter_cons_of_neg (by simpa using hy), ih']
  exact e _ _ hc
/-- More runes than p stand up to cell i just if the rune p is of one of them. -/
theorem col_more {l : List Cl} {p i : Nat} : p < (rpart l 0 ((i : Int) + 1)).length ↔ ∃ x, (run l).cols[p]? = some x ∧ x ≤ i := by
  rw [show (i : Int) + 1 = ((i + 1 : Nat) : Int) by omega, rpart_len, sorted_filter _ _ _ (cols_sorted l)]
  constructor
  · rintro ⟨x, h1, h2⟩; exact ⟨x, h1, by omega⟩
  · rintro ⟨x, h1, h2⟩; exact ⟨x, h1, by omega⟩
/-- The first such cell is the rune's column. -/
theorem col_first {l : List Cl} {p i : Nat} (h : p < (rpart l 0 ((i : Int) + 1)).length) (h2 : ∀ j < i, ¬ p < (rpart l 0 ((j : Int) + 1)).length) : (textOf l).col p = i := by
  obtain ⟨x, h3, h4⟩ := col_more.1 h
  have hp := (List.getElem?_eq_some_iff.1 h3).1
  rw [col_lt hp]
  have hx : (textOf l).cols[p] = x := (List.getElem?_eq_some_iff.1 h3).2
  rw [hx]
  rcases Nat.lt_or_ge x i with h5 | h5
  · exact absurd (col_more.2 ⟨x, h3, Nat.le_refl _⟩) (h2 x h5)
  · omega
theorem col_over {l : List Cl} {p : Nat} (h : ∀ j < l.length, ¬ p < (rpart l 0 ((j : Int) + 1)).length) : (textOf l).col p = l.length := by
  have : (textOf l).cols.length ≤ p := by
    rcases Nat.lt_or_ge p (textOf l).cols.length with h1 | h1
    · have hl := (ok_run l).cols_lt _ (List.getElem_mem h1)
      exact absurd (col_more.2 ⟨_, List.getElem?_eq_getElem h1, Nat.le_refl _⟩) (h _ hl)
    · exact h1
  unfold Tx.col
  rw [if_neg (by omega), if_pos (by omega), text_blank]
end Go.Words
