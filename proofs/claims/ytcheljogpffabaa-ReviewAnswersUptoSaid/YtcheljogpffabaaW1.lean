/- Law 20: a text of cells, as plain lists. -/
import Derived.Outline
namespace Go.Words
structure Tx where
  runes : List Int
  places : List Nat
  cols : List Nat
  blank : List Bool
/-- A cell: its rune, its marks, how wide it is. -/
structure Cl where
  r : Int
  comb : List Int
  wide : Int
def isB (c : Cl) : Bool := decide (c.r = 32) && decide (c.comb = []) && decide (c.wide = 0)
structure St where
  runes : List Int
  places : List Nat
  cols : List Nat
  blank : List Bool
  last : Nat
def step (s : St) (c : Cl) : St :=
  if c.wide = 2 then { s with blank := s.blank ++ [isB c], places := s.places ++ [s.last] }
  else { runes := s.runes ++ c.r :: c.comb, places := s.places ++ [s.runes.length], cols := s.cols ++ List.replicate (c.comb.length + 1) s.blank.length, blank := s.blank ++ [isB c], last := s.runes.length }
def run (l : List Cl) : St := l.foldl step ⟨[], [], [], [], 0⟩
def St.tx (s : St) : Tx := ⟨s.runes, s.places ++ [s.runes.length], s.cols, s.blank⟩
def textOf (l : List Cl) : Tx := (run l).tx
theorem run_snoc (l : List Cl) (c : Cl) : run (l ++ [c]) = step (run l) c := by simp [run]
/-- How many runes cells have at most. -/
def size (l : List Cl) : Nat := (l.map fun c => 1 + c.comb.length).sum
theorem size_append (l m : List Cl) : size (l ++ m) = size l + size m := by simp [size]
theorem snoc_ind {α : Type} {P : List α → Prop} (h0 : P []) (h1 : ∀ l x, P l → P (l ++ [x])) (l : List α) : P l := by
  have : ∀ m : List α, P m.reverse := by
    intro m
    induction m with
    | nil => exact h0
    | cons x m ih => rw [List.reverse_cons]; exact h1 _ _ ih
  have h := this l.reverse
  rwa [List.reverse_reverse] at h
/-- What holds of the text while cells come. -/
structure Ok (l : List Cl) (s : St) : Prop where
  hb : s.blank = l.map isB
  hp : s.places.length = l.length
  hc : s.cols.length = s.runes.length
  hz : s.runes.length ≤ size l
  last_le : s.last ≤ s.runes.length
  places_le : ∀ x ∈ s.places, x ≤ s.last
  mono : ∀ (i x y : Nat), s.places[i]? = some x → s.places[i + 1]? = some y → x ≤ y
  cell : ∀ (i col : Nat), s.cols[i]? = some col → ∃ c p, l[col]? = some c ∧ c.wide ≠ 2 ∧ s.places[col]? = some p ∧ p ≤ i ∧ i - p ≤ c.comb.length ∧ (0 < i → ∀ q, s.cols[i - 1]? = some q → q ≤ col)
  cols_lt : ∀ x ∈ s.cols, x < l.length
theorem ok_run : ∀ l : List Cl, Ok l (run l) := by
  intro l
  induction l using snoc_ind with
  | h0 => exact ⟨rfl, rfl, rfl, Nat.zero_le _, Nat.le_refl _, (by simp [run]), (by simp [run]), (by simp [run]), (by simp [run])⟩
  | h1 l c ih =>
    rw [run_snoc]
    generalize run l = s at ih
    obtain ⟨hb, hp, hc, hz, hl, hpl, hm, hcell, hlt⟩ := ih
    have hsz : size (l ++ [c]) = size l + (1 + c.comb.length) := by simp [size]
    have hmono : ∀ (x : Nat), s.last ≤ x → ∀ (i a b : Nat), (s.places ++ [x])[i]? = some a → (s.places ++ [x])[i + 1]? = some b → a ≤ b := by
      intro x hx i a b h1 h2
      rw [List.getElem?_append] at h1 h2
      split at h2
      · rename_i h
        rw [if_pos (by omega)] at h1
        exact hm i a b h1 h2
      · rename_i h
        have e := List.mem_of_getElem? h2
        rw [List.mem_singleton] at e
        subst e
        split at h1
        · exact Nat.le_trans (hpl _ (List.mem_of_getElem? h1)) hx
        · have := List.mem_of_getElem? h1
          rw [List.mem_singleton] at this
          omega
    have hold : ∀ (x : Nat) (ys : List Nat) (i col : Nat), s.cols[i]? = some col → ∃ c' p, (l ++ [c])[col]? = some c' ∧ c'.wide ≠ 2 ∧ (s.places ++ [x])[col]? = some p ∧ p ≤ i ∧ i - p ≤ c'.comb.length ∧ (0 < i → ∀ q, (s.cols ++ ys)[i - 1]? = some q → q ≤ col) := by
      intro x ys i col h
      obtain ⟨c', p, h1, h2, h3, h4, h5, h6⟩ := hcell i col h
      have l1 := (List.getElem?_eq_some_iff.1 h1).1
      have l3 := (List.getElem?_eq_some_iff.1 h3).1
      refine ⟨c', p, by rw [List.getElem?_append_left l1]; exact h1, h2, by rw [List.getElem?_append_left l3]; exact h3, h4, h5, fun hi q hq => h6 hi q ?_⟩
      have := (List.getElem?_eq_some_iff.1 h).1
      rwa [List.getElem?_append_left (by omega)] at hq
    unfold step
    split
    · rename_i hw
      refine ⟨by simp [hb], by simp [hp], hc, by rw [hsz]; exact Nat.le_trans hz (Nat.le_add_right _ _), hl, ?_, hmono s.last (Nat.le_refl _), ?_, ?_⟩
      · intro x hx
        rcases List.mem_append.1 hx with h | h
        · exact hpl x h
        · rw [List.mem_singleton.1 h]; exact Nat.le_refl _
      · intro i col h
        have := hold s.last [] i col h
        simpa using this
      · intro x hx
        have := hlt x hx
        simp; omega
    · rename_i hw
      have hlb : s.blank.length = l.length := by rw [hb, List.length_map]
      refine ⟨by simp [hb], by simp [hp], by simp [hc], by simp only [List.length_append, List.length_cons]; rw [hsz]; omega, by simp, ?_, hmono s.runes.length hl, ?_, ?_⟩
      · intro x hx
        rcases List.mem_append.1 hx with h | h
        · exact Nat.le_trans (hpl x h) hl
        · rw [List.mem_singleton.1 h]; exact Nat.le_refl _
      · intro i col h
        by_cases hi : i < s.cols.length
        · rw [List.getElem?_append_left hi] at h
          exact hold _ _ i col h
        · rw [List.getElem?_append_right (by omega)] at h
          have e := List.eq_of_mem_replicate (List.mem_of_getElem? h)
          have hk := (List.getElem?_eq_some_iff.1 h).1
          rw [List.length_replicate] at hk
          subst e
          refine ⟨c, s.runes.length, by rw [hlb]; simp, hw, by rw [hlb, ← hp]; simp, by omega, by omega, fun h0 q hq => ?_⟩
          rcases List.mem_append.1 (List.mem_of_getElem? hq) with h | h
          · have := hlt q h; omega
          · rw [List.eq_of_mem_replicate h]; exact Nat.le_refl _
      · intro x hx
        rcases List.mem_append.1 hx with h | h
        · have := hlt x h; simp; omega
        · rw [List.eq_of_mem_replicate h, hlb]; simp
/-! ## What is asked of a text -/
def Tx.place (x : Tx) (col : Int) : Nat := if col < 0 ∨ x.blank.length = 0 then 0 else x.places.getD (min col.toNat x.blank.length) 0
def Tx.col (x : Tx) (place : Int) : Nat := if place < 0 then 0 else if (x.cols.length : Int) ≤ place then x.blank.length else x.cols.getD place.toNat 0
def Tx.part (x : Tx) (a b : Int) : List Int := ((x.cols.zip x.runes).filter fun p => decide (a ≤ (p.1 : Int)) && decide ((p.1 : Int) < b)).map Prod.snd
/-- The text is one: as many columns as runes, a place more than cells. -/
structure Tx.Ok (x : Tx) : Prop where
  hp : x.blank.length ≠ 0 → x.places.length = x.blank.length + 1
  hc : x.cols.length = x.runes.length
  lt : ∀ c ∈ x.cols, c < x.blank.length
theorem tx_ok (l : List Cl) : (textOf l).Ok := by
  have h := ok_run l
  exact ⟨fun _ => by simp [textOf, St.tx, h.hp, h.hb], h.hc, fun c hc => by have := h.cols_lt c hc; simp [textOf, St.tx, h.hb]; exact this⟩
theorem tx_cells (l : List Cl) : (textOf l).blank = l.map isB := (ok_run l).hb
theorem part_all {x : Tx} (h : x.Ok) : x.part 0 x.blank.length = x.runes := by
  unfold Tx.part
  rw [List.filter_eq_self.2 ?_, List.map_snd_zip (by rw [h.hc]; exact Nat.le_refl _)]
  intro p hp
  have := h.lt p.1 (List.of_mem_zip hp).1
  simp; omega
end Go.Words
