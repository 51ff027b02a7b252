/- Law 20: Back, as plain lists. -/
import Derived.Test.YtcheljogpffabaaW1
namespace Go.Words
theorem text_blank (l : List Cl) : (textOf l).blank.length = l.length := by rw [tx_cells, List.length_map]
theorem place_lt {l : List Cl} {k : Nat} (h : k < l.length) : (textOf l).place k = ((run l).places)[k]'(by rw [(ok_run l).hp]; exact h) := by
  have hp := (ok_run l).hp
  unfold Tx.place
  rw [if_neg (by rw [text_blank]; omega), text_blank, show min (k : Int).toNat l.length = k by omega]
  have hk : k < (run l).places.length := by rw [hp]; exact h
  simp [textOf, St.tx, List.getElem?_append_left hk, hk]
theorem place_end (l : List Cl) : (textOf l).place l.length = (textOf l).runes.length := by
  have hp := (ok_run l).hp
  unfold Tx.place
  by_cases h0 : l.length = 0
  · rw [if_pos (.inr (by rw [text_blank]; exact h0))]
    have : l = [] := List.length_eq_zero_iff.1 h0
    subst this; rfl
  · rw [if_neg (by rw [text_blank]; omega), text_blank, show min (l.length : Int).toNat l.length = l.length by omega]
    have e : (textOf l).places = (run l).places ++ [(run l).runes.length] := rfl
    rw [e, List.getD_eq_getElem?_getD, List.getElem?_append_right (by omega), hp, Nat.sub_self]
    rfl
theorem col_end (l : List Cl) : (textOf l).col (textOf l).runes.length = l.length := by
  have hc := (tx_ok l).hc
  unfold Tx.col
  rw [if_neg (by omega), if_pos (by rw [hc]; exact Int.le_refl _), text_blank]
theorem col_lt {l : List Cl} {i : Nat} (h : i < (textOf l).cols.length) : (textOf l).col i = (textOf l).cols[i] := by
  unfold Tx.col
  rw [if_neg (by omega), if_neg (by omega), Int.toNat_natCast, List.getD_eq_getElem?_getD, List.getElem?_eq_getElem h]
  rfl
theorem back_at {l : List Cl} {i : Nat} (h : i < (textOf l).runes.length) : ∃ (co pl : Nat) (c : Cl), (textOf l).col i = co ∧ (textOf l).place co = pl ∧ l[co]? = some c ∧ c.wide ≠ 2 ∧ pl ≤ i ∧ i - pl ≤ c.comb.length ∧ (0 < i → (textOf l).col ((i : Int) - 1) ≤ co) := by
  have hc := (tx_ok l).hc
  have ho := ok_run l
  have hi : i < (textOf l).cols.length := by rw [hc]; exact h
  obtain ⟨c, p, h1, h2, h3, h4, h5, h6⟩ := ho.cell i _ (List.getElem?_eq_getElem hi)
  have hco := (List.getElem?_eq_some_iff.1 h1).1
  refine ⟨_, p, c, col_lt hi, ?_, h1, h2, h4, h5, fun h0 => ?_⟩
  · have := place_lt hco
    exact this.trans (List.getElem?_eq_some_iff.1 h3).2
  · have hi2 : i - 1 < (textOf l).cols.length := by omega
    rw [show (i : Int) - 1 = ((i - 1 : Nat) : Int) by omega, col_lt hi2]
    exact h6 h0 _ (List.getElem?_eq_getElem hi2)
theorem place_up {l : List Cl} {k : Nat} (h : k < l.length) : (textOf l).place k ≤ (textOf l).place ((k : Int) + 1) ∧ (textOf l).place k ≤ (textOf l).runes.length := by
  have ho := ok_run l
  have hk : k < (run l).places.length := by rw [ho.hp]; exact h
  have hle : (textOf l).place k ≤ (textOf l).runes.length := by
    rw [place_lt h]
    exact Nat.le_trans (ho.places_le _ (List.getElem_mem _)) ho.last_le
  refine ⟨?_, hle⟩
  by_cases h2 : k + 1 < l.length
  · rw [show (k : Int) + 1 = ((k + 1 : Nat) : Int) by omega, place_lt h, place_lt h2]
    have hk2 : k + 1 < (run l).places.length := by rw [ho.hp]; exact h2
    exact ho.mono k _ _ (List.getElem?_eq_getElem hk) (List.getElem?_eq_getElem hk2)
  · rw [show (k : Int) + 1 = (l.length : Int) by omega, place_end]
    exact hle
end Go.Words
