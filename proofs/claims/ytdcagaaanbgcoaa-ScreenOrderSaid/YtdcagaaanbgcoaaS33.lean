/- Law 9: lines keep their order (plain). -/
import Derived.Test.YtdcagaaanbgcoaaS27
import Derived.Test.YtdcagaaanbgcoaaL6
namespace Go.Proofs.Ytdcagaaanbgcoaa
open Go.RowKit Go.Mem Go.Cells Go.Lines
theorem pair_sub {α : Type} : ∀ {l : List α} {i j : Nat} {a b : α}, l[i]? = some a → l[j]? = some b → i < j → [a, b].Sublist l
  | [], i, j, a, b, h, _, _ => by simp at h
  | x :: l, 0, j + 1, a, b, h1, h2, _ => by
    have e : x = a := by simpa using h1
    subst e
    have h3 : l[j]? = some b := by simpa using h2
    exact (List.singleton_sublist.2 (List.mem_of_getElem? h3)).cons_cons x
  | x :: l, i + 1, j + 1, a, b, h1, h2, h => by
    have h3 : l[i]? = some a := by simpa using h1
    have h4 : l[j]? = some b := by simpa using h2
    exact (pair_sub h3 h4 (by omega)).cons x
theorem sub_pair {α : Type} : ∀ {l : List α} {a b : α}, [a, b].Sublist l → ∃ i j : Nat, i < j ∧ l[i]? = some a ∧ l[j]? = some b
  | [], a, b, h => by cases h
  | x :: l, a, b, h => by
    cases h with
    | cons _ h1 =>
      obtain ⟨i, j, h2, h3, h4⟩ := sub_pair h1
      exact ⟨i + 1, j + 1, by omega, by simpa using h3, by simpa using h4⟩
    | cons_cons _ h1 =>
      obtain ⟨j, hj⟩ := List.getElem?_of_mem (List.singleton_sublist.1 h1)
      exact ⟨0, j + 1, by omega, rfl, by simpa using hj⟩
theorem idv_at {L : List LN} {i : Nat} {x : LN} (h : L[i]? = some x) : (idv L)[i]? = some x.1 := by unfold idv; rw [List.getElem?_map, h]; rfl
theorem ffst_mem {L : List LN} {id : Int} (h : 0 ≤ ffst L id) : id ∈ idv L := by
  refine Classical.byContradiction fun hn => ?_
  have := ffst_none (L := L) (id := id) (fun j y hy e => hn (by rw [← e]; exact mem_idv (List.mem_of_getElem? hy)))
  omega
theorem ffst_of {L : List LN} {id : Int} (hd : NDK L) (h : id ∈ idv L) : ∃ (k : Nat) (y : LN), L[k]? = some y ∧ y.1 = id ∧ ffst L id = (k : Int) := by
  obtain ⟨y, hy, rfl⟩ := of_idv h
  obtain ⟨k, hk⟩ := List.getElem?_of_mem hy
  exact ⟨k, y, hk, rfl, ffst_is hd hk⟩
/-- The last place, of those ahead of the ith line, that was one's own. -/
def la (L L' : List LN) : Nat → Int
  | 0 => -1
  | i + 1 => match L'[i]? with
    | some x => if 0 ≤ ffst L x.1 then ffst L x.1 else la L L' i
    | none => la L L' i
theorem la_is (L L' : List LN) : ∀ i, la L L' i = -1 ∨ ∃ (j : Nat) (x : LN), j < i ∧ L'[j]? = some x ∧ 0 ≤ ffst L x.1 ∧ la L L' i = ffst L x.1
  | 0 => .inl rfl
  | i + 1 => by
    rw [la]
    cases hx : L'[i]? with
    | none =>
      rcases la_is L L' i with h | ⟨j, x, h1, h2, h3, h4⟩
      · exact .inl h
      · exact .inr ⟨j, x, by omega, h2, h3, h4⟩
    | some x =>
      dsimp only
      by_cases h0 : 0 ≤ ffst L x.1
      · rw [if_pos h0]
        exact .inr ⟨i, x, by omega, hx, h0, rfl⟩
      · rw [if_neg h0]
        rcases la_is L L' i with h | ⟨j, x, h1, h2, h3, h4⟩
        · exact .inl h
        · exact .inr ⟨j, x, by omega, h2, h3, h4⟩
theorem la_succ {L L' : List LN} {i : Nat} {x : LN} (h : L'[i]? = some x) : la L L' (i + 1) = if 0 ≤ ffst L x.1 then ffst L x.1 else la L L' i := by rw [la, h]
/-- A line that was there stands no further ahead. -/
theorem ord_at {L L' : List LN} {nx : Int} {i : Nat} {x : LN} (ho : Ord L L' nx) (hd : NDK L) (hi : IDK nx L) (hx : L'[i]? = some x) (h0 : 0 ≤ ffst L x.1) : la L L' i ≤ ffst L x.1 := by
  rcases la_is L L' i with h | ⟨j, y, h1, h2, h3, h4⟩
  · omega
  · rw [h4]
    obtain ⟨k1, y1, e1, e2, e3⟩ := ffst_of hd (ffst_mem h3)
    obtain ⟨k2, y2, e4, e5, e6⟩ := ffst_of hd (ffst_mem h0)
    have l1 : y.1 < nx := by rw [← e2]; exact (hi y1 (List.mem_of_getElem? e1)).2
    have l2 : x.1 < nx := by rw [← e5]; exact (hi y2 (List.mem_of_getElem? e4)).2
    have hp := (pair_sub (idv_at h2) (idv_at hx) h1).filter (fun i => decide (i < nx))
    have hf : [y.1, x.1].filter (fun i => decide (i < nx)) = [y.1, x.1] := by simp [l1, l2]
    rw [hf] at hp
    obtain ⟨a, b, hab, ha, hb⟩ := sub_pair (hp.trans ho)
    have g1 : ∃ z, L[a]? = some z ∧ z.1 = y.1 := by
      unfold idv at ha
      rw [List.getElem?_map] at ha
      cases hz : L[a]? with
      | none => rw [hz] at ha; cases ha
      | some z => rw [hz] at ha; exact ⟨z, rfl, Option.some.inj ha⟩
    have g2 : ∃ z, L[b]? = some z ∧ z.1 = x.1 := by
      unfold idv at hb
      rw [List.getElem?_map] at hb
      cases hz : L[b]? with
      | none => rw [hz] at hb; cases hb
      | some z => rw [hz] at hb; exact ⟨z, rfl, Option.some.inj hb⟩
    obtain ⟨z1, q1, q2⟩ := g1
    obtain ⟨z2, q3, q4⟩ := g2
    have f1 := ffst_is hd q1
    have f2 := ffst_is hd q3
    rw [q2] at f1
    rw [q4] at f2
    rw [f1, f2]
    omega
theorem ord_mem {L L' : List LN} {nx : Int} {i : Nat} {x : LN} (ho : Ord L L' nx) (hd : NDK L) (hx : L'[i]? = some x) (hl : x.1 < nx) : 0 ≤ ffst L x.1 := by
  have h1 : x.1 ∈ (idv L').filter (fun i => decide (i < nx)) := List.mem_filter.2 ⟨mem_idv (List.mem_of_getElem? hx), decide_eq_true hl⟩
  obtain ⟨k, y, _, _, e⟩ := ffst_of hd (ho.subset h1)
  omega
theorem fnd_no {SL : List LN} {id : Int} (h : ∀ y ∈ SL, id ≠ y.1) : fnd SL id = -1 := find_none _ _ fun x hx => decide_eq_false fun e => h x hx e.symm
/-- What is known so far of one id's place. -/
def pk (L : List LN) (id a0 : Int) (k : Nat) : Int := if 0 ≤ ffst L id ∧ ffst L id < (k : Int) then ffst L id else a0
theorem pk_zero (L : List LN) (id a0 : Int) : pk L id a0 0 = a0 := by unfold pk; rw [if_neg (by omega)]
theorem pk_hit {L : List LN} {id a0 : Int} {k : Nat} (h : ffst L id = (k : Int)) : pk L id a0 (k + 1) = k ∧ pk L id a0 k = a0 := by unfold pk; rw [if_pos (by omega), if_neg (by omega), h]; exact ⟨rfl, rfl⟩
theorem pk_miss {L : List LN} {id a0 : Int} {k : Nat} (h : ffst L id ≠ (k : Int)) : pk L id a0 (k + 1) = pk L id a0 k := by
  unfold pk
  by_cases h1 : 0 ≤ ffst L id ∧ ffst L id < (k : Int)
  · rw [if_pos h1, if_pos (by omega)]
  · rw [if_neg h1, if_neg (by omega)]
theorem pk_end {L L' : List LN} {i n : Nat} {x : LN} (h : L'[i]? = some x) (hd : NDK L) (hn : L.length = n) : pk L x.1 (la L L' i) n = la L L' (i + 1) := by
  rw [la_succ h]
  unfold pk
  by_cases h0 : 0 ≤ ffst L x.1
  · obtain ⟨k, y, e1, _, e3⟩ := ffst_of hd (ffst_mem h0)
    have := (List.getElem?_eq_some_iff.1 e1).1
    rw [if_pos (by omega), if_pos h0]
  · rw [if_neg (by omega), if_neg h0]
end Go.Proofs.Ytdcagaaanbgcoaa
