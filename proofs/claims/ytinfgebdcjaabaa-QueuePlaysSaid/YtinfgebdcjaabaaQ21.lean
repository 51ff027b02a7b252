/- Law 18: the fates of utterances, as plain lists. -/
import Derived.Test.YtinfgebdcjaabaaQ18
namespace Go.Queue
def nosOf (l : List Ut) : List Int := l.map (·.num)
theorem nosOf_append (l m : List Ut) : nosOf (l ++ m) = nosOf l ++ nosOf m := by simp [nosOf]
def upN (c : Nat) : List Int := (List.range c).map (fun i : Nat => (i : Int) + 1)
theorem upN_succ (c : Nat) : upN (c + 1) = upN c ++ [(c : Int) + 1] := by simp [upN, List.range_succ]
theorem mem_upN {c : Nat} {n : Int} : n ∈ upN c ↔ 1 ≤ n ∧ n ≤ c := by
  simp only [upN, List.mem_map, List.mem_range]
  constructor
  · rintro ⟨i, hi, rfl⟩; omega
  · rintro ⟨h1, h2⟩; exact ⟨(n - 1).toNat, by omega, by omega⟩
theorem upN_nodup (c : Nat) : (upN c).Nodup := by
  induction c with
  | zero => exact List.nodup_nil
  | succ c ih =>
    rw [upN_succ, List.nodup_append]
    refine ⟨ih, by simp, fun a ha b hb => ?_⟩
    rw [mem_upN] at ha
    simp at hb
    omega
theorem upN_len (c : Nat) : (upN c).length = c := by simp [upN]
/-- Spans one behind the other, between two places. -/
def asc : Int → List Ut → Int → Prop
  | a, [], z => a ≤ z
  | a, u :: l, z => a ≤ u.fr ∧ u.fr ≤ u.to_ ∧ asc u.to_ l z
theorem asc_le : ∀ {l : List Ut} {a z : Int}, asc a l z → a ≤ z
  | [], _, _, h => h
  | u :: l, a, z, h => by
    obtain ⟨h1, h2, h3⟩ := h
    have := asc_le h3
    omega
theorem asc_low : ∀ {l : List Ut} {a b z : Int}, b ≤ a → asc a l z → asc b l z
  | [], _, _, _, hb, h => Int.le_trans hb h
  | _ :: _, _, _, _, hb, h => ⟨Int.le_trans hb h.1, h.2.1, h.2.2⟩
theorem asc_high : ∀ {l : List Ut} {a z y : Int}, z ≤ y → asc a l z → asc a l y
  | [], _, _, _, hb, h => Int.le_trans h hb
  | _ :: _, _, _, _, hb, h => ⟨h.1, h.2.1, asc_high hb h.2.2⟩
theorem asc_sub {l m : List Ut} (s : l.Sublist m) : ∀ {a z : Int}, asc a m z → asc a l z := by
  induction s with
  | slnil => exact fun h => h
  | cons u _ ih => exact fun h => ih (asc_low (Int.le_trans h.1 h.2.1) h.2.2)
  | cons_cons u _ ih => exact fun h => ⟨h.1, h.2.1, ih h.2.2⟩
theorem asc_snoc : ∀ {l : List Ut} {a z : Int} {u : Ut}, asc a l z → z ≤ u.fr → u.fr ≤ u.to_ → asc a (l ++ [u]) u.to_
  | [], _, _, _, h, h1, h2 => ⟨Int.le_trans h h1, h2, Int.le_refl _⟩
  | _ :: _, _, _, _, h, h1, h2 => ⟨h.1, h.2.1, asc_snoc h.2.2 h1 h2⟩
def ones (l : List Ut) : List Ut := l.filter (fun x => decide (x.pr = 1))
theorem ones_append (l m : List Ut) : ones (l ++ m) = ones l ++ ones m := by simp [ones]
theorem ones_sub {l m : List Ut} (s : l.Sublist m) : (ones l).Sublist (ones m) := s.filter _
structure Fate (k : Nat) (q : Qu) (S : List Int) (last : Int) : Prop where
  perm : ∃ c : Nat, q.count = c ∧ c ≤ k ∧ (S ++ nosOf q.waits).Perm (upN c)
  spans : asc last (ones q.waits) q.last
theorem Fate.more {k : Nat} {q : Qu} {S : List Int} {last : Int} (h : Fate k q S last) : Fate (k + 1) q S last := by
  obtain ⟨⟨c, h1, h2, h3⟩, h4⟩ := h
  exact ⟨⟨c, h1, by omega, h3⟩, h4⟩
theorem new_fate (s : Nat) : Fate 0 ⟨s, [], [], 0, 0, 0⟩ [] 0 := ⟨⟨0, rfl, Nat.le_refl _, List.Perm.refl _⟩, Int.le_refl _⟩
theorem split_at {l : List Ut} {i : Nat} {y : Ut} (h : l[i]? = some y) : l = l.take i ++ y :: l.drop (i + 1) ∧ l.eraseIdx i = l.take i ++ l.drop (i + 1) := by
  obtain ⟨hi, hy⟩ := List.getElem?_eq_some_iff.1 h
  refine ⟨?_, List.eraseIdx_eq_take_drop_succ ..⟩
  subst hy
  rw [List.getElem_cons_drop, List.take_append_drop]
theorem erase_perm {l : List Ut} {i : Nat} {y : Ut} (h : l[i]? = some y) (S : List Int) : (S ++ nosOf l).Perm ((S ++ [y.num]) ++ nosOf (l.eraseIdx i)) := by
  obtain ⟨h1, h2⟩ := split_at h
  rw [h2]
  conv => lhs; rw [h1]
  rw [nosOf_append, nosOf_append]
  show (S ++ (nosOf (l.take i) ++ y.num :: nosOf (l.drop (i + 1)))).Perm _
  rw [List.append_assoc]
  exact List.Perm.append_left S List.perm_middle
theorem filter_perm (p : Ut → Bool) : ∀ (l : List Ut) (S : List Int), (S ++ nosOf l).Perm ((S ++ nosOf (l.filter p)) ++ nosOf (l.filter (fun x => !p x)))
  | [], S => by simp [nosOf]
  | x :: l, S => by
    have ih := filter_perm p l S
    cases hp : p x with
    | true =>
      rw [List.filter_cons_of_pos hp, List.filter_cons_of_neg (by simp [hp])]
      show (S ++ x.num :: nosOf l).Perm ((S ++ x.num :: nosOf _) ++ _)
      refine List.perm_middle.trans (((List.Perm.cons _ ih)).trans ?_)
      rw [List.append_assoc, List.append_assoc]
      exact List.perm_middle.symm
    | false =>
      rw [List.filter_cons_of_neg (by simp [hp]), List.filter_cons_of_pos (by simp [hp])]
      show (S ++ x.num :: nosOf l).Perm ((S ++ nosOf _) ++ x.num :: nosOf _)
      exact List.perm_middle.trans ((List.Perm.cons _ ih).trans List.perm_middle.symm)
theorem best_facts (l : List Ut) : ∀ k, (∀ i, i < k → prio l i ≤ prio l (bestUpto l k)) ∧ ∀ i, i < bestUpto l k → prio l i < prio l (bestUpto l k)
  | 0 => ⟨fun i hi => by omega, fun i hi => by simp [bestUpto] at hi⟩
  | k + 1 => by
    obtain ⟨h1, h2⟩ := best_facts l k
    unfold bestUpto
    split
    · rename_i h
      refine ⟨fun i hi => ?_, fun i hi => ?_⟩
      · rcases Nat.lt_or_ge i k with h3 | h3
        · have := h1 i h3; omega
        · obtain rfl : i = k := by omega
          exact Int.le_refl _
      · have := h1 i hi; omega
    · rename_i h
      refine ⟨fun i hi => ?_, h2⟩
      rcases Nat.lt_or_ge i k with h3 | h3
      · exact h1 i h3
      · obtain rfl : i = k := by omega
        omega
theorem prio_eq {l : List Ut} {i : Nat} {u : Ut} (h : l[i]? = some u) : prio l i = u.pr := by unfold prio; rw [h]
theorem best_first {l : List Ut} {y : Ut} (h : l[bestAt l]? = some y) (hp : y.pr = 1) : ones l = y :: ones (l.eraseIdx (bestAt l)) := by
  obtain ⟨h1, h2⟩ := split_at h
  have e0 : ones (l.take (bestAt l)) = [] := by
    unfold ones
    rw [List.filter_eq_nil_iff]
    intro x hx
    obtain ⟨i, hi⟩ := List.mem_iff_getElem?.1 hx
    have hlt : i < bestAt l := by have := (List.getElem?_eq_some_iff.1 hi).1; rw [List.length_take] at this; omega
    rw [List.getElem?_take, if_pos hlt] at hi
    have h3 := (best_facts l l.length).2 i hlt
    rw [prio_eq hi, show bestUpto l l.length = bestAt l from rfl, prio_eq h] at h3
    simp; omega
  rw [h2, ones_append, e0]
  conv => lhs; rw [h1]
  rw [ones_append, e0]
  simp [ones, hp]
/-- Accepting. -/
theorem accept_fate {k : Nat} {q : Qu} {S : List Int} {last : Int} {y : Ut} (h : Fate k q S last) (e : (accept q).2 = some y) :
    Fate k (accept q).1 (S ++ [y.num]) (if y.pr = 1 then y.to_ else last) ∧ (y.pr = 1 → last ≤ y.fr) := by
  obtain ⟨⟨c, h1, h2, h3⟩, h4⟩ := h
  unfold accept at e ⊢
  split at e
  · cases e
  · rename_i u hu
    cases e
    have hsub : (q.waits.eraseIdx (bestAt q.waits)).Sublist q.waits := List.eraseIdx_sublist ..
    refine ⟨⟨⟨c, h1, h2, (erase_perm hu S).symm.trans h3⟩, ?_⟩, fun hp => ?_⟩
    · split
      · rename_i hp
        rw [best_first hu hp] at h4
        exact h4.2.2
      · exact asc_sub (ones_sub hsub) h4
    · rw [best_first hu hp] at h4
      exact h4.1
theorem accept_none {q : Qu} (e : (accept q).2 = none) : (accept q).1 = q := by
  unfold accept at e ⊢
  split at e
  · rfl
  · cases e
theorem may_span {u : Ut} (h : may u = true) : u.fr ≤ u.to_ := by
  unfold may at h
  simp only [Bool.and_eq_true, decide_eq_true_eq] at h
  obtain ⟨⟨⟨_, _⟩, _⟩, h⟩ := h
  split at h
  · simp at h; omega
  · simp at h; omega
/-- Making room. -/
theorem room_fate {k s : Nat} {q : Qu} {S : List Int} {last : Int} (p : Int) (hs : 0 < s) (hz : q.size = s) (hl : q.waits.length ≤ s) (h : Fate k q S last) :
    Fate k (room q p).1 (S ++ nosOf (room q p).2.1) last ∧ (((room q p).2.1 = [] ∧ (room q p).2.2 = true ∧ q.waits.length ≠ s) ∨ ((room q p).2.1 = [] ∧ (room q p).2.2 = false ∧ q.waits.length = s) ∨ ∃ y, (room q p).2.1 = [y] ∧ (room q p).2.2 = true ∧ q.waits.length = s) := by
  obtain ⟨⟨c, h1, h2, h3⟩, h4⟩ := h
  unfold room
  split
  · rename_i h0
    exact ⟨⟨⟨c, h1, h2, by simpa [nosOf] using h3⟩, h4⟩, .inl ⟨rfl, rfl, by omega⟩⟩
  · rename_i h0
    have h5 : q.waits.length = s := by omega
    split
    · exact ⟨⟨⟨c, h1, h2, by simpa [nosOf] using h3⟩, h4⟩, .inr (.inl ⟨rfl, rfl, h5⟩)⟩
    · have hlt : leastAt q.waits < q.waits.length := least_lt' (by omega)
      obtain ⟨y, hy⟩ : ∃ y, q.waits[leastAt q.waits]? = some y := ⟨_, List.getElem?_eq_getElem hlt⟩
      rw [hy]
      have hsub : (q.waits.eraseIdx (leastAt q.waits)).Sublist q.waits := List.eraseIdx_sublist ..
      exact ⟨⟨⟨c, h1, h2, (erase_perm hy S).symm.trans h3⟩, asc_sub (ones_sub hsub) h4⟩, .inr (.inr ⟨y, rfl, rfl, h5⟩)⟩
theorem cut_fate {k : Nat} {q : Qu} {S : List Int} {last : Int} (p : Int) (h : Fate k q S last) : Fate k (cut q p) (S ++ nosOf (q.waits.filter (fun x => decide (x.pr < p)))) last := by
  obtain ⟨⟨c, h1, h2, h3⟩, h4⟩ := h
  exact ⟨⟨c, h1, h2, (filter_perm _ q.waits S).symm.trans h3⟩, asc_sub (ones_sub List.filter_sublist) h4⟩
theorem filter_len (p : Ut → Bool) : ∀ l : List Ut, (l.filter p).length + (l.filter (fun x => !p x)).length = l.length
  | [] => rfl
  | x :: l => by
    have := filter_len p l
    cases hp : p x <;> simp [hp] <;> omega
/-- Putting: what has become of it. -/
theorem put_fate {k s : Nat} {q q' : Qu} {S : List Int} {last nm er : Int} {fl dr : List Ut} {u : Ut} {intr : Bool} (hs : 0 < s) (hi : Inv s k q) (h : Fate k q S last) (hr : put q u intr = (q', ⟨nm, fl, dr⟩, er)) :
    (er ≠ 0 ∧ q' = q) ∨ (er = 0 ∧ fl.length ≤ q.waits.length ∧ Fate (k + 1) q' ((S ++ nosOf fl) ++ nosOf dr) last ∧
      ((dr = [] ∧ nm = q.count + 1 ∧ q'.count = nm ∧ q.waits.length - fl.length ≠ s) ∨ (dr = [] ∧ nm = 0 ∧ q'.count = q.count ∧ q.waits.length - fl.length = s) ∨
        ∃ y, dr = [y] ∧ nm = q.count + 1 ∧ q'.count = nm ∧ q.waits.length - fl.length = s)) := by
  unfold put at hr
  split at hr
  · left
    cases hr
    exact ⟨by decide, rfl⟩
  · rename_i hno
    right
    have hm : may u = true := by
      cases hmu : may u with
      | true => rfl
      | false => exact (hno (.inl hmu)).elim
    have hfr : u.pr = 1 → q.last ≤ u.fr := fun hp => by
      rcases Int.lt_or_le u.fr q.last with h1 | h1
      · exact (hno (.inr ⟨hp, h1⟩)).elim
      · exact h1
    simp only at hr
    have hsp := may_span hm
    -- the queue that makes room
    have key : ∀ q2 : Qu, q2.size = s → q2.waits.length ≤ s → q2.count = q.count → q2.last = max q.last u.to_ → ∀ (fl2 : List Ut), q.waits.length - fl2.length = q2.waits.length → fl2.length ≤ q.waits.length → asc last (ones q2.waits) q.last → Fate k q2 (S ++ nosOf fl2) last →
        (if (room q2 u.pr).2.2 = true then ({ (room q2 u.pr).1 with count := (room q2 u.pr).1.count + 1, waits := (room q2 u.pr).1.waits ++ [{ u with num := (room q2 u.pr).1.count + 1 }] }, (⟨(room q2 u.pr).1.count + 1, fl2, (room q2 u.pr).2.1⟩ : Out), (0 : Int)) else ((room q2 u.pr).1, ⟨0, fl2, (room q2 u.pr).2.1⟩, 0)) = (q', ⟨nm, fl, dr⟩, er) →
        er = 0 ∧ fl.length ≤ q.waits.length ∧ Fate (k + 1) q' ((S ++ nosOf fl) ++ nosOf dr) last ∧
      ((dr = [] ∧ nm = q.count + 1 ∧ q'.count = nm ∧ q.waits.length - fl.length ≠ s) ∨ (dr = [] ∧ nm = 0 ∧ q'.count = q.count ∧ q.waits.length - fl.length = s) ∨
        ∃ y, dr = [y] ∧ nm = q.count + 1 ∧ q'.count = nm ∧ q.waits.length - fl.length = s) := by
      intro q2 g1 g2 g3 g4 fl2 g5 g6 gA g7 e
      obtain ⟨e1, e2, e3⟩ := room_len q2 u.pr (by omega) (by omega)
      obtain ⟨⟨⟨c, c1, c2, c3⟩, sp⟩, hcs⟩ := room_fate u.pr hs g1 g2 g7
      have hc : (room q2 u.pr).1.count = q2.count := by rw [e1]
      have hlast : (room q2 u.pr).1.last = q2.last := by rw [e1]
      have hA : asc last (ones (room q2 u.pr).1.waits) q.last := by
        have hsub : (room q2 u.pr).1.waits.Sublist q2.waits := by
          unfold room
          split
          · exact List.Sublist.refl _
          · split
            · exact List.Sublist.refl _
            · exact List.eraseIdx_sublist ..
        exact asc_sub (ones_sub hsub) gA
      split at e
      · rename_i hok
        cases e
        refine ⟨rfl, g6, ⟨⟨c + 1, ?_, by omega, ?_⟩, ?_⟩, ?_⟩
        · show (room q2 u.pr).1.count + 1 = _
          rw [c1]; simp
        · show ((S ++ nosOf fl ++ nosOf (room q2 u.pr).2.1) ++ nosOf ((room q2 u.pr).1.waits ++ [_])).Perm _
          rw [nosOf_append, ← List.append_assoc, upN_succ, ← c1]
          exact c3.append (List.Perm.refl _)
        · show asc last (ones ((room q2 u.pr).1.waits ++ [_])) (room q2 u.pr).1.last
          rw [ones_append, hlast, g4]
          by_cases hp : u.pr = 1
          · have e5 : ones [{ u with num := (room q2 u.pr).1.count + 1 }] = [{ u with num := (room q2 u.pr).1.count + 1 }] := by simp [ones, hp]
            rw [e5]
            have := hfr hp
            exact asc_high (show u.to_ ≤ max q.last u.to_ by omega) (asc_snoc (u := { u with num := (room q2 u.pr).1.count + 1 }) hA this hsp)
          · have e5 : ones [{ u with num := (room q2 u.pr).1.count + 1 }] = [] := by simp [ones, hp]
            rw [e5, List.append_nil]
            exact asc_high (by omega) hA
        · rcases hcs with ⟨k1, k2, k3⟩ | ⟨k1, k2, k3⟩ | ⟨y, k1, k2, k3⟩
          · left; rw [hc, g3]; exact ⟨k1, rfl, rfl, by omega⟩
          · rw [k2] at hok; cases hok
          · right; right; rw [hc, g3]; exact ⟨y, k1, rfl, rfl, by omega⟩
      · rename_i hok
        cases e
        refine ⟨rfl, g6, ⟨⟨c, c1, by omega, c3⟩, sp⟩, ?_⟩
        rcases hcs with ⟨k1, k2, k3⟩ | ⟨k1, k2, k3⟩ | ⟨y, k1, k2, k3⟩
        · rw [k2] at hok; exact (hok rfl).elim
        · right; left; exact ⟨k1, rfl, by rw [hc, g3], by omega⟩
        · rw [k2] at hok; exact (hok rfl).elim
    obtain ⟨⟨c, c1, c2, c3⟩, sp⟩ := h
    have h : Fate k q S last := ⟨⟨c, c1, c2, c3⟩, sp⟩
    cases intr with
    | false =>
      refine key { q with last := max q.last u.to_ } hi.size hi.len rfl rfl [] (by simp) (by simp) sp ⟨⟨c, c1, c2, by simpa [nosOf] using c3⟩, asc_high (by show q.last ≤ max q.last u.to_; omega) sp⟩ hr
    | true =>
      have hf : Fate k { q with last := max q.last u.to_ } S last := ⟨⟨c, c1, c2, c3⟩, asc_high (by show q.last ≤ max q.last u.to_; omega) sp⟩
      have hln := filter_len (fun x => decide (x.pr < u.pr)) q.waits
      refine key (cut { q with last := max q.last u.to_ } u.pr) hi.size (Nat.le_trans (List.length_filter_le _ _) hi.len) rfl rfl _ ?_ ?_ (asc_sub (ones_sub List.filter_sublist) sp) (cut_fate u.pr hf) hr
      · show q.waits.length - (q.waits.filter _).length = (q.waits.filter _).length
        omega
      · exact List.length_filter_le _ _
/-- Silence. -/
theorem silence_fate {k : Nat} {q : Qu} {S : List Int} {last : Int} (h : Fate k q S last) : Fate k { q with waits := [], spoken := [] } (S ++ nosOf q.waits) last := by
  obtain ⟨⟨c, c1, c2, c3⟩, sp⟩ := h
  exact ⟨⟨c, c1, c2, by simpa [nosOf] using c3⟩, asc_le sp⟩
theorem mark_fate {k : Nat} {q : Qu} {S : List Int} {last : Int} {sp : List Ut} {wd : Int} (h : Fate k q S last) : Fate k { q with spoken := sp, words := wd } S last := by
  obtain ⟨⟨c, c1, c2, c3⟩, sp⟩ := h
  exact ⟨⟨c, c1, c2, c3⟩, sp⟩
/-- What is not noted yet. -/
theorem Fate.fresh {k : Nat} {q : Qu} {S : List Int} {last : Int} (h : Fate k q S last) : (S ++ nosOf q.waits).Nodup ∧ ∀ x ∈ S ++ nosOf q.waits, 1 ≤ x ∧ x ≤ k := by
  obtain ⟨⟨c, c1, c2, c3⟩, sp⟩ := h
  refine ⟨c3.symm.nodup (upN_nodup c), fun x hx => ?_⟩
  have := mem_upN.1 (c3.mem_iff.1 hx)
  omega
end Go.Queue
