/- Law 18: what abides all calls, for the fates. -/
import Derived.Test.YtinfgebdcjaabaaQ22
namespace Go.Proofs.Ytinfgebdcjaabaa
open Go.RowKit Go.Mem Go.Queue Go.Maps
def Small (q : Qu) : Prop := (∀ u ∈ q.waits, u.text.size ≤ 4096) ∧ ∀ u ∈ q.spoken, u.text.size ≤ 4096
theorem room_sub (q : Qu) (p : Int) : (room q p).1.waits.Sublist q.waits := by
  unfold room
  split
  · exact List.Sublist.refl _
  · split
    · exact List.Sublist.refl _
    · exact List.eraseIdx_sublist ..
theorem put_small {q : Qu} {u : Ut} {intr : Bool} (h : Small q) : Small (put q u intr).1 := by
  unfold put
  split
  · exact h
  · rename_i hno
    have hm : may u = true := by
      cases hmu : may u with
      | true => rfl
      | false => exact (hno (.inl hmu)).elim
    have hu : u.text.size ≤ 4096 := by
      unfold may at hm
      simp only [Bool.and_eq_true, decide_eq_true_eq] at hm
      exact hm.1.2
    simp only
    have key : ∀ q2 : Qu, Small q2 → ∀ fl : List Ut, Small (if (room q2 u.pr).2.2 = true then ({ (room q2 u.pr).1 with count := (room q2 u.pr).1.count + 1, waits := (room q2 u.pr).1.waits ++ [{ u with num := (room q2 u.pr).1.count + 1 }] }, (⟨(room q2 u.pr).1.count + 1, fl, (room q2 u.pr).2.1⟩ : Out), (0 : Int)) else ((room q2 u.pr).1, ⟨0, fl, (room q2 u.pr).2.1⟩, 0)).1 := by
      intro q2 h2 fl
      have e6 : (room q2 u.pr).1.spoken = q2.spoken := by rw [(room_q q2 u.pr).1]
      have hw : ∀ x ∈ (room q2 u.pr).1.waits, x.text.size ≤ 4096 := fun x hx => h2.1 x ((room_sub q2 u.pr).subset hx)
      split
      · refine ⟨fun x hx => ?_, fun x hx => h2.2 x (by rw [← e6]; exact hx)⟩
        rcases List.mem_append.1 hx with hx | hx
        · exact hw x hx
        · rw [List.mem_singleton.1 hx]; exact hu
      · exact ⟨hw, fun x hx => h2.2 x (by rw [← e6]; exact hx)⟩
    cases intr with
    | false => exact key { q with last := max q.last u.to_ } h []
    | true => exact key (cut { q with last := max q.last u.to_ } u.pr) ⟨fun x hx => h.1 x (List.mem_filter.1 hx |>.1), fun x hx => h.2 x (List.mem_filter.1 hx |>.1)⟩ _
theorem accept_small {q : Qu} (h : Small q) : Small (accept q).1 := by
  unfold accept
  split
  · exact h
  · rename_i u hu
    exact ⟨fun x hx => h.1 x ((List.eraseIdx_sublist ..).subset hx), fun x hx => by
      rw [List.mem_singleton.1 hx]; exact h.1 u (List.mem_of_getElem? hu)⟩
theorem mark_shape (q : Qu) (n : Int) : ∃ sp wd, (mark q n).1 = { q with spoken := sp, words := wd } ∧ sp.Sublist q.spoken := by
  unfold mark
  split
  · exact ⟨q.spoken, q.words, rfl, List.Sublist.refl _⟩
  · rename_i y l hy
    split
    · exact ⟨q.spoken, q.words, rfl, List.Sublist.refl _⟩
    · split
      · exact ⟨q.spoken, q.words, rfl, List.Sublist.refl _⟩
      · split
        · exact ⟨[], n, rfl, List.nil_sublist _⟩
        · exact ⟨q.spoken, n, rfl, List.Sublist.refl _⟩
structure FI (s k : Nat) (q : Qu) (S : List Int) (last : Int) : Prop where
  inv : Inv s k q
  fate : Fate k q S last
  small : Small q
variable {s k : Nat} {q : Qu} {S : List Int} {last : Int}
theorem FI.more (h : FI s k q S last) : FI s (k + 1) q S last := ⟨h.inv.more, h.fate.more, h.small⟩
theorem FI.new (s : Nat) : FI s 0 ⟨s, [], [], 0, 0, 0⟩ [] 0 := ⟨new_inv s, new_fate s, by simp [Small]⟩
theorem FI.mark (h : FI s k q S last) (n : Int) : FI s (k + 1) (mark q n).1 S last := by
  obtain ⟨sp, wd, e, hsub⟩ := mark_shape q n
  rw [e]
  have hi := h.inv
  exact ⟨Inv.more (q := { q with spoken := sp, words := wd }) ⟨hi.size, hi.len, hi.lenk, Nat.le_trans hsub.length_le hi.sp, hi.c0, hi.ck⟩, (mark_fate h.fate).more, h.small.1, fun x hx => h.small.2 x (hsub.subset hx)⟩
theorem FI.silence (h : FI s k q S last) : FI s (k + 1) { q with waits := [], spoken := [] } (S ++ nosOf q.waits) last := by
  have hi := h.inv
  exact ⟨Inv.more (q := { q with waits := [], spoken := [] }) ⟨hi.size, Nat.zero_le _, Nat.zero_le _, Nat.zero_le _, hi.c0, hi.ck⟩, (silence_fate h.fate).more, by simp [Small]⟩
theorem FI.accept (h : FI s k q S last) {y : Ut} (e : (accept q).2 = some y) : FI s (k + 1) (accept q).1 (S ++ [y.num]) (if y.pr = 1 then y.to_ else last) ∧ (y.pr = 1 → ¬ y.fr < last) ∧ (accept q).1.count = q.count := by
  obtain ⟨h1, h2⟩ := accept_fate h.fate e
  refine ⟨⟨(accept_inv h.inv).more, h1.more, accept_small h.small⟩, fun hp => Int.not_lt.2 (h2 hp), ?_⟩
  unfold Queue.accept
  split <;> rfl
theorem FI.put (hs : 0 < s) (h : FI s k q S last) {u : Ut} {intr : Bool} {q' : Qu} {nm er : Int} {fl dr : List Ut} (hr : put q u intr = (q', ⟨nm, fl, dr⟩, er)) :
    (er ≠ 0 ∧ q' = q) ∨ (er = 0 ∧ fl.length ≤ q.waits.length ∧ FI s (k + 1) q' ((S ++ nosOf fl) ++ nosOf dr) last ∧
      ((dr = [] ∧ nm = q.count + 1 ∧ q'.count = nm ∧ q.waits.length - fl.length ≠ s) ∨ (dr = [] ∧ nm = 0 ∧ q'.count = q.count ∧ q.waits.length - fl.length = s) ∨
        ∃ y, dr = [y] ∧ nm = q.count + 1 ∧ q'.count = nm ∧ q.waits.length - fl.length = s)) := by
  have h1 := put_inv hs h.inv (u := u) (intr := intr)
  have h2 := put_small h.small (u := u) (intr := intr)
  rw [hr] at h1 h2
  rcases put_fate hs h.inv h.fate hr with h3 | ⟨h3, h4, h5, h6⟩
  · exact .inl h3
  · exact .inr ⟨h3, h4, ⟨h1, h5, h2⟩, h6⟩
theorem FI.fresh (h : FI s k q S last) : (S ++ nosOf q.waits).Nodup ∧ ∀ x ∈ S ++ nosOf q.waits, 1 ≤ x ∧ x ≤ k := h.fate.fresh
theorem FI.had (h : FI s k q S last) : S.Nodup ∧ ∀ x ∈ S, 1 ≤ x ∧ x ≤ k := by
  obtain ⟨h1, h2⟩ := h.fresh
  exact ⟨h1.sublist (List.sublist_append_left _ _), fun x hx => h2 x (List.mem_append_left _ hx)⟩
/-- At the end: just the numbers that were given. -/
theorem FI.all (h : FI s k q S last) : (S ++ nosOf q.waits).Nodup ∧ ((S ++ nosOf q.waits).length : Int) = q.count ∧ ∀ n : Int, 1 ≤ n → n ≤ q.count → n ∈ S ++ nosOf q.waits := by
  obtain ⟨c, h1, h2, h3⟩ := h.fate.perm
  refine ⟨h.fresh.1, by rw [h3.length_eq, upN_len, h1], fun n h4 h5 => h3.mem_iff.2 (mem_upN.2 ⟨h4, by omega⟩)⟩
end Go.Proofs.Ytinfgebdcjaabaa
