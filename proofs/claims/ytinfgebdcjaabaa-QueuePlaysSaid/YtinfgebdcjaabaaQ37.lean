/- Law 18: what abides all calls, for QueuePlays. -/
import Derived.Test.YtinfgebdcjaabaaQ36
namespace Go.Proofs.Ytinfgebdcjaabaa
open Go.RowKit Go.Mem Go.Queue
theorem put_pri {q : Qu} {u : Ut} {intr : Bool} (hu : 0 ≤ u.pr) (h : Pri q) : Pri (put q u intr).1 := by
  unfold put
  split
  · exact h
  · rename_i hno
    have hm : may u = true := by
      cases hmu : may u with
      | true => rfl
      | false => exact (hno (.inl hmu)).elim
    have hu2 := may_pr hm
    simp only
    have key : ∀ q2 : Qu, Pri q2 → ∀ fl : List Ut, Pri (if (room q2 u.pr).2.2 = true then ({ (room q2 u.pr).1 with count := (room q2 u.pr).1.count + 1, waits := (room q2 u.pr).1.waits ++ [{ u with num := (room q2 u.pr).1.count + 1 }] }, (⟨(room q2 u.pr).1.count + 1, fl, (room q2 u.pr).2.1⟩ : Out), (0 : Int)) else ((room q2 u.pr).1, ⟨0, fl, (room q2 u.pr).2.1⟩, 0)).1 := by
      intro q2 h2 fl
      have hw : ∀ x ∈ (room q2 u.pr).1.waits, 0 ≤ x.pr ∧ x.pr ≤ 2 := fun x hx => h2 x ((room_sub q2 u.pr).subset hx)
      split
      · intro x hx
        rcases List.mem_append.1 hx with hx | hx
        · exact hw x hx
        · rw [List.mem_singleton.1 hx]; exact ⟨hu, hu2⟩
      · exact hw
    cases intr with
    | false => exact key { q with last := max q.last u.to_ } h []
    | true => exact key (cut { q with last := max q.last u.to_ } u.pr) (fun x hx => h x (List.mem_filter.1 hx).1) _
theorem accept_pri {q : Qu} (h : Pri q) : Pri (accept q).1 := by
  unfold accept
  split
  · exact h
  · exact fun x hx => h x ((List.eraseIdx_sublist ..).subset hx)
structure PI (s k : Nat) (q : Qu) : Prop where
  inv : Inv s k q
  small : Small q
  pri : Pri q
variable {s k : Nat} {q : Qu}
theorem PI.new (s : Nat) : PI s 0 ⟨s, [], [], 0, 0, 0⟩ := ⟨new_inv s, by simp [Small], by simp [Pri]⟩
theorem PI.more (h : PI s k q) : PI s (k + 1) q := ⟨h.inv.more, h.small, h.pri⟩
theorem PI.put (hs : 0 < s) {u : Ut} {intr : Bool} (hu : 0 ≤ u.pr) (h : PI s k q) : PI s (k + 1) (put q u intr).1 := ⟨put_inv hs h.inv, put_small h.small, put_pri hu h.pri⟩
theorem PI.accept (h : PI s k q) : PI s (k + 1) (accept q).1 := ⟨(accept_inv h.inv).more, accept_small h.small, accept_pri h.pri⟩
theorem PI.mark (h : PI s k q) (n : Int) : PI s (k + 1) (mark q n).1 := by
  obtain ⟨sp, wd, e, hsub⟩ := mark_shape q n
  rw [e]
  have hi := h.inv
  exact ⟨Inv.more (q := { q with spoken := sp, words := wd }) ⟨hi.size, hi.len, hi.lenk, Nat.le_trans hsub.length_le hi.sp, hi.c0, hi.ck⟩, ⟨h.small.1, fun x hx => h.small.2 x (hsub.subset hx)⟩, h.pri⟩
theorem PI.silence (h : PI s k q) : PI s (k + 1) { q with waits := [], spoken := [] } := by
  have hi := h.inv
  exact ⟨Inv.more (q := { q with waits := [], spoken := [] }) ⟨hi.size, Nat.zero_le _, Nat.zero_le _, Nat.zero_le _, hi.c0, hi.ck⟩, by simp [Small], by simp [Pri]⟩
end Go.Proofs.Ytinfgebdcjaabaa
