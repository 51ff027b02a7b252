/- Law 18: contracts under what abides all calls. -/
import Derived.Test.YtinfgebdcjaabaaQ17
import Derived.Test.YtinfgebdcjaabaaQ18
import Derived.Test.YtinfgebdcjaabaaQ26
namespace Go.Proofs.Ytinfgebdcjaabaa
open Go.RowKit Go.Mem Go.Queue
variable {W w : World} {H : List HProp}
def Small (q : Qu) : Prop := (∀ u ∈ q.waits, u.text.size ≤ 4096) ∧ ∀ u ∈ q.spoken, u.text.size ≤ 4096
theorem room_sub (q : Qu) (p : Int) : (room q p).1.waits.Sublist q.waits := by
  unfold room
  split
  · exact List.Sublist.refl _
  · split
    · exact List.Sublist.refl _
    · exact List.eraseIdx_sublist ..
theorem put_small {q : Qu} {u : Ut} {intr : Bool} (h : Small q) : Small (put q u intr).1 := by
  unfold put
  split
  · exact h
  · rename_i hno
    have hm : may u = true := by
      cases hmu : may u with
      | true => rfl
      | false => exact (hno (.inl hmu)).elim
    have hu : u.text.size ≤ 4096 := by
      unfold may at hm
      simp only [Bool.and_eq_true, decide_eq_true_eq] at hm
      exact hm.1.2
    simp only
    have key : ∀ q2 : Qu, Small q2 → ∀ fl : List Ut, Small (if (room q2 u.pr).2.2 = true then ({ (room q2 u.pr).1 with count := (room q2 u.pr).1.count + 1, waits := (room q2 u.pr).1.waits ++ [{ u with num := (room q2 u.pr).1.count + 1 }] }, (⟨(room q2 u.pr).1.count + 1, fl, (room q2 u.pr).2.1⟩ : Out), (0 : Int)) else ((room q2 u.pr).1, ⟨0, fl, (room q2 u.pr).2.1⟩, 0)).1 := by
      intro q2 h2 fl
      have e6 : (room q2 u.pr).1.spoken = q2.spoken := by rw [(room_q q2 u.pr).1]
      have hw : ∀ x ∈ (room q2 u.pr).1.waits, x.text.size ≤ 4096 := fun x hx => h2.1 x ((room_sub q2 u.pr).subset hx)
      split
      · refine ⟨fun x hx => ?_, fun x hx => h2.2 x (by rw [← e6]; exact hx)⟩
        rcases List.mem_append.1 hx with hx | hx
        · exact hw x hx
        · rw [List.mem_singleton.1 hx]; exact hu
      · exact ⟨hw, fun x hx => h2.2 x (by rw [← e6]; exact hx)⟩
    cases intr with
    | false => exact key { q with last := max q.last u.to_ } h []
    | true => exact key (cut { q with last := max q.last u.to_ } u.pr) ⟨fun x hx => h.1 x (List.mem_filter.1 hx |>.1), fun x hx => h.2 x (List.mem_filter.1 hx |>.1)⟩ _
theorem accept_small {q : Qu} (h : Small q) : Small (accept q).1 := by
  unfold accept
  split
  · exact h
  · rename_i u hu
    exact ⟨fun x hx => h.1 x ((List.eraseIdx_sublist ..).subset hx), fun x hx => by
      rw [List.mem_singleton.1 hx]; exact h.1 u (List.mem_of_getElem? hu)⟩
theorem mark_shape (q : Qu) (n : Int) : ∃ sp wd, (mark q n).1 = { q with spoken := sp, words := wd } ∧ sp.Sublist q.spoken := by
  unfold mark
  split
  · exact ⟨q.spoken, q.words, rfl, List.Sublist.refl _⟩
  · rename_i y l hy
    split
    · exact ⟨q.spoken, q.words, rfl, List.Sublist.refl _⟩
    · split
      · exact ⟨q.spoken, q.words, rfl, List.Sublist.refl _⟩
      · split
        · exact ⟨[], n, rfl, List.nil_sublist _⟩
        · exact ⟨q.spoken, n, rfl, List.Sublist.refl _⟩
attribute [local irreducible] World.setCell World.setCells World.alloc World.drew World.drewN Calls sat cel own blk old wpQuiet wpList qu uts gn World.rangeAt tru leastUpto bestUpto si Utf8.decode wc wst wordsOf may PutPost put accept mark
variable {b : Nat} {q : Qu}
theorem put10_inv {s k : Nat} (h0 : 0 < s) (h64 : s ≤ 64) (hk : k ≤ 100000) (hi : Inv s k q) {u : Ut} {intr : Bool} (hs : sat W (qu b q :: H) w) :
    Calls Try.prog 10 #[.pointer (some ⟨b, 0, none⟩), utV u, .bool intr] w (PutPost W H b (put q u intr)) :=
  put10 (by rw [hi.size]; exact h0) (by have := hi.len; omega) hi.sp hi.c0 (by have := hi.ck; omega) hs
theorem put10_as {s k : Nat} (h0 : 0 < s) (h64 : s ≤ 64) (hk : k ≤ 100000) (hi : Inv s k q) {u : Ut} {intr : Bool} {q' : Qu} {nm : Int} {fl dr : List Ut} {er : Int} (e : put q u intr = (q', ⟨nm, fl, dr⟩, er)) (hs : sat W (qu b q :: H) w) :
    Calls Try.prog 10 #[.pointer (some ⟨b, 0, none⟩), utV u, .bool intr] w fun e w' => ∃ aF cF aD cD, e = .returned (.tuple #[.agg #[.int .i64 nm, .slice aF fl.length cF, .slice aD dr.length cD], .int .i64 er]) ∧ sat W (utO aF cF fl :: utO aD cD dr :: qu b q' :: H) w' := by
  have h := put10_inv h0 h64 hk hi (u := u) (intr := intr) hs
  rw [e] at h
  unfold PutPost at h
  exact h
theorem acc11_inv {s k : Nat} (h0 : 0 < s) (h64 : s ≤ 64) (hi : Inv s k q) (hs : sat W (qu b q :: H) w) : Calls Try.prog 11 #[.pointer (some ⟨b, 0, none⟩)] w fun e w' => e = .returned (.tuple #[utV ((accept q).2.getD ut0), .bool (accept q).2.isSome]) ∧ sat W (qu b (accept q).1 :: H) w' :=
  acc11 (by rw [hi.size]; exact h0) (by have := hi.len; omega) hs
theorem list12_inv {s k : Nat} (h0 : 0 < s) (h64 : s ≤ 64) (hi : Inv s k q) {n : Nat} {l : List Ut} (hl : q.waits = l) (hn : l.length = n) (hs : sat W (qu b q :: H) w) : Calls Try.prog 12 #[.pointer (some ⟨b, 0, none⟩)] w fun e w' => ∃ a c, e = .returned (.slice a n c) ∧ sat W (own 25 5 (.slice a n c) n (uts l) :: qu b q :: H) w' := by
  subst hn
  subst hl
  exact list12 (by rw [hi.size]; exact h0) (by have := hi.len; omega) hs
theorem sp13_as {s k : Nat} (h0 : 0 < s) (hi : Inv s k q) {y : Ut} {wd : Int} {on : Bool} (e : speak q = (y, wd, on)) (hs : sat W (qu b q :: H) w) : Calls Try.prog 13 #[.pointer (some ⟨b, 0, none⟩)] w fun e w' => e = .returned (.tuple #[utV y, .int .i64 wd, .bool on]) ∧ sat W (qu b q :: H) w' := by
  have h := sp13 (by rw [hi.size]; exact h0) hi.sp hs
  rw [e] at h
  exact h
theorem speak_as (q : Qu) {p : Int} (h : ∀ y ∈ q.spoken, ¬ y.pr < p) : ∃ y wd on, speak q = (y, wd, on) ∧ (on = true → ¬ y.pr < p) := by
  unfold speak
  split
  · exact ⟨_, _, _, rfl, fun e => by cases e⟩
  · rename_i y l hy; exact ⟨_, _, _, rfl, fun _ => h _ (by rw [hy]; simp)⟩
theorem wn_snoc {l : List Ut} {nm : Int} {u : Ut} {n : Nat} (h : l.length = n) : (uts (l ++ [{ u with num := nm }]))[n * 5 + 0]? = some (.int .i64 nm) ∧ (uts (l ++ [{ u with num := nm }]))[n * 5 + 1]? = some (.string u.text) := by
  have e : (l ++ [{ u with num := nm }])[n]? = some { u with num := nm } := by rw [← h]; simp
  exact ⟨(uts_get e (by decide)).trans rfl, (uts_get e (by decide)).trans rfl⟩
theorem put10_ex {s k : Nat} (h0 : 0 < s) (h64 : s ≤ 64) (hk : k ≤ 100000) (hi : Inv s k q) {u : Ut} {intr : Bool} (hs : sat W (qu b q :: H) w) :
    Calls Try.prog 10 #[.pointer (some ⟨b, 0, none⟩), utV u, .bool intr] w fun e w' => ∃ v, e = .returned (.tuple #[v, .int .i64 (put q u intr).2.2]) ∧ sat W (qu b (put q u intr).1 :: H) w' :=
  (put10_inv h0 h64 hk hi hs).mono fun e w' h => by
    unfold PutPost at h
    obtain ⟨aF, cF, aD, cD, he, hs⟩ := h
    exact ⟨_, he, hs.drop.drop⟩
section
variable {E : Type} {enc : TypeId × Value → E}
theorem rd_ops {a : Option Addr} {n c : Nat} (h : Rd enc Try.prog w 22 [.slice a n c]) : ∃ l : List Op, (∀ o ∈ l, wfOp o) ∧ ∀ (W : World) (H : List HProp), SR 8 W (old w :: H) a n c (l.map opC) := by
  obtain ⟨L, h1, h2, h3, h4, h5⟩ := rd_slice Try.underlying22 cells33 (by decide) h
  have key : ∀ L : List (List Value), (∀ cs ∈ L, Rd enc Try.prog w 33 cs) → ∃ l : List Op, L = l.map opC ∧ ∀ o ∈ l, wfOp o := by
    intro L
    induction L with
    | nil => exact fun _ => ⟨[], rfl, by simp⟩
    | cons cs L ih =>
      intro hL
      obtain ⟨l, e, hl⟩ := ih fun cs hc => hL cs (by simp [hc])
      obtain ⟨o, e2, ho⟩ := rd_op (hL cs (by simp))
      exact ⟨o :: l, by rw [e, e2]; rfl, fun x hx => by
        rcases List.mem_cons.1 hx with rfl | hx
        · exact ho
        · exact hl x hx⟩
  obtain ⟨l, e, hl⟩ := key L h4
  subst e
  exact ⟨l, hl, fun W H => h5.sr h1 h2 h3 W H⟩
end
theorem len16_as {s k : Nat} (h0 : 0 < s) (h64 : s ≤ 64) (hi : Inv s k q) {n : Nat} (hn : q.waits.length = n) (hs : sat W (qu b q :: H) w) : Calls Try.prog 16 #[.pointer (some ⟨b, 0, none⟩)] w fun e w' => e = .returned (.int .i64 (n : Int)) ∧ sat W (qu b q :: H) w' := by
  subst hn
  exact len16 (by rw [hi.size]; exact h0) (by have := hi.len; omega) hs
theorem sil17_as {s k : Nat} (h0 : 0 < s) (h64 : s ≤ 64) (hi : Inv s k q) {n : Nat} (hn : q.waits.length = n) (hs : sat W (qu b q :: H) w) : Calls Try.prog 17 #[.pointer (some ⟨b, 0, none⟩)] w fun e w' => ∃ a c, e = .returned (.slice a n c) ∧ sat W (own 25 5 (.slice a n c) n (uts q.waits) :: qu b { q with waits := [], spoken := [] } :: H) w' := by
  subst hn
  exact sil17 (by rw [hi.size]; exact h0) (by have := hi.len; omega) hs
end Go.Proofs.Ytinfgebdcjaabaa
