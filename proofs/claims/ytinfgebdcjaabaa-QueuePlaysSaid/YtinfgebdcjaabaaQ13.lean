/- Law 18: Put, as the plain queue's. -/
import Derived.Test.YtinfgebdcjaabaaQ12b
namespace Go.Proofs.Ytinfgebdcjaabaa
open Go.RowKit Go.Mem Go.Queue
variable {W w : World} {H : List HProp}
def PutPost (W : World) (H : List HProp) (b : Nat) (r : Qu × Out × Int) (e : Ending) (w' : World) : Prop :=
  ∃ aF cF aD cD, e = .returned (.tuple #[.agg #[.int .i64 r.2.1.num, .slice aF r.2.1.flushed.length cF, .slice aD r.2.1.dropped.length cD], .int .i64 r.2.2]) ∧ sat W (utO aF cF r.2.1.flushed :: utO aD cD r.2.1.dropped :: qu b r.1 :: H) w'
theorem room_q (q : Qu) (p : Int) : (room q p).1 = ⟨q.size, (room q p).1.waits, q.spoken, q.words, q.last, q.count⟩ ∧ (room q p).1.waits.length ≤ q.waits.length := by
  unfold room
  split
  · exact ⟨rfl, Nat.le_refl _⟩
  · split
    · exact ⟨rfl, Nat.le_refl _⟩
    · exact ⟨rfl, List.length_eraseIdx_le _ _⟩
theorem max_if (a c : Int) : (if a < c then c else a) = max a c := by
  split <;> omega
variable {b : Nat} {q : Qu}
theorem room_hid {Q : Qu} {p : Int} {dr : List Ut} {ok : Bool} {wl2 : List Ut} (h0 : 0 < Q.size) (hq : Q.waits.length ≤ 1000) (hr : room Q p = (⟨Q.size, wl2, Q.spoken, Q.words, Q.last, Q.count⟩, dr, ok)) :
    Hid (∀ (W w : World) (H : List HProp), sat W (qu b Q :: H) w → Calls Try.prog 30 #[.pointer (some ⟨b, 0, none⟩), .int .u8 p] w fun e w' => ∃ a c, e = .returned (.tuple #[.slice a dr.length c, .bool ok]) ∧ sat W (utO a c dr :: qu b ⟨Q.size, wl2, Q.spoken, Q.words, Q.last, Q.count⟩ :: H) w') :=
  Lib.hid fun W w H hs => by
    have h := room30 (p := p) h0 hq hs
    rw [hr] at h
    exact h
theorem put10_go {u : Ut} {intr : Bool} (h0 : 0 < q.size) (hq : q.waits.length ≤ 1000) (h1 : q.spoken.length ≤ 1) (hc0 : 0 ≤ q.count) (hc1 : q.count ≤ 1000000) (hm : may u = true) (hp : ¬ (u.pr = 1 ∧ u.fr < q.last)) (hs : sat W (qu b q :: H) w) :
    Calls Try.prog 10 #[.pointer (some ⟨b, 0, none⟩), utV u, .bool intr] w (PutPost W H b (put q u intr)) := by
  have HL2 : Hid ((if q.last < u.to_ then u.to_ else q.last) = max q.last u.to_) := Lib.hid (max_if _ _)
  cases intr with
  | false =>
    obtain ⟨wl2, dr, ok, hr, hl⟩ : ∃ wl2 dr ok, room ⟨q.size, q.waits, q.spoken, q.words, max q.last u.to_, q.count⟩ u.pr = (⟨q.size, wl2, q.spoken, q.words, max q.last u.to_, q.count⟩, dr, ok) ∧ wl2.length ≤ q.waits.length :=
      ⟨_, _, _, Prod.ext (room_q _ _).1 rfl, (room_q ⟨q.size, q.waits, q.spoken, q.words, max q.last u.to_, q.count⟩ u.pr).2⟩
    have HRM := room_hid (b := b) (Q := ⟨q.size, q.waits, q.spoken, q.words, max q.last u.to_, q.count⟩) h0 hq hr
    have e : put q u false = if ok = true then (⟨q.size, wl2 ++ [{ u with num := q.count + 1 }], q.spoken, q.words, max q.last u.to_, q.count + 1⟩, ⟨q.count + 1, [], dr⟩, 0) else (⟨q.size, wl2, q.spoken, q.words, max q.last u.to_, q.count⟩, ⟨0, [], dr⟩, 0) := by
      unfold put
      rw [if_neg (by rw [hm]; simpa using hp)]
      simp only [Bool.false_eq_true, if_false, hr]
    rw [e]
    cases ok with
    | true =>
      by_cases hp1 : u.pr = 1
      · exact put10_p1n_ny HL2 h0 hm hp1 (fun h => hp ⟨hp1, h⟩) HRM (Nat.le_trans hl hq) hc0 hc1 hs
      · exact put10_p0_ny HL2 h0 hm hp1 HRM (Nat.le_trans hl hq) hc0 hc1 hs
    | false =>
      by_cases hp1 : u.pr = 1
      · exact put10_p1n_nx HL2 h0 hm hp1 (fun h => hp ⟨hp1, h⟩) HRM (Nat.le_trans hl hq) hc0 hc1 hs
      · exact put10_p0_nx HL2 h0 hm hp1 HRM (Nat.le_trans hl hq) hc0 hc1 hs
  | true =>
    have hwl : (q.waits.filter (fun x => !decide (x.pr < u.pr))).length ≤ 1000 := Nat.le_trans (List.length_filter_le _ _) hq
    obtain ⟨wl2, dr, ok, hr, hl⟩ : ∃ wl2 dr ok, room ⟨q.size, q.waits.filter (fun x => !decide (x.pr < u.pr)), q.spoken.filter (fun x => !decide (x.pr < u.pr)), q.words, max q.last u.to_, q.count⟩ u.pr = (⟨q.size, wl2, q.spoken.filter (fun x => !decide (x.pr < u.pr)), q.words, max q.last u.to_, q.count⟩, dr, ok) ∧ wl2.length ≤ (q.waits.filter (fun x => !decide (x.pr < u.pr))).length :=
      ⟨_, _, _, Prod.ext (room_q _ _).1 rfl, (room_q ⟨q.size, q.waits.filter (fun x => !decide (x.pr < u.pr)), q.spoken.filter (fun x => !decide (x.pr < u.pr)), q.words, max q.last u.to_, q.count⟩ u.pr).2⟩
    have HRM := room_hid (b := b) (Q := ⟨q.size, q.waits.filter (fun x => !decide (x.pr < u.pr)), q.spoken.filter (fun x => !decide (x.pr < u.pr)), q.words, max q.last u.to_, q.count⟩) h0 hwl hr
    have HPT : Hid (∀ (bu : Nat) (W w : World) (H : List HProp), sat W (cel bu 25 (utC u) :: qu b ⟨q.size, q.waits, q.spoken, q.words, max q.last u.to_, q.count⟩ :: H) w → Calls Try.prog 28 #[.pointer (some ⟨b, 0, none⟩), .func (.func 27) #[] #[.pointer (some ⟨bu, 0, none⟩)]] w fun e w' => ∃ a c, e = .returned (.slice a (q.waits.filter (fun x => decide (x.pr < u.pr))).length c) ∧ sat W (utO a c (q.waits.filter (fun x => decide (x.pr < u.pr))) :: cel bu 25 (utC u) :: qu b ⟨q.size, q.waits.filter (fun x => !decide (x.pr < u.pr)), q.spoken, q.words, max q.last u.to_, q.count⟩ :: H) w') :=
      Lib.hid fun bu W w H hs => part27 (q := ⟨q.size, q.waits, q.spoken, q.words, max q.last u.to_, q.count⟩) hq hs
    have HDL : Hid (∀ (bu : Nat) (W w : World) (H : List HProp) (a : Option Addr) (c : Nat), sat W (utO a c q.spoken :: cel bu 25 (utC u) :: H) w → Calls Try.prog 29 #[.slice a q.spoken.length c, .func (.func 27) #[] #[.pointer (some ⟨bu, 0, none⟩)]] w fun e w' => ∃ a' c', e = .returned (.slice a' (q.spoken.filter (fun x => !decide (x.pr < u.pr))).length c') ∧ sat W (utO a' c' (q.spoken.filter (fun x => !decide (x.pr < u.pr))) :: cel bu 25 (utC u) :: H) w') :=
      Lib.hid fun bu W w H a c hs => del29 h1 hs
    have e : put q u true = if ok = true then (⟨q.size, wl2 ++ [{ u with num := q.count + 1 }], q.spoken.filter (fun x => !decide (x.pr < u.pr)), q.words, max q.last u.to_, q.count + 1⟩, ⟨q.count + 1, q.waits.filter (fun x => decide (x.pr < u.pr)), dr⟩, 0) else (⟨q.size, wl2, q.spoken.filter (fun x => !decide (x.pr < u.pr)), q.words, max q.last u.to_, q.count⟩, ⟨0, q.waits.filter (fun x => decide (x.pr < u.pr)), dr⟩, 0) := by
      unfold put
      rw [if_neg (by rw [hm]; simpa using hp)]
      simp only [if_true, cut, hr]
    rw [e]
    cases ok with
    | true =>
      by_cases hp1 : u.pr = 1
      · exact put10_p1n_iy HL2 h0 hm hp1 (fun h => hp ⟨hp1, h⟩) HPT HDL HRM (Nat.le_trans hl hwl) hc0 hc1 hs
      · exact put10_p0_iy HL2 h0 hm hp1 HPT HDL HRM (Nat.le_trans hl hwl) hc0 hc1 hs
    | false =>
      by_cases hp1 : u.pr = 1
      · exact put10_p1n_ix HL2 h0 hm hp1 (fun h => hp ⟨hp1, h⟩) HPT HDL HRM (Nat.le_trans hl hwl) hc0 hc1 hs
      · exact put10_p0_ix HL2 h0 hm hp1 HPT HDL HRM (Nat.le_trans hl hwl) hc0 hc1 hs
theorem put10 {u : Ut} {intr : Bool} (h0 : 0 < q.size) (hq : q.waits.length ≤ 1000) (h1 : q.spoken.length ≤ 1) (hc0 : 0 ≤ q.count) (hc1 : q.count ≤ 1000000) (hs : sat W (qu b q :: H) w) :
    Calls Try.prog 10 #[.pointer (some ⟨b, 0, none⟩), utV u, .bool intr] w (PutPost W H b (put q u intr)) := by
  by_cases hm : may u = false
  · have e : put q u intr = (q, ⟨0, [], []⟩, 2) := by unfold put; rw [if_pos (.inl hm)]
    rw [e]
    exact (put10_ra h0 hm hs).mono fun e w' ⟨he, hs⟩ => ⟨none, 0, none, 0, he, utO_nil (utO_nil hs)⟩
  · have hm : may u = true := by simpa using hm
    by_cases hp : u.pr = 1 ∧ u.fr < q.last
    · have e : put q u intr = (q, ⟨0, [], []⟩, 2) := by unfold put; rw [if_pos (.inr hp)]
      rw [e]
      exact (put10_rb h0 hm hp.1 hp.2 hs).mono fun e w' ⟨he, hs⟩ => ⟨none, 0, none, 0, he, utO_nil (utO_nil hs)⟩
    · exact put10_go h0 hq h1 hc0 hc1 hm hp hs
end Go.Proofs.Ytinfgebdcjaabaa
