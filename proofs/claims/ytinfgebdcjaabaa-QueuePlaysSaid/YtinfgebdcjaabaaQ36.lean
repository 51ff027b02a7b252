/- Law 18: the document's Put, whole. -/
import Derived.Test.YtinfgebdcjaabaaQ30
import Derived.Test.YtinfgebdcjaabaaQ31
import Derived.Test.YtinfgebdcjaabaaQ32
import Derived.Test.YtinfgebdcjaabaaQ33
import Derived.Test.YtinfgebdcjaabaaQ34
import Derived.Test.YtinfgebdcjaabaaQ35
namespace Go.Proofs.Ytinfgebdcjaabaa
open Go.RowKit Go.Mem Go.Queue
variable {W w : World} {H : List HProp}
theorem put_eq {q : Qu} {u : Ut} {intr : Bool} (h : ¬ (may u = false ∨ (u.pr = 1 ∧ u.fr < q.last))) {q2 q3 : Qu} {fl dr : List Ut} {ok : Bool}
    (h2 : (if intr = true then cut { q with last := max q.last u.to_ } u.pr else { q with last := max q.last u.to_ }) = q2) (hf : (if intr = true then q.waits.filter (fun x => decide (x.pr < u.pr)) else []) = fl) (hr : room q2 u.pr = (q3, dr, ok)) :
    put q u intr = (if ok then ({ q3 with count := q3.count + 1, waits := q3.waits ++ [{ u with num := q3.count + 1 }] }, ⟨q3.count + 1, fl, dr⟩, 0) else (q3, ⟨0, fl, dr⟩, 0)) := by
  subst h2
  subst hf
  unfold put
  rw [if_neg h]
  simp only
  rw [hr]
attribute [local irreducible] World.setCell World.setCells World.alloc World.drew World.drewN Calls sat cel own blk old wpQuiet wpList qu uts gn World.rangeAt tru leastUpto bestUpto si Utf8.decode wc wst wordsOf may PutPost put accept mark but lastOf
variable {b : Nat} {q : Qu}
theorem relS_cut {y : Ut} {on : Bool} {wd p : Int} {q1 : Qu} (h : RelS q y on wd) (h1 : q1.spoken = q.spoken) (h2 : q1.words = q.words) : RelS (cut q1 p) y (on && !decide (y.pr < p)) wd := by
  unfold RelS at *
  unfold cut
  simp only [h1, h2]
  rcases h with ⟨h, rfl⟩ | ⟨h, rfl, rfl⟩
  · left; rw [h]; exact ⟨rfl, rfl⟩
  · rw [h]
    by_cases hp : y.pr < p
    · left; simp [hp]
    · right; simp [hp]
theorem relB_det {l l2 fl : List Ut} {p : Int} {intr : Bool} {y : Ut} {on on2 : Bool} (h : RelB l p intr y on l2 fl on2) : l2 = (if intr = true then l.filter (fun x => !decide (x.pr < p)) else l) := by
  rcases h with ⟨rfl, rfl, _⟩ | ⟨rfl, rfl, _⟩ <;> rfl
theorem p19_post {u : Ut} {intr : Bool} {y : Ut} {on : Bool} {wd : Int} {e : Ending} {w' : World} (hr : RelS q y on wd) (hno : ¬ (may u = false ∨ (u.pr = 1 ∧ u.fr < q.last))) (h : P19 W H b u intr q.size q.waits.length y on wd q.last q.count q.waits e w') : RPost W H b (put q u intr) e w' := by
  unfold P19 at h
  obtain ⟨l2, fl, on2, hB, hl, dr, l3, nm, ct3, a3, c3, ok, hrm, rfl, rfl, aF, cF, aD, cD, he, hs⟩ := h
  obtain ⟨q2, h2, hw, hz, hc, hS, hla⟩ : ∃ q2 : Qu, (if intr = true then cut { q with last := max q.last u.to_ } u.pr else { q with last := max q.last u.to_ }) = q2 ∧ q2.waits = l2 ∧ q2.size = q.size ∧ q2.count = q.count ∧ RelS q2 y on2 wd ∧ q2.last = max q.last u.to_ := by
    rcases hB with ⟨rfl, rfl, rfl, rfl⟩ | ⟨rfl, rfl, rfl, rfl⟩
    · exact ⟨_, rfl, rfl, rfl, rfl, hr, rfl⟩
    · exact ⟨_, rfl, rfl, rfl, rfl, relS_cut hr rfl rfl, rfl⟩
  have hf : (if intr = true then q.waits.filter (fun x => decide (x.pr < u.pr)) else []) = fl := by
    rcases hB with ⟨rfl, rfl, rfl, rfl⟩ | ⟨rfl, rfl, rfl, rfl⟩ <;> rfl
  rw [put_eq hno h2 hf (hrm q2 hw hz hc)]
  unfold RPost
  cases ok with
  | true =>
    simp only [if_true] at he hs ⊢
    rw [hc]
    refine ⟨aF, cF, aD, cD, he, ?_⟩
    have hcl : sat W (cel b 53 (rqL ⟨q2.size, l3 ++ [{ u with num := q.count + 1 }], q2.spoken, q2.words, q2.last, q.count + 1⟩ a3 c3 y on2 wd) :: utO a3 c3 (l3 ++ [{ u with num := q.count + 1 }]) :: utO aF cF fl :: utO aD cD dr :: H) w' := by
      rw [hz, hla]
      (refine sb_from ?_ hs; repeat constructor)
    have h3 := sat.rq_close (q := ⟨q2.size, l3 ++ [{ u with num := q.count + 1 }], q2.spoken, q2.words, q2.last, q.count + 1⟩) (y := y) (on := on2) (wd := wd) hS hcl
    (refine sb_from ?_ h3; repeat constructor)
  | false =>
    simp only [Bool.false_eq_true, if_false] at he hs ⊢
    refine ⟨aF, cF, aD, cD, he, ?_⟩
    have hcl : sat W (cel b 53 (rqL ⟨q2.size, l3, q2.spoken, q2.words, q2.last, q2.count⟩ a3 c3 y on2 wd) :: utO a3 c3 l3 :: utO aF cF fl :: utO aD cD dr :: H) w' := by
      rw [hz, hla, hc]
      (refine sb_from ?_ hs; repeat constructor)
    have h3 := sat.rq_close (q := ⟨q2.size, l3, q2.spoken, q2.words, q2.last, q2.count⟩) (y := y) (on := on2) (wd := wd) hS hcl
    (refine sb_from ?_ h3; repeat constructor)
theorem may_pr {u : Ut} (h : may u = true) : u.pr ≤ 2 := by
  unfold may at h
  simp only [Bool.and_eq_true, decide_eq_true_eq] at h
  obtain ⟨_, h⟩ := h
  split at h
  · omega
  · simp at h; exact h.1.1
theorem put19 {u : Ut} {intr : Bool} (hu0 : 0 ≤ u.pr) (h0 : 0 < q.size) (hz : q.waits.length ≤ q.size) (h100 : q.waits.length ≤ 1000) (hP : Pri q) (hc0 : 0 ≤ q.count) (hc1 : q.count ≤ 1000000) (hs : sat W (rq b q :: H) w) :
    Calls Try.prog 19 #[.pointer (some ⟨b, 0, none⟩), utV u, .bool intr] w (RPost W H b (put q u intr)) := by
  obtain ⟨aW, cW, y, on, wd, hr, hs⟩ := hs.rq_open
  have refused : put q u intr = (q, ⟨0, [], []⟩, 2) → (∀ e w', (∃ aF cF aD cD, e = Ending.returned (.tuple #[.agg #[.int .i64 0, .slice aF 0 cF, .slice aD 0 cD], .int .i64 2]) ∧ sat W (utO aF cF [] :: utO aD cD [] :: cel b 53 (rcl q.size aW q.waits.length cW y on wd q.last q.count) :: own 25 5 (.slice aW q.waits.length cW) q.waits.length (uts q.waits) :: H) w') → RPost W H b (put q u intr) e w') := by
    intro e e2 w' ⟨aF, cF, aD, cD, he, hs⟩
    rw [e]
    refine ⟨aF, cF, aD, cD, he, ?_⟩
    have h3 := sat.rq_close (q := q) (aW := aW) (cW := cW) hr hs.b3.b3
    (refine sb_from ?_ h3; repeat constructor)
  by_cases hm : may u = false
  · exact (put19_ra hu0 hm hs).mono (refused (by unfold put; rw [if_pos (.inl hm)]))
  · have hm1 : may u = true := by simpa using hm
    by_cases hp : u.pr = 1 ∧ u.fr < q.last
    · exact (put19_rb hu0 hm1 hp.1 hp.2 hs).mono (refused (by unfold put; rw [if_pos (.inr hp)]))
    · refine Calls.mono ?_ (fun e w' h => p19_post hr (by rintro (h | h); exact hm h; exact hp h) h)
      have hp2 := may_pr hm1
      obtain ⟨l2, hl2⟩ : ∃ l2, (if intr = true then q.waits.filter (fun x => !decide (x.pr < u.pr)) else q.waits) = l2 := ⟨_, rfl⟩
      have hd : ∀ l2' fl on2, RelB q.waits u.pr intr y on l2' fl on2 → l2' = l2 := fun l2' fl on2 h => (relB_det h).trans hl2
      have hlen : l2.length ≤ q.size := by
        rw [← hl2]
        split
        · exact Nat.le_trans (List.length_filter_le _ _) hz
        · exact hz
      by_cases hf : l2.length < q.size
      · have hcs : ∀ l2' fl on2, RelB q.waits u.pr intr y on l2' fl on2 → l2'.length < q.size := fun _ _ _ h => by rw [hd _ _ _ h]; exact hf
        cases intr with
        | false => exact put19_f_free hu0 hp2 hm1 h100 hz h0 hc0 hc1 hp rfl hP hcs hs
        | true => exact put19_t_free hu0 hp2 hm1 h100 hz h0 hc0 hc1 hp rfl hP hcs hs
      · by_cases hq : u.pr ≤ prio l2 (leastAt l2)
        · have hcs : ∀ l2' fl on2, RelB q.waits u.pr intr y on l2' fl on2 → l2'.length = q.size ∧ u.pr ≤ prio l2' (leastAt l2') := fun _ _ _ h => by rw [hd _ _ _ h]; exact ⟨by omega, hq⟩
          cases intr with
          | false => exact put19_f_no hu0 hp2 hm1 h100 hz h0 hc0 hc1 hp rfl hP hcs hs
          | true => exact put19_t_no hu0 hp2 hm1 h100 hz h0 hc0 hc1 hp rfl hP hcs hs
        · have hcs : ∀ l2' fl on2, RelB q.waits u.pr intr y on l2' fl on2 → l2'.length = q.size ∧ prio l2' (leastAt l2') < u.pr := fun _ _ _ h => by rw [hd _ _ _ h]; exact ⟨by omega, by omega⟩
          cases intr with
          | false => exact put19_f_drop hu0 hp2 hm1 h100 hz h0 hc0 hc1 hp rfl hP hcs hs
          | true => exact put19_t_drop hu0 hp2 hm1 h100 hz h0 hc0 hc1 hp rfl hP hcs hs
end Go.Proofs.Ytinfgebdcjaabaa
