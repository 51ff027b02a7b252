/- Law 16: ClassifyWhole, in plain Lean: the runs told, and the open one, one behind the other. -/
import Derived.Test.YtkldbppldomjhaaR16
namespace Go.Proofs.Ytkldbppldomjhaa
open Go.Typed Go.Front Go.Classify
def rok (r : Run) : Prop := r.text ≠ [] ∧ r.to_ = r.frm + r.text.length ∧ r.text.length ≤ 200 ∧ 1 ≤ r.kind ∧ r.kind ≤ 3
def chain : Int → List Run → Int → Prop
  | a, [], b => a = b
  | a, r :: l, b => r.frm = a ∧ rok r ∧ chain r.to_ l b
def txs (l : List Run) : List Int := l.flatMap (·.text)
theorem chain_app : ∀ {l m : List Run} {a b : Int}, chain a (l ++ m) b ↔ ∃ c, chain a l c ∧ chain c m b
  | [], m, a, b => by simp [chain]
  | r :: l, m, a, b => by
    simp only [List.cons_append, chain, chain_app (l := l)]
    constructor
    · rintro ⟨h1, h2, c, h3, h4⟩; exact ⟨c, ⟨h1, h2, h3⟩, h4⟩
    · rintro ⟨c, ⟨h1, h2, h3⟩, h4⟩; exact ⟨h1, h2, c, h3, h4⟩
theorem txs_app (l m : List Run) : txs (l ++ m) = txs l ++ txs m := List.flatMap_append
theorem chain_len : ∀ {l : List Run} {a b : Int}, chain a l b → l.length ≤ (txs l).length ∧ b = a + (txs l).length
  | [], a, b, h => ⟨Nat.le_refl _, by simp [chain] at h; simp [txs, h]⟩
  | r :: l, a, b, h => by
    obtain ⟨h1, h2, h3⟩ := h
    obtain ⟨h4, h5⟩ := chain_len h3
    have e : (txs (r :: l)).length = r.text.length + (txs l).length := by simp [txs]
    have h6 : 0 < r.text.length := List.length_pos_iff.2 h2.1
    rw [e]
    have h7 := h2.2.1
    exact ⟨by rw [List.length_cons]; omega, by omega⟩
def opn (c : Cl) : List Run := if c.run.text = [] then [] else [c.run]
/-- The run that is open is as it must be. -/
structure Opn (c : Cl) : Prop where
  zr : c.run.text = [] → c.run = Go.Classify.zr
  ln : c.run.text.length ≤ 199
structure Whole (a : Int) (c : Cl) (out : List Run) (i : Int) (want : List Int) : Prop where
  ch : chain a (out ++ opn c) i
  tx : txs (out ++ opn c) = want
  op : Opn c
  f0 : 0 ≤ c.fr.last
  f1 : c.fr.last ≤ 3
  ok : c.ok
/-- The open run is told. -/
theorem endr_mv {c c' : Cl} {o : List Run} (h : endr c = (c', o)) : o ++ opn c' = opn c ∧ Opn c' ∧ c'.fr = c.fr ∧ (c.ok → c'.ok) := by
  unfold endr at h
  cases h
  refine ⟨?_, ⟨fun _ => rfl, by simp [Go.Classify.zr]⟩, rfl, fun ok => ?_⟩
  · by_cases h0 : c.run.text = [] <;> simp [opn, h0, Go.Classify.zr]
  · obtain ⟨k1, k2, k3, k4, k5, k6, k7, k8, k9, k10, k11⟩ := ok
    exact ⟨k1, k2, k3, k4, k5, k6, k7, k8, k9, k10, Nat.zero_le _⟩
theorem endr_empty {c : Cl} (h : c.run = Go.Classify.zr) : endr c = (c, []) := by
  obtain ⟨q, li, tn, fr, qu, run, la, nw⟩ := c
  simp only at h
  subst h
  rfl
theorem tick_mv {c c' : Cl} {o : List Run} {t : Int} (ho : Opn c) (h : tickc c t = (c', o)) : o ++ opn c' = opn c ∧ Opn c' ∧ c'.fr = c.fr := by
  unfold tickc at h
  split at h
  · obtain ⟨h1, h2, h3, _⟩ := endr_mv h
    exact ⟨by rw [h1]; rfl, h2, by rw [h3]⟩
  · cases h
    exact ⟨rfl, ⟨ho.zr, ho.ln⟩, rfl⟩
theorem more_new {c : Cl} {e : Ev} {k : Int} (h : c.run = Go.Classify.zr) : full (more c e k) = ({ c with run := ⟨k, e.index, e.index + 1, [e.r]⟩, last := c.now }, []) := by
  unfold more full
  simp [h, Go.Classify.zr]
theorem put_mv {c c' : Cl} {o : List Run} {e : Ev} {k a : Int} (ho : Opn c) (hc : chain a (opn c) e.index) (h1 : 1 ≤ k) (h3 : k ≤ 3) (h : putc c e k = (c', o)) :
    chain a (o ++ opn c') (e.index + 1) ∧ txs (o ++ opn c') = txs (opn c) ++ [e.r] ∧ Opn c' ∧ c'.fr = c.fr ∧ (c.ok → c'.ok) := by
  have okk : ∀ (r : Run), r.text.length ≤ 200 → c.ok → ({ c with run := r, last := c.now } : Cl).ok := fun r hr ok => by
    obtain ⟨k1, k2, k3, k4, k5, k6, k7, k8, k9, k10, k11⟩ := ok
    exact ⟨k1, k2, k3, k4, k5, k6, k5, k6, k9, k10, hr⟩
  by_cases h0 : c.run.text = []
  · have hz := ho.zr h0
    have hopn : opn c = [] := by simp [opn, h0]
    rw [hopn] at hc ⊢
    have ha : a = e.index := hc
    subst ha
    have e1 : open_ c e k = (c, []) := by
      unfold open_
      rw [endr_empty hz]
      split <;> rfl
    unfold putc at h
    rw [e1] at h
    simp only [more_new hz] at h
    cases h
    refine ⟨⟨rfl, ⟨by simp, by simp, by simp, h1, h3⟩, rfl⟩, by simp [opn, txs], ⟨by simp, by simp⟩, rfl, okk _ (by simp)⟩
  · have hopn : opn c = [c.run] := by simp [opn, h0]
    rw [hopn] at hc
    obtain ⟨ha, ⟨r1, r2, r3, r4, r5⟩, he⟩ := hc
    have he : c.run.to_ = e.index := he
    by_cases hk : c.run.kind = k
    · have e1 : open_ c e k = (c, []) := by
        unfold open_
        rw [if_neg (by rintro (h | h); exact h hk; exact h he)]
      unfold putc at h
      rw [e1] at h
      have e2 : more c e k = { c with run := ⟨c.run.kind, c.run.frm, e.index + 1, c.run.text ++ [e.r]⟩, last := c.now } := by
        unfold more
        rw [if_neg h0]
      have hl : (c.run.text ++ [e.r]).length = c.run.text.length + 1 := by simp
      have hln := ho.ln
      have hrk : rok ⟨c.run.kind, c.run.frm, e.index + 1, c.run.text ++ [e.r]⟩ := ⟨by simp, by simp only [hl]; omega, by simp only [hl]; omega, r4, r5⟩
      simp only [e2] at h
      unfold full at h
      simp only at h
      split at h
      · rw [show endr { c with run := ⟨c.run.kind, c.run.frm, e.index + 1, c.run.text ++ [e.r]⟩, last := c.now } = ({ c with run := Go.Classify.zr, last := c.now }, [⟨c.run.kind, c.run.frm, e.index + 1, c.run.text ++ [e.r]⟩]) from by simp [endr]] at h
        cases h
        refine ⟨?_, ?_, ⟨fun _ => rfl, by simp [Go.Classify.zr]⟩, rfl, okk _ (by simp [Go.Classify.zr])⟩
        · simp only [opn, Go.Classify.zr, List.nil_append, if_true, List.append_nil]
          exact ⟨ha, hrk, rfl⟩
        · simp [opn, Go.Classify.zr, txs, h0]
      · rename_i h200
        cases h
        refine ⟨?_, ?_, ⟨by simp, by simp at h200 ⊢; omega⟩, rfl, okk _ (by simp at h200 ⊢; omega)⟩
        · simp only [List.nil_append, opn, List.append_eq_nil_iff, List.cons_ne_nil, and_false, if_false]
          exact ⟨ha, hrk, rfl⟩
        · simp [opn, txs, h0]
    · have e1 : open_ c e k = endr c := by
        unfold open_
        rw [if_pos (.inl hk)]
      unfold putc at h
      rw [e1] at h
      have e2 : endr c = ({ c with run := Go.Classify.zr }, [c.run]) := by simp [endr, h0]
      rw [e2] at h
      simp only at h
      rw [more_new rfl] at h
      cases h
      refine ⟨⟨ha, ⟨r1, r2, r3, r4, r5⟩, ?_⟩, by simp [opn, txs, h0], ⟨by simp, by simp⟩, rfl, okk _ (by simp)⟩
      simp only [List.append_eq, List.nil_append, opn, List.cons_ne_nil, if_false]
      exact ⟨he.symm, ⟨by simp, by simp, by simp, h1, h3⟩, rfl⟩
theorem feed_last {s s' : St} {e : Ev} {b : Bool} {k : Int} (h0 : 0 ≤ s.last) (h3 : s.last ≤ 3) (h : feed s e b = (s', k)) : 0 ≤ s'.last ∧ s'.last ≤ 3 ∧ (e.kind = 1 ∨ e.kind = 2 → 1 ≤ k ∧ k ≤ 3) ∧ (¬ (e.kind = 1 ∨ e.kind = 2) → k = 0) := by
  unfold feed at h
  by_cases k1 : e.kind = 1
  · rw [if_pos k1] at h
    cases h
    simp only
    have : ∀ (c d : Bool), 1 ≤ (if c = true then 1 else if d = true then 2 else 3 : Int) ∧ (if c = true then 1 else if d = true then 2 else 3 : Int) ≤ 3 := by decide
    obtain ⟨g1, g2⟩ := this b (!s.off && e.blank)
    exact ⟨by omega, g2, fun _ => ⟨g1, g2⟩, fun h => absurd (.inl k1) h⟩
  rw [if_neg k1] at h
  by_cases k2 : e.kind = 2
  · rw [if_pos k2] at h
    split at h
    · rename_i hl
      cases h
      exact ⟨h0, h3, fun _ => ⟨by have := hl.2; omega, h3⟩, fun h => absurd (.inr k2) h⟩
    · cases h
      exact ⟨h0, h3, fun _ => ⟨by decide, by decide⟩, fun h => absurd (.inr k2) h⟩
  rw [if_neg k2] at h
  have hn : ¬ (e.kind = 1 ∨ e.kind = 2) := by omega
  split at h
  · cases h; exact ⟨h0, h3, fun g => absurd g hn, fun _ => rfl⟩
  split at h
  · cases h; exact ⟨h0, h3, fun g => absurd g hn, fun _ => rfl⟩
  split at h
  · cases h; exact ⟨by decide, by decide, fun g => absurd g hn, fun _ => rfl⟩
  · cases h; exact ⟨h0, h3, fun g => absurd g hn, fun _ => rfl⟩
theorem took_ok {c : Cl} {e : Ev} (ok : c.ok) : (took c e).ok := by
  obtain ⟨k1, k2, k3, k4, k5, k6, k7, k8, k9, k10, k11⟩ := ok
  refine ⟨k1, k2, ?_, ?_, k5, k6, k7, k8, k9, k10, k11⟩
  · unfold took
    simp only
    split
    · unfold tick; omega
    · exact k3
  · unfold took
    simp only
    split
    · unfold tick; omega
    · exact k4
def told (e : Ev) : Bool := decide (e.kind = 1 ∨ e.kind = 2)
theorem whole_start {c : Cl} {a : Int} (h : c.run = Go.Classify.zr) (hf : c.fr.last = 0) (ok : c.ok) : Whole a c [] a [] :=
  ⟨by simp [opn, h, Go.Classify.zr, chain], by simp [opn, h, Go.Classify.zr, txs], ⟨fun _ => h, by simp [h, Go.Classify.zr]⟩, by omega, by omega, ok⟩
theorem whole_step {a : Int} {c : Cl} {out : List Run} {i : Int} {want : List Int} {e : Ev} {t : Int} (tok : (tickc c t).1.ok) (h : Whole a c out i want) (he : e.index = i) :
    ∃ c' o, feedc c e t = (c', o) ∧ Whole a c' (out ++ o) (if told e then i + 1 else i) (if told e then want ++ [e.r] else want) := by
  obtain ⟨ch, tx, op, f0, f1, ok⟩ := h
  subst he
  refine ⟨_, _, rfl, ?_⟩
  obtain ⟨c1, o1, h1⟩ : ∃ c1 o1, tickc c t = (c1, o1) := ⟨_, _, rfl⟩
  have ok1 : c1.ok := by rw [h1] at tok; exact tok
  obtain ⟨m1, p1, g1⟩ := tick_mv op h1
  rw [h1]
  simp only
  obtain ⟨c2, o2, h2⟩ : ∃ c2 o2, feedb c1 e = (c2, o2) := ⟨_, _, rfl⟩
  rw [h2]
  simp only
  obtain ⟨s', k, hf⟩ : ∃ s' k, feed c1.fr e (tk c1 e).2 = (s', k) := ⟨_, _, rfl⟩
  obtain ⟨j1, j2, j3, j4⟩ := feed_last (by rw [g1]; exact f0) (by rw [g1]; exact f1) hf
  have ek : kindOf c1 e = k := by unfold kindOf; rw [hf]
  have ef : (took c1 e).fr = s' := by unfold took; rw [hf]
  have er : (took c1 e).run = c1.run := rfl
  have eo : opn (took c1 e) = opn c1 := by unfold opn; rw [er]
  have po : Opn (took c1 e) := ⟨p1.zr, p1.ln⟩
  rw [← m1, ← List.append_assoc] at ch tx
  obtain ⟨x, hx1, hx2⟩ := chain_app.1 ch
  have tok2 := took_ok (e := e) ok1
  unfold feedb at h2
  rw [ek] at h2
  by_cases hk : e.kind = 1 ∨ e.kind = 2
  · have ht : told e = true := decide_eq_true hk
    obtain ⟨q1, q2⟩ := j3 hk
    rw [if_pos (by omega)] at h2
    rw [← eo] at hx2
    obtain ⟨r1, r2, r3, r4, r5⟩ := put_mv po hx2 q1 q2 h2
    rw [ht, if_pos rfl, if_pos rfl]
    refine ⟨?_, ?_, r3, by rw [r4, ef]; exact j1, by rw [r4, ef]; exact j2, r5 tok2⟩
    · rw [List.append_assoc, List.append_assoc, ← List.append_assoc]
      exact chain_app.2 ⟨x, hx1, r1⟩
    · rw [List.append_assoc, List.append_assoc, ← List.append_assoc, txs_app, r2, ← tx, eo]
      simp only [txs_app, List.append_assoc]
  · have ht : told e = false := decide_eq_false hk
    rw [if_neg (by rw [j4 hk]; simp)] at h2
    rw [ht]
    have key : o2 ++ opn c2 = opn c1 ∧ Opn c2 ∧ c2.fr = s' ∧ c2.ok := by
      split at h2
      · obtain ⟨w1, w2, w3, w4⟩ := endr_mv h2
        exact ⟨by rw [w1, eo], w2, by rw [w3, ef], w4 tok2⟩
      · cases h2
        exact ⟨by rw [List.nil_append, eo], po, ef, tok2⟩
    obtain ⟨w1, w2, w3, w4⟩ := key
    refine ⟨?_, ?_, w2, by rw [w3]; exact j1, by rw [w3]; exact j2, w4⟩
    · rw [List.append_assoc, List.append_assoc, w1, ← List.append_assoc]
      exact ch
    · rw [List.append_assoc, List.append_assoc, w1, ← List.append_assoc]
      exact tx
end Go.Proofs.Ytkldbppldomjhaa
