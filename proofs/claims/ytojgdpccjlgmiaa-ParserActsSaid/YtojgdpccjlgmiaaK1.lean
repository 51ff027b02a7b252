/- Law 04: the parser, in plain Lean: what each rune does to its state, and the acts it makes. -/
import Derived.Lib.Hide
namespace Go.Parse
/-! ## The numbers -/
structure PL where
  l : List Int
  n : Nat
  full : Bool
def PL.ok (L : PL) : Prop := L.l.length = 32 ∧ L.n ≤ 32 ∧ ∀ x ∈ L.l, 0 ≤ x ∧ x ≤ 65535
def PL.new : PL := ⟨List.replicate 32 0, 0, false⟩
theorem PL.getD_bd {L : PL} (h : L.ok) (i : Nat) : 0 ≤ L.l.getD i 0 ∧ L.l.getD i 0 ≤ 65535 := by
  by_cases hi : i < L.l.length
  · rw [List.getD_eq_getElem?_getD, List.getElem?_eq_getElem hi]; exact h.2.2 _ (List.getElem_mem hi)
  · rw [List.getD_eq_getElem?_getD, List.getElem?_eq_none (by omega)]; simp
theorem PL.new_ok : PL.new.ok := ⟨rfl, by decide, by decide⟩
def digit (L : PL) (d : Int) : PL :=
  if d < 0 ∨ 9 < d ∨ L.full = true then L else
  { l := L.l.set (max L.n 1 - 1) (min (L.l.getD (max L.n 1 - 1) 0 * 10 + d) 65535), n := max L.n 1, full := L.full }
def next (L : PL) : PL := if L.n = 32 then { L with full := true } else { L with n := max L.n 1 + 1 }
def values (L : PL) : List Int := L.l.take L.n
theorem digit_ok {L : PL} (h : L.ok) (d : Int) : (digit L d).ok := by
  unfold digit
  split
  · exact h
  · rename_i hc
    refine ⟨by simp [h.1], by have := h.2.1; show max L.n 1 ≤ 32; omega, fun x hx => ?_⟩
    rcases List.mem_or_eq_of_mem_set hx with hx | rfl
    · exact h.2.2 x hx
    · have := PL.getD_bd h (max L.n 1 - 1); omega
theorem next_ok {L : PL} (h : L.ok) : (next L).ok := by
  unfold next
  obtain ⟨h1, h2, h3⟩ := h
  split
  · exact ⟨h1, h2, h3⟩
  · exact ⟨h1, by show max L.n 1 + 1 ≤ 32; omega, h3⟩
theorem values_len {L : PL} (h : L.ok) : (values L).length = L.n := by
  unfold values
  rw [List.length_take, h.1]
  have := h.2.1
  omega
/-! ## The parser -/
structure Ps where
  st : Nat
  pr : Int
  par : PL
  inter : List Int
  over : Bool
  text : List Int
structure Ac where
  kind : Int
  r : Int
  priv : Int
  params : List Int
  inter : List Int
  final : Int
  text : List Int
deriving DecidableEq
def Ps.new : Ps := ⟨0, 0, PL.new, [], false, []⟩
def enter (p : Ps) (s : Nat) : Ps :=
  if s = 1 ∨ s = 3 ∨ s = 7 then ⟨s, 0, PL.new, [], false, p.text⟩ else if s = 12 then { p with st := s, text := [] } else { p with st := s }
def collect (p : Ps) (r : Int) (s : Nat) : Ps :=
  if 2 ≤ p.inter.length then { p with over := true, st := s } else { p with inter := p.inter ++ [r], st := s }
def actOf (p : Ps) (kind final : Int) : List Ac :=
  if p.over = true then [] else [⟨kind, 0, if kind = 3 then 0 else p.pr, if kind = 3 then [] else values p.par, p.inter, final, []⟩]
def exec (r : Int) : List Ac := [⟨2, r, 0, [], [], 0, []⟩]
def prnt (r : Int) : List Ac := [⟨1, r, 0, [], [], 0, []⟩]
def leave (p : Ps) (s : Nat) : Ps × List Ac :=
  if p.st = 12 then (enter { p with text := [] } s, [⟨5, 0, 0, [], [], 0, p.text⟩]) else (enter p s, [])
def escape (p : Ps) (r : Int) : Ps × List Ac :=
  if r < 32 then (p, exec r) else if r < 48 then (collect p r 2, []) else
  if p.st = 1 ∧ r = 80 then (enter p 7, []) else if p.st = 1 ∧ (r = 88 ∨ r = 94 ∨ r = 95) then (enter p 13, []) else
  if p.st = 1 ∧ r = 91 then (enter p 3, []) else if p.st = 1 ∧ r = 93 then (enter p 12, []) else ({ p with st := 0 }, actOf p 3 r)
def sequence (p : Ps) (r kind : Int) (entry ignore behind : Nat) : Ps × List Ac :=
  if r < 48 then (collect p r (entry + 2), []) else if 64 ≤ r then ({ p with st := behind }, actOf p kind r) else
  if p.st = entry + 2 ∨ r = 58 ∨ (p.st = entry + 1 ∧ 59 < r) then ({ p with st := ignore }, []) else
  if 59 < r then ({ p with pr := r, st := entry + 1 }, []) else
  if r = 59 then ({ p with par := next p.par, st := entry + 1 }, []) else ({ p with par := digit p.par (r - 48), st := entry + 1 }, [])
def osc (p : Ps) (r : Int) : Ps × List Ac :=
  if r = 7 then leave p 0 else if 32 ≤ r ∧ p.text.length < 1024 then ({ p with text := p.text ++ [r] }, []) else (p, [])
def ignoring (p : Ps) (r : Int) : Ps × List Ac :=
  if r < 32 then (p, exec r) else if 64 ≤ r then ({ p with st := 0 }, []) else (p, [])
def step (p : Ps) (r : Int) : Ps × List Ac :=
  if p.st = 0 then (p, if r < 32 then exec r else prnt r) else
  if p.st = 1 ∨ p.st = 2 then escape p r else
  if p.st = 3 ∨ p.st = 4 ∨ p.st = 5 then (if r < 32 then (p, exec r) else sequence p r 4 3 6 0) else
  if p.st = 6 then ignoring p r else
  if p.st = 7 ∨ p.st = 8 ∨ p.st = 9 then (if r < 32 then (p, []) else sequence p r 6 7 11 10) else
  if p.st = 12 then osc p r else (p, [])
/-- Where a rune leads from every state. -/
def lead (r : Int) : Option Nat :=
  if r = 27 then some 1 else if r = 156 then some 0 else if r = 144 then some 7 else if r = 152 ∨ r = 158 ∨ r = 159 then some 13 else
  if r = 155 then some 3 else if r = 157 then some 12 else if r = 24 ∨ r = 26 ∨ (128 ≤ r ∧ r ≤ 159) then some 0 else none
def fix (r : Int) : Int := if r < 0 ∨ 1114111 < r then 65533 else r
def feed1 (p : Ps) (r : Int) : Ps × List Ac :=
  match lead r with
  | some s => ((leave p s).1, (leave p s).2 ++ (if s = 0 ∧ r ≠ 156 then exec r else []))
  | none => if r = 127 ∨ (160 ≤ r ∧ p.st ≠ 0 ∧ p.st ≠ 12) then (p, []) else step p r
def feed (p : Ps) (r : Int) : Ps × List Ac := feed1 p (fix r)

/-! ## What abides -/
structure Ps.ok (p : Ps) : Prop where
  st : p.st ≤ 13
  par : p.par.ok
  inter : p.inter.length ≤ 2
  text : p.text.length ≤ 1024
theorem Ps.new_ok : Ps.new.ok := ⟨by decide, PL.new_ok, by decide, by decide⟩
theorem enter_ok {p : Ps} (h : p.ok) {s : Nat} (hs : s ≤ 13) : (enter p s).ok := by
  unfold enter
  split
  · exact ⟨hs, PL.new_ok, Nat.zero_le _, h.text⟩
  · split
    · exact ⟨hs, h.par, h.inter, Nat.zero_le _⟩
    · exact ⟨hs, h.par, h.inter, h.text⟩
theorem collect_ok {p : Ps} (h : p.ok) (r : Int) {s : Nat} (hs : s ≤ 13) : (collect p r s).ok := by
  unfold collect
  split
  · exact ⟨hs, h.par, h.inter, h.text⟩
  · exact ⟨hs, h.par, by simp; omega, h.text⟩
theorem leave_ok {p : Ps} (h : p.ok) {s : Nat} (hs : s ≤ 13) : (leave p s).1.ok := by
  unfold leave
  split
  · exact enter_ok (p := { p with text := [] }) ⟨h.st, h.par, h.inter, Nat.zero_le _⟩ hs
  · exact enter_ok h hs
theorem to_ok {p : Ps} (h : p.ok) {s : Nat} (hs : s ≤ 13) : ({ p with st := s } : Ps).ok := ⟨hs, h.par, h.inter, h.text⟩
theorem escape_ok {p : Ps} (h : p.ok) (r : Int) : (escape p r).1.ok := by
  unfold escape
  repeat' split
  all_goals first | exact h | exact collect_ok (s := 2) h _ (by decide) | exact enter_ok (s := 7) h (by decide) | exact enter_ok (s := 13) h (by decide) | exact enter_ok (s := 3) h (by decide) | exact enter_ok (s := 12) h (by decide) | exact to_ok (s := 0) h (by decide)
theorem sequence_ok {p : Ps} (h : p.ok) (r kind : Int) {e i b : Nat} (he : e + 2 ≤ 13) (hi : i ≤ 13) (hb : b ≤ 13) : (sequence p r kind e i b).1.ok := by
  unfold sequence
  repeat' split
  · exact collect_ok h _ he
  · exact to_ok h hb
  · exact to_ok h hi
  · exact ⟨by show e + 1 ≤ 13; omega, h.par, h.inter, h.text⟩
  · exact ⟨by show e + 1 ≤ 13; omega, next_ok h.par, h.inter, h.text⟩
  · exact ⟨by show e + 1 ≤ 13; omega, digit_ok h.par _, h.inter, h.text⟩
theorem osc_ok {p : Ps} (h : p.ok) (r : Int) : (osc p r).1.ok := by
  unfold osc
  repeat' split
  · exact leave_ok h (by decide)
  · rename_i hc; exact ⟨h.st, h.par, h.inter, by simp; omega⟩
  · exact h
theorem step_ok {p : Ps} (h : p.ok) (r : Int) : (step p r).1.ok := by
  unfold step ignoring
  repeat' split
  all_goals first | exact h | exact escape_ok h _ | exact sequence_ok (e := 3) (i := 6) (b := 0) h _ _ (by decide) (by decide) (by decide) | exact sequence_ok (e := 7) (i := 11) (b := 10) h _ _ (by decide) (by decide) (by decide) | exact osc_ok h _ | exact to_ok (s := 0) h (by decide)
theorem lead_le {r : Int} {s : Nat} (h : lead r = some s) : s ≤ 13 := by
  unfold lead at h
  repeat' split at h
  all_goals first | (cases h; done) | (cases h; decide)
theorem feed_ok {p : Ps} (h : p.ok) (r : Int) : (feed p r).1.ok := by
  unfold feed feed1
  cases hl : lead (fix r) with
  | some s => exact leave_ok h (lead_le hl)
  | none =>
    simp only
    split
    · exact h
    · exact step_ok h _
def run (p : Ps) (l : List Int) : Ps := l.foldl (fun p r => (feed p r).1) p
theorem run_ok {l : List Int} : ∀ {p : Ps}, p.ok → (run p l).ok := by
  induction l with
  | nil => exact fun h => h
  | cons r l ih => exact fun h => ih (feed_ok h r)
def told (p : Ps) (l : List Int) : List Ac := match l with
  | [] => []
  | r :: l => (feed p r).2 ++ told (feed p r).1 l

/-! ## Can -/
/-- States in which what was collected counts. -/
def colls (s : Nat) : Bool := decide (1 ≤ s ∧ s ≤ 5 ∨ 7 ≤ s ∧ s ≤ 9)
structure Alike (p q : Ps) : Prop where
  st : p.st = q.st
  coll : colls p.st = true → p.pr = q.pr ∧ p.par = q.par ∧ p.inter = q.inter ∧ p.over = q.over
  text : p.st = 12 → p.text = q.text
theorem enter_alike {p q : Ps} {s : Nat} (h : colls s = true → (s = 1 ∨ s = 3 ∨ s = 7) ∨ (p.pr = q.pr ∧ p.par = q.par ∧ p.inter = q.inter ∧ p.over = q.over)) : Alike (enter p s) (enter q s) := by
  unfold enter
  by_cases h1 : s = 1 ∨ s = 3 ∨ s = 7
  · rw [if_pos h1, if_pos h1]
    exact ⟨rfl, fun _ => ⟨rfl, rfl, rfl, rfl⟩, fun e => by simp at e; omega⟩
  · rw [if_neg h1, if_neg h1]
    by_cases h2 : s = 12
    · rw [if_pos h2, if_pos h2]
      subst h2
      exact ⟨rfl, fun e => by simp [colls] at e, fun _ => rfl⟩
    · rw [if_neg h2, if_neg h2]
      exact ⟨rfl, fun e => (h e).resolve_left h1, fun e => (h2 e).elim⟩
theorem leave_alike {p q : Ps} {s : Nat} (h : Alike p q) (hs : colls s = true → s = 1 ∨ s = 3 ∨ s = 7) : Alike (leave p s).1 (leave q s).1 ∧ (leave p s).2 = (leave q s).2 := by
  unfold leave
  by_cases h1 : p.st = 12
  · rw [if_pos h1, if_pos (h.st ▸ h1)]
    exact ⟨enter_alike fun e => .inl (hs e), by rw [h.text h1]⟩
  · rw [if_neg h1, if_neg (h.st ▸ h1)]
    exact ⟨enter_alike fun e => .inl (hs e), rfl⟩
/-- Two that differ in their text alone, in no state that reads it. -/
theorem same {s : Nat} {pr : Int} {par : PL} {inter : List Int} {over : Bool} {t t' : List Int} (h : s ≠ 12) : Alike ⟨s, pr, par, inter, over, t⟩ ⟨s, pr, par, inter, over, t'⟩ :=
  ⟨rfl, fun _ => ⟨rfl, rfl, rfl, rfl⟩, fun e => (h e).elim⟩
theorem collect_alike {s s0 : Nat} {pr r : Int} {par : PL} {inter : List Int} {over : Bool} {t t' : List Int} (h : s ≠ 12) : Alike (collect ⟨s0, pr, par, inter, over, t⟩ r s) (collect ⟨s0, pr, par, inter, over, t'⟩ r s) := by
  unfold collect
  simp only
  split
  · exact same h
  · exact same h
theorem escape_alike {s : Nat} {pr r : Int} {par : PL} {inter : List Int} {over : Bool} {t t' : List Int} (h : s ≠ 12) :
    Alike (escape ⟨s, pr, par, inter, over, t⟩ r).1 (escape ⟨s, pr, par, inter, over, t'⟩ r).1 ∧ (escape ⟨s, pr, par, inter, over, t⟩ r).2 = (escape ⟨s, pr, par, inter, over, t'⟩ r).2 := by
  unfold escape
  simp only
  by_cases c1 : r < 32
  · rw [if_pos c1, if_pos c1]; exact ⟨same h, rfl⟩
  rw [if_neg c1, if_neg c1]
  by_cases c2 : r < 48
  · rw [if_pos c2, if_pos c2]; exact ⟨collect_alike (by decide), rfl⟩
  rw [if_neg c2, if_neg c2]
  by_cases c3 : s = 1 ∧ r = 80
  · rw [if_pos c3, if_pos c3]; exact ⟨enter_alike (s := 7) fun _ => .inl (by decide), rfl⟩
  rw [if_neg c3, if_neg c3]
  by_cases c4 : s = 1 ∧ (r = 88 ∨ r = 94 ∨ r = 95)
  · rw [if_pos c4, if_pos c4]; exact ⟨enter_alike (s := 13) fun e => by simp [colls] at e, rfl⟩
  rw [if_neg c4, if_neg c4]
  by_cases c5 : s = 1 ∧ r = 91
  · rw [if_pos c5, if_pos c5]; exact ⟨enter_alike (s := 3) fun _ => .inl (by decide), rfl⟩
  rw [if_neg c5, if_neg c5]
  by_cases c6 : s = 1 ∧ r = 93
  · rw [if_pos c6, if_pos c6]; exact ⟨enter_alike (s := 12) fun e => by simp [colls] at e, rfl⟩
  rw [if_neg c6, if_neg c6]
  exact ⟨same (by decide), rfl⟩
theorem sequence_alike {s e0 ig be : Nat} {pr r kind : Int} {par : PL} {inter : List Int} {over : Bool} {t t' : List Int} (h1 : e0 + 2 ≠ 12) (h2 : e0 + 1 ≠ 12) (h3 : ig ≠ 12) (h4 : be ≠ 12) :
    Alike (sequence ⟨s, pr, par, inter, over, t⟩ r kind e0 ig be).1 (sequence ⟨s, pr, par, inter, over, t'⟩ r kind e0 ig be).1 ∧ (sequence ⟨s, pr, par, inter, over, t⟩ r kind e0 ig be).2 = (sequence ⟨s, pr, par, inter, over, t'⟩ r kind e0 ig be).2 := by
  unfold sequence
  simp only
  by_cases c1 : r < 48
  · rw [if_pos c1, if_pos c1]; exact ⟨collect_alike h1, rfl⟩
  rw [if_neg c1, if_neg c1]
  by_cases c2 : 64 ≤ r
  · rw [if_pos c2, if_pos c2]; exact ⟨same h4, rfl⟩
  rw [if_neg c2, if_neg c2]
  by_cases c3 : s = e0 + 2 ∨ r = 58 ∨ s = e0 + 1 ∧ 59 < r
  · rw [if_pos c3, if_pos c3]; exact ⟨same h3, rfl⟩
  rw [if_neg c3, if_neg c3]
  by_cases c4 : 59 < r
  · rw [if_pos c4, if_pos c4]; exact ⟨same h2, rfl⟩
  rw [if_neg c4, if_neg c4]
  by_cases c5 : r = 59
  · rw [if_pos c5, if_pos c5]; exact ⟨same h2, rfl⟩
  rw [if_neg c5, if_neg c5]
  exact ⟨same h2, rfl⟩
theorem step_alike {p q : Ps} (h : Alike p q) (r : Int) : Alike (step p r).1 (step q r).1 ∧ (step p r).2 = (step q r).2 := by
  have hst := h.st
  obtain ⟨s, pr, par, inter, over, t⟩ := p
  obtain ⟨s', pr', par', inter', over', t'⟩ := q
  simp only at hst
  subst hst
  unfold step
  simp only
  by_cases c0 : s = 0
  · rw [if_pos c0, if_pos c0]; exact ⟨h, rfl⟩
  rw [if_neg c0, if_neg c0]
  by_cases c1 : s = 1 ∨ s = 2
  · rw [if_pos c1, if_pos c1]
    obtain ⟨e1, e2, e3, e4⟩ := h.coll (by rcases c1 with rfl | rfl <;> rfl)
    simp only at e1 e2 e3 e4
    subst e1 e2 e3 e4
    exact escape_alike (by omega)
  rw [if_neg c1, if_neg c1]
  by_cases c2 : s = 3 ∨ s = 4 ∨ s = 5
  · rw [if_pos c2, if_pos c2]
    by_cases c : r < 32
    · rw [if_pos c, if_pos c]; exact ⟨h, rfl⟩
    rw [if_neg c, if_neg c]
    obtain ⟨e1, e2, e3, e4⟩ := h.coll (by rcases c2 with rfl | rfl | rfl <;> rfl)
    simp only at e1 e2 e3 e4
    subst e1 e2 e3 e4
    exact sequence_alike (by decide) (by decide) (by decide) (by decide)
  rw [if_neg c2, if_neg c2]
  by_cases c3 : s = 6
  · rw [if_pos c3, if_pos c3]
    unfold ignoring
    by_cases c : r < 32
    · rw [if_pos c, if_pos c]; exact ⟨h, rfl⟩
    rw [if_neg c, if_neg c]
    by_cases c' : 64 ≤ r
    · rw [if_pos c', if_pos c']
      exact ⟨⟨rfl, fun e => by simp [colls] at e, fun e => by simp at e⟩, rfl⟩
    rw [if_neg c', if_neg c']; exact ⟨h, rfl⟩
  rw [if_neg c3, if_neg c3]
  by_cases c4 : s = 7 ∨ s = 8 ∨ s = 9
  · rw [if_pos c4, if_pos c4]
    by_cases c : r < 32
    · rw [if_pos c, if_pos c]; exact ⟨h, rfl⟩
    rw [if_neg c, if_neg c]
    obtain ⟨e1, e2, e3, e4⟩ := h.coll (by rcases c4 with rfl | rfl | rfl <;> rfl)
    simp only at e1 e2 e3 e4
    subst e1 e2 e3 e4
    exact sequence_alike (by decide) (by decide) (by decide) (by decide)
  rw [if_neg c4, if_neg c4]
  by_cases c5 : s = 12
  · rw [if_pos c5, if_pos c5]
    have ht := h.text c5
    unfold osc
    by_cases c : r = 7
    · rw [if_pos c, if_pos c]; exact leave_alike h fun e => by simp [colls] at e
    simp only at ht
    subst ht
    rw [if_neg c, if_neg c]
    split
    · exact ⟨⟨rfl, fun e => by rw [c5] at e; simp [colls] at e, fun _ => rfl⟩, rfl⟩
    · exact ⟨h, rfl⟩
  rw [if_neg c5, if_neg c5]
  exact ⟨h, rfl⟩
theorem lead_coll {r : Int} {s : Nat} (h : lead r = some s) : colls s = true → s = 1 ∨ s = 3 ∨ s = 7 := by
  unfold lead at h
  repeat' split at h
  all_goals first | (cases h; done) | (cases h; intro e; first | (simp [colls] at e; done) | decide)
theorem feed_alike {p q : Ps} (h : Alike p q) (r : Int) : Alike (feed p r).1 (feed q r).1 ∧ (feed p r).2 = (feed q r).2 := by
  unfold feed feed1
  cases hl : lead (fix r) with
  | some s =>
    have := leave_alike h (lead_coll hl)
    exact ⟨this.1, by simp only; rw [this.2]⟩
  | none =>
    simp only [h.st]
    split
    · exact ⟨h, rfl⟩
    · exact step_alike h _
theorem can (p : Ps) : (feed p 24).1.st = 0 ∧ Alike (feed p 24).1 Ps.new := by
  have e : (feed p 24).1 = (leave p 0).1 := rfl
  have e2 : (leave p 0).1.st = 0 := by
    unfold leave enter
    split <;> rfl
  rw [e]
  exact ⟨e2, ⟨e2, fun e => by rw [e2] at e; simp [colls] at e, fun e => by rw [e2] at e; cases e⟩⟩

/-! ## The acts -/
/-- An act has the fields of its kind alone, within bounds. -/
structure Ac.ok (x : Ac) : Prop where
  kind : 1 ≤ x.kind ∧ x.kind ≤ 6
  r : x.kind ≠ 1 → x.kind ≠ 2 → x.r = 0
  priv : x.kind ≠ 4 → x.kind ≠ 6 → x.priv = 0 ∧ x.params = []
  inter : x.kind ≠ 3 → x.kind ≠ 4 → x.kind ≠ 6 → x.inter = [] ∧ x.final = 0
  text : x.kind ≠ 5 → x.text = []
  many : x.params.length ≤ 32 ∧ x.inter.length ≤ 2 ∧ x.text.length ≤ 1024
  prnt : x.kind = 1 → 32 ≤ x.r ∧ (x.r < 127 ∨ 160 ≤ x.r)
theorem exec_ok (r : Int) : ∀ x ∈ exec r, x.ok := by
  intro x hx
  unfold exec at hx
  rw [List.mem_singleton.1 hx]
  exact ⟨⟨by simp only; omega, by simp only; omega⟩, fun _ h => (h rfl).elim, fun _ _ => ⟨rfl, rfl⟩, fun _ _ _ => ⟨rfl, rfl⟩, fun _ => rfl, by simp, by simp⟩
theorem prnt_ok {r : Int} (h : 32 ≤ r ∧ (r < 127 ∨ 160 ≤ r)) : ∀ x ∈ prnt r, x.ok := by
  intro x hx
  unfold prnt at hx
  rw [List.mem_singleton.1 hx]
  exact ⟨⟨by simp only; omega, by simp only; omega⟩, fun h => (h rfl).elim, fun _ _ => ⟨rfl, rfl⟩, fun _ _ _ => ⟨rfl, rfl⟩, fun _ => rfl, by simp, fun _ => h⟩
theorem actOf_ok {p : Ps} (h : p.ok) {kind : Int} (hk : kind = 3 ∨ kind = 4 ∨ kind = 6) (final : Int) : ∀ x ∈ actOf p kind final, x.ok := by
  intro x hx
  unfold actOf at hx
  split at hx
  · cases hx
  · rw [List.mem_singleton.1 hx]
    have hv := values_len h.par
    have hn := h.par.2.1
    refine ⟨by simp only; omega, fun _ _ => rfl, fun h4 h6 => ?_, fun h3 h4 h6 => ?_, fun _ => rfl, ?_, fun e => ?_⟩
    · simp only at h4 h6
      have : kind = 3 := by omega
      simp [this]
    · simp only at h3 h4 h6; omega
    · refine ⟨?_, h.inter, Nat.zero_le _⟩
      simp only
      split
      · exact Nat.zero_le _
      · omega
    · simp only at e; omega
theorem leave_acts {p : Ps} (h : p.ok) (s : Nat) : (∀ x ∈ (leave p s).2, x.ok) ∧ (leave p s).2.length ≤ 1 := by
  unfold leave
  split
  · refine ⟨fun x hx => ?_, Nat.le_refl _⟩
    rw [List.mem_singleton.1 hx]
    exact ⟨⟨by simp only; omega, by simp only; omega⟩, fun _ _ => rfl, fun _ _ => ⟨rfl, rfl⟩, fun _ _ _ => ⟨rfl, rfl⟩, fun h => (h rfl).elim, ⟨Nat.zero_le _, Nat.zero_le _, h.text⟩, fun e => by simp at e⟩
  · exact ⟨fun x hx => (List.not_mem_nil hx).elim, Nat.zero_le _⟩
theorem actOf_len (p : Ps) (k f : Int) : (actOf p k f).length ≤ 1 := by
  unfold actOf
  split
  · exact Nat.zero_le _
  · exact Nat.le_refl _
theorem step_acts {p : Ps} (h : p.ok) {r : Int} (hr : r < 127 ∨ 160 ≤ r) : (∀ x ∈ (step p r).2, x.ok) ∧ (step p r).2.length ≤ 1 := by
  have none : (∀ x ∈ ([] : List Ac), x.ok) ∧ ([] : List Ac).length ≤ 1 := ⟨fun x hx => (List.not_mem_nil hx).elim, Nat.zero_le _⟩
  have ex : (∀ x ∈ exec r, x.ok) ∧ (exec r).length ≤ 1 := ⟨exec_ok r, Nat.le_refl _⟩
  have ac : ∀ {kind : Int}, (kind = 3 ∨ kind = 4 ∨ kind = 6) → (∀ x ∈ actOf p kind r, x.ok) ∧ (actOf p kind r).length ≤ 1 := fun hk => ⟨actOf_ok h hk r, actOf_len p _ r⟩
  have sq : ∀ {kind : Int} (e i b : Nat), (kind = 3 ∨ kind = 4 ∨ kind = 6) → (∀ x ∈ (sequence p r kind e i b).2, x.ok) ∧ (sequence p r kind e i b).2.length ≤ 1 := by
    intro kind e i b hk
    unfold sequence
    repeat' split
    all_goals first | exact none | exact ac hk
  unfold step escape osc ignoring
  repeat' split
  all_goals first | exact none | exact ex | exact ⟨prnt_ok ⟨by omega, hr⟩, Nat.le_refl _⟩ | exact ac (by decide) | exact sq _ _ _ (by decide) | exact leave_acts h _
theorem feed_acts {p : Ps} (h : p.ok) (r : Int) : (∀ x ∈ (feed p r).2, x.ok) ∧ (feed p r).2.length ≤ 2 := by
  unfold feed feed1
  cases hl : lead (fix r) with
  | some s =>
    have := leave_acts h s
    refine ⟨fun x hx => ?_, ?_⟩
    · simp only at hx
      rcases List.mem_append.1 hx with hx | hx
      · exact this.1 x hx
      · split at hx
        · exact exec_ok _ x hx
        · exact (List.not_mem_nil hx).elim
    · simp only [List.length_append]
      have h2 : (if s = 0 ∧ fix r ≠ 156 then exec (fix r) else []).length ≤ 1 := by
        split
        · exact Nat.le_refl _
        · exact Nat.zero_le _
      omega
  | none =>
    simp only
    split
    · exact ⟨fun x hx => (List.not_mem_nil hx).elim, Nat.zero_le _⟩
    · rename_i hc
      have hr : fix r < 127 ∨ 160 ≤ fix r := by
        unfold lead at hl
        repeat' split at hl
        all_goals first | (cases hl; done) | omega
      have := step_acts h hr
      exact ⟨this.1, by omega⟩
/-- In ground each one from 160 on is printed. -/
theorem feed_ground {p : Ps} (h : p.st = 0) {r : Int} (h1 : 160 ≤ r) (h2 : r ≤ 1114111) : feed p r = (p, prnt r) := by
  have e : fix r = r := by unfold fix; rw [if_neg (by omega)]
  have el : lead r = none := by
    unfold lead
    rw [if_neg (by omega), if_neg (by omega), if_neg (by omega), if_neg (by omega), if_neg (by omega), if_neg (by omega), if_neg (by omega)]
  unfold feed feed1
  rw [e, el]
  simp only
  rw [if_neg (by omega)]
  unfold step
  rw [if_pos h, if_neg (by omega)]
end Go.Parse
