/- The frontier as plain functions: events, the state, what feeding does; the reference's look backwards. -/
import Derived.WalkKit
namespace Go.Front
structure Ev where
  kind : Int
  index : Int
  line : Int
  col : Int
  wide : Bool
  r : Int
  blank : Bool
  last : Bool
  fresh : Bool
  wrap : Bool
structure St where
  off : Bool
  last : Int
def new : St := ⟨false, 0⟩
def feed (s : St) (e : Ev) (echo : Bool) : St × Int :=
  if e.kind = 1 then
    let k : Int := if echo then 1 else if !s.off && e.blank then 2 else 3
    (⟨s.off || !e.blank, k⟩, k)
  else if e.kind = 2 then (if e.last = true ∧ s.last ≠ 0 then (s, s.last) else (⟨true, s.last⟩, 3))
  else if e.kind = 3 then (⟨s.off && !e.fresh, s.last⟩, 0)
  else if e.kind = 4 then (⟨true, s.last⟩, 0)
  else if e.kind = 5 then (new, 0)
  else (s, 0)
structure Step where
  e : Ev
  echo : Bool
  kind : Int
/-- The kind of the last print since the last reset; the list: the last one at first. -/
def lastR : List Step → Int
  | [] => 0
  | s :: r => if s.e.kind = 5 then 0 else if s.e.kind = 1 then s.kind else lastR r
def onR : List Step → Bool
  | [] => true
  | s :: r =>
    if s.e.kind = 5 then true else if s.e.kind = 4 then false
    else if s.e.kind = 3 then (if s.e.fresh then true else onR r)
    else if s.e.kind = 1 then (if s.e.blank = false then false else if s.kind = 2 then true else if s.kind = 3 then false else onR r)
    else if s.e.kind = 2 then (if s.e.last = false ∨ lastR r = 0 then false else onR r)
    else onR r
def kindR (l : List Step) (e : Ev) (echo : Bool) : Int :=
  if e.kind = 1 then (if echo then 1 else if e.blank && onR l then 2 else 3)
  else if e.kind = 2 then (if e.last = true ∧ lastR l ≠ 0 then lastR l else 3)
  else 0
/-- What the reference's steps (the last one at first) and the state have in common. -/
def Tied (s : St) (l : List Step) : Prop := onR l = !s.off ∧ lastR l = s.last ∧ 0 ≤ s.last ∧ s.last ≤ 3
theorem tied_new : Tied new [] := ⟨rfl, rfl, by decide, by decide⟩
theorem tied_step {s : St} {l : List Step} (h : Tied s l) (e : Ev) (echo : Bool) : (feed s e echo).2 = kindR l e echo ∧ Tied (feed s e echo).1 (⟨e, echo, kindR l e echo⟩ :: l) := by
  obtain ⟨h1, h2, h3, h4⟩ := h
  obtain ⟨off, last⟩ := s
  simp only at *
  subst h2
  unfold feed kindR Tied new
  by_cases k1 : e.kind = 1
  · simp only [k1, if_true, onR, lastR, h1]
    cases echo <;> cases off <;> cases hb : e.blank <;> simp
  by_cases k2 : e.kind = 2
  · simp only [k2, if_true, onR, lastR, h1]
    by_cases hl : e.last = true ∧ lastR l ≠ 0
    · simp [hl, h3, h4, h1]
    · cases hb : e.last with
      | false => simp [h3, h4]
      | true =>
        have : lastR l = 0 := by rw [hb] at hl; simpa using hl
        simp [this]
  by_cases k3 : e.kind = 3
  · cases hf : e.fresh <;> simp [k3, onR, lastR, h1, hf, h3, h4]
  by_cases k4 : e.kind = 4
  · simp [k4, onR, lastR, h3, h4]
  by_cases k5 : e.kind = 5
  · simp [k5, onR, lastR]
  · simp [k1, k2, k3, k4, k5, onR, lastR, h1, h3, h4]
end Go.Front
