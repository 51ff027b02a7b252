/- Law 18: a queue of utterances, as plain lists. -/
import Derived.Outline
namespace Go.Queue
structure Ut where
  num : Int
  text : ByteArray
  fr : Int
  to_ : Int
  pr : Int
structure Qu where
  size : Nat
  waits : List Ut
  spoken : List Ut
  words : Int
  last : Int
  count : Int
structure Out where
  num : Int
  flushed : List Ut
  dropped : List Ut
/-- May an utterance be? -/
def may (u : Ut) : Bool := decide (u.num = 0) && decide (1 ≤ u.text.size) && decide (u.text.size ≤ 4096) && (if u.pr = 1 then decide (u.fr < u.to_) else decide (u.pr ≤ 2) && decide (u.fr = 0) && decide (u.to_ = 0))
def prio (l : List Ut) (i : Nat) : Int := match l[i]? with | some u => u.pr | none => 0
/-- Of the smallest priority the last one. -/
def leastUpto (l : List Ut) : Nat → Nat
  | 0 => 0
  | k + 1 => if prio l k ≤ prio l (leastUpto l k) then k else leastUpto l k
def leastAt (l : List Ut) : Nat := leastUpto l l.length
/-- Of the greatest priority the first one. -/
def bestUpto (l : List Ut) : Nat → Nat
  | 0 => 0
  | k + 1 => if prio l (bestUpto l k) < prio l k then k else bestUpto l k
def bestAt (l : List Ut) : Nat := bestUpto l l.length
theorem least_le (l : List Ut) : ∀ k, leastUpto l k ≤ k - 1
  | 0 => Nat.le_refl _
  | k + 1 => by
    have := least_le l k
    unfold leastUpto
    split <;> omega
theorem best_le (l : List Ut) : ∀ k, bestUpto l k ≤ k - 1
  | 0 => Nat.le_refl _
  | k + 1 => by
    have := best_le l k
    unfold bestUpto
    split <;> omega
def room (q : Qu) (p : Int) : Qu × List Ut × Bool :=
  if q.waits.length < q.size then (q, [], true)
  else if p ≤ prio q.waits (leastAt q.waits) then (q, [], false)
  else ({ q with waits := q.waits.eraseIdx (leastAt q.waits) }, (q.waits[leastAt q.waits]?).toList, true)
def cut (q : Qu) (p : Int) : Qu := { q with waits := q.waits.filter (fun x => !decide (x.pr < p)), spoken := q.spoken.filter (fun x => !decide (x.pr < p)) }
def put (q : Qu) (u : Ut) (intr : Bool) : Qu × Out × Int :=
  if may u = false ∨ (u.pr = 1 ∧ u.fr < q.last) then (q, ⟨0, [], []⟩, 2)
  else
    let q1 : Qu := { q with last := max q.last u.to_ }
    let fl := if intr then q1.waits.filter (fun x => decide (x.pr < u.pr)) else []
    let q2 := if intr then cut q1 u.pr else q1
    let r := room q2 u.pr
    if r.2.2 then ({ r.1 with count := r.1.count + 1, waits := r.1.waits ++ [{ u with num := r.1.count + 1 }] }, ⟨r.1.count + 1, fl, r.2.1⟩, 0)
    else (r.1, ⟨0, fl, r.2.1⟩, 0)
def accept (q : Qu) : Qu × Option Ut :=
  match q.waits[bestAt q.waits]? with
  | none => (q, none)
  | some u => ({ q with waits := q.waits.eraseIdx (bestAt q.waits), spoken := [u], words := 0 }, some u)
end Go.Queue
