/- Law 16: the classifier, in plain Lean. -/
import Derived.Test.YtkldbppldomjhaaE4
import Derived.Test.YtkldbppldomjhaaF1
namespace Go.Classify
open Go.Typed Go.Front
structure Run where
  kind : Int
  frm : Int
  to_ : Int
  text : List Int
deriving DecidableEq
def zr : Run := ⟨0, 0, 0, []⟩
structure Cl where
  q : List One
  life : Int
  tnow : Int
  fr : St
  quiet : Int
  run : Run
  last : Int
  now : Int
def endr (c : Cl) : Cl × List Run := ({ c with run := zr }, if c.run.text = [] then [] else [c.run])
def tickc (c : Cl) (t : Int) : Cl × List Run :=
  if c.quiet ≤ tick c.now t - c.last then endr { c with now := tick c.now t } else ({ c with now := tick c.now t }, [])
def open_ (c : Cl) (e : Ev) (kind : Int) : Cl × List Run := if c.run.kind ≠ kind ∨ c.run.to_ ≠ e.index then endr c else (c, [])
def more (c : Cl) (e : Ev) (kind : Int) : Cl :=
  let r1 : Run := if c.run.text = [] then ⟨kind, e.index, 0, []⟩ else c.run
  { c with run := ⟨r1.kind, r1.frm, e.index + 1, r1.text ++ [e.r]⟩, last := c.now }
def full (c : Cl) : Cl × List Run := if 200 ≤ c.run.text.length then endr c else (c, [])
def putc (c : Cl) (e : Ev) (kind : Int) : Cl × List Run :=
  ((full (more (open_ c e kind).1 e kind)).1, (open_ c e kind).2 ++ (full (more (open_ c e kind).1 e kind)).2)
def Cl.ok (c : Cl) : Prop := 0 < c.life ∧ c.life ≤ 1000 ∧ 0 ≤ c.tnow ∧ c.tnow ≤ 1099511627776 ∧ 0 ≤ c.now ∧ c.now ≤ 1099511627776 ∧ 0 ≤ c.last ∧ c.last ≤ 1099511627776 ∧ 1 ≤ c.quiet ∧ c.quiet ≤ 1000 ∧ c.run.text.length ≤ 200
end Go.Classify
