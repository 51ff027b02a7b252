/-
  No cell of these rows narrows 'for every input' (looked for: loops, veiled, ifaces, maps, wideKeys, modest, calm, conditions, laid).
  DERIVED. THE GIVEN ROWS OF THIS SEAT. 3 by the template 'for every input the law returns true; each argument reads behind the call as it read before'; 0 by the template 'total and deterministic' (their statements: YtbaplncifomfnaaTotals.lean).
  GIVEN WITH THE SEED: the statements are not yours to turn. If you find one false, say at which input.
  Laid BY PROGRAM, IN A SANDBOX (cutbox-rows.mjs): the forced cells as the released guide's own fill.sh prints them over the translation 8e418f69afdec0c4… (all of the seat's roots in one cut). By AI agents, Wed Nov 11 2026. No macro, syntax, notation, axiom, sorry.
-/
import Derived.Test.YtbaplncifomfnaaChecked
import GoSem.Claim
import GoSem.ClaimJoined
import GoSem.ClaimMapViews
import Derived.JoinedTies
import Derived.KernelRfl
namespace Go.Proofs.Ytbaplncifomfnaa
/- THE CELL 'sum', in the pinned program and in every row, IS THE sha256 OF THE DUMP (.gsa) THAT YtbaplncifomfnaaProg.lean LOADS. Nothing in Lean hashes anything: it is a label: what it is worth is what the hold of that sum in a sandbox is worth. -/
noncomputable def Try.pinned : Pinned := { name := "ytbaplncifomfnaa", sum := "8e418f69afdec0c4f85a26bf27a632ab912f8377dbeccdc4419f08e6cb6db300", checked := Try.checked }
namespace Rows
def none {H : Type} : Left H := { results := [], args := [] }

/-- 'tactilelaw08.LinesLast': WHATEVER THE INPUT: true; the input reads as it did. -/
def linesLastSpec : ChangeSpec := { name := "linesLast", fn := fun _ => fun
  | [d1, d2] => { results := [.lit (.bool true)], args := [d1, d2] }
  | _ => none }
def linesLastRow : OpenClaim := { program := "ytbaplncifomfnaa", sum := "8e418f69afdec0c4f85a26bf27a632ab912f8377dbeccdc4419f08e6cb6db300", func := "tactile/tactilelaw08.LinesLast", spec := "linesLast", apart := false }
def LinesLastSaid : Prop := linesLastRow.holds Try.pinned (OpenSpec.ofChange linesLastSpec)

/-- ITS FALSE NEIGHBOUR: 'it returns false'. Refute it at one input. -/
def linesLastWrong : ChangeSpec := { name := "linesLast", fn := fun _ => fun
  | [d1, d2] => { results := [.lit (.bool false)], args := [d1, d2] }
  | _ => none }
def LinesLastWrongFalsely : Prop := linesLastRow.holds Try.pinned (OpenSpec.ofChange linesLastWrong)

/-- 'tactilelaw08.LinesNone': WHATEVER THE INPUT: true; the input reads as it did. -/
def linesNoneSpec : ChangeSpec := { name := "linesNone", fn := fun _ => fun
  | [d1, d2] => { results := [.lit (.bool true)], args := [d1, d2] }
  | _ => none }
def linesNoneRow : OpenClaim := { program := "ytbaplncifomfnaa", sum := "8e418f69afdec0c4f85a26bf27a632ab912f8377dbeccdc4419f08e6cb6db300", func := "tactile/tactilelaw08.LinesNone", spec := "linesNone", apart := false }
def LinesNoneSaid : Prop := linesNoneRow.holds Try.pinned (OpenSpec.ofChange linesNoneSpec)

/-- ITS FALSE NEIGHBOUR: 'it returns false'. Refute it at one input. -/
def linesNoneWrong : ChangeSpec := { name := "linesNone", fn := fun _ => fun
  | [d1, d2] => { results := [.lit (.bool false)], args := [d1, d2] }
  | _ => none }
def LinesNoneWrongFalsely : Prop := linesNoneRow.holds Try.pinned (OpenSpec.ofChange linesNoneWrong)

/-- 'tactilelaw08.LinesPlay': WHATEVER THE INPUT: true; the input reads as it did. -/
def linesPlaySpec : ChangeSpec := { name := "linesPlay", fn := fun _ => fun
  | [d1, d2] => { results := [.lit (.bool true)], args := [d1, d2] }
  | _ => none }
def linesPlayRow : OpenClaim := { program := "ytbaplncifomfnaa", sum := "8e418f69afdec0c4f85a26bf27a632ab912f8377dbeccdc4419f08e6cb6db300", func := "tactile/tactilelaw08.LinesPlay", spec := "linesPlay", apart := false }
def LinesPlaySaid : Prop := linesPlayRow.holds Try.pinned (OpenSpec.ofChange linesPlaySpec)

/-- ITS FALSE NEIGHBOUR: 'it returns false'. Refute it at one input. -/
def linesPlayWrong : ChangeSpec := { name := "linesPlay", fn := fun _ => fun
  | [d1, d2] => { results := [.lit (.bool false)], args := [d1, d2] }
  | _ => none }
def LinesPlayWrongFalsely : Prop := linesPlayRow.holds Try.pinned (OpenSpec.ofChange linesPlayWrong)

/- THE SECOND FORM. 'bulk': how many values and letters a reading holds, each counted each time it is reached (what is shared counts as often as it is met; a slice's spare places count too). A statement '..UptoSaid' is the law's where the arguments, and the package variables that the reading takes, are together of bulk at most 1048576: NARROWER than '..Said'. Prove '..Said' where nothing that the law and all that it calls make is longer than what came in: it says more and counts as full. Else prove '..UptoSaid'. A law counts once. -/
mutual
def uptoBulk {H : Type} : DataW H → Nat
  | .lit (.string bytes) => bytes.length + 1
  | .lit _ => 1
  | .nil => 1
  | .ptr d => uptoBulk d + 1
  | .slice elems spare => uptoBulkAll elems + uptoBulkAll spare + 1
  | .agg parts => uptoBulkAll parts + 1
  | .iface _ d => uptoBulk d + 1
  | .map entries => uptoBulkEntries entries + 1
  | .held _ => 1
def uptoBulkAll {H : Type} : List (DataW H) → Nat
  | [] => 0
  | d :: r => uptoBulk d + uptoBulkAll r
def uptoBulkEntries {H : Type} : List (Lit × DataW H) → Nat
  | [] => 0
  | x :: r => uptoBulkEntry x + uptoBulkEntries r
def uptoBulkEntry {H : Type} : Lit × DataW H → Nat
  | (.string bytes, d) => bytes.length + uptoBulk d + 1
  | (_, d) => uptoBulk d + 1
 end
def uptoSmall : (H : Type) → List (DataW H) → Bool := fun _ ds => decide (uptoBulkAll ds ≤ 1048576)
def OpenSpec.upto (s : _root_.Go.ChangeSpec) : _root_.Go.OpenSpec := { _root_.Go.OpenSpec.ofChange s with cond := some uptoSmall }

/-- 'tactilelaw08.LinesLast', WHERE WHAT IT READS IS OF BULK AT MOST 1048576: true; the input reads as it did. -/
def linesLastUptoRow : OpenClaim := { program := "ytbaplncifomfnaa", sum := "8e418f69afdec0c4f85a26bf27a632ab912f8377dbeccdc4419f08e6cb6db300", func := "tactile/tactilelaw08.LinesLast", spec := "linesLast", apart := false, narrowed := true }
def LinesLastUptoSaid : Prop := linesLastUptoRow.holds Try.pinned (OpenSpec.upto linesLastSpec)

/-- 'tactilelaw08.LinesNone', WHERE WHAT IT READS IS OF BULK AT MOST 1048576: true; the input reads as it did. -/
def linesNoneUptoRow : OpenClaim := { program := "ytbaplncifomfnaa", sum := "8e418f69afdec0c4f85a26bf27a632ab912f8377dbeccdc4419f08e6cb6db300", func := "tactile/tactilelaw08.LinesNone", spec := "linesNone", apart := false, narrowed := true }
def LinesNoneUptoSaid : Prop := linesNoneUptoRow.holds Try.pinned (OpenSpec.upto linesNoneSpec)

/-- 'tactilelaw08.LinesPlay', WHERE WHAT IT READS IS OF BULK AT MOST 1048576: true; the input reads as it did. -/
def linesPlayUptoRow : OpenClaim := { program := "ytbaplncifomfnaa", sum := "8e418f69afdec0c4f85a26bf27a632ab912f8377dbeccdc4419f08e6cb6db300", func := "tactile/tactilelaw08.LinesPlay", spec := "linesPlay", apart := false, narrowed := true }
def LinesPlayUptoSaid : Prop := linesPlayUptoRow.holds Try.pinned (OpenSpec.upto linesPlaySpec)

end Rows
end Go.Proofs.Ytbaplncifomfnaa
