/-
  No cell of these rows narrows 'for every input' (looked for: loops, veiled, ifaces, maps, wideKeys, modest, calm, conditions, laid).
  DERIVED. THE GIVEN ROWS OF THIS SEAT. 4 by the template 'for every input the law returns true; each argument reads behind the call as it read before'; 0 by the template 'total and deterministic' (their statements: YtdbhgjkdblhhkaaTotals.lean).
  GIVEN WITH THE SEED: the statements are not yours to turn. If you find one false, say at which input.
  Laid BY PROGRAM, IN A SANDBOX (cutbox-rows.mjs): the forced cells as the released guide's own fill.sh prints them over the translation 35180f4cde2f51b1… (all of the seat's roots in one cut). By AI agents, Wed Nov 11 2026. No macro, syntax, notation, axiom, sorry.
-/
import Derived.Test.YtdbhgjkdblhhkaaChecked
import GoSem.Claim
import GoSem.ClaimJoined
import GoSem.ClaimMapViews
import Derived.JoinedTies
import Derived.KernelRfl
namespace Go.Proofs.Ytdbhgjkdblhhkaa
/- THE CELL 'sum', in the pinned program and in every row, IS THE sha256 OF THE DUMP (.gsa) THAT YtdbhgjkdblhhkaaProg.lean LOADS. Nothing in Lean hashes anything: it is a label: what it is worth is what the hold of that sum in a sandbox is worth. -/
noncomputable def Try.pinned : Pinned := { name := "ytdbhgjkdblhhkaa", sum := "35180f4cde2f51b1099b1ff5d8314fae0b25850b9f9506790944b67fdd95cb07", checked := Try.checked }
namespace Rows
def none {H : Type} : Left H := { results := [], args := [] }

/-- 'tactilelaw28.PanCovers': WHATEVER THE INPUT: true; the input reads as it did. -/
def panCoversSpec : ChangeSpec := { name := "panCovers", fn := fun _ => fun
  | [d1, d2] => { results := [.lit (.bool true)], args := [d1, d2] }
  | _ => none }
def panCoversRow : OpenClaim := { program := "ytdbhgjkdblhhkaa", sum := "35180f4cde2f51b1099b1ff5d8314fae0b25850b9f9506790944b67fdd95cb07", func := "tactile/tactilelaw28.PanCovers", spec := "panCovers", unfollowed := true, recurses := true, apart := false }
def PanCoversSaid : Prop := panCoversRow.holds Try.pinned (OpenSpec.ofChange panCoversSpec)

/-- ITS FALSE NEIGHBOUR: 'it returns false'. Refute it at one input. -/
def panCoversWrong : ChangeSpec := { name := "panCovers", fn := fun _ => fun
  | [d1, d2] => { results := [.lit (.bool false)], args := [d1, d2] }
  | _ => none }
def PanCoversWrongFalsely : Prop := panCoversRow.holds Try.pinned (OpenSpec.ofChange panCoversWrong)

/-- 'tactilelaw28.PanWalks': WHATEVER THE INPUT: true; the input reads as it did. -/
def panWalksSpec : ChangeSpec := { name := "panWalks", fn := fun _ => fun
  | [d1, d2] => { results := [.lit (.bool true)], args := [d1, d2] }
  | _ => none }
def panWalksRow : OpenClaim := { program := "ytdbhgjkdblhhkaa", sum := "35180f4cde2f51b1099b1ff5d8314fae0b25850b9f9506790944b67fdd95cb07", func := "tactile/tactilelaw28.PanWalks", spec := "panWalks", unfollowed := true, recurses := true, apart := false }
def PanWalksSaid : Prop := panWalksRow.holds Try.pinned (OpenSpec.ofChange panWalksSpec)

/-- ITS FALSE NEIGHBOUR: 'it returns false'. Refute it at one input. -/
def panWalksWrong : ChangeSpec := { name := "panWalks", fn := fun _ => fun
  | [d1, d2] => { results := [.lit (.bool false)], args := [d1, d2] }
  | _ => none }
def PanWalksWrongFalsely : Prop := panWalksRow.holds Try.pinned (OpenSpec.ofChange panWalksWrong)

/-- 'tactilelaw28.PanNone': WHATEVER THE INPUT: true; the input reads as it did. -/
def panNoneSpec : ChangeSpec := { name := "panNone", fn := fun _ => fun
  | [d1, d2] => { results := [.lit (.bool true)], args := [d1, d2] }
  | _ => none }
def panNoneRow : OpenClaim := { program := "ytdbhgjkdblhhkaa", sum := "35180f4cde2f51b1099b1ff5d8314fae0b25850b9f9506790944b67fdd95cb07", func := "tactile/tactilelaw28.PanNone", spec := "panNone", unfollowed := true, recurses := true, apart := false }
def PanNoneSaid : Prop := panNoneRow.holds Try.pinned (OpenSpec.ofChange panNoneSpec)

/-- ITS FALSE NEIGHBOUR: 'it returns false'. Refute it at one input. -/
def panNoneWrong : ChangeSpec := { name := "panNone", fn := fun _ => fun
  | [d1, d2] => { results := [.lit (.bool false)], args := [d1, d2] }
  | _ => none }
def PanNoneWrongFalsely : Prop := panNoneRow.holds Try.pinned (OpenSpec.ofChange panNoneWrong)

/-- 'tactilelaw28.PanPlays': WHATEVER THE INPUT: true; the input reads as it did. -/
def panPlaysSpec : ChangeSpec := { name := "panPlays", fn := fun _ => fun
  | [d1, d2, d3] => { results := [.lit (.bool true)], args := [d1, d2, d3] }
  | _ => none }
def panPlaysRow : OpenClaim := { program := "ytdbhgjkdblhhkaa", sum := "35180f4cde2f51b1099b1ff5d8314fae0b25850b9f9506790944b67fdd95cb07", func := "tactile/tactilelaw28.PanPlays", spec := "panPlays", unfollowed := true, recurses := true, apart := false }
def PanPlaysSaid : Prop := panPlaysRow.holds Try.pinned (OpenSpec.ofChange panPlaysSpec)

/-- ITS FALSE NEIGHBOUR: 'it returns false'. Refute it at one input. -/
def panPlaysWrong : ChangeSpec := { name := "panPlays", fn := fun _ => fun
  | [d1, d2, d3] => { results := [.lit (.bool false)], args := [d1, d2, d3] }
  | _ => none }
def PanPlaysWrongFalsely : Prop := panPlaysRow.holds Try.pinned (OpenSpec.ofChange panPlaysWrong)

/- THE SECOND FORM. 'bulk': how many values and letters a reading holds, each counted each time it is reached (what is shared counts as often as it is met; a slice's spare places count too). A statement '..UptoSaid' is the law's where the arguments, and the package variables that the reading takes, are together of bulk at most 1048576: NARROWER than '..Said'. Prove '..Said' where nothing that the law and all that it calls make is longer than what came in: it says more and counts as full. Else prove '..UptoSaid'. A law counts once. -/
mutual
def uptoBulk {H : Type} : DataW H → Nat
  | .lit (.string bytes) => bytes.length + 1
  | .lit _ => 1
  | .nil => 1
  | .ptr d => uptoBulk d + 1
  | .slice elems spare => uptoBulkAll elems + uptoBulkAll spare + 1
  | .agg parts => uptoBulkAll parts + 1
  | .iface _ d => uptoBulk d + 1
  | .map entries => uptoBulkEntries entries + 1
  | .held _ => 1
def uptoBulkAll {H : Type} : List (DataW H) → Nat
  | [] => 0
  | d :: r => uptoBulk d + uptoBulkAll r
def uptoBulkEntries {H : Type} : List (Lit × DataW H) → Nat
  | [] => 0
  | x :: r => uptoBulkEntry x + uptoBulkEntries r
def uptoBulkEntry {H : Type} : Lit × DataW H → Nat
  | (.string bytes, d) => bytes.length + uptoBulk d + 1
  | (_, d) => uptoBulk d + 1
 end
def uptoSmall : (H : Type) → List (DataW H) → Bool := fun _ ds => decide (uptoBulkAll ds ≤ 1048576)
def OpenSpec.upto (s : _root_.Go.ChangeSpec) : _root_.Go.OpenSpec := { _root_.Go.OpenSpec.ofChange s with cond := some uptoSmall }

/-- 'tactilelaw28.PanCovers', WHERE WHAT IT READS IS OF BULK AT MOST 1048576: true; the input reads as it did. -/
def panCoversUptoRow : OpenClaim := { program := "ytdbhgjkdblhhkaa", sum := "35180f4cde2f51b1099b1ff5d8314fae0b25850b9f9506790944b67fdd95cb07", func := "tactile/tactilelaw28.PanCovers", spec := "panCovers", unfollowed := true, recurses := true, apart := false, narrowed := true }
def PanCoversUptoSaid : Prop := panCoversUptoRow.holds Try.pinned (OpenSpec.upto panCoversSpec)

/-- 'tactilelaw28.PanWalks', WHERE WHAT IT READS IS OF BULK AT MOST 1048576: true; the input reads as it did. -/
def panWalksUptoRow : OpenClaim := { program := "ytdbhgjkdblhhkaa", sum := "35180f4cde2f51b1099b1ff5d8314fae0b25850b9f9506790944b67fdd95cb07", func := "tactile/tactilelaw28.PanWalks", spec := "panWalks", unfollowed := true, recurses := true, apart := false, narrowed := true }
def PanWalksUptoSaid : Prop := panWalksUptoRow.holds Try.pinned (OpenSpec.upto panWalksSpec)

/-- 'tactilelaw28.PanNone', WHERE WHAT IT READS IS OF BULK AT MOST 1048576: true; the input reads as it did. -/
def panNoneUptoRow : OpenClaim := { program := "ytdbhgjkdblhhkaa", sum := "35180f4cde2f51b1099b1ff5d8314fae0b25850b9f9506790944b67fdd95cb07", func := "tactile/tactilelaw28.PanNone", spec := "panNone", unfollowed := true, recurses := true, apart := false, narrowed := true }
def PanNoneUptoSaid : Prop := panNoneUptoRow.holds Try.pinned (OpenSpec.upto panNoneSpec)

/-- 'tactilelaw28.PanPlays', WHERE WHAT IT READS IS OF BULK AT MOST 1048576: true; the input reads as it did. -/
def panPlaysUptoRow : OpenClaim := { program := "ytdbhgjkdblhhkaa", sum := "35180f4cde2f51b1099b1ff5d8314fae0b25850b9f9506790944b67fdd95cb07", func := "tactile/tactilelaw28.PanPlays", spec := "panPlays", unfollowed := true, recurses := true, apart := false, narrowed := true }
def PanPlaysUptoSaid : Prop := panPlaysUptoRow.holds Try.pinned (OpenSpec.upto panPlaysSpec)

end Rows
end Go.Proofs.Ytdbhgjkdblhhkaa
