/-
  No cell of these rows narrows 'for every input' (looked for: loops, veiled, ifaces, maps, wideKeys, modest, calm, conditions, laid).
  DERIVED. THE GIVEN ROWS OF THIS SEAT. 6 by the template 'for every input the law returns true; each argument reads behind the call as it read before'; 0 by the template 'total and deterministic' (their statements: YtaajgkccannjlaaTotals.lean).
  GIVEN WITH THE SEED: the statements are not yours to turn. If you find one false, say at which input.
  Laid BY PROGRAM, IN A SANDBOX (cutbox-rows.mjs): the forced cells as the released guide's own fill.sh prints them over the translation 48499cc25cc324cb… (all of the seat's roots in one cut). By AI agents, Wed Nov 11 2026. No macro, syntax, notation, axiom, sorry.
-/
import Derived.Test.YtaajgkccannjlaaChecked
import GoSem.Claim
import GoSem.ClaimJoined
import GoSem.ClaimMapViews
import Derived.JoinedTies
import Derived.KernelRfl
namespace Go.Proofs.Ytaajgkccannjlaa
/- THE CELL 'sum', in the pinned program and in every row, IS THE sha256 OF THE DUMP (.gsa) THAT YtaajgkccannjlaaProg.lean LOADS. Nothing in Lean hashes anything: it is a label: what it is worth is what the hold of that sum in a sandbox is worth. -/
noncomputable def Try.pinned : Pinned := { name := "ytaajgkccannjlaa", sum := "48499cc25cc324cb22d9319555620b733e258118acc36ca01a2a41a07719e1ec", checked := Try.checked }
namespace Rows
def none {H : Type} : Left H := { results := [], args := [] }

/-- 'tactilelaw02.UtfDecodes': WHATEVER THE INPUT: true; the input reads as it did. -/
def utfDecodesSpec : ChangeSpec := { name := "utfDecodes", fn := fun _ => fun
  | [d] => { results := [.lit (.bool true)], args := [d] }
  | _ => none }
def utfDecodesRow : OpenClaim := { program := "ytaajgkccannjlaa", sum := "48499cc25cc324cb22d9319555620b733e258118acc36ca01a2a41a07719e1ec", func := "tactile/tactilelaw02.UtfDecodes", spec := "utfDecodes", apart := false }
def UtfDecodesSaid : Prop := utfDecodesRow.holds Try.pinned (OpenSpec.ofChange utfDecodesSpec)

/-- ITS FALSE NEIGHBOUR: 'it returns false'. Refute it at one input. -/
def utfDecodesWrong : ChangeSpec := { name := "utfDecodes", fn := fun _ => fun
  | [d] => { results := [.lit (.bool false)], args := [d] }
  | _ => none }
def UtfDecodesWrongFalsely : Prop := utfDecodesRow.holds Try.pinned (OpenSpec.ofChange utfDecodesWrong)

/-- 'tactilelaw02.UtfEncodes': WHATEVER THE INPUT: true; the input reads as it did. -/
def utfEncodesSpec : ChangeSpec := { name := "utfEncodes", fn := fun _ => fun
  | [d] => { results := [.lit (.bool true)], args := [d] }
  | _ => none }
def utfEncodesRow : OpenClaim := { program := "ytaajgkccannjlaa", sum := "48499cc25cc324cb22d9319555620b733e258118acc36ca01a2a41a07719e1ec", func := "tactile/tactilelaw02.UtfEncodes", spec := "utfEncodes", apart := false }
def UtfEncodesSaid : Prop := utfEncodesRow.holds Try.pinned (OpenSpec.ofChange utfEncodesSpec)

/-- ITS FALSE NEIGHBOUR: 'it returns false'. Refute it at one input. -/
def utfEncodesWrong : ChangeSpec := { name := "utfEncodes", fn := fun _ => fun
  | [d] => { results := [.lit (.bool false)], args := [d] }
  | _ => none }
def UtfEncodesWrongFalsely : Prop := utfEncodesRow.holds Try.pinned (OpenSpec.ofChange utfEncodesWrong)

/-- 'tactilelaw02.UtfBack': WHATEVER THE INPUT: true; the input reads as it did. -/
def utfBackSpec : ChangeSpec := { name := "utfBack", fn := fun _ => fun
  | [d1, d2] => { results := [.lit (.bool true)], args := [d1, d2] }
  | _ => none }
def utfBackRow : OpenClaim := { program := "ytaajgkccannjlaa", sum := "48499cc25cc324cb22d9319555620b733e258118acc36ca01a2a41a07719e1ec", func := "tactile/tactilelaw02.UtfBack", spec := "utfBack", apart := false }
def UtfBackSaid : Prop := utfBackRow.holds Try.pinned (OpenSpec.ofChange utfBackSpec)

/-- ITS FALSE NEIGHBOUR: 'it returns false'. Refute it at one input. -/
def utfBackWrong : ChangeSpec := { name := "utfBack", fn := fun _ => fun
  | [d1, d2] => { results := [.lit (.bool false)], args := [d1, d2] }
  | _ => none }
def UtfBackWrongFalsely : Prop := utfBackRow.holds Try.pinned (OpenSpec.ofChange utfBackWrong)

/-- 'tactilelaw02.UtfAnew': WHATEVER THE INPUT: true; the input reads as it did. -/
def utfAnewSpec : ChangeSpec := { name := "utfAnew", fn := fun _ => fun
  | [d1, d2, d3] => { results := [.lit (.bool true)], args := [d1, d2, d3] }
  | _ => none }
def utfAnewRow : OpenClaim := { program := "ytaajgkccannjlaa", sum := "48499cc25cc324cb22d9319555620b733e258118acc36ca01a2a41a07719e1ec", func := "tactile/tactilelaw02.UtfAnew", spec := "utfAnew", apart := false }
def UtfAnewSaid : Prop := utfAnewRow.holds Try.pinned (OpenSpec.ofChange utfAnewSpec)

/-- ITS FALSE NEIGHBOUR: 'it returns false'. Refute it at one input. -/
def utfAnewWrong : ChangeSpec := { name := "utfAnew", fn := fun _ => fun
  | [d1, d2, d3] => { results := [.lit (.bool false)], args := [d1, d2, d3] }
  | _ => none }
def UtfAnewWrongFalsely : Prop := utfAnewRow.holds Try.pinned (OpenSpec.ofChange utfAnewWrong)

/-- 'tactilelaw02.UtfSplits': WHATEVER THE INPUT: true; the input reads as it did. -/
def utfSplitsSpec : ChangeSpec := { name := "utfSplits", fn := fun _ => fun
  | [d1, d2] => { results := [.lit (.bool true)], args := [d1, d2] }
  | _ => none }
def utfSplitsRow : OpenClaim := { program := "ytaajgkccannjlaa", sum := "48499cc25cc324cb22d9319555620b733e258118acc36ca01a2a41a07719e1ec", func := "tactile/tactilelaw02.UtfSplits", spec := "utfSplits", apart := false }
def UtfSplitsSaid : Prop := utfSplitsRow.holds Try.pinned (OpenSpec.ofChange utfSplitsSpec)

/-- ITS FALSE NEIGHBOUR: 'it returns false'. Refute it at one input. -/
def utfSplitsWrong : ChangeSpec := { name := "utfSplits", fn := fun _ => fun
  | [d1, d2] => { results := [.lit (.bool false)], args := [d1, d2] }
  | _ => none }
def UtfSplitsWrongFalsely : Prop := utfSplitsRow.holds Try.pinned (OpenSpec.ofChange utfSplitsWrong)

/-- 'tactilelaw02.UtfFeeds': WHATEVER THE INPUT: true; the input reads as it did. -/
def utfFeedsSpec : ChangeSpec := { name := "utfFeeds", fn := fun _ => fun
  | [d1, d2] => { results := [.lit (.bool true)], args := [d1, d2] }
  | _ => none }
def utfFeedsRow : OpenClaim := { program := "ytaajgkccannjlaa", sum := "48499cc25cc324cb22d9319555620b733e258118acc36ca01a2a41a07719e1ec", func := "tactile/tactilelaw02.UtfFeeds", spec := "utfFeeds", apart := false }
def UtfFeedsSaid : Prop := utfFeedsRow.holds Try.pinned (OpenSpec.ofChange utfFeedsSpec)

/-- ITS FALSE NEIGHBOUR: 'it returns false'. Refute it at one input. -/
def utfFeedsWrong : ChangeSpec := { name := "utfFeeds", fn := fun _ => fun
  | [d1, d2] => { results := [.lit (.bool false)], args := [d1, d2] }
  | _ => none }
def UtfFeedsWrongFalsely : Prop := utfFeedsRow.holds Try.pinned (OpenSpec.ofChange utfFeedsWrong)

/- THE SECOND FORM. 'bulk': how many values and letters a reading holds, each counted each time it is reached (what is shared counts as often as it is met; a slice's spare places count too). A statement '..UptoSaid' is the law's where the arguments, and the package variables that the reading takes, are together of bulk at most 1048576: NARROWER than '..Said'. Prove '..Said' where nothing that the law and all that it calls make is longer than what came in: it says more and counts as full. Else prove '..UptoSaid'. A law counts once. -/
mutual
def uptoBulk {H : Type} : DataW H → Nat
  | .lit (.string bytes) => bytes.length + 1
  | .lit _ => 1
  | .nil => 1
  | .ptr d => uptoBulk d + 1
  | .slice elems spare => uptoBulkAll elems + uptoBulkAll spare + 1
  | .agg parts => uptoBulkAll parts + 1
  | .iface _ d => uptoBulk d + 1
  | .map entries => uptoBulkEntries entries + 1
  | .held _ => 1
def uptoBulkAll {H : Type} : List (DataW H) → Nat
  | [] => 0
  | d :: r => uptoBulk d + uptoBulkAll r
def uptoBulkEntries {H : Type} : List (Lit × DataW H) → Nat
  | [] => 0
  | x :: r => uptoBulkEntry x + uptoBulkEntries r
def uptoBulkEntry {H : Type} : Lit × DataW H → Nat
  | (.string bytes, d) => bytes.length + uptoBulk d + 1
  | (_, d) => uptoBulk d + 1
 end
def uptoSmall : (H : Type) → List (DataW H) → Bool := fun _ ds => decide (uptoBulkAll ds ≤ 1048576)
def OpenSpec.upto (s : _root_.Go.ChangeSpec) : _root_.Go.OpenSpec := { _root_.Go.OpenSpec.ofChange s with cond := some uptoSmall }

/-- 'tactilelaw02.UtfDecodes', WHERE WHAT IT READS IS OF BULK AT MOST 1048576: true; the input reads as it did. -/
def utfDecodesUptoRow : OpenClaim := { program := "ytaajgkccannjlaa", sum := "48499cc25cc324cb22d9319555620b733e258118acc36ca01a2a41a07719e1ec", func := "tactile/tactilelaw02.UtfDecodes", spec := "utfDecodes", apart := false, narrowed := true }
def UtfDecodesUptoSaid : Prop := utfDecodesUptoRow.holds Try.pinned (OpenSpec.upto utfDecodesSpec)

/-- 'tactilelaw02.UtfEncodes', WHERE WHAT IT READS IS OF BULK AT MOST 1048576: true; the input reads as it did. -/
def utfEncodesUptoRow : OpenClaim := { program := "ytaajgkccannjlaa", sum := "48499cc25cc324cb22d9319555620b733e258118acc36ca01a2a41a07719e1ec", func := "tactile/tactilelaw02.UtfEncodes", spec := "utfEncodes", apart := false, narrowed := true }
def UtfEncodesUptoSaid : Prop := utfEncodesUptoRow.holds Try.pinned (OpenSpec.upto utfEncodesSpec)

/-- 'tactilelaw02.UtfBack', WHERE WHAT IT READS IS OF BULK AT MOST 1048576: true; the input reads as it did. -/
def utfBackUptoRow : OpenClaim := { program := "ytaajgkccannjlaa", sum := "48499cc25cc324cb22d9319555620b733e258118acc36ca01a2a41a07719e1ec", func := "tactile/tactilelaw02.UtfBack", spec := "utfBack", apart := false, narrowed := true }
def UtfBackUptoSaid : Prop := utfBackUptoRow.holds Try.pinned (OpenSpec.upto utfBackSpec)

/-- 'tactilelaw02.UtfAnew', WHERE WHAT IT READS IS OF BULK AT MOST 1048576: true; the input reads as it did. -/
def utfAnewUptoRow : OpenClaim := { program := "ytaajgkccannjlaa", sum := "48499cc25cc324cb22d9319555620b733e258118acc36ca01a2a41a07719e1ec", func := "tactile/tactilelaw02.UtfAnew", spec := "utfAnew", apart := false, narrowed := true }
def UtfAnewUptoSaid : Prop := utfAnewUptoRow.holds Try.pinned (OpenSpec.upto utfAnewSpec)

/-- 'tactilelaw02.UtfSplits', WHERE WHAT IT READS IS OF BULK AT MOST 1048576: true; the input reads as it did. -/
def utfSplitsUptoRow : OpenClaim := { program := "ytaajgkccannjlaa", sum := "48499cc25cc324cb22d9319555620b733e258118acc36ca01a2a41a07719e1ec", func := "tactile/tactilelaw02.UtfSplits", spec := "utfSplits", apart := false, narrowed := true }
def UtfSplitsUptoSaid : Prop := utfSplitsUptoRow.holds Try.pinned (OpenSpec.upto utfSplitsSpec)

/-- 'tactilelaw02.UtfFeeds', WHERE WHAT IT READS IS OF BULK AT MOST 1048576: true; the input reads as it did. -/
def utfFeedsUptoRow : OpenClaim := { program := "ytaajgkccannjlaa", sum := "48499cc25cc324cb22d9319555620b733e258118acc36ca01a2a41a07719e1ec", func := "tactile/tactilelaw02.UtfFeeds", spec := "utfFeeds", apart := false, narrowed := true }
def UtfFeedsUptoSaid : Prop := utfFeedsUptoRow.holds Try.pinned (OpenSpec.upto utfFeedsSpec)

end Rows
end Go.Proofs.Ytaajgkccannjlaa
