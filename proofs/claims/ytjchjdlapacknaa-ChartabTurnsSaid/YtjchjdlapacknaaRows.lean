/-
  No cell of these rows narrows 'for every input' (looked for: loops, veiled, ifaces, maps, wideKeys, modest, calm, conditions, laid).
  DERIVED. THE GIVEN ROWS OF THIS SEAT. 8 by the template 'for every input the law returns true; each argument reads behind the call as it read before'; 0 by the template 'total and deterministic' (their statements: YtjchjdlapacknaaTotals.lean).
  GIVEN WITH THE SEED: the statements are not yours to turn. If you find one false, say at which input.
  Laid BY PROGRAM, IN A SANDBOX (cutbox-rows.mjs): the forced cells as the released guide's own fill.sh prints them over the translation 4e26e9a675980fac… (all of the seat's roots in one cut). By AI agents, Wed Nov 11 2026. No macro, syntax, notation, axiom, sorry.
-/
import Derived.Test.YtjchjdlapacknaaChecked
import GoSem.Claim
import GoSem.ClaimJoined
import GoSem.ClaimMapViews
import Derived.JoinedTies
import Derived.KernelRfl
namespace Go.Proofs.Ytjchjdlapacknaa
/- THE CELL 'sum', in the pinned program and in every row, IS THE sha256 OF THE DUMP (.gsa) THAT YtjchjdlapacknaaProg.lean LOADS. Nothing in Lean hashes anything: it is a label: what it is worth is what the hold of that sum in a sandbox is worth. -/
noncomputable def Try.pinned : Pinned := { name := "ytjchjdlapacknaa", sum := "4e26e9a675980facdfe05e9826eef6f4e3938102f937452eaa0ea76d03d19d19", checked := Try.checked }
namespace Rows
def none {H : Type} : Left H := { results := [], args := [] }

/-- 'tactilelaw01.ChartabMay': WHATEVER THE INPUT: true; the input reads as it did. -/
def chartabMaySpec : ChangeSpec := { name := "chartabMay", fn := fun _ => fun
  | [d] => { results := [.lit (.bool true)], args := [d] }
  | _ => none }
def chartabMayRow : OpenClaim := { program := "ytjchjdlapacknaa", sum := "4e26e9a675980facdfe05e9826eef6f4e3938102f937452eaa0ea76d03d19d19", func := "tactile/tactilelaw01.ChartabMay", spec := "chartabMay", apart := false }
def ChartabMaySaid : Prop := chartabMayRow.holds Try.pinned (OpenSpec.ofChange chartabMaySpec)

/-- ITS FALSE NEIGHBOUR: 'it returns false'. Refute it at one input. -/
def chartabMayWrong : ChangeSpec := { name := "chartabMay", fn := fun _ => fun
  | [d] => { results := [.lit (.bool false)], args := [d] }
  | _ => none }
def ChartabMayWrongFalsely : Prop := chartabMayRow.holds Try.pinned (OpenSpec.ofChange chartabMayWrong)

/-- 'tactilelaw01.ChartabWidth': WHATEVER THE INPUT: true; the input reads as it did. -/
def chartabWidthSpec : ChangeSpec := { name := "chartabWidth", fn := fun _ => fun
  | [d] => { results := [.lit (.bool true)], args := [d] }
  | _ => none }
def chartabWidthRow : OpenClaim := { program := "ytjchjdlapacknaa", sum := "4e26e9a675980facdfe05e9826eef6f4e3938102f937452eaa0ea76d03d19d19", func := "tactile/tactilelaw01.ChartabWidth", spec := "chartabWidth", apart := false }
def ChartabWidthSaid : Prop := chartabWidthRow.holds Try.pinned (OpenSpec.ofChange chartabWidthSpec)

/-- ITS FALSE NEIGHBOUR: 'it returns false'. Refute it at one input. -/
def chartabWidthWrong : ChangeSpec := { name := "chartabWidth", fn := fun _ => fun
  | [d] => { results := [.lit (.bool false)], args := [d] }
  | _ => none }
def ChartabWidthWrongFalsely : Prop := chartabWidthRow.holds Try.pinned (OpenSpec.ofChange chartabWidthWrong)

/-- 'tactilelaw01.ChartabClass': WHATEVER THE INPUT: true; the input reads as it did. -/
def chartabClassSpec : ChangeSpec := { name := "chartabClass", fn := fun _ => fun
  | [d] => { results := [.lit (.bool true)], args := [d] }
  | _ => none }
def chartabClassRow : OpenClaim := { program := "ytjchjdlapacknaa", sum := "4e26e9a675980facdfe05e9826eef6f4e3938102f937452eaa0ea76d03d19d19", func := "tactile/tactilelaw01.ChartabClass", spec := "chartabClass", apart := false }
def ChartabClassSaid : Prop := chartabClassRow.holds Try.pinned (OpenSpec.ofChange chartabClassSpec)

/-- ITS FALSE NEIGHBOUR: 'it returns false'. Refute it at one input. -/
def chartabClassWrong : ChangeSpec := { name := "chartabClass", fn := fun _ => fun
  | [d] => { results := [.lit (.bool false)], args := [d] }
  | _ => none }
def ChartabClassWrongFalsely : Prop := chartabClassRow.holds Try.pinned (OpenSpec.ofChange chartabClassWrong)

/-- 'tactilelaw01.ChartabCharset': WHATEVER THE INPUT: true; the input reads as it did. -/
def chartabCharsetSpec : ChangeSpec := { name := "chartabCharset", fn := fun _ => fun
  | [d1, d2] => { results := [.lit (.bool true)], args := [d1, d2] }
  | _ => none }
def chartabCharsetRow : OpenClaim := { program := "ytjchjdlapacknaa", sum := "4e26e9a675980facdfe05e9826eef6f4e3938102f937452eaa0ea76d03d19d19", func := "tactile/tactilelaw01.ChartabCharset", spec := "chartabCharset", apart := false }
def ChartabCharsetSaid : Prop := chartabCharsetRow.holds Try.pinned (OpenSpec.ofChange chartabCharsetSpec)

/-- ITS FALSE NEIGHBOUR: 'it returns false'. Refute it at one input. -/
def chartabCharsetWrong : ChangeSpec := { name := "chartabCharset", fn := fun _ => fun
  | [d1, d2] => { results := [.lit (.bool false)], args := [d1, d2] }
  | _ => none }
def ChartabCharsetWrongFalsely : Prop := chartabCharsetRow.holds Try.pinned (OpenSpec.ofChange chartabCharsetWrong)

/-- 'tactilelaw01.ChartabName': WHATEVER THE INPUT: true; the input reads as it did. -/
def chartabNameSpec : ChangeSpec := { name := "chartabName", fn := fun _ => fun
  | [d] => { results := [.lit (.bool true)], args := [d] }
  | _ => none }
def chartabNameRow : OpenClaim := { program := "ytjchjdlapacknaa", sum := "4e26e9a675980facdfe05e9826eef6f4e3938102f937452eaa0ea76d03d19d19", func := "tactile/tactilelaw01.ChartabName", spec := "chartabName", apart := false }
def ChartabNameSaid : Prop := chartabNameRow.holds Try.pinned (OpenSpec.ofChange chartabNameSpec)

/-- ITS FALSE NEIGHBOUR: 'it returns false'. Refute it at one input. -/
def chartabNameWrong : ChangeSpec := { name := "chartabName", fn := fun _ => fun
  | [d] => { results := [.lit (.bool false)], args := [d] }
  | _ => none }
def ChartabNameWrongFalsely : Prop := chartabNameRow.holds Try.pinned (OpenSpec.ofChange chartabNameWrong)

/-- 'tactilelaw01.ChartabFits': WHATEVER THE INPUT: true; the input reads as it did. -/
def chartabFitsSpec : ChangeSpec := { name := "chartabFits", fn := fun _ => fun
  | [d1, d2] => { results := [.lit (.bool true)], args := [d1, d2] }
  | _ => none }
def chartabFitsRow : OpenClaim := { program := "ytjchjdlapacknaa", sum := "4e26e9a675980facdfe05e9826eef6f4e3938102f937452eaa0ea76d03d19d19", func := "tactile/tactilelaw01.ChartabFits", spec := "chartabFits", apart := false }
def ChartabFitsSaid : Prop := chartabFitsRow.holds Try.pinned (OpenSpec.ofChange chartabFitsSpec)

/-- ITS FALSE NEIGHBOUR: 'it returns false'. Refute it at one input. -/
def chartabFitsWrong : ChangeSpec := { name := "chartabFits", fn := fun _ => fun
  | [d1, d2] => { results := [.lit (.bool false)], args := [d1, d2] }
  | _ => none }
def ChartabFitsWrongFalsely : Prop := chartabFitsRow.holds Try.pinned (OpenSpec.ofChange chartabFitsWrong)

/-- 'tactilelaw01.ChartabCase': WHATEVER THE INPUT: true; the input reads as it did. -/
def chartabCaseSpec : ChangeSpec := { name := "chartabCase", fn := fun _ => fun
  | [d] => { results := [.lit (.bool true)], args := [d] }
  | _ => none }
def chartabCaseRow : OpenClaim := { program := "ytjchjdlapacknaa", sum := "4e26e9a675980facdfe05e9826eef6f4e3938102f937452eaa0ea76d03d19d19", func := "tactile/tactilelaw01.ChartabCase", spec := "chartabCase", apart := false }
def ChartabCaseSaid : Prop := chartabCaseRow.holds Try.pinned (OpenSpec.ofChange chartabCaseSpec)

/-- ITS FALSE NEIGHBOUR: 'it returns false'. Refute it at one input. -/
def chartabCaseWrong : ChangeSpec := { name := "chartabCase", fn := fun _ => fun
  | [d] => { results := [.lit (.bool false)], args := [d] }
  | _ => none }
def ChartabCaseWrongFalsely : Prop := chartabCaseRow.holds Try.pinned (OpenSpec.ofChange chartabCaseWrong)

/-- 'tactilelaw01.ChartabTurns': WHATEVER THE INPUT: true; the input reads as it did. -/
def chartabTurnsSpec : ChangeSpec := { name := "chartabTurns", fn := fun _ => fun
  | [d] => { results := [.lit (.bool true)], args := [d] }
  | _ => none }
def chartabTurnsRow : OpenClaim := { program := "ytjchjdlapacknaa", sum := "4e26e9a675980facdfe05e9826eef6f4e3938102f937452eaa0ea76d03d19d19", func := "tactile/tactilelaw01.ChartabTurns", spec := "chartabTurns", apart := false }
def ChartabTurnsSaid : Prop := chartabTurnsRow.holds Try.pinned (OpenSpec.ofChange chartabTurnsSpec)

/-- ITS FALSE NEIGHBOUR: 'it returns false'. Refute it at one input. -/
def chartabTurnsWrong : ChangeSpec := { name := "chartabTurns", fn := fun _ => fun
  | [d] => { results := [.lit (.bool false)], args := [d] }
  | _ => none }
def ChartabTurnsWrongFalsely : Prop := chartabTurnsRow.holds Try.pinned (OpenSpec.ofChange chartabTurnsWrong)

/- THE SECOND FORM. 'bulk': how many values and letters a reading holds, each counted each time it is reached (what is shared counts as often as it is met; a slice's spare places count too). A statement '..UptoSaid' is the law's where the arguments, and the package variables that the reading takes, are together of bulk at most 1048576: NARROWER than '..Said'. Prove '..Said' where nothing that the law and all that it calls make is longer than what came in: it says more and counts as full. Else prove '..UptoSaid'. A law counts once. -/
mutual
def uptoBulk {H : Type} : DataW H → Nat
  | .lit (.string bytes) => bytes.length + 1
  | .lit _ => 1
  | .nil => 1
  | .ptr d => uptoBulk d + 1
  | .slice elems spare => uptoBulkAll elems + uptoBulkAll spare + 1
  | .agg parts => uptoBulkAll parts + 1
  | .iface _ d => uptoBulk d + 1
  | .map entries => uptoBulkEntries entries + 1
  | .held _ => 1
def uptoBulkAll {H : Type} : List (DataW H) → Nat
  | [] => 0
  | d :: r => uptoBulk d + uptoBulkAll r
def uptoBulkEntries {H : Type} : List (Lit × DataW H) → Nat
  | [] => 0
  | x :: r => uptoBulkEntry x + uptoBulkEntries r
def uptoBulkEntry {H : Type} : Lit × DataW H → Nat
  | (.string bytes, d) => bytes.length + uptoBulk d + 1
  | (_, d) => uptoBulk d + 1
 end
def uptoSmall : (H : Type) → List (DataW H) → Bool := fun _ ds => decide (uptoBulkAll ds ≤ 1048576)
def OpenSpec.upto (s : _root_.Go.ChangeSpec) : _root_.Go.OpenSpec := { _root_.Go.OpenSpec.ofChange s with cond := some uptoSmall }

/-- 'tactilelaw01.ChartabMay', WHERE WHAT IT READS IS OF BULK AT MOST 1048576: true; the input reads as it did. -/
def chartabMayUptoRow : OpenClaim := { program := "ytjchjdlapacknaa", sum := "4e26e9a675980facdfe05e9826eef6f4e3938102f937452eaa0ea76d03d19d19", func := "tactile/tactilelaw01.ChartabMay", spec := "chartabMay", apart := false, narrowed := true }
def ChartabMayUptoSaid : Prop := chartabMayUptoRow.holds Try.pinned (OpenSpec.upto chartabMaySpec)

/-- 'tactilelaw01.ChartabWidth', WHERE WHAT IT READS IS OF BULK AT MOST 1048576: true; the input reads as it did. -/
def chartabWidthUptoRow : OpenClaim := { program := "ytjchjdlapacknaa", sum := "4e26e9a675980facdfe05e9826eef6f4e3938102f937452eaa0ea76d03d19d19", func := "tactile/tactilelaw01.ChartabWidth", spec := "chartabWidth", apart := false, narrowed := true }
def ChartabWidthUptoSaid : Prop := chartabWidthUptoRow.holds Try.pinned (OpenSpec.upto chartabWidthSpec)

/-- 'tactilelaw01.ChartabClass', WHERE WHAT IT READS IS OF BULK AT MOST 1048576: true; the input reads as it did. -/
def chartabClassUptoRow : OpenClaim := { program := "ytjchjdlapacknaa", sum := "4e26e9a675980facdfe05e9826eef6f4e3938102f937452eaa0ea76d03d19d19", func := "tactile/tactilelaw01.ChartabClass", spec := "chartabClass", apart := false, narrowed := true }
def ChartabClassUptoSaid : Prop := chartabClassUptoRow.holds Try.pinned (OpenSpec.upto chartabClassSpec)

/-- 'tactilelaw01.ChartabCharset', WHERE WHAT IT READS IS OF BULK AT MOST 1048576: true; the input reads as it did. -/
def chartabCharsetUptoRow : OpenClaim := { program := "ytjchjdlapacknaa", sum := "4e26e9a675980facdfe05e9826eef6f4e3938102f937452eaa0ea76d03d19d19", func := "tactile/tactilelaw01.ChartabCharset", spec := "chartabCharset", apart := false, narrowed := true }
def ChartabCharsetUptoSaid : Prop := chartabCharsetUptoRow.holds Try.pinned (OpenSpec.upto chartabCharsetSpec)

/-- 'tactilelaw01.ChartabName', WHERE WHAT IT READS IS OF BULK AT MOST 1048576: true; the input reads as it did. -/
def chartabNameUptoRow : OpenClaim := { program := "ytjchjdlapacknaa", sum := "4e26e9a675980facdfe05e9826eef6f4e3938102f937452eaa0ea76d03d19d19", func := "tactile/tactilelaw01.ChartabName", spec := "chartabName", apart := false, narrowed := true }
def ChartabNameUptoSaid : Prop := chartabNameUptoRow.holds Try.pinned (OpenSpec.upto chartabNameSpec)

/-- 'tactilelaw01.ChartabFits', WHERE WHAT IT READS IS OF BULK AT MOST 1048576: true; the input reads as it did. -/
def chartabFitsUptoRow : OpenClaim := { program := "ytjchjdlapacknaa", sum := "4e26e9a675980facdfe05e9826eef6f4e3938102f937452eaa0ea76d03d19d19", func := "tactile/tactilelaw01.ChartabFits", spec := "chartabFits", apart := false, narrowed := true }
def ChartabFitsUptoSaid : Prop := chartabFitsUptoRow.holds Try.pinned (OpenSpec.upto chartabFitsSpec)

/-- 'tactilelaw01.ChartabCase', WHERE WHAT IT READS IS OF BULK AT MOST 1048576: true; the input reads as it did. -/
def chartabCaseUptoRow : OpenClaim := { program := "ytjchjdlapacknaa", sum := "4e26e9a675980facdfe05e9826eef6f4e3938102f937452eaa0ea76d03d19d19", func := "tactile/tactilelaw01.ChartabCase", spec := "chartabCase", apart := false, narrowed := true }
def ChartabCaseUptoSaid : Prop := chartabCaseUptoRow.holds Try.pinned (OpenSpec.upto chartabCaseSpec)

/-- 'tactilelaw01.ChartabTurns', WHERE WHAT IT READS IS OF BULK AT MOST 1048576: true; the input reads as it did. -/
def chartabTurnsUptoRow : OpenClaim := { program := "ytjchjdlapacknaa", sum := "4e26e9a675980facdfe05e9826eef6f4e3938102f937452eaa0ea76d03d19d19", func := "tactile/tactilelaw01.ChartabTurns", spec := "chartabTurns", apart := false, narrowed := true }
def ChartabTurnsUptoSaid : Prop := chartabTurnsUptoRow.holds Try.pinned (OpenSpec.upto chartabTurnsSpec)

end Rows
end Go.Proofs.Ytjchjdlapacknaa
