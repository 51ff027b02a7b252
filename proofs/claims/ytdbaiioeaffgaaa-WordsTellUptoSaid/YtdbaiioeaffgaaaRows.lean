/-
  No cell of these rows narrows 'for every input' (looked for: loops, veiled, ifaces, maps, wideKeys, modest, calm, conditions, laid).
  DERIVED. THE GIVEN ROWS OF THIS SEAT. 4 by the template 'for every input the law returns true; each argument reads behind the call as it read before'; 0 by the template 'total and deterministic' (their statements: YtdbaiioeaffgaaaTotals.lean).
  GIVEN WITH THE SEED: the statements are not yours to turn. If you find one false, say at which input.
  Laid BY PROGRAM, IN A SANDBOX (cutbox-rows.mjs): the forced cells as the released guide's own fill.sh prints them over the translation a0f6fc9760041c93… (all of the seat's roots in one cut). By AI agents, Wed Nov 11 2026. No macro, syntax, notation, axiom, sorry.
-/
import Derived.Test.YtdbaiioeaffgaaaChecked
import GoSem.Claim
import GoSem.ClaimJoined
import GoSem.ClaimMapViews
import Derived.JoinedTies
import Derived.KernelRfl
namespace Go.Proofs.Ytdbaiioeaffgaaa
/- THE CELL 'sum', in the pinned program and in every row, IS THE sha256 OF THE DUMP (.gsa) THAT YtdbaiioeaffgaaaProg.lean LOADS. Nothing in Lean hashes anything: it is a label: what it is worth is what the hold of that sum in a sandbox is worth. -/
noncomputable def Try.pinned : Pinned := { name := "ytdbaiioeaffgaaa", sum := "a0f6fc9760041c932b1b2672a732268034951262016248f01953acc44c16e467", checked := Try.checked }
namespace Rows
def none {H : Type} : Left H := { results := [], args := [] }

/-- 'tactilelaw20.WordsBack': WHATEVER THE INPUT: true; the input reads as it did. -/
def wordsBackSpec : ChangeSpec := { name := "wordsBack", fn := fun _ => fun
  | [d] => { results := [.lit (.bool true)], args := [d] }
  | _ => none }
def wordsBackRow : OpenClaim := { program := "ytdbaiioeaffgaaa", sum := "a0f6fc9760041c932b1b2672a732268034951262016248f01953acc44c16e467", func := "tactile/tactilelaw20.WordsBack", spec := "wordsBack", unfollowed := true, recurses := true, apart := false }
def WordsBackSaid : Prop := wordsBackRow.holds Try.pinned (OpenSpec.ofChange wordsBackSpec)

/-- ITS FALSE NEIGHBOUR: 'it returns false'. Refute it at one input. -/
def wordsBackWrong : ChangeSpec := { name := "wordsBack", fn := fun _ => fun
  | [d] => { results := [.lit (.bool false)], args := [d] }
  | _ => none }
def WordsBackWrongFalsely : Prop := wordsBackRow.holds Try.pinned (OpenSpec.ofChange wordsBackWrong)

/-- 'tactilelaw20.WordsCover': WHATEVER THE INPUT: true; the input reads as it did. -/
def wordsCoverSpec : ChangeSpec := { name := "wordsCover", fn := fun _ => fun
  | [d] => { results := [.lit (.bool true)], args := [d] }
  | _ => none }
def wordsCoverRow : OpenClaim := { program := "ytdbaiioeaffgaaa", sum := "a0f6fc9760041c932b1b2672a732268034951262016248f01953acc44c16e467", func := "tactile/tactilelaw20.WordsCover", spec := "wordsCover", unfollowed := true, recurses := true, apart := false }
def WordsCoverSaid : Prop := wordsCoverRow.holds Try.pinned (OpenSpec.ofChange wordsCoverSpec)

/-- ITS FALSE NEIGHBOUR: 'it returns false'. Refute it at one input. -/
def wordsCoverWrong : ChangeSpec := { name := "wordsCover", fn := fun _ => fun
  | [d] => { results := [.lit (.bool false)], args := [d] }
  | _ => none }
def WordsCoverWrongFalsely : Prop := wordsCoverRow.holds Try.pinned (OpenSpec.ofChange wordsCoverWrong)

/-- 'tactilelaw20.WordsTell': WHATEVER THE INPUT: true; the input reads as it did. -/
def wordsTellSpec : ChangeSpec := { name := "wordsTell", fn := fun _ => fun
  | [d1, d2, d3] => { results := [.lit (.bool true)], args := [d1, d2, d3] }
  | _ => none }
def wordsTellRow : OpenClaim := { program := "ytdbaiioeaffgaaa", sum := "a0f6fc9760041c932b1b2672a732268034951262016248f01953acc44c16e467", func := "tactile/tactilelaw20.WordsTell", spec := "wordsTell", unfollowed := true, recurses := true, apart := false }
def WordsTellSaid : Prop := wordsTellRow.holds Try.pinned (OpenSpec.ofChange wordsTellSpec)

/-- ITS FALSE NEIGHBOUR: 'it returns false'. Refute it at one input. -/
def wordsTellWrong : ChangeSpec := { name := "wordsTell", fn := fun _ => fun
  | [d1, d2, d3] => { results := [.lit (.bool false)], args := [d1, d2, d3] }
  | _ => none }
def WordsTellWrongFalsely : Prop := wordsTellRow.holds Try.pinned (OpenSpec.ofChange wordsTellWrong)

/-- 'tactilelaw20.WordsNone': WHATEVER THE INPUT: true; the input reads as it did. -/
def wordsNoneSpec : ChangeSpec := { name := "wordsNone", fn := fun _ => fun
  | [d] => { results := [.lit (.bool true)], args := [d] }
  | _ => none }
def wordsNoneRow : OpenClaim := { program := "ytdbaiioeaffgaaa", sum := "a0f6fc9760041c932b1b2672a732268034951262016248f01953acc44c16e467", func := "tactile/tactilelaw20.WordsNone", spec := "wordsNone", unfollowed := true, recurses := true, apart := false }
def WordsNoneSaid : Prop := wordsNoneRow.holds Try.pinned (OpenSpec.ofChange wordsNoneSpec)

/-- ITS FALSE NEIGHBOUR: 'it returns false'. Refute it at one input. -/
def wordsNoneWrong : ChangeSpec := { name := "wordsNone", fn := fun _ => fun
  | [d] => { results := [.lit (.bool false)], args := [d] }
  | _ => none }
def WordsNoneWrongFalsely : Prop := wordsNoneRow.holds Try.pinned (OpenSpec.ofChange wordsNoneWrong)

/- THE SECOND FORM. 'bulk': how many values and letters a reading holds, each counted each time it is reached (what is shared counts as often as it is met; a slice's spare places count too). A statement '..UptoSaid' is the law's where the arguments, and the package variables that the reading takes, are together of bulk at most 1048576: NARROWER than '..Said'. Prove '..Said' where nothing that the law and all that it calls make is longer than what came in: it says more and counts as full. Else prove '..UptoSaid'. A law counts once. -/
mutual
def uptoBulk {H : Type} : DataW H → Nat
  | .lit (.string bytes) => bytes.length + 1
  | .lit _ => 1
  | .nil => 1
  | .ptr d => uptoBulk d + 1
  | .slice elems spare => uptoBulkAll elems + uptoBulkAll spare + 1
  | .agg parts => uptoBulkAll parts + 1
  | .iface _ d => uptoBulk d + 1
  | .map entries => uptoBulkEntries entries + 1
  | .held _ => 1
def uptoBulkAll {H : Type} : List (DataW H) → Nat
  | [] => 0
  | d :: r => uptoBulk d + uptoBulkAll r
def uptoBulkEntries {H : Type} : List (Lit × DataW H) → Nat
  | [] => 0
  | x :: r => uptoBulkEntry x + uptoBulkEntries r
def uptoBulkEntry {H : Type} : Lit × DataW H → Nat
  | (.string bytes, d) => bytes.length + uptoBulk d + 1
  | (_, d) => uptoBulk d + 1
 end
def uptoSmall : (H : Type) → List (DataW H) → Bool := fun _ ds => decide (uptoBulkAll ds ≤ 1048576)
def OpenSpec.upto (s : _root_.Go.ChangeSpec) : _root_.Go.OpenSpec := { _root_.Go.OpenSpec.ofChange s with cond := some uptoSmall }

/-- 'tactilelaw20.WordsBack', WHERE WHAT IT READS IS OF BULK AT MOST 1048576: true; the input reads as it did. -/
def wordsBackUptoRow : OpenClaim := { program := "ytdbaiioeaffgaaa", sum := "a0f6fc9760041c932b1b2672a732268034951262016248f01953acc44c16e467", func := "tactile/tactilelaw20.WordsBack", spec := "wordsBack", unfollowed := true, recurses := true, apart := false, narrowed := true }
def WordsBackUptoSaid : Prop := wordsBackUptoRow.holds Try.pinned (OpenSpec.upto wordsBackSpec)

/-- 'tactilelaw20.WordsCover', WHERE WHAT IT READS IS OF BULK AT MOST 1048576: true; the input reads as it did. -/
def wordsCoverUptoRow : OpenClaim := { program := "ytdbaiioeaffgaaa", sum := "a0f6fc9760041c932b1b2672a732268034951262016248f01953acc44c16e467", func := "tactile/tactilelaw20.WordsCover", spec := "wordsCover", unfollowed := true, recurses := true, apart := false, narrowed := true }
def WordsCoverUptoSaid : Prop := wordsCoverUptoRow.holds Try.pinned (OpenSpec.upto wordsCoverSpec)

/-- 'tactilelaw20.WordsTell', WHERE WHAT IT READS IS OF BULK AT MOST 1048576: true; the input reads as it did. -/
def wordsTellUptoRow : OpenClaim := { program := "ytdbaiioeaffgaaa", sum := "a0f6fc9760041c932b1b2672a732268034951262016248f01953acc44c16e467", func := "tactile/tactilelaw20.WordsTell", spec := "wordsTell", unfollowed := true, recurses := true, apart := false, narrowed := true }
def WordsTellUptoSaid : Prop := wordsTellUptoRow.holds Try.pinned (OpenSpec.upto wordsTellSpec)

/-- 'tactilelaw20.WordsNone', WHERE WHAT IT READS IS OF BULK AT MOST 1048576: true; the input reads as it did. -/
def wordsNoneUptoRow : OpenClaim := { program := "ytdbaiioeaffgaaa", sum := "a0f6fc9760041c932b1b2672a732268034951262016248f01953acc44c16e467", func := "tactile/tactilelaw20.WordsNone", spec := "wordsNone", unfollowed := true, recurses := true, apart := false, narrowed := true }
def WordsNoneUptoSaid : Prop := wordsNoneUptoRow.holds Try.pinned (OpenSpec.upto wordsNoneSpec)

end Rows
end Go.Proofs.Ytdbaiioeaffgaaa
