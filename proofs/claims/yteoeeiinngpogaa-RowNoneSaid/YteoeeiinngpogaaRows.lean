/-
  No cell of these rows narrows 'for every input' (looked for: loops, veiled, ifaces, maps, wideKeys, modest, calm, conditions, laid).
  DERIVED. THE GIVEN ROWS OF THIS SEAT. 4 by the template 'for every input the law returns true; each argument reads behind the call as it read before'; 0 by the template 'total and deterministic' (their statements: YteoeeiinngpogaaTotals.lean).
  GIVEN WITH THE SEED: the statements are not yours to turn. If you find one false, say at which input.
  Laid BY PROGRAM, IN A SANDBOX (cutbox-rows.mjs): the forced cells as the released guide's own fill.sh prints them over the translation 8a49889ca56e9989… (all of the seat's roots in one cut). By AI agents, Wed Nov 11 2026. No macro, syntax, notation, axiom, sorry.
-/
import Derived.Test.YteoeeiinngpogaaChecked
import GoSem.Claim
import GoSem.ClaimJoined
import GoSem.ClaimMapViews
import Derived.JoinedTies
import Derived.KernelRfl
namespace Go.Proofs.Yteoeeiinngpogaa
/- THE CELL 'sum', in the pinned program and in every row, IS THE sha256 OF THE DUMP (.gsa) THAT YteoeeiinngpogaaProg.lean LOADS. Nothing in Lean hashes anything: it is a label: what it is worth is what the hold of that sum in a sandbox is worth. -/
noncomputable def Try.pinned : Pinned := { name := "yteoeeiinngpogaa", sum := "8a49889ca56e99895487f360edec97529a2455f6716d9bfcc1bdee9826c8f42f", checked := Try.checked }
namespace Rows
def none {H : Type} : Left H := { results := [], args := [] }

/-- 'tactilelaw06.RowWhole': WHATEVER THE INPUT: true; the input reads as it did. -/
def rowWholeSpec : ChangeSpec := { name := "rowWhole", fn := fun _ => fun
  | [d1, d2] => { results := [.lit (.bool true)], args := [d1, d2] }
  | _ => none }
def rowWholeRow : OpenClaim := { program := "yteoeeiinngpogaa", sum := "8a49889ca56e99895487f360edec97529a2455f6716d9bfcc1bdee9826c8f42f", func := "tactile/tactilelaw06.RowWhole", spec := "rowWhole", apart := false }
def RowWholeSaid : Prop := rowWholeRow.holds Try.pinned (OpenSpec.ofChange rowWholeSpec)

/-- ITS FALSE NEIGHBOUR: 'it returns false'. Refute it at one input. -/
def rowWholeWrong : ChangeSpec := { name := "rowWhole", fn := fun _ => fun
  | [d1, d2] => { results := [.lit (.bool false)], args := [d1, d2] }
  | _ => none }
def RowWholeWrongFalsely : Prop := rowWholeRow.holds Try.pinned (OpenSpec.ofChange rowWholeWrong)

/-- 'tactilelaw06.RowBack': WHATEVER THE INPUT: true; the input reads as it did. -/
def rowBackSpec : ChangeSpec := { name := "rowBack", fn := fun _ => fun
  | [d1, d2, d3, d4, d5] => { results := [.lit (.bool true)], args := [d1, d2, d3, d4, d5] }
  | _ => none }
def rowBackRow : OpenClaim := { program := "yteoeeiinngpogaa", sum := "8a49889ca56e99895487f360edec97529a2455f6716d9bfcc1bdee9826c8f42f", func := "tactile/tactilelaw06.RowBack", spec := "rowBack", unfollowed := true, recurses := true, apart := false }
def RowBackSaid : Prop := rowBackRow.holds Try.pinned (OpenSpec.ofChange rowBackSpec)

/-- ITS FALSE NEIGHBOUR: 'it returns false'. Refute it at one input. -/
def rowBackWrong : ChangeSpec := { name := "rowBack", fn := fun _ => fun
  | [d1, d2, d3, d4, d5] => { results := [.lit (.bool false)], args := [d1, d2, d3, d4, d5] }
  | _ => none }
def RowBackWrongFalsely : Prop := rowBackRow.holds Try.pinned (OpenSpec.ofChange rowBackWrong)

/-- 'tactilelaw06.RowPlays': WHATEVER THE INPUT: true; the input reads as it did. -/
def rowPlaysSpec : ChangeSpec := { name := "rowPlays", fn := fun _ => fun
  | [d1, d2] => { results := [.lit (.bool true)], args := [d1, d2] }
  | _ => none }
def rowPlaysRow : OpenClaim := { program := "yteoeeiinngpogaa", sum := "8a49889ca56e99895487f360edec97529a2455f6716d9bfcc1bdee9826c8f42f", func := "tactile/tactilelaw06.RowPlays", spec := "rowPlays", unfollowed := true, recurses := true, apart := false }
def RowPlaysSaid : Prop := rowPlaysRow.holds Try.pinned (OpenSpec.ofChange rowPlaysSpec)

/-- ITS FALSE NEIGHBOUR: 'it returns false'. Refute it at one input. -/
def rowPlaysWrong : ChangeSpec := { name := "rowPlays", fn := fun _ => fun
  | [d1, d2] => { results := [.lit (.bool false)], args := [d1, d2] }
  | _ => none }
def RowPlaysWrongFalsely : Prop := rowPlaysRow.holds Try.pinned (OpenSpec.ofChange rowPlaysWrong)

/-- 'tactilelaw06.RowNone': WHATEVER THE INPUT: true; the input reads as it did. -/
def rowNoneSpec : ChangeSpec := { name := "rowNone", fn := fun _ => fun
  | [d] => { results := [.lit (.bool true)], args := [d] }
  | _ => none }
def rowNoneRow : OpenClaim := { program := "yteoeeiinngpogaa", sum := "8a49889ca56e99895487f360edec97529a2455f6716d9bfcc1bdee9826c8f42f", func := "tactile/tactilelaw06.RowNone", spec := "rowNone", unfollowed := true, recurses := true, apart := false }
def RowNoneSaid : Prop := rowNoneRow.holds Try.pinned (OpenSpec.ofChange rowNoneSpec)

/-- ITS FALSE NEIGHBOUR: 'it returns false'. Refute it at one input. -/
def rowNoneWrong : ChangeSpec := { name := "rowNone", fn := fun _ => fun
  | [d] => { results := [.lit (.bool false)], args := [d] }
  | _ => none }
def RowNoneWrongFalsely : Prop := rowNoneRow.holds Try.pinned (OpenSpec.ofChange rowNoneWrong)

/- THE SECOND FORM. 'bulk': how many values and letters a reading holds, each counted each time it is reached (what is shared counts as often as it is met; a slice's spare places count too). A statement '..UptoSaid' is the law's where the arguments, and the package variables that the reading takes, are together of bulk at most 1048576: NARROWER than '..Said'. Prove '..Said' where nothing that the law and all that it calls make is longer than what came in: it says more and counts as full. Else prove '..UptoSaid'. A law counts once. -/
mutual
def uptoBulk {H : Type} : DataW H → Nat
  | .lit (.string bytes) => bytes.length + 1
  | .lit _ => 1
  | .nil => 1
  | .ptr d => uptoBulk d + 1
  | .slice elems spare => uptoBulkAll elems + uptoBulkAll spare + 1
  | .agg parts => uptoBulkAll parts + 1
  | .iface _ d => uptoBulk d + 1
  | .map entries => uptoBulkEntries entries + 1
  | .held _ => 1
def uptoBulkAll {H : Type} : List (DataW H) → Nat
  | [] => 0
  | d :: r => uptoBulk d + uptoBulkAll r
def uptoBulkEntries {H : Type} : List (Lit × DataW H) → Nat
  | [] => 0
  | x :: r => uptoBulkEntry x + uptoBulkEntries r
def uptoBulkEntry {H : Type} : Lit × DataW H → Nat
  | (.string bytes, d) => bytes.length + uptoBulk d + 1
  | (_, d) => uptoBulk d + 1
 end
def uptoSmall : (H : Type) → List (DataW H) → Bool := fun _ ds => decide (uptoBulkAll ds ≤ 1048576)
def OpenSpec.upto (s : _root_.Go.ChangeSpec) : _root_.Go.OpenSpec := { _root_.Go.OpenSpec.ofChange s with cond := some uptoSmall }

/-- 'tactilelaw06.RowWhole', WHERE WHAT IT READS IS OF BULK AT MOST 1048576: true; the input reads as it did. -/
def rowWholeUptoRow : OpenClaim := { program := "yteoeeiinngpogaa", sum := "8a49889ca56e99895487f360edec97529a2455f6716d9bfcc1bdee9826c8f42f", func := "tactile/tactilelaw06.RowWhole", spec := "rowWhole", apart := false, narrowed := true }
def RowWholeUptoSaid : Prop := rowWholeUptoRow.holds Try.pinned (OpenSpec.upto rowWholeSpec)

/-- 'tactilelaw06.RowBack', WHERE WHAT IT READS IS OF BULK AT MOST 1048576: true; the input reads as it did. -/
def rowBackUptoRow : OpenClaim := { program := "yteoeeiinngpogaa", sum := "8a49889ca56e99895487f360edec97529a2455f6716d9bfcc1bdee9826c8f42f", func := "tactile/tactilelaw06.RowBack", spec := "rowBack", unfollowed := true, recurses := true, apart := false, narrowed := true }
def RowBackUptoSaid : Prop := rowBackUptoRow.holds Try.pinned (OpenSpec.upto rowBackSpec)

/-- 'tactilelaw06.RowPlays', WHERE WHAT IT READS IS OF BULK AT MOST 1048576: true; the input reads as it did. -/
def rowPlaysUptoRow : OpenClaim := { program := "yteoeeiinngpogaa", sum := "8a49889ca56e99895487f360edec97529a2455f6716d9bfcc1bdee9826c8f42f", func := "tactile/tactilelaw06.RowPlays", spec := "rowPlays", unfollowed := true, recurses := true, apart := false, narrowed := true }
def RowPlaysUptoSaid : Prop := rowPlaysUptoRow.holds Try.pinned (OpenSpec.upto rowPlaysSpec)

/-- 'tactilelaw06.RowNone', WHERE WHAT IT READS IS OF BULK AT MOST 1048576: true; the input reads as it did. -/
def rowNoneUptoRow : OpenClaim := { program := "yteoeeiinngpogaa", sum := "8a49889ca56e99895487f360edec97529a2455f6716d9bfcc1bdee9826c8f42f", func := "tactile/tactilelaw06.RowNone", spec := "rowNone", unfollowed := true, recurses := true, apart := false, narrowed := true }
def RowNoneUptoSaid : Prop := rowNoneUptoRow.holds Try.pinned (OpenSpec.upto rowNoneSpec)

end Rows
end Go.Proofs.Yteoeeiinngpogaa
