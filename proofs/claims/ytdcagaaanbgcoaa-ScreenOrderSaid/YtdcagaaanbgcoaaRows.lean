/-
  No cell of these rows narrows 'for every input' (looked for: loops, veiled, ifaces, maps, wideKeys, modest, calm, conditions, laid).
  DERIVED. THE GIVEN ROWS OF THIS SEAT. 4 by the template 'for every input the law returns true; each argument reads behind the call as it read before'; 0 by the template 'total and deterministic' (their statements: YtdcagaaanbgcoaaTotals.lean).
  GIVEN WITH THE SEED: the statements are not yours to turn. If you find one false, say at which input.
  Laid BY PROGRAM, IN A SANDBOX (cutbox-rows.mjs): the forced cells as the released guide's own fill.sh prints them over the translation a3d47fbe9aca1513… (all of the seat's roots in one cut). By AI agents, Wed Nov 11 2026. No macro, syntax, notation, axiom, sorry.
-/
import Derived.Test.YtdcagaaanbgcoaaChecked
import GoSem.Claim
import GoSem.ClaimJoined
import GoSem.ClaimMapViews
import Derived.JoinedTies
import Derived.KernelRfl
namespace Go.Proofs.Ytdcagaaanbgcoaa
/- THE CELL 'sum', in the pinned program and in every row, IS THE sha256 OF THE DUMP (.gsa) THAT YtdcagaaanbgcoaaProg.lean LOADS. Nothing in Lean hashes anything: it is a label: what it is worth is what the hold of that sum in a sandbox is worth. -/
noncomputable def Try.pinned : Pinned := { name := "ytdcagaaanbgcoaa", sum := "a3d47fbe9aca15130c2e293d93c4ef25e3b1846e5e91649ce3d2b9d9e6d5cca1", checked := Try.checked }
namespace Rows
def none {H : Type} : Left H := { results := [], args := [] }

/-- 'tactilelaw09.ScreenBack': WHATEVER THE INPUT: true; the input reads as it did. -/
def screenBackSpec : ChangeSpec := { name := "screenBack", fn := fun _ => fun
  | [d1, d2, d3, d4, d5, d6, d7] => { results := [.lit (.bool true)], args := [d1, d2, d3, d4, d5, d6, d7] }
  | _ => none }
def screenBackRow : OpenClaim := { program := "ytdcagaaanbgcoaa", sum := "a3d47fbe9aca15130c2e293d93c4ef25e3b1846e5e91649ce3d2b9d9e6d5cca1", func := "tactile/tactilelaw09.ScreenBack", spec := "screenBack", unfollowed := true, recurses := true, apart := false }
def ScreenBackSaid : Prop := screenBackRow.holds Try.pinned (OpenSpec.ofChange screenBackSpec)

/-- ITS FALSE NEIGHBOUR: 'it returns false'. Refute it at one input. -/
def screenBackWrong : ChangeSpec := { name := "screenBack", fn := fun _ => fun
  | [d1, d2, d3, d4, d5, d6, d7] => { results := [.lit (.bool false)], args := [d1, d2, d3, d4, d5, d6, d7] }
  | _ => none }
def ScreenBackWrongFalsely : Prop := screenBackRow.holds Try.pinned (OpenSpec.ofChange screenBackWrong)

/-- 'tactilelaw09.ScreenNone': WHATEVER THE INPUT: true; the input reads as it did. -/
def screenNoneSpec : ChangeSpec := { name := "screenNone", fn := fun _ => fun
  | [d] => { results := [.lit (.bool true)], args := [d] }
  | _ => none }
def screenNoneRow : OpenClaim := { program := "ytdcagaaanbgcoaa", sum := "a3d47fbe9aca15130c2e293d93c4ef25e3b1846e5e91649ce3d2b9d9e6d5cca1", func := "tactile/tactilelaw09.ScreenNone", spec := "screenNone", unfollowed := true, recurses := true, apart := false }
def ScreenNoneSaid : Prop := screenNoneRow.holds Try.pinned (OpenSpec.ofChange screenNoneSpec)

/-- ITS FALSE NEIGHBOUR: 'it returns false'. Refute it at one input. -/
def screenNoneWrong : ChangeSpec := { name := "screenNone", fn := fun _ => fun
  | [d] => { results := [.lit (.bool false)], args := [d] }
  | _ => none }
def ScreenNoneWrongFalsely : Prop := screenNoneRow.holds Try.pinned (OpenSpec.ofChange screenNoneWrong)

/-- 'tactilelaw09.ScreenOrder': WHATEVER THE INPUT: true; the input reads as it did. -/
def screenOrderSpec : ChangeSpec := { name := "screenOrder", fn := fun _ => fun
  | [d1, d2, d3, d4, d5] => { results := [.lit (.bool true)], args := [d1, d2, d3, d4, d5] }
  | _ => none }
def screenOrderRow : OpenClaim := { program := "ytdcagaaanbgcoaa", sum := "a3d47fbe9aca15130c2e293d93c4ef25e3b1846e5e91649ce3d2b9d9e6d5cca1", func := "tactile/tactilelaw09.ScreenOrder", spec := "screenOrder", unfollowed := true, recurses := true, apart := false }
def ScreenOrderSaid : Prop := screenOrderRow.holds Try.pinned (OpenSpec.ofChange screenOrderSpec)

/-- ITS FALSE NEIGHBOUR: 'it returns false'. Refute it at one input. -/
def screenOrderWrong : ChangeSpec := { name := "screenOrder", fn := fun _ => fun
  | [d1, d2, d3, d4, d5] => { results := [.lit (.bool false)], args := [d1, d2, d3, d4, d5] }
  | _ => none }
def ScreenOrderWrongFalsely : Prop := screenOrderRow.holds Try.pinned (OpenSpec.ofChange screenOrderWrong)

/-- 'tactilelaw09.ScreenPlays': WHATEVER THE INPUT: true; the input reads as it did. -/
def screenPlaysSpec : ChangeSpec := { name := "screenPlays", fn := fun _ => fun
  | [d1, d2, d3, d4, d5] => { results := [.lit (.bool true)], args := [d1, d2, d3, d4, d5] }
  | _ => none }
def screenPlaysRow : OpenClaim := { program := "ytdcagaaanbgcoaa", sum := "a3d47fbe9aca15130c2e293d93c4ef25e3b1846e5e91649ce3d2b9d9e6d5cca1", func := "tactile/tactilelaw09.ScreenPlays", spec := "screenPlays", unfollowed := true, recurses := true, apart := false }
def ScreenPlaysSaid : Prop := screenPlaysRow.holds Try.pinned (OpenSpec.ofChange screenPlaysSpec)

/-- ITS FALSE NEIGHBOUR: 'it returns false'. Refute it at one input. -/
def screenPlaysWrong : ChangeSpec := { name := "screenPlays", fn := fun _ => fun
  | [d1, d2, d3, d4, d5] => { results := [.lit (.bool false)], args := [d1, d2, d3, d4, d5] }
  | _ => none }
def ScreenPlaysWrongFalsely : Prop := screenPlaysRow.holds Try.pinned (OpenSpec.ofChange screenPlaysWrong)

/- THE SECOND FORM. 'bulk': how many values and letters a reading holds, each counted each time it is reached (what is shared counts as often as it is met; a slice's spare places count too). A statement '..UptoSaid' is the law's where the arguments, and the package variables that the reading takes, are together of bulk at most 1048576: NARROWER than '..Said'. Prove '..Said' where nothing that the law and all that it calls make is longer than what came in: it says more and counts as full. Else prove '..UptoSaid'. A law counts once. -/
mutual
def uptoBulk {H : Type} : DataW H → Nat
  | .lit (.string bytes) => bytes.length + 1
  | .lit _ => 1
  | .nil => 1
  | .ptr d => uptoBulk d + 1
  | .slice elems spare => uptoBulkAll elems + uptoBulkAll spare + 1
  | .agg parts => uptoBulkAll parts + 1
  | .iface _ d => uptoBulk d + 1
  | .map entries => uptoBulkEntries entries + 1
  | .held _ => 1
def uptoBulkAll {H : Type} : List (DataW H) → Nat
  | [] => 0
  | d :: r => uptoBulk d + uptoBulkAll r
def uptoBulkEntries {H : Type} : List (Lit × DataW H) → Nat
  | [] => 0
  | x :: r => uptoBulkEntry x + uptoBulkEntries r
def uptoBulkEntry {H : Type} : Lit × DataW H → Nat
  | (.string bytes, d) => bytes.length + uptoBulk d + 1
  | (_, d) => uptoBulk d + 1
 end
def uptoSmall : (H : Type) → List (DataW H) → Bool := fun _ ds => decide (uptoBulkAll ds ≤ 1048576)
def OpenSpec.upto (s : _root_.Go.ChangeSpec) : _root_.Go.OpenSpec := { _root_.Go.OpenSpec.ofChange s with cond := some uptoSmall }

/-- 'tactilelaw09.ScreenBack', WHERE WHAT IT READS IS OF BULK AT MOST 1048576: true; the input reads as it did. -/
def screenBackUptoRow : OpenClaim := { program := "ytdcagaaanbgcoaa", sum := "a3d47fbe9aca15130c2e293d93c4ef25e3b1846e5e91649ce3d2b9d9e6d5cca1", func := "tactile/tactilelaw09.ScreenBack", spec := "screenBack", unfollowed := true, recurses := true, apart := false, narrowed := true }
def ScreenBackUptoSaid : Prop := screenBackUptoRow.holds Try.pinned (OpenSpec.upto screenBackSpec)

/-- 'tactilelaw09.ScreenNone', WHERE WHAT IT READS IS OF BULK AT MOST 1048576: true; the input reads as it did. -/
def screenNoneUptoRow : OpenClaim := { program := "ytdcagaaanbgcoaa", sum := "a3d47fbe9aca15130c2e293d93c4ef25e3b1846e5e91649ce3d2b9d9e6d5cca1", func := "tactile/tactilelaw09.ScreenNone", spec := "screenNone", unfollowed := true, recurses := true, apart := false, narrowed := true }
def ScreenNoneUptoSaid : Prop := screenNoneUptoRow.holds Try.pinned (OpenSpec.upto screenNoneSpec)

/-- 'tactilelaw09.ScreenOrder', WHERE WHAT IT READS IS OF BULK AT MOST 1048576: true; the input reads as it did. -/
def screenOrderUptoRow : OpenClaim := { program := "ytdcagaaanbgcoaa", sum := "a3d47fbe9aca15130c2e293d93c4ef25e3b1846e5e91649ce3d2b9d9e6d5cca1", func := "tactile/tactilelaw09.ScreenOrder", spec := "screenOrder", unfollowed := true, recurses := true, apart := false, narrowed := true }
def ScreenOrderUptoSaid : Prop := screenOrderUptoRow.holds Try.pinned (OpenSpec.upto screenOrderSpec)

/-- 'tactilelaw09.ScreenPlays', WHERE WHAT IT READS IS OF BULK AT MOST 1048576: true; the input reads as it did. -/
def screenPlaysUptoRow : OpenClaim := { program := "ytdcagaaanbgcoaa", sum := "a3d47fbe9aca15130c2e293d93c4ef25e3b1846e5e91649ce3d2b9d9e6d5cca1", func := "tactile/tactilelaw09.ScreenPlays", spec := "screenPlays", unfollowed := true, recurses := true, apart := false, narrowed := true }
def ScreenPlaysUptoSaid : Prop := screenPlaysUptoRow.holds Try.pinned (OpenSpec.upto screenPlaysSpec)

end Rows
end Go.Proofs.Ytdcagaaanbgcoaa
