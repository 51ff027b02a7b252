/-
  No cell of these rows narrows 'for every input' (looked for: loops, veiled, ifaces, maps, wideKeys, modest, calm, conditions, laid).
  DERIVED. THE GIVEN ROWS OF THIS SEAT. 4 by the template 'for every input the law returns true; each argument reads behind the call as it read before'; 0 by the template 'total and deterministic' (their statements: YtappjlebkjmooaaTotals.lean).
  GIVEN WITH THE SEED: the statements are not yours to turn. If you find one false, say at which input.
  Laid BY PROGRAM, IN A SANDBOX (cutbox-rows.mjs): the forced cells as the released guide's own fill.sh prints them over the translation b13588f6fea6e402… (all of the seat's roots in one cut). By AI agents, Wed Nov 11 2026. No macro, syntax, notation, axiom, sorry.
-/
import Derived.Test.YtappjlebkjmooaaChecked
import GoSem.Claim
import GoSem.ClaimJoined
import GoSem.ClaimMapViews
import Derived.JoinedTies
import Derived.KernelRfl
namespace Go.Proofs.Ytappjlebkjmooaa
/- THE CELL 'sum', in the pinned program and in every row, IS THE sha256 OF THE DUMP (.gsa) THAT YtappjlebkjmooaaProg.lean LOADS. Nothing in Lean hashes anything: it is a label: what it is worth is what the hold of that sum in a sandbox is worth. -/
noncomputable def Try.pinned : Pinned := { name := "ytappjlebkjmooaa", sum := "b13588f6fea6e402698e91c88f7c2db41aa4eb218eff9cd033c5180e4996b8b4", checked := Try.checked }
namespace Rows
def none {H : Type} : Left H := { results := [], args := [] }

/-- 'tactilelaw03.ParamsBack': WHATEVER THE INPUT: true; the input reads as it did. -/
def paramsBackSpec : ChangeSpec := { name := "paramsBack", fn := fun _ => fun
  | [d] => { results := [.lit (.bool true)], args := [d] }
  | _ => none }
def paramsBackRow : OpenClaim := { program := "ytappjlebkjmooaa", sum := "b13588f6fea6e402698e91c88f7c2db41aa4eb218eff9cd033c5180e4996b8b4", func := "tactile/tactilelaw03.ParamsBack", spec := "paramsBack", apart := false }
def ParamsBackSaid : Prop := paramsBackRow.holds Try.pinned (OpenSpec.ofChange paramsBackSpec)

/-- ITS FALSE NEIGHBOUR: 'it returns false'. Refute it at one input. -/
def paramsBackWrong : ChangeSpec := { name := "paramsBack", fn := fun _ => fun
  | [d] => { results := [.lit (.bool false)], args := [d] }
  | _ => none }
def ParamsBackWrongFalsely : Prop := paramsBackRow.holds Try.pinned (OpenSpec.ofChange paramsBackWrong)

/-- 'tactilelaw03.ParamsHeld': WHATEVER THE INPUT: true; the input reads as it did. -/
def paramsHeldSpec : ChangeSpec := { name := "paramsHeld", fn := fun _ => fun
  | [d1, d2] => { results := [.lit (.bool true)], args := [d1, d2] }
  | _ => none }
def paramsHeldRow : OpenClaim := { program := "ytappjlebkjmooaa", sum := "b13588f6fea6e402698e91c88f7c2db41aa4eb218eff9cd033c5180e4996b8b4", func := "tactile/tactilelaw03.ParamsHeld", spec := "paramsHeld", apart := false }
def ParamsHeldSaid : Prop := paramsHeldRow.holds Try.pinned (OpenSpec.ofChange paramsHeldSpec)

/-- ITS FALSE NEIGHBOUR: 'it returns false'. Refute it at one input. -/
def paramsHeldWrong : ChangeSpec := { name := "paramsHeld", fn := fun _ => fun
  | [d1, d2] => { results := [.lit (.bool false)], args := [d1, d2] }
  | _ => none }
def ParamsHeldWrongFalsely : Prop := paramsHeldRow.holds Try.pinned (OpenSpec.ofChange paramsHeldWrong)

/-- 'tactilelaw03.ParamsPlays': WHATEVER THE INPUT: true; the input reads as it did. -/
def paramsPlaysSpec : ChangeSpec := { name := "paramsPlays", fn := fun _ => fun
  | [d1, d2, d3] => { results := [.lit (.bool true)], args := [d1, d2, d3] }
  | _ => none }
def paramsPlaysRow : OpenClaim := { program := "ytappjlebkjmooaa", sum := "b13588f6fea6e402698e91c88f7c2db41aa4eb218eff9cd033c5180e4996b8b4", func := "tactile/tactilelaw03.ParamsPlays", spec := "paramsPlays", apart := false }
def ParamsPlaysSaid : Prop := paramsPlaysRow.holds Try.pinned (OpenSpec.ofChange paramsPlaysSpec)

/-- ITS FALSE NEIGHBOUR: 'it returns false'. Refute it at one input. -/
def paramsPlaysWrong : ChangeSpec := { name := "paramsPlays", fn := fun _ => fun
  | [d1, d2, d3] => { results := [.lit (.bool false)], args := [d1, d2, d3] }
  | _ => none }
def ParamsPlaysWrongFalsely : Prop := paramsPlaysRow.holds Try.pinned (OpenSpec.ofChange paramsPlaysWrong)

/-- 'tactilelaw03.ParamsNone': WHATEVER THE INPUT: true; the input reads as it did. -/
def paramsNoneSpec : ChangeSpec := { name := "paramsNone", fn := fun _ => fun
  | [d1, d2] => { results := [.lit (.bool true)], args := [d1, d2] }
  | _ => none }
def paramsNoneRow : OpenClaim := { program := "ytappjlebkjmooaa", sum := "b13588f6fea6e402698e91c88f7c2db41aa4eb218eff9cd033c5180e4996b8b4", func := "tactile/tactilelaw03.ParamsNone", spec := "paramsNone", apart := false }
def ParamsNoneSaid : Prop := paramsNoneRow.holds Try.pinned (OpenSpec.ofChange paramsNoneSpec)

/-- ITS FALSE NEIGHBOUR: 'it returns false'. Refute it at one input. -/
def paramsNoneWrong : ChangeSpec := { name := "paramsNone", fn := fun _ => fun
  | [d1, d2] => { results := [.lit (.bool false)], args := [d1, d2] }
  | _ => none }
def ParamsNoneWrongFalsely : Prop := paramsNoneRow.holds Try.pinned (OpenSpec.ofChange paramsNoneWrong)

/- THE SECOND FORM. 'bulk': how many values and letters a reading holds, each counted each time it is reached (what is shared counts as often as it is met; a slice's spare places count too). A statement '..UptoSaid' is the law's where the arguments, and the package variables that the reading takes, are together of bulk at most 1048576: NARROWER than '..Said'. Prove '..Said' where nothing that the law and all that it calls make is longer than what came in: it says more and counts as full. Else prove '..UptoSaid'. A law counts once. -/
mutual
def uptoBulk {H : Type} : DataW H → Nat
  | .lit (.string bytes) => bytes.length + 1
  | .lit _ => 1
  | .nil => 1
  | .ptr d => uptoBulk d + 1
  | .slice elems spare => uptoBulkAll elems + uptoBulkAll spare + 1
  | .agg parts => uptoBulkAll parts + 1
  | .iface _ d => uptoBulk d + 1
  | .map entries => uptoBulkEntries entries + 1
  | .held _ => 1
def uptoBulkAll {H : Type} : List (DataW H) → Nat
  | [] => 0
  | d :: r => uptoBulk d + uptoBulkAll r
def uptoBulkEntries {H : Type} : List (Lit × DataW H) → Nat
  | [] => 0
  | x :: r => uptoBulkEntry x + uptoBulkEntries r
def uptoBulkEntry {H : Type} : Lit × DataW H → Nat
  | (.string bytes, d) => bytes.length + uptoBulk d + 1
  | (_, d) => uptoBulk d + 1
 end
def uptoSmall : (H : Type) → List (DataW H) → Bool := fun _ ds => decide (uptoBulkAll ds ≤ 1048576)
def OpenSpec.upto (s : _root_.Go.ChangeSpec) : _root_.Go.OpenSpec := { _root_.Go.OpenSpec.ofChange s with cond := some uptoSmall }

/-- 'tactilelaw03.ParamsBack', WHERE WHAT IT READS IS OF BULK AT MOST 1048576: true; the input reads as it did. -/
def paramsBackUptoRow : OpenClaim := { program := "ytappjlebkjmooaa", sum := "b13588f6fea6e402698e91c88f7c2db41aa4eb218eff9cd033c5180e4996b8b4", func := "tactile/tactilelaw03.ParamsBack", spec := "paramsBack", apart := false, narrowed := true }
def ParamsBackUptoSaid : Prop := paramsBackUptoRow.holds Try.pinned (OpenSpec.upto paramsBackSpec)

/-- 'tactilelaw03.ParamsHeld', WHERE WHAT IT READS IS OF BULK AT MOST 1048576: true; the input reads as it did. -/
def paramsHeldUptoRow : OpenClaim := { program := "ytappjlebkjmooaa", sum := "b13588f6fea6e402698e91c88f7c2db41aa4eb218eff9cd033c5180e4996b8b4", func := "tactile/tactilelaw03.ParamsHeld", spec := "paramsHeld", apart := false, narrowed := true }
def ParamsHeldUptoSaid : Prop := paramsHeldUptoRow.holds Try.pinned (OpenSpec.upto paramsHeldSpec)

/-- 'tactilelaw03.ParamsPlays', WHERE WHAT IT READS IS OF BULK AT MOST 1048576: true; the input reads as it did. -/
def paramsPlaysUptoRow : OpenClaim := { program := "ytappjlebkjmooaa", sum := "b13588f6fea6e402698e91c88f7c2db41aa4eb218eff9cd033c5180e4996b8b4", func := "tactile/tactilelaw03.ParamsPlays", spec := "paramsPlays", apart := false, narrowed := true }
def ParamsPlaysUptoSaid : Prop := paramsPlaysUptoRow.holds Try.pinned (OpenSpec.upto paramsPlaysSpec)

/-- 'tactilelaw03.ParamsNone', WHERE WHAT IT READS IS OF BULK AT MOST 1048576: true; the input reads as it did. -/
def paramsNoneUptoRow : OpenClaim := { program := "ytappjlebkjmooaa", sum := "b13588f6fea6e402698e91c88f7c2db41aa4eb218eff9cd033c5180e4996b8b4", func := "tactile/tactilelaw03.ParamsNone", spec := "paramsNone", apart := false, narrowed := true }
def ParamsNoneUptoSaid : Prop := paramsNoneUptoRow.holds Try.pinned (OpenSpec.upto paramsNoneSpec)

end Rows
end Go.Proofs.Ytappjlebkjmooaa
