/-
  No cell of these rows narrows 'for every input' (looked for: loops, veiled, ifaces, maps, wideKeys, modest, calm, conditions, laid).
  DERIVED. THE GIVEN ROWS OF THIS SEAT. 4 by the template 'for every input the law returns true; each argument reads behind the call as it read before'; 0 by the template 'total and deterministic' (their statements: YtinfgebdcjaabaaTotals.lean).
  GIVEN WITH THE SEED: the statements are not yours to turn. If you find one false, say at which input.
  Laid BY PROGRAM, IN A SANDBOX (cutbox-rows.mjs): the forced cells as the released guide's own fill.sh prints them over the translation da3151ae9e41607d… (all of the seat's roots in one cut). By AI agents, Wed Nov 11 2026. No macro, syntax, notation, axiom, sorry.
-/
import Derived.Test.YtinfgebdcjaabaaChecked
import GoSem.Claim
import GoSem.ClaimJoined
import GoSem.ClaimMapViews
import Derived.JoinedTies
import Derived.KernelRfl
namespace Go.Proofs.Ytinfgebdcjaabaa
/- THE CELL 'sum', in the pinned program and in every row, IS THE sha256 OF THE DUMP (.gsa) THAT YtinfgebdcjaabaaProg.lean LOADS. Nothing in Lean hashes anything: it is a label: what it is worth is what the hold of that sum in a sandbox is worth. -/
noncomputable def Try.pinned : Pinned := { name := "ytinfgebdcjaabaa", sum := "da3151ae9e41607defe5075bdb6207b53c6c14146d1c7b582ce90155e420f9db", checked := Try.checked }
namespace Rows
def none {H : Type} : Left H := { results := [], args := [] }

/-- 'tactilelaw18.QueueInterrupts': WHATEVER THE INPUT: true; the input reads as it did. -/
def queueInterruptsSpec : ChangeSpec := { name := "queueInterrupts", fn := fun _ => fun
  | [d1, d2, d3] => { results := [.lit (.bool true)], args := [d1, d2, d3] }
  | _ => none }
def queueInterruptsRow : OpenClaim := { program := "ytinfgebdcjaabaa", sum := "da3151ae9e41607defe5075bdb6207b53c6c14146d1c7b582ce90155e420f9db", func := "tactile/tactilelaw18.QueueInterrupts", spec := "queueInterrupts", inPlace := ["sync/atomic.AddInt64"], unfollowed := true, recurses := true, apart := false }
def QueueInterruptsSaid : Prop := queueInterruptsRow.holds Try.pinned (OpenSpec.ofChange queueInterruptsSpec)

/-- ITS FALSE NEIGHBOUR: 'it returns false'. Refute it at one input. -/
def queueInterruptsWrong : ChangeSpec := { name := "queueInterrupts", fn := fun _ => fun
  | [d1, d2, d3] => { results := [.lit (.bool false)], args := [d1, d2, d3] }
  | _ => none }
def QueueInterruptsWrongFalsely : Prop := queueInterruptsRow.holds Try.pinned (OpenSpec.ofChange queueInterruptsWrong)

/-- 'tactilelaw18.QueueFates': WHATEVER THE INPUT: true; the input reads as it did. -/
def queueFatesSpec : ChangeSpec := { name := "queueFates", fn := fun _ => fun
  | [d1, d2] => { results := [.lit (.bool true)], args := [d1, d2] }
  | _ => none }
def queueFatesRow : OpenClaim := { program := "ytinfgebdcjaabaa", sum := "da3151ae9e41607defe5075bdb6207b53c6c14146d1c7b582ce90155e420f9db", func := "tactile/tactilelaw18.QueueFates", spec := "queueFates", inPlace := ["sync/atomic.AddInt64"], unfollowed := true, recurses := true, apart := false }
def QueueFatesSaid : Prop := queueFatesRow.holds Try.pinned (OpenSpec.ofChange queueFatesSpec)

/-- ITS FALSE NEIGHBOUR: 'it returns false'. Refute it at one input. -/
def queueFatesWrong : ChangeSpec := { name := "queueFates", fn := fun _ => fun
  | [d1, d2] => { results := [.lit (.bool false)], args := [d1, d2] }
  | _ => none }
def QueueFatesWrongFalsely : Prop := queueFatesRow.holds Try.pinned (OpenSpec.ofChange queueFatesWrong)

/-- 'tactilelaw18.QueuePlays': WHATEVER THE INPUT: true; the input reads as it did. -/
def queuePlaysSpec : ChangeSpec := { name := "queuePlays", fn := fun _ => fun
  | [d1, d2] => { results := [.lit (.bool true)], args := [d1, d2] }
  | _ => none }
def queuePlaysRow : OpenClaim := { program := "ytinfgebdcjaabaa", sum := "da3151ae9e41607defe5075bdb6207b53c6c14146d1c7b582ce90155e420f9db", func := "tactile/tactilelaw18.QueuePlays", spec := "queuePlays", inPlace := ["sync/atomic.AddInt64"], unfollowed := true, recurses := true, apart := false }
def QueuePlaysSaid : Prop := queuePlaysRow.holds Try.pinned (OpenSpec.ofChange queuePlaysSpec)

/-- ITS FALSE NEIGHBOUR: 'it returns false'. Refute it at one input. -/
def queuePlaysWrong : ChangeSpec := { name := "queuePlays", fn := fun _ => fun
  | [d1, d2] => { results := [.lit (.bool false)], args := [d1, d2] }
  | _ => none }
def QueuePlaysWrongFalsely : Prop := queuePlaysRow.holds Try.pinned (OpenSpec.ofChange queuePlaysWrong)

/-- 'tactilelaw18.QueueNone': WHATEVER THE INPUT: true; the input reads as it did. -/
def queueNoneSpec : ChangeSpec := { name := "queueNone", fn := fun _ => fun
  | [d] => { results := [.lit (.bool true)], args := [d] }
  | _ => none }
def queueNoneRow : OpenClaim := { program := "ytinfgebdcjaabaa", sum := "da3151ae9e41607defe5075bdb6207b53c6c14146d1c7b582ce90155e420f9db", func := "tactile/tactilelaw18.QueueNone", spec := "queueNone", inPlace := ["sync/atomic.AddInt64"], unfollowed := true, recurses := true, apart := false }
def QueueNoneSaid : Prop := queueNoneRow.holds Try.pinned (OpenSpec.ofChange queueNoneSpec)

/-- ITS FALSE NEIGHBOUR: 'it returns false'. Refute it at one input. -/
def queueNoneWrong : ChangeSpec := { name := "queueNone", fn := fun _ => fun
  | [d] => { results := [.lit (.bool false)], args := [d] }
  | _ => none }
def QueueNoneWrongFalsely : Prop := queueNoneRow.holds Try.pinned (OpenSpec.ofChange queueNoneWrong)

/- THE SECOND FORM. 'bulk': how many values and letters a reading holds, each counted each time it is reached (what is shared counts as often as it is met; a slice's spare places count too). A statement '..UptoSaid' is the law's where the arguments, and the package variables that the reading takes, are together of bulk at most 1048576: NARROWER than '..Said'. Prove '..Said' where nothing that the law and all that it calls make is longer than what came in: it says more and counts as full. Else prove '..UptoSaid'. A law counts once. -/
mutual
def uptoBulk {H : Type} : DataW H → Nat
  | .lit (.string bytes) => bytes.length + 1
  | .lit _ => 1
  | .nil => 1
  | .ptr d => uptoBulk d + 1
  | .slice elems spare => uptoBulkAll elems + uptoBulkAll spare + 1
  | .agg parts => uptoBulkAll parts + 1
  | .iface _ d => uptoBulk d + 1
  | .map entries => uptoBulkEntries entries + 1
  | .held _ => 1
def uptoBulkAll {H : Type} : List (DataW H) → Nat
  | [] => 0
  | d :: r => uptoBulk d + uptoBulkAll r
def uptoBulkEntries {H : Type} : List (Lit × DataW H) → Nat
  | [] => 0
  | x :: r => uptoBulkEntry x + uptoBulkEntries r
def uptoBulkEntry {H : Type} : Lit × DataW H → Nat
  | (.string bytes, d) => bytes.length + uptoBulk d + 1
  | (_, d) => uptoBulk d + 1
 end
def uptoSmall : (H : Type) → List (DataW H) → Bool := fun _ ds => decide (uptoBulkAll ds ≤ 1048576)
def OpenSpec.upto (s : _root_.Go.ChangeSpec) : _root_.Go.OpenSpec := { _root_.Go.OpenSpec.ofChange s with cond := some uptoSmall }

/-- 'tactilelaw18.QueueInterrupts', WHERE WHAT IT READS IS OF BULK AT MOST 1048576: true; the input reads as it did. -/
def queueInterruptsUptoRow : OpenClaim := { program := "ytinfgebdcjaabaa", sum := "da3151ae9e41607defe5075bdb6207b53c6c14146d1c7b582ce90155e420f9db", func := "tactile/tactilelaw18.QueueInterrupts", spec := "queueInterrupts", inPlace := ["sync/atomic.AddInt64"], unfollowed := true, recurses := true, apart := false, narrowed := true }
def QueueInterruptsUptoSaid : Prop := queueInterruptsUptoRow.holds Try.pinned (OpenSpec.upto queueInterruptsSpec)

/-- 'tactilelaw18.QueueFates', WHERE WHAT IT READS IS OF BULK AT MOST 1048576: true; the input reads as it did. -/
def queueFatesUptoRow : OpenClaim := { program := "ytinfgebdcjaabaa", sum := "da3151ae9e41607defe5075bdb6207b53c6c14146d1c7b582ce90155e420f9db", func := "tactile/tactilelaw18.QueueFates", spec := "queueFates", inPlace := ["sync/atomic.AddInt64"], unfollowed := true, recurses := true, apart := false, narrowed := true }
def QueueFatesUptoSaid : Prop := queueFatesUptoRow.holds Try.pinned (OpenSpec.upto queueFatesSpec)

/-- 'tactilelaw18.QueuePlays', WHERE WHAT IT READS IS OF BULK AT MOST 1048576: true; the input reads as it did. -/
def queuePlaysUptoRow : OpenClaim := { program := "ytinfgebdcjaabaa", sum := "da3151ae9e41607defe5075bdb6207b53c6c14146d1c7b582ce90155e420f9db", func := "tactile/tactilelaw18.QueuePlays", spec := "queuePlays", inPlace := ["sync/atomic.AddInt64"], unfollowed := true, recurses := true, apart := false, narrowed := true }
def QueuePlaysUptoSaid : Prop := queuePlaysUptoRow.holds Try.pinned (OpenSpec.upto queuePlaysSpec)

/-- 'tactilelaw18.QueueNone', WHERE WHAT IT READS IS OF BULK AT MOST 1048576: true; the input reads as it did. -/
def queueNoneUptoRow : OpenClaim := { program := "ytinfgebdcjaabaa", sum := "da3151ae9e41607defe5075bdb6207b53c6c14146d1c7b582ce90155e420f9db", func := "tactile/tactilelaw18.QueueNone", spec := "queueNone", inPlace := ["sync/atomic.AddInt64"], unfollowed := true, recurses := true, apart := false, narrowed := true }
def QueueNoneUptoSaid : Prop := queueNoneUptoRow.holds Try.pinned (OpenSpec.upto queueNoneSpec)

end Rows
end Go.Proofs.Ytinfgebdcjaabaa
