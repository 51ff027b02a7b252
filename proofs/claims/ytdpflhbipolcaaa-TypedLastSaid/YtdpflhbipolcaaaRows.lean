/-
  No cell of these rows narrows 'for every input' (looked for: loops, veiled, ifaces, maps, wideKeys, modest, calm, conditions, laid).
  DERIVED. THE GIVEN ROWS OF THIS SEAT. 3 by the template 'for every input the law returns true; each argument reads behind the call as it read before'; 0 by the template 'total and deterministic' (their statements: YtdpflhbipolcaaaTotals.lean).
  GIVEN WITH THE SEED: the statements are not yours to turn. If you find one false, say at which input.
  Laid BY PROGRAM, IN A SANDBOX (cutbox-rows.mjs): the forced cells as the released guide's own fill.sh prints them over the translation 6cb9f88f68f0ac14… (all of the seat's roots in one cut). By AI agents, Wed Nov 11 2026. No macro, syntax, notation, axiom, sorry.
-/
import Derived.Test.YtdpflhbipolcaaaChecked
import GoSem.Claim
import GoSem.ClaimJoined
import GoSem.ClaimMapViews
import Derived.JoinedTies
import Derived.KernelRfl
namespace Go.Proofs.Ytdpflhbipolcaaa
/- THE CELL 'sum', in the pinned program and in every row, IS THE sha256 OF THE DUMP (.gsa) THAT YtdpflhbipolcaaaProg.lean LOADS. Nothing in Lean hashes anything: it is a label: what it is worth is what the hold of that sum in a sandbox is worth. -/
noncomputable def Try.pinned : Pinned := { name := "ytdpflhbipolcaaa", sum := "6cb9f88f68f0ac1454135492a162a69decc3375fa6aeb93f10f152796bcec590", checked := Try.checked }
namespace Rows
def none {H : Type} : Left H := { results := [], args := [] }

/-- 'tactilelaw14.TypedInOrder': WHATEVER THE INPUT: true; the input reads as it did. -/
def typedInOrderSpec : ChangeSpec := { name := "typedInOrder", fn := fun _ => fun
  | [d1, d2, d3, d4] => { results := [.lit (.bool true)], args := [d1, d2, d3, d4] }
  | _ => none }
def typedInOrderRow : OpenClaim := { program := "ytdpflhbipolcaaa", sum := "6cb9f88f68f0ac1454135492a162a69decc3375fa6aeb93f10f152796bcec590", func := "tactile/tactilelaw14.TypedInOrder", spec := "typedInOrder", unfollowed := true, recurses := true, apart := false }
def TypedInOrderSaid : Prop := typedInOrderRow.holds Try.pinned (OpenSpec.ofChange typedInOrderSpec)

/-- ITS FALSE NEIGHBOUR: 'it returns false'. Refute it at one input. -/
def typedInOrderWrong : ChangeSpec := { name := "typedInOrder", fn := fun _ => fun
  | [d1, d2, d3, d4] => { results := [.lit (.bool false)], args := [d1, d2, d3, d4] }
  | _ => none }
def TypedInOrderWrongFalsely : Prop := typedInOrderRow.holds Try.pinned (OpenSpec.ofChange typedInOrderWrong)

/-- 'tactilelaw14.TypedLast': WHATEVER THE INPUT: true; the input reads as it did. -/
def typedLastSpec : ChangeSpec := { name := "typedLast", fn := fun _ => fun
  | [d1, d2] => { results := [.lit (.bool true)], args := [d1, d2] }
  | _ => none }
def typedLastRow : OpenClaim := { program := "ytdpflhbipolcaaa", sum := "6cb9f88f68f0ac1454135492a162a69decc3375fa6aeb93f10f152796bcec590", func := "tactile/tactilelaw14.TypedLast", spec := "typedLast", unfollowed := true, recurses := true, apart := false }
def TypedLastSaid : Prop := typedLastRow.holds Try.pinned (OpenSpec.ofChange typedLastSpec)

/-- ITS FALSE NEIGHBOUR: 'it returns false'. Refute it at one input. -/
def typedLastWrong : ChangeSpec := { name := "typedLast", fn := fun _ => fun
  | [d1, d2] => { results := [.lit (.bool false)], args := [d1, d2] }
  | _ => none }
def TypedLastWrongFalsely : Prop := typedLastRow.holds Try.pinned (OpenSpec.ofChange typedLastWrong)

/-- 'tactilelaw14.TypedNone': WHATEVER THE INPUT: true; the input reads as it did. -/
def typedNoneSpec : ChangeSpec := { name := "typedNone", fn := fun _ => fun
  | [d1, d2] => { results := [.lit (.bool true)], args := [d1, d2] }
  | _ => none }
def typedNoneRow : OpenClaim := { program := "ytdpflhbipolcaaa", sum := "6cb9f88f68f0ac1454135492a162a69decc3375fa6aeb93f10f152796bcec590", func := "tactile/tactilelaw14.TypedNone", spec := "typedNone", unfollowed := true, recurses := true, apart := false }
def TypedNoneSaid : Prop := typedNoneRow.holds Try.pinned (OpenSpec.ofChange typedNoneSpec)

/-- ITS FALSE NEIGHBOUR: 'it returns false'. Refute it at one input. -/
def typedNoneWrong : ChangeSpec := { name := "typedNone", fn := fun _ => fun
  | [d1, d2] => { results := [.lit (.bool false)], args := [d1, d2] }
  | _ => none }
def TypedNoneWrongFalsely : Prop := typedNoneRow.holds Try.pinned (OpenSpec.ofChange typedNoneWrong)

/- THE SECOND FORM. 'bulk': how many values and letters a reading holds, each counted each time it is reached (what is shared counts as often as it is met; a slice's spare places count too). A statement '..UptoSaid' is the law's where the arguments, and the package variables that the reading takes, are together of bulk at most 1048576: NARROWER than '..Said'. Prove '..Said' where nothing that the law and all that it calls make is longer than what came in: it says more and counts as full. Else prove '..UptoSaid'. A law counts once. -/
mutual
def uptoBulk {H : Type} : DataW H → Nat
  | .lit (.string bytes) => bytes.length + 1
  | .lit _ => 1
  | .nil => 1
  | .ptr d => uptoBulk d + 1
  | .slice elems spare => uptoBulkAll elems + uptoBulkAll spare + 1
  | .agg parts => uptoBulkAll parts + 1
  | .iface _ d => uptoBulk d + 1
  | .map entries => uptoBulkEntries entries + 1
  | .held _ => 1
def uptoBulkAll {H : Type} : List (DataW H) → Nat
  | [] => 0
  | d :: r => uptoBulk d + uptoBulkAll r
def uptoBulkEntries {H : Type} : List (Lit × DataW H) → Nat
  | [] => 0
  | x :: r => uptoBulkEntry x + uptoBulkEntries r
def uptoBulkEntry {H : Type} : Lit × DataW H → Nat
  | (.string bytes, d) => bytes.length + uptoBulk d + 1
  | (_, d) => uptoBulk d + 1
 end
def uptoSmall : (H : Type) → List (DataW H) → Bool := fun _ ds => decide (uptoBulkAll ds ≤ 1048576)
def OpenSpec.upto (s : _root_.Go.ChangeSpec) : _root_.Go.OpenSpec := { _root_.Go.OpenSpec.ofChange s with cond := some uptoSmall }

/-- 'tactilelaw14.TypedInOrder', WHERE WHAT IT READS IS OF BULK AT MOST 1048576: true; the input reads as it did. -/
def typedInOrderUptoRow : OpenClaim := { program := "ytdpflhbipolcaaa", sum := "6cb9f88f68f0ac1454135492a162a69decc3375fa6aeb93f10f152796bcec590", func := "tactile/tactilelaw14.TypedInOrder", spec := "typedInOrder", unfollowed := true, recurses := true, apart := false, narrowed := true }
def TypedInOrderUptoSaid : Prop := typedInOrderUptoRow.holds Try.pinned (OpenSpec.upto typedInOrderSpec)

/-- 'tactilelaw14.TypedLast', WHERE WHAT IT READS IS OF BULK AT MOST 1048576: true; the input reads as it did. -/
def typedLastUptoRow : OpenClaim := { program := "ytdpflhbipolcaaa", sum := "6cb9f88f68f0ac1454135492a162a69decc3375fa6aeb93f10f152796bcec590", func := "tactile/tactilelaw14.TypedLast", spec := "typedLast", unfollowed := true, recurses := true, apart := false, narrowed := true }
def TypedLastUptoSaid : Prop := typedLastUptoRow.holds Try.pinned (OpenSpec.upto typedLastSpec)

/-- 'tactilelaw14.TypedNone', WHERE WHAT IT READS IS OF BULK AT MOST 1048576: true; the input reads as it did. -/
def typedNoneUptoRow : OpenClaim := { program := "ytdpflhbipolcaaa", sum := "6cb9f88f68f0ac1454135492a162a69decc3375fa6aeb93f10f152796bcec590", func := "tactile/tactilelaw14.TypedNone", spec := "typedNone", unfollowed := true, recurses := true, apart := false, narrowed := true }
def TypedNoneUptoSaid : Prop := typedNoneUptoRow.holds Try.pinned (OpenSpec.upto typedNoneSpec)

end Rows
end Go.Proofs.Ytdpflhbipolcaaa
