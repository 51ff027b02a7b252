/-
  No cell of these rows narrows 'for every input' (looked for: loops, veiled, ifaces, maps, wideKeys, modest, calm, conditions, laid).
  DERIVED. THE GIVEN ROWS OF THIS SEAT. 4 by the template 'for every input the law returns true; each argument reads behind the call as it read before'; 0 by the template 'total and deterministic' (their statements: YtcheljogpffabaaTotals.lean).
  GIVEN WITH THE SEED: the statements are not yours to turn. If you find one false, say at which input.
  Laid BY PROGRAM, IN A SANDBOX (cutbox-rows.mjs): the forced cells as the released guide's own fill.sh prints them over the translation 690a03f0a7cfc6eb… (all of the seat's roots in one cut). By AI agents, Wed Nov 11 2026. No macro, syntax, notation, axiom, sorry.
-/
import Derived.Test.YtcheljogpffabaaChecked
import GoSem.Claim
import GoSem.ClaimJoined
import GoSem.ClaimMapViews
import Derived.JoinedTies
import Derived.KernelRfl
namespace Go.Proofs.Ytcheljogpffabaa
/- THE CELL 'sum', in the pinned program and in every row, IS THE sha256 OF THE DUMP (.gsa) THAT YtcheljogpffabaaProg.lean LOADS. Nothing in Lean hashes anything: it is a label: what it is worth is what the hold of that sum in a sandbox is worth. -/
noncomputable def Try.pinned : Pinned := { name := "ytcheljogpffabaa", sum := "690a03f0a7cfc6eb2f7df84ab290e32e72e3fc4ea6f716e3f74729b50187792b", checked := Try.checked }
namespace Rows
def none {H : Type} : Left H := { results := [], args := [] }

/-- 'tactilelaw21.ReviewAnswers': WHATEVER THE INPUT: true; the input reads as it did. -/
def reviewAnswersSpec : ChangeSpec := { name := "reviewAnswers", fn := fun _ => fun
  | [d1, d2] => { results := [.lit (.bool true)], args := [d1, d2] }
  | _ => none }
def reviewAnswersRow : OpenClaim := { program := "ytcheljogpffabaa", sum := "690a03f0a7cfc6eb2f7df84ab290e32e72e3fc4ea6f716e3f74729b50187792b", func := "tactile/tactilelaw21.ReviewAnswers", spec := "reviewAnswers", unfollowed := true, recurses := true, apart := false }
def ReviewAnswersSaid : Prop := reviewAnswersRow.holds Try.pinned (OpenSpec.ofChange reviewAnswersSpec)

/-- ITS FALSE NEIGHBOUR: 'it returns false'. Refute it at one input. -/
def reviewAnswersWrong : ChangeSpec := { name := "reviewAnswers", fn := fun _ => fun
  | [d1, d2] => { results := [.lit (.bool false)], args := [d1, d2] }
  | _ => none }
def ReviewAnswersWrongFalsely : Prop := reviewAnswersRow.holds Try.pinned (OpenSpec.ofChange reviewAnswersWrong)

/-- 'tactilelaw21.ReviewWithin': WHATEVER THE INPUT: true; the input reads as it did. -/
def reviewWithinSpec : ChangeSpec := { name := "reviewWithin", fn := fun _ => fun
  | [d1, d2] => { results := [.lit (.bool true)], args := [d1, d2] }
  | _ => none }
def reviewWithinRow : OpenClaim := { program := "ytcheljogpffabaa", sum := "690a03f0a7cfc6eb2f7df84ab290e32e72e3fc4ea6f716e3f74729b50187792b", func := "tactile/tactilelaw21.ReviewWithin", spec := "reviewWithin", unfollowed := true, recurses := true, apart := false }
def ReviewWithinSaid : Prop := reviewWithinRow.holds Try.pinned (OpenSpec.ofChange reviewWithinSpec)

/-- ITS FALSE NEIGHBOUR: 'it returns false'. Refute it at one input. -/
def reviewWithinWrong : ChangeSpec := { name := "reviewWithin", fn := fun _ => fun
  | [d1, d2] => { results := [.lit (.bool false)], args := [d1, d2] }
  | _ => none }
def ReviewWithinWrongFalsely : Prop := reviewWithinRow.holds Try.pinned (OpenSpec.ofChange reviewWithinWrong)

/-- 'tactilelaw21.ReviewFollows': WHATEVER THE INPUT: true; the input reads as it did. -/
def reviewFollowsSpec : ChangeSpec := { name := "reviewFollows", fn := fun _ => fun
  | [d1, d2, d3] => { results := [.lit (.bool true)], args := [d1, d2, d3] }
  | _ => none }
def reviewFollowsRow : OpenClaim := { program := "ytcheljogpffabaa", sum := "690a03f0a7cfc6eb2f7df84ab290e32e72e3fc4ea6f716e3f74729b50187792b", func := "tactile/tactilelaw21.ReviewFollows", spec := "reviewFollows", unfollowed := true, recurses := true, apart := false }
def ReviewFollowsSaid : Prop := reviewFollowsRow.holds Try.pinned (OpenSpec.ofChange reviewFollowsSpec)

/-- ITS FALSE NEIGHBOUR: 'it returns false'. Refute it at one input. -/
def reviewFollowsWrong : ChangeSpec := { name := "reviewFollows", fn := fun _ => fun
  | [d1, d2, d3] => { results := [.lit (.bool false)], args := [d1, d2, d3] }
  | _ => none }
def ReviewFollowsWrongFalsely : Prop := reviewFollowsRow.holds Try.pinned (OpenSpec.ofChange reviewFollowsWrong)

/-- 'tactilelaw21.ReviewNone': WHATEVER THE INPUT: true; the input reads as it did. -/
def reviewNoneSpec : ChangeSpec := { name := "reviewNone", fn := fun _ => fun
  | [d] => { results := [.lit (.bool true)], args := [d] }
  | _ => none }
def reviewNoneRow : OpenClaim := { program := "ytcheljogpffabaa", sum := "690a03f0a7cfc6eb2f7df84ab290e32e72e3fc4ea6f716e3f74729b50187792b", func := "tactile/tactilelaw21.ReviewNone", spec := "reviewNone", unfollowed := true, recurses := true, apart := false }
def ReviewNoneSaid : Prop := reviewNoneRow.holds Try.pinned (OpenSpec.ofChange reviewNoneSpec)

/-- ITS FALSE NEIGHBOUR: 'it returns false'. Refute it at one input. -/
def reviewNoneWrong : ChangeSpec := { name := "reviewNone", fn := fun _ => fun
  | [d] => { results := [.lit (.bool false)], args := [d] }
  | _ => none }
def ReviewNoneWrongFalsely : Prop := reviewNoneRow.holds Try.pinned (OpenSpec.ofChange reviewNoneWrong)

/- THE SECOND FORM. 'bulk': how many values and letters a reading holds, each counted each time it is reached (what is shared counts as often as it is met; a slice's spare places count too). A statement '..UptoSaid' is the law's where the arguments, and the package variables that the reading takes, are together of bulk at most 1048576: NARROWER than '..Said'. Prove '..Said' where nothing that the law and all that it calls make is longer than what came in: it says more and counts as full. Else prove '..UptoSaid'. A law counts once. -/
mutual
def uptoBulk {H : Type} : DataW H → Nat
  | .lit (.string bytes) => bytes.length + 1
  | .lit _ => 1
  | .nil => 1
  | .ptr d => uptoBulk d + 1
  | .slice elems spare => uptoBulkAll elems + uptoBulkAll spare + 1
  | .agg parts => uptoBulkAll parts + 1
  | .iface _ d => uptoBulk d + 1
  | .map entries => uptoBulkEntries entries + 1
  | .held _ => 1
def uptoBulkAll {H : Type} : List (DataW H) → Nat
  | [] => 0
  | d :: r => uptoBulk d + uptoBulkAll r
def uptoBulkEntries {H : Type} : List (Lit × DataW H) → Nat
  | [] => 0
  | x :: r => uptoBulkEntry x + uptoBulkEntries r
def uptoBulkEntry {H : Type} : Lit × DataW H → Nat
  | (.string bytes, d) => bytes.length + uptoBulk d + 1
  | (_, d) => uptoBulk d + 1
 end
def uptoSmall : (H : Type) → List (DataW H) → Bool := fun _ ds => decide (uptoBulkAll ds ≤ 1048576)
def OpenSpec.upto (s : _root_.Go.ChangeSpec) : _root_.Go.OpenSpec := { _root_.Go.OpenSpec.ofChange s with cond := some uptoSmall }

/-- 'tactilelaw21.ReviewAnswers', WHERE WHAT IT READS IS OF BULK AT MOST 1048576: true; the input reads as it did. -/
def reviewAnswersUptoRow : OpenClaim := { program := "ytcheljogpffabaa", sum := "690a03f0a7cfc6eb2f7df84ab290e32e72e3fc4ea6f716e3f74729b50187792b", func := "tactile/tactilelaw21.ReviewAnswers", spec := "reviewAnswers", unfollowed := true, recurses := true, apart := false, narrowed := true }
def ReviewAnswersUptoSaid : Prop := reviewAnswersUptoRow.holds Try.pinned (OpenSpec.upto reviewAnswersSpec)

/-- 'tactilelaw21.ReviewWithin', WHERE WHAT IT READS IS OF BULK AT MOST 1048576: true; the input reads as it did. -/
def reviewWithinUptoRow : OpenClaim := { program := "ytcheljogpffabaa", sum := "690a03f0a7cfc6eb2f7df84ab290e32e72e3fc4ea6f716e3f74729b50187792b", func := "tactile/tactilelaw21.ReviewWithin", spec := "reviewWithin", unfollowed := true, recurses := true, apart := false, narrowed := true }
def ReviewWithinUptoSaid : Prop := reviewWithinUptoRow.holds Try.pinned (OpenSpec.upto reviewWithinSpec)

/-- 'tactilelaw21.ReviewFollows', WHERE WHAT IT READS IS OF BULK AT MOST 1048576: true; the input reads as it did. -/
def reviewFollowsUptoRow : OpenClaim := { program := "ytcheljogpffabaa", sum := "690a03f0a7cfc6eb2f7df84ab290e32e72e3fc4ea6f716e3f74729b50187792b", func := "tactile/tactilelaw21.ReviewFollows", spec := "reviewFollows", unfollowed := true, recurses := true, apart := false, narrowed := true }
def ReviewFollowsUptoSaid : Prop := reviewFollowsUptoRow.holds Try.pinned (OpenSpec.upto reviewFollowsSpec)

/-- 'tactilelaw21.ReviewNone', WHERE WHAT IT READS IS OF BULK AT MOST 1048576: true; the input reads as it did. -/
def reviewNoneUptoRow : OpenClaim := { program := "ytcheljogpffabaa", sum := "690a03f0a7cfc6eb2f7df84ab290e32e72e3fc4ea6f716e3f74729b50187792b", func := "tactile/tactilelaw21.ReviewNone", spec := "reviewNone", unfollowed := true, recurses := true, apart := false, narrowed := true }
def ReviewNoneUptoSaid : Prop := reviewNoneUptoRow.holds Try.pinned (OpenSpec.upto reviewNoneSpec)

end Rows
end Go.Proofs.Ytcheljogpffabaa
