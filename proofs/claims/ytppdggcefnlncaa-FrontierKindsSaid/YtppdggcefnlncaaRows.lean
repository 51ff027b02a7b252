/-
  No cell of these rows narrows 'for every input' (looked for: loops, veiled, ifaces, maps, wideKeys, modest, calm, conditions, laid).
  DERIVED. THE GIVEN ROWS OF THIS SEAT. 3 by the template 'for every input the law returns true; each argument reads behind the call as it read before'; 0 by the template 'total and deterministic' (their statements: YtppdggcefnlncaaTotals.lean).
  GIVEN WITH THE SEED: the statements are not yours to turn. If you find one false, say at which input.
  Laid BY PROGRAM, IN A SANDBOX (cutbox-rows.mjs): the forced cells as the released guide's own fill.sh prints them over the translation 1de763b8b782ab5b… (all of the seat's roots in one cut). By AI agents, Wed Nov 11 2026. No macro, syntax, notation, axiom, sorry.
-/
import Derived.Test.YtppdggcefnlncaaChecked
import GoSem.Claim
import GoSem.ClaimJoined
import GoSem.ClaimMapViews
import Derived.JoinedTies
import Derived.KernelRfl
namespace Go.Proofs.Ytppdggcefnlncaa
/- THE CELL 'sum', in the pinned program and in every row, IS THE sha256 OF THE DUMP (.gsa) THAT YtppdggcefnlncaaProg.lean LOADS. Nothing in Lean hashes anything: it is a label: what it is worth is what the hold of that sum in a sandbox is worth. -/
noncomputable def Try.pinned : Pinned := { name := "ytppdggcefnlncaa", sum := "1de763b8b782ab5b71408ec1b82eb288d1a91b677c40d9e1e737720a4270972c", checked := Try.checked }
namespace Rows
def none {H : Type} : Left H := { results := [], args := [] }

/-- 'tactilelaw15.FrontierAppends': WHATEVER THE INPUT: true; the input reads as it did. -/
def frontierAppendsSpec : ChangeSpec := { name := "frontierAppends", fn := fun _ => fun
  | [d1, d2] => { results := [.lit (.bool true)], args := [d1, d2] }
  | _ => none }
def frontierAppendsRow : OpenClaim := { program := "ytppdggcefnlncaa", sum := "1de763b8b782ab5b71408ec1b82eb288d1a91b677c40d9e1e737720a4270972c", func := "tactile/tactilelaw15.FrontierAppends", spec := "frontierAppends", unfollowed := true, recurses := true, apart := false }
def FrontierAppendsSaid : Prop := frontierAppendsRow.holds Try.pinned (OpenSpec.ofChange frontierAppendsSpec)

/-- ITS FALSE NEIGHBOUR: 'it returns false'. Refute it at one input. -/
def frontierAppendsWrong : ChangeSpec := { name := "frontierAppends", fn := fun _ => fun
  | [d1, d2] => { results := [.lit (.bool false)], args := [d1, d2] }
  | _ => none }
def FrontierAppendsWrongFalsely : Prop := frontierAppendsRow.holds Try.pinned (OpenSpec.ofChange frontierAppendsWrong)

/-- 'tactilelaw15.FrontierKinds': WHATEVER THE INPUT: true; the input reads as it did. -/
def frontierKindsSpec : ChangeSpec := { name := "frontierKinds", fn := fun _ => fun
  | [d1, d2, d3] => { results := [.lit (.bool true)], args := [d1, d2, d3] }
  | _ => none }
def frontierKindsRow : OpenClaim := { program := "ytppdggcefnlncaa", sum := "1de763b8b782ab5b71408ec1b82eb288d1a91b677c40d9e1e737720a4270972c", func := "tactile/tactilelaw15.FrontierKinds", spec := "frontierKinds", unfollowed := true, recurses := true, apart := false }
def FrontierKindsSaid : Prop := frontierKindsRow.holds Try.pinned (OpenSpec.ofChange frontierKindsSpec)

/-- ITS FALSE NEIGHBOUR: 'it returns false'. Refute it at one input. -/
def frontierKindsWrong : ChangeSpec := { name := "frontierKinds", fn := fun _ => fun
  | [d1, d2, d3] => { results := [.lit (.bool false)], args := [d1, d2, d3] }
  | _ => none }
def FrontierKindsWrongFalsely : Prop := frontierKindsRow.holds Try.pinned (OpenSpec.ofChange frontierKindsWrong)

/-- 'tactilelaw15.FrontierOther': WHATEVER THE INPUT: true; the input reads as it did. -/
def frontierOtherSpec : ChangeSpec := { name := "frontierOther", fn := fun _ => fun
  | [d1, d2, d3] => { results := [.lit (.bool true)], args := [d1, d2, d3] }
  | _ => none }
def frontierOtherRow : OpenClaim := { program := "ytppdggcefnlncaa", sum := "1de763b8b782ab5b71408ec1b82eb288d1a91b677c40d9e1e737720a4270972c", func := "tactile/tactilelaw15.FrontierOther", spec := "frontierOther", unfollowed := true, recurses := true, apart := false }
def FrontierOtherSaid : Prop := frontierOtherRow.holds Try.pinned (OpenSpec.ofChange frontierOtherSpec)

/-- ITS FALSE NEIGHBOUR: 'it returns false'. Refute it at one input. -/
def frontierOtherWrong : ChangeSpec := { name := "frontierOther", fn := fun _ => fun
  | [d1, d2, d3] => { results := [.lit (.bool false)], args := [d1, d2, d3] }
  | _ => none }
def FrontierOtherWrongFalsely : Prop := frontierOtherRow.holds Try.pinned (OpenSpec.ofChange frontierOtherWrong)

/- THE SECOND FORM. 'bulk': how many values and letters a reading holds, each counted each time it is reached (what is shared counts as often as it is met; a slice's spare places count too). A statement '..UptoSaid' is the law's where the arguments, and the package variables that the reading takes, are together of bulk at most 1048576: NARROWER than '..Said'. Prove '..Said' where nothing that the law and all that it calls make is longer than what came in: it says more and counts as full. Else prove '..UptoSaid'. A law counts once. -/
mutual
def uptoBulk {H : Type} : DataW H → Nat
  | .lit (.string bytes) => bytes.length + 1
  | .lit _ => 1
  | .nil => 1
  | .ptr d => uptoBulk d + 1
  | .slice elems spare => uptoBulkAll elems + uptoBulkAll spare + 1
  | .agg parts => uptoBulkAll parts + 1
  | .iface _ d => uptoBulk d + 1
  | .map entries => uptoBulkEntries entries + 1
  | .held _ => 1
def uptoBulkAll {H : Type} : List (DataW H) → Nat
  | [] => 0
  | d :: r => uptoBulk d + uptoBulkAll r
def uptoBulkEntries {H : Type} : List (Lit × DataW H) → Nat
  | [] => 0
  | x :: r => uptoBulkEntry x + uptoBulkEntries r
def uptoBulkEntry {H : Type} : Lit × DataW H → Nat
  | (.string bytes, d) => bytes.length + uptoBulk d + 1
  | (_, d) => uptoBulk d + 1
 end
def uptoSmall : (H : Type) → List (DataW H) → Bool := fun _ ds => decide (uptoBulkAll ds ≤ 1048576)
def OpenSpec.upto (s : _root_.Go.ChangeSpec) : _root_.Go.OpenSpec := { _root_.Go.OpenSpec.ofChange s with cond := some uptoSmall }

/-- 'tactilelaw15.FrontierAppends', WHERE WHAT IT READS IS OF BULK AT MOST 1048576: true; the input reads as it did. -/
def frontierAppendsUptoRow : OpenClaim := { program := "ytppdggcefnlncaa", sum := "1de763b8b782ab5b71408ec1b82eb288d1a91b677c40d9e1e737720a4270972c", func := "tactile/tactilelaw15.FrontierAppends", spec := "frontierAppends", unfollowed := true, recurses := true, apart := false, narrowed := true }
def FrontierAppendsUptoSaid : Prop := frontierAppendsUptoRow.holds Try.pinned (OpenSpec.upto frontierAppendsSpec)

/-- 'tactilelaw15.FrontierKinds', WHERE WHAT IT READS IS OF BULK AT MOST 1048576: true; the input reads as it did. -/
def frontierKindsUptoRow : OpenClaim := { program := "ytppdggcefnlncaa", sum := "1de763b8b782ab5b71408ec1b82eb288d1a91b677c40d9e1e737720a4270972c", func := "tactile/tactilelaw15.FrontierKinds", spec := "frontierKinds", unfollowed := true, recurses := true, apart := false, narrowed := true }
def FrontierKindsUptoSaid : Prop := frontierKindsUptoRow.holds Try.pinned (OpenSpec.upto frontierKindsSpec)

/-- 'tactilelaw15.FrontierOther', WHERE WHAT IT READS IS OF BULK AT MOST 1048576: true; the input reads as it did. -/
def frontierOtherUptoRow : OpenClaim := { program := "ytppdggcefnlncaa", sum := "1de763b8b782ab5b71408ec1b82eb288d1a91b677c40d9e1e737720a4270972c", func := "tactile/tactilelaw15.FrontierOther", spec := "frontierOther", unfollowed := true, recurses := true, apart := false, narrowed := true }
def FrontierOtherUptoSaid : Prop := frontierOtherUptoRow.holds Try.pinned (OpenSpec.upto frontierOtherSpec)

end Rows
end Go.Proofs.Ytppdggcefnlncaa
