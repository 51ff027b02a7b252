/-
  No cell of these rows narrows 'for every input' (looked for: loops, veiled, ifaces, maps, wideKeys, modest, calm, conditions, laid).
  DERIVED. THE GIVEN ROWS OF THIS SEAT. 4 by the template 'for every input the law returns true; each argument reads behind the call as it read before'; 0 by the template 'total and deterministic' (their statements: YtkmbgnonpnhfcaaTotals.lean).
  GIVEN WITH THE SEED: the statements are not yours to turn. If you find one false, say at which input.
  Laid BY PROGRAM, IN A SANDBOX (cutbox-rows.mjs): the forced cells as the released guide's own fill.sh prints them over the translation 293503a6887bf4e8… (all of the seat's roots in one cut). By AI agents, Wed Nov 11 2026. No macro, syntax, notation, axiom, sorry.
-/
import Derived.Test.YtkmbgnonpnhfcaaChecked
import GoSem.Claim
import GoSem.ClaimJoined
import GoSem.ClaimMapViews
import Derived.JoinedTies
import Derived.KernelRfl
namespace Go.Proofs.Ytkmbgnonpnhfcaa
/- THE CELL 'sum', in the pinned program and in every row, IS THE sha256 OF THE DUMP (.gsa) THAT YtkmbgnonpnhfcaaProg.lean LOADS. Nothing in Lean hashes anything: it is a label: what it is worth is what the hold of that sum in a sandbox is worth. -/
noncomputable def Try.pinned : Pinned := { name := "ytkmbgnonpnhfcaa", sum := "293503a6887bf4e808e68b91c33f36da36f167b276db9400a7c947bf90c2f6a6", checked := Try.checked }
namespace Rows
def none {H : Type} : Left H := { results := [], args := [] }

/-- 'tactilelaw05.SgrLast': WHATEVER THE INPUT: true; the input reads as it did. -/
def sgrLastSpec : ChangeSpec := { name := "sgrLast", fn := fun _ => fun
  | [d1, d2, d3] => { results := [.lit (.bool true)], args := [d1, d2, d3] }
  | _ => none }
def sgrLastRow : OpenClaim := { program := "ytkmbgnonpnhfcaa", sum := "293503a6887bf4e808e68b91c33f36da36f167b276db9400a7c947bf90c2f6a6", func := "tactile/tactilelaw05.SgrLast", spec := "sgrLast", apart := false }
def SgrLastSaid : Prop := sgrLastRow.holds Try.pinned (OpenSpec.ofChange sgrLastSpec)

/-- ITS FALSE NEIGHBOUR: 'it returns false'. Refute it at one input. -/
def sgrLastWrong : ChangeSpec := { name := "sgrLast", fn := fun _ => fun
  | [d1, d2, d3] => { results := [.lit (.bool false)], args := [d1, d2, d3] }
  | _ => none }
def SgrLastWrongFalsely : Prop := sgrLastRow.holds Try.pinned (OpenSpec.ofChange sgrLastWrong)

/-- 'tactilelaw05.SgrApplies': WHATEVER THE INPUT: true; the input reads as it did. -/
def sgrAppliesSpec : ChangeSpec := { name := "sgrApplies", fn := fun _ => fun
  | [d1, d2] => { results := [.lit (.bool true)], args := [d1, d2] }
  | _ => none }
def sgrAppliesRow : OpenClaim := { program := "ytkmbgnonpnhfcaa", sum := "293503a6887bf4e808e68b91c33f36da36f167b276db9400a7c947bf90c2f6a6", func := "tactile/tactilelaw05.SgrApplies", spec := "sgrApplies", apart := false }
def SgrAppliesSaid : Prop := sgrAppliesRow.holds Try.pinned (OpenSpec.ofChange sgrAppliesSpec)

/-- ITS FALSE NEIGHBOUR: 'it returns false'. Refute it at one input. -/
def sgrAppliesWrong : ChangeSpec := { name := "sgrApplies", fn := fun _ => fun
  | [d1, d2] => { results := [.lit (.bool false)], args := [d1, d2] }
  | _ => none }
def SgrAppliesWrongFalsely : Prop := sgrAppliesRow.holds Try.pinned (OpenSpec.ofChange sgrAppliesWrong)

/-- 'tactilelaw05.SgrParts': WHATEVER THE INPUT: true; the input reads as it did. -/
def sgrPartsSpec : ChangeSpec := { name := "sgrParts", fn := fun _ => fun
  | [d1, d2, d3] => { results := [.lit (.bool true)], args := [d1, d2, d3] }
  | _ => none }
def sgrPartsRow : OpenClaim := { program := "ytkmbgnonpnhfcaa", sum := "293503a6887bf4e808e68b91c33f36da36f167b276db9400a7c947bf90c2f6a6", func := "tactile/tactilelaw05.SgrParts", spec := "sgrParts", apart := false }
def SgrPartsSaid : Prop := sgrPartsRow.holds Try.pinned (OpenSpec.ofChange sgrPartsSpec)

/-- ITS FALSE NEIGHBOUR: 'it returns false'. Refute it at one input. -/
def sgrPartsWrong : ChangeSpec := { name := "sgrParts", fn := fun _ => fun
  | [d1, d2, d3] => { results := [.lit (.bool false)], args := [d1, d2, d3] }
  | _ => none }
def SgrPartsWrongFalsely : Prop := sgrPartsRow.holds Try.pinned (OpenSpec.ofChange sgrPartsWrong)

/-- 'tactilelaw05.SgrTells': WHATEVER THE INPUT: true; the input reads as it did. -/
def sgrTellsSpec : ChangeSpec := { name := "sgrTells", fn := fun _ => fun
  | [d1, d2] => { results := [.lit (.bool true)], args := [d1, d2] }
  | _ => none }
def sgrTellsRow : OpenClaim := { program := "ytkmbgnonpnhfcaa", sum := "293503a6887bf4e808e68b91c33f36da36f167b276db9400a7c947bf90c2f6a6", func := "tactile/tactilelaw05.SgrTells", spec := "sgrTells", apart := false }
def SgrTellsSaid : Prop := sgrTellsRow.holds Try.pinned (OpenSpec.ofChange sgrTellsSpec)

/-- ITS FALSE NEIGHBOUR: 'it returns false'. Refute it at one input. -/
def sgrTellsWrong : ChangeSpec := { name := "sgrTells", fn := fun _ => fun
  | [d1, d2] => { results := [.lit (.bool false)], args := [d1, d2] }
  | _ => none }
def SgrTellsWrongFalsely : Prop := sgrTellsRow.holds Try.pinned (OpenSpec.ofChange sgrTellsWrong)

/- THE SECOND FORM. 'bulk': how many values and letters a reading holds, each counted each time it is reached (what is shared counts as often as it is met; a slice's spare places count too). A statement '..UptoSaid' is the law's where the arguments, and the package variables that the reading takes, are together of bulk at most 1048576: NARROWER than '..Said'. Prove '..Said' where nothing that the law and all that it calls make is longer than what came in: it says more and counts as full. Else prove '..UptoSaid'. A law counts once. -/
mutual
def uptoBulk {H : Type} : DataW H → Nat
  | .lit (.string bytes) => bytes.length + 1
  | .lit _ => 1
  | .nil => 1
  | .ptr d => uptoBulk d + 1
  | .slice elems spare => uptoBulkAll elems + uptoBulkAll spare + 1
  | .agg parts => uptoBulkAll parts + 1
  | .iface _ d => uptoBulk d + 1
  | .map entries => uptoBulkEntries entries + 1
  | .held _ => 1
def uptoBulkAll {H : Type} : List (DataW H) → Nat
  | [] => 0
  | d :: r => uptoBulk d + uptoBulkAll r
def uptoBulkEntries {H : Type} : List (Lit × DataW H) → Nat
  | [] => 0
  | x :: r => uptoBulkEntry x + uptoBulkEntries r
def uptoBulkEntry {H : Type} : Lit × DataW H → Nat
  | (.string bytes, d) => bytes.length + uptoBulk d + 1
  | (_, d) => uptoBulk d + 1
 end
def uptoSmall : (H : Type) → List (DataW H) → Bool := fun _ ds => decide (uptoBulkAll ds ≤ 1048576)
def OpenSpec.upto (s : _root_.Go.ChangeSpec) : _root_.Go.OpenSpec := { _root_.Go.OpenSpec.ofChange s with cond := some uptoSmall }

/-- 'tactilelaw05.SgrLast', WHERE WHAT IT READS IS OF BULK AT MOST 1048576: true; the input reads as it did. -/
def sgrLastUptoRow : OpenClaim := { program := "ytkmbgnonpnhfcaa", sum := "293503a6887bf4e808e68b91c33f36da36f167b276db9400a7c947bf90c2f6a6", func := "tactile/tactilelaw05.SgrLast", spec := "sgrLast", apart := false, narrowed := true }
def SgrLastUptoSaid : Prop := sgrLastUptoRow.holds Try.pinned (OpenSpec.upto sgrLastSpec)

/-- 'tactilelaw05.SgrApplies', WHERE WHAT IT READS IS OF BULK AT MOST 1048576: true; the input reads as it did. -/
def sgrAppliesUptoRow : OpenClaim := { program := "ytkmbgnonpnhfcaa", sum := "293503a6887bf4e808e68b91c33f36da36f167b276db9400a7c947bf90c2f6a6", func := "tactile/tactilelaw05.SgrApplies", spec := "sgrApplies", apart := false, narrowed := true }
def SgrAppliesUptoSaid : Prop := sgrAppliesUptoRow.holds Try.pinned (OpenSpec.upto sgrAppliesSpec)

/-- 'tactilelaw05.SgrParts', WHERE WHAT IT READS IS OF BULK AT MOST 1048576: true; the input reads as it did. -/
def sgrPartsUptoRow : OpenClaim := { program := "ytkmbgnonpnhfcaa", sum := "293503a6887bf4e808e68b91c33f36da36f167b276db9400a7c947bf90c2f6a6", func := "tactile/tactilelaw05.SgrParts", spec := "sgrParts", apart := false, narrowed := true }
def SgrPartsUptoSaid : Prop := sgrPartsUptoRow.holds Try.pinned (OpenSpec.upto sgrPartsSpec)

/-- 'tactilelaw05.SgrTells', WHERE WHAT IT READS IS OF BULK AT MOST 1048576: true; the input reads as it did. -/
def sgrTellsUptoRow : OpenClaim := { program := "ytkmbgnonpnhfcaa", sum := "293503a6887bf4e808e68b91c33f36da36f167b276db9400a7c947bf90c2f6a6", func := "tactile/tactilelaw05.SgrTells", spec := "sgrTells", apart := false, narrowed := true }
def SgrTellsUptoSaid : Prop := sgrTellsUptoRow.holds Try.pinned (OpenSpec.upto sgrTellsSpec)

end Rows
end Go.Proofs.Ytkmbgnonpnhfcaa
