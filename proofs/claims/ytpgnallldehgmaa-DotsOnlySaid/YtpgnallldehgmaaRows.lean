/-
  No cell of these rows narrows 'for every input' (looked for: loops, veiled, ifaces, maps, wideKeys, modest, calm, conditions, laid).
  DERIVED. THE GIVEN ROWS OF THIS SEAT. 4 by the template 'for every input the law returns true; each argument reads behind the call as it read before'; 0 by the template 'total and deterministic' (their statements: YtpgnallldehgmaaTotals.lean).
  GIVEN WITH THE SEED: the statements are not yours to turn. If you find one false, say at which input.
  Laid BY PROGRAM, IN A SANDBOX (cutbox-rows.mjs): the forced cells as the released guide's own fill.sh prints them over the translation e75f278bc2dd57e1… (all of the seat's roots in one cut). By AI agents, Wed Nov 11 2026. No macro, syntax, notation, axiom, sorry.
-/
import Derived.Test.YtpgnallldehgmaaChecked
import GoSem.Claim
import GoSem.ClaimJoined
import GoSem.ClaimMapViews
import Derived.JoinedTies
import Derived.KernelRfl
namespace Go.Proofs.Ytpgnallldehgmaa
/- THE CELL 'sum', in the pinned program and in every row, IS THE sha256 OF THE DUMP (.gsa) THAT YtpgnallldehgmaaProg.lean LOADS. Nothing in Lean hashes anything: it is a label: what it is worth is what the hold of that sum in a sandbox is worth. -/
noncomputable def Try.pinned : Pinned := { name := "ytpgnallldehgmaa", sum := "e75f278bc2dd57e13cdec3c80136dd7a6ed40a3cb0562ae0696e472bd8114b47", checked := Try.checked }
namespace Rows
def none {H : Type} : Left H := { results := [], args := [] }

/-- 'tactilelaw22.DotsRunes': WHATEVER THE INPUT: true; the input reads as it did. -/
def dotsRunesSpec : ChangeSpec := { name := "dotsRunes", fn := fun _ => fun
  | [d1, d2] => { results := [.lit (.bool true)], args := [d1, d2] }
  | _ => none }
def dotsRunesRow : OpenClaim := { program := "ytpgnallldehgmaa", sum := "e75f278bc2dd57e13cdec3c80136dd7a6ed40a3cb0562ae0696e472bd8114b47", func := "tactile/tactilelaw22.DotsRunes", spec := "dotsRunes", apart := false }
def DotsRunesSaid : Prop := dotsRunesRow.holds Try.pinned (OpenSpec.ofChange dotsRunesSpec)

/-- ITS FALSE NEIGHBOUR: 'it returns false'. Refute it at one input. -/
def dotsRunesWrong : ChangeSpec := { name := "dotsRunes", fn := fun _ => fun
  | [d1, d2] => { results := [.lit (.bool false)], args := [d1, d2] }
  | _ => none }
def DotsRunesWrongFalsely : Prop := dotsRunesRow.holds Try.pinned (OpenSpec.ofChange dotsRunesWrong)

/-- 'tactilelaw22.DotsTell': WHATEVER THE INPUT: true; the input reads as it did. -/
def dotsTellSpec : ChangeSpec := { name := "dotsTell", fn := fun _ => fun
  | [d] => { results := [.lit (.bool true)], args := [d] }
  | _ => none }
def dotsTellRow : OpenClaim := { program := "ytpgnallldehgmaa", sum := "e75f278bc2dd57e13cdec3c80136dd7a6ed40a3cb0562ae0696e472bd8114b47", func := "tactile/tactilelaw22.DotsTell", spec := "dotsTell", apart := false }
def DotsTellSaid : Prop := dotsTellRow.holds Try.pinned (OpenSpec.ofChange dotsTellSpec)

/-- ITS FALSE NEIGHBOUR: 'it returns false'. Refute it at one input. -/
def dotsTellWrong : ChangeSpec := { name := "dotsTell", fn := fun _ => fun
  | [d] => { results := [.lit (.bool false)], args := [d] }
  | _ => none }
def DotsTellWrongFalsely : Prop := dotsTellRow.holds Try.pinned (OpenSpec.ofChange dotsTellWrong)

/-- 'tactilelaw22.DotsRead': WHATEVER THE INPUT: true; the input reads as it did. -/
def dotsReadSpec : ChangeSpec := { name := "dotsRead", fn := fun _ => fun
  | [d] => { results := [.lit (.bool true)], args := [d] }
  | _ => none }
def dotsReadRow : OpenClaim := { program := "ytpgnallldehgmaa", sum := "e75f278bc2dd57e13cdec3c80136dd7a6ed40a3cb0562ae0696e472bd8114b47", func := "tactile/tactilelaw22.DotsRead", spec := "dotsRead", apart := false }
def DotsReadSaid : Prop := dotsReadRow.holds Try.pinned (OpenSpec.ofChange dotsReadSpec)

/-- ITS FALSE NEIGHBOUR: 'it returns false'. Refute it at one input. -/
def dotsReadWrong : ChangeSpec := { name := "dotsRead", fn := fun _ => fun
  | [d] => { results := [.lit (.bool false)], args := [d] }
  | _ => none }
def DotsReadWrongFalsely : Prop := dotsReadRow.holds Try.pinned (OpenSpec.ofChange dotsReadWrong)

/-- 'tactilelaw22.DotsOnly': WHATEVER THE INPUT: true; the input reads as it did. -/
def dotsOnlySpec : ChangeSpec := { name := "dotsOnly", fn := fun _ => fun
  | [d1, d2, d3] => { results := [.lit (.bool true)], args := [d1, d2, d3] }
  | _ => none }
def dotsOnlyRow : OpenClaim := { program := "ytpgnallldehgmaa", sum := "e75f278bc2dd57e13cdec3c80136dd7a6ed40a3cb0562ae0696e472bd8114b47", func := "tactile/tactilelaw22.DotsOnly", spec := "dotsOnly", apart := false }
def DotsOnlySaid : Prop := dotsOnlyRow.holds Try.pinned (OpenSpec.ofChange dotsOnlySpec)

/-- ITS FALSE NEIGHBOUR: 'it returns false'. Refute it at one input. -/
def dotsOnlyWrong : ChangeSpec := { name := "dotsOnly", fn := fun _ => fun
  | [d1, d2, d3] => { results := [.lit (.bool false)], args := [d1, d2, d3] }
  | _ => none }
def DotsOnlyWrongFalsely : Prop := dotsOnlyRow.holds Try.pinned (OpenSpec.ofChange dotsOnlyWrong)

/- THE SECOND FORM. 'bulk': how many values and letters a reading holds, each counted each time it is reached (what is shared counts as often as it is met; a slice's spare places count too). A statement '..UptoSaid' is the law's where the arguments, and the package variables that the reading takes, are together of bulk at most 1048576: NARROWER than '..Said'. Prove '..Said' where nothing that the law and all that it calls make is longer than what came in: it says more and counts as full. Else prove '..UptoSaid'. A law counts once. -/
mutual
def uptoBulk {H : Type} : DataW H → Nat
  | .lit (.string bytes) => bytes.length + 1
  | .lit _ => 1
  | .nil => 1
  | .ptr d => uptoBulk d + 1
  | .slice elems spare => uptoBulkAll elems + uptoBulkAll spare + 1
  | .agg parts => uptoBulkAll parts + 1
  | .iface _ d => uptoBulk d + 1
  | .map entries => uptoBulkEntries entries + 1
  | .held _ => 1
def uptoBulkAll {H : Type} : List (DataW H) → Nat
  | [] => 0
  | d :: r => uptoBulk d + uptoBulkAll r
def uptoBulkEntries {H : Type} : List (Lit × DataW H) → Nat
  | [] => 0
  | x :: r => uptoBulkEntry x + uptoBulkEntries r
def uptoBulkEntry {H : Type} : Lit × DataW H → Nat
  | (.string bytes, d) => bytes.length + uptoBulk d + 1
  | (_, d) => uptoBulk d + 1
 end
def uptoSmall : (H : Type) → List (DataW H) → Bool := fun _ ds => decide (uptoBulkAll ds ≤ 1048576)
def OpenSpec.upto (s : _root_.Go.ChangeSpec) : _root_.Go.OpenSpec := { _root_.Go.OpenSpec.ofChange s with cond := some uptoSmall }

/-- 'tactilelaw22.DotsRunes', WHERE WHAT IT READS IS OF BULK AT MOST 1048576: true; the input reads as it did. -/
def dotsRunesUptoRow : OpenClaim := { program := "ytpgnallldehgmaa", sum := "e75f278bc2dd57e13cdec3c80136dd7a6ed40a3cb0562ae0696e472bd8114b47", func := "tactile/tactilelaw22.DotsRunes", spec := "dotsRunes", apart := false, narrowed := true }
def DotsRunesUptoSaid : Prop := dotsRunesUptoRow.holds Try.pinned (OpenSpec.upto dotsRunesSpec)

/-- 'tactilelaw22.DotsTell', WHERE WHAT IT READS IS OF BULK AT MOST 1048576: true; the input reads as it did. -/
def dotsTellUptoRow : OpenClaim := { program := "ytpgnallldehgmaa", sum := "e75f278bc2dd57e13cdec3c80136dd7a6ed40a3cb0562ae0696e472bd8114b47", func := "tactile/tactilelaw22.DotsTell", spec := "dotsTell", apart := false, narrowed := true }
def DotsTellUptoSaid : Prop := dotsTellUptoRow.holds Try.pinned (OpenSpec.upto dotsTellSpec)

/-- 'tactilelaw22.DotsRead', WHERE WHAT IT READS IS OF BULK AT MOST 1048576: true; the input reads as it did. -/
def dotsReadUptoRow : OpenClaim := { program := "ytpgnallldehgmaa", sum := "e75f278bc2dd57e13cdec3c80136dd7a6ed40a3cb0562ae0696e472bd8114b47", func := "tactile/tactilelaw22.DotsRead", spec := "dotsRead", apart := false, narrowed := true }
def DotsReadUptoSaid : Prop := dotsReadUptoRow.holds Try.pinned (OpenSpec.upto dotsReadSpec)

/-- 'tactilelaw22.DotsOnly', WHERE WHAT IT READS IS OF BULK AT MOST 1048576: true; the input reads as it did. -/
def dotsOnlyUptoRow : OpenClaim := { program := "ytpgnallldehgmaa", sum := "e75f278bc2dd57e13cdec3c80136dd7a6ed40a3cb0562ae0696e472bd8114b47", func := "tactile/tactilelaw22.DotsOnly", spec := "dotsOnly", apart := false, narrowed := true }
def DotsOnlyUptoSaid : Prop := dotsOnlyUptoRow.holds Try.pinned (OpenSpec.upto dotsOnlySpec)

end Rows
end Go.Proofs.Ytpgnallldehgmaa
