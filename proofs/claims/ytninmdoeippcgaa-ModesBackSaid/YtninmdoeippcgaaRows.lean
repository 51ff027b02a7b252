/-
  No cell of these rows narrows 'for every input' (looked for: loops, veiled, ifaces, maps, wideKeys, modest, calm, conditions, laid).
  DERIVED. THE GIVEN ROWS OF THIS SEAT. 4 by the template 'for every input the law returns true; each argument reads behind the call as it read before'; 0 by the template 'total and deterministic' (their statements: YtninmdoeippcgaaTotals.lean).
  GIVEN WITH THE SEED: the statements are not yours to turn. If you find one false, say at which input.
  Laid BY PROGRAM, IN A SANDBOX (cutbox-rows.mjs): the forced cells as the released guide's own fill.sh prints them over the translation 028295ba45471efc… (all of the seat's roots in one cut). By AI agents, Wed Nov 11 2026. No macro, syntax, notation, axiom, sorry.
-/
import Derived.Test.YtninmdoeippcgaaChecked
import GoSem.Claim
import GoSem.ClaimJoined
import GoSem.ClaimMapViews
import Derived.JoinedTies
import Derived.KernelRfl
namespace Go.Proofs.Ytninmdoeippcgaa
/- THE CELL 'sum', in the pinned program and in every row, IS THE sha256 OF THE DUMP (.gsa) THAT YtninmdoeippcgaaProg.lean LOADS. Nothing in Lean hashes anything: it is a label: what it is worth is what the hold of that sum in a sandbox is worth. -/
noncomputable def Try.pinned : Pinned := { name := "ytninmdoeippcgaa", sum := "028295ba45471efcd75177ebfe3575d69adeac51a9cde8acd2fe7a1c2cfe7ad8", checked := Try.checked }
namespace Rows
def none {H : Type} : Left H := { results := [], args := [] }

/-- 'tactilelaw10.ModesPut': WHATEVER THE INPUT: true; the input reads as it did. -/
def modesPutSpec : ChangeSpec := { name := "modesPut", fn := fun _ => fun
  | [d1, d2, d3, d4] => { results := [.lit (.bool true)], args := [d1, d2, d3, d4] }
  | _ => none }
def modesPutRow : OpenClaim := { program := "ytninmdoeippcgaa", sum := "028295ba45471efcd75177ebfe3575d69adeac51a9cde8acd2fe7a1c2cfe7ad8", func := "tactile/tactilelaw10.ModesPut", spec := "modesPut", unfollowed := true, recurses := true, plainKeys := false, apart := false }
def ModesPutSaid : Prop := modesPutRow.holds Try.pinned (OpenSpec.ofChange modesPutSpec)

/-- ITS FALSE NEIGHBOUR: 'it returns false'. Refute it at one input. -/
def modesPutWrong : ChangeSpec := { name := "modesPut", fn := fun _ => fun
  | [d1, d2, d3, d4] => { results := [.lit (.bool false)], args := [d1, d2, d3, d4] }
  | _ => none }
def ModesPutWrongFalsely : Prop := modesPutRow.holds Try.pinned (OpenSpec.ofChange modesPutWrong)

/-- 'tactilelaw10.ModesGet': WHATEVER THE INPUT: true; the input reads as it did. -/
def modesGetSpec : ChangeSpec := { name := "modesGet", fn := fun _ => fun
  | [d1, d2, d3] => { results := [.lit (.bool true)], args := [d1, d2, d3] }
  | _ => none }
def modesGetRow : OpenClaim := { program := "ytninmdoeippcgaa", sum := "028295ba45471efcd75177ebfe3575d69adeac51a9cde8acd2fe7a1c2cfe7ad8", func := "tactile/tactilelaw10.ModesGet", spec := "modesGet", unfollowed := true, recurses := true, plainKeys := false, apart := false }
def ModesGetSaid : Prop := modesGetRow.holds Try.pinned (OpenSpec.ofChange modesGetSpec)

/-- ITS FALSE NEIGHBOUR: 'it returns false'. Refute it at one input. -/
def modesGetWrong : ChangeSpec := { name := "modesGet", fn := fun _ => fun
  | [d1, d2, d3] => { results := [.lit (.bool false)], args := [d1, d2, d3] }
  | _ => none }
def ModesGetWrongFalsely : Prop := modesGetRow.holds Try.pinned (OpenSpec.ofChange modesGetWrong)

/-- 'tactilelaw10.ModesApart': WHATEVER THE INPUT: true; the input reads as it did. -/
def modesApartSpec : ChangeSpec := { name := "modesApart", fn := fun _ => fun
  | [d1, d2, d3, d4, d5, d6] => { results := [.lit (.bool true)], args := [d1, d2, d3, d4, d5, d6] }
  | _ => none }
def modesApartRow : OpenClaim := { program := "ytninmdoeippcgaa", sum := "028295ba45471efcd75177ebfe3575d69adeac51a9cde8acd2fe7a1c2cfe7ad8", func := "tactile/tactilelaw10.ModesApart", spec := "modesApart", unfollowed := true, recurses := true, plainKeys := false, apart := false }
def ModesApartSaid : Prop := modesApartRow.holds Try.pinned (OpenSpec.ofChange modesApartSpec)

/-- ITS FALSE NEIGHBOUR: 'it returns false'. Refute it at one input. -/
def modesApartWrong : ChangeSpec := { name := "modesApart", fn := fun _ => fun
  | [d1, d2, d3, d4, d5, d6] => { results := [.lit (.bool false)], args := [d1, d2, d3, d4, d5, d6] }
  | _ => none }
def ModesApartWrongFalsely : Prop := modesApartRow.holds Try.pinned (OpenSpec.ofChange modesApartWrong)

/-- 'tactilelaw10.ModesBack': WHATEVER THE INPUT: true; the input reads as it did. -/
def modesBackSpec : ChangeSpec := { name := "modesBack", fn := fun _ => fun
  | [d1, d2, d3, d4, d5] => { results := [.lit (.bool true)], args := [d1, d2, d3, d4, d5] }
  | _ => none }
def modesBackRow : OpenClaim := { program := "ytninmdoeippcgaa", sum := "028295ba45471efcd75177ebfe3575d69adeac51a9cde8acd2fe7a1c2cfe7ad8", func := "tactile/tactilelaw10.ModesBack", spec := "modesBack", unfollowed := true, recurses := true, plainKeys := false, apart := false }
def ModesBackSaid : Prop := modesBackRow.holds Try.pinned (OpenSpec.ofChange modesBackSpec)

/-- ITS FALSE NEIGHBOUR: 'it returns false'. Refute it at one input. -/
def modesBackWrong : ChangeSpec := { name := "modesBack", fn := fun _ => fun
  | [d1, d2, d3, d4, d5] => { results := [.lit (.bool false)], args := [d1, d2, d3, d4, d5] }
  | _ => none }
def ModesBackWrongFalsely : Prop := modesBackRow.holds Try.pinned (OpenSpec.ofChange modesBackWrong)

/- THE SECOND FORM. 'bulk': how many values and letters a reading holds, each counted each time it is reached (what is shared counts as often as it is met; a slice's spare places count too). A statement '..UptoSaid' is the law's where the arguments, and the package variables that the reading takes, are together of bulk at most 1048576: NARROWER than '..Said'. Prove '..Said' where nothing that the law and all that it calls make is longer than what came in: it says more and counts as full. Else prove '..UptoSaid'. A law counts once. -/
mutual
def uptoBulk {H : Type} : DataW H → Nat
  | .lit (.string bytes) => bytes.length + 1
  | .lit _ => 1
  | .nil => 1
  | .ptr d => uptoBulk d + 1
  | .slice elems spare => uptoBulkAll elems + uptoBulkAll spare + 1
  | .agg parts => uptoBulkAll parts + 1
  | .iface _ d => uptoBulk d + 1
  | .map entries => uptoBulkEntries entries + 1
  | .held _ => 1
def uptoBulkAll {H : Type} : List (DataW H) → Nat
  | [] => 0
  | d :: r => uptoBulk d + uptoBulkAll r
def uptoBulkEntries {H : Type} : List (Lit × DataW H) → Nat
  | [] => 0
  | x :: r => uptoBulkEntry x + uptoBulkEntries r
def uptoBulkEntry {H : Type} : Lit × DataW H → Nat
  | (.string bytes, d) => bytes.length + uptoBulk d + 1
  | (_, d) => uptoBulk d + 1
 end
def uptoSmall : (H : Type) → List (DataW H) → Bool := fun _ ds => decide (uptoBulkAll ds ≤ 1048576)
def OpenSpec.upto (s : _root_.Go.ChangeSpec) : _root_.Go.OpenSpec := { _root_.Go.OpenSpec.ofChange s with cond := some uptoSmall }

/-- 'tactilelaw10.ModesPut', WHERE WHAT IT READS IS OF BULK AT MOST 1048576: true; the input reads as it did. -/
def modesPutUptoRow : OpenClaim := { program := "ytninmdoeippcgaa", sum := "028295ba45471efcd75177ebfe3575d69adeac51a9cde8acd2fe7a1c2cfe7ad8", func := "tactile/tactilelaw10.ModesPut", spec := "modesPut", unfollowed := true, recurses := true, plainKeys := false, apart := false, narrowed := true }
def ModesPutUptoSaid : Prop := modesPutUptoRow.holds Try.pinned (OpenSpec.upto modesPutSpec)

/-- 'tactilelaw10.ModesGet', WHERE WHAT IT READS IS OF BULK AT MOST 1048576: true; the input reads as it did. -/
def modesGetUptoRow : OpenClaim := { program := "ytninmdoeippcgaa", sum := "028295ba45471efcd75177ebfe3575d69adeac51a9cde8acd2fe7a1c2cfe7ad8", func := "tactile/tactilelaw10.ModesGet", spec := "modesGet", unfollowed := true, recurses := true, plainKeys := false, apart := false, narrowed := true }
def ModesGetUptoSaid : Prop := modesGetUptoRow.holds Try.pinned (OpenSpec.upto modesGetSpec)

/-- 'tactilelaw10.ModesApart', WHERE WHAT IT READS IS OF BULK AT MOST 1048576: true; the input reads as it did. -/
def modesApartUptoRow : OpenClaim := { program := "ytninmdoeippcgaa", sum := "028295ba45471efcd75177ebfe3575d69adeac51a9cde8acd2fe7a1c2cfe7ad8", func := "tactile/tactilelaw10.ModesApart", spec := "modesApart", unfollowed := true, recurses := true, plainKeys := false, apart := false, narrowed := true }
def ModesApartUptoSaid : Prop := modesApartUptoRow.holds Try.pinned (OpenSpec.upto modesApartSpec)

/-- 'tactilelaw10.ModesBack', WHERE WHAT IT READS IS OF BULK AT MOST 1048576: true; the input reads as it did. -/
def modesBackUptoRow : OpenClaim := { program := "ytninmdoeippcgaa", sum := "028295ba45471efcd75177ebfe3575d69adeac51a9cde8acd2fe7a1c2cfe7ad8", func := "tactile/tactilelaw10.ModesBack", spec := "modesBack", unfollowed := true, recurses := true, plainKeys := false, apart := false, narrowed := true }
def ModesBackUptoSaid : Prop := modesBackUptoRow.holds Try.pinned (OpenSpec.upto modesBackSpec)

end Rows
end Go.Proofs.Ytninmdoeippcgaa
