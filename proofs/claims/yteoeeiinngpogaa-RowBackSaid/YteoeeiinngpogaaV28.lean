/- Law 6: RowBack, of any argument. -/
import Derived.Test.YteoeeiinngpogaaV27
import Derived.Test.YteoeeiinngpogaaV23
namespace Go.Proofs.Yteoeeiinngpogaa
open Go.RowKit Go.Mem Go.Cells
section
variable {E : Type} {enc : TypeId × Value → E} {w : World}
theorem back_top (a0 : Int) (a1 : Option Addr) (n1 c1 : Nat) (a2 a3 : Int) (a4 : Array Value) (w : World) (_ : (Lit.int .i64 a0).wf = true) (r1 : Rd enc Try.prog w 22 [.slice a1 n1 c1]) (_ : (Lit.int .i64 a2).wf = true) (_ : (Lit.int .i64 a3).wf = true) (r4 : Rd enc Try.prog w 33 a4.toList) :
    Calls Try.prog 4 #[.int .i64 a0, .slice a1 n1 c1, .int .i64 a2, .int .i64 a3, .agg a4] w fun e w' => e = .returned (.bool true) ∧ Below w.heap.size w w' := by
  obtain ⟨l, hl⟩ := sr_ops r1
  obtain ⟨⟨ga, gb, gf⟩, ha⟩ := rd_at r4
  have ha4 : a4 = #[.int .u32 ga, .int .u32 gb, .int .u16 gf] := Array.toList_inj.1 ha
  subst ha4
  by_cases h : 1 ≤ a0 ∧ a0 ≤ 512
  · obtain ⟨c0, rfl⟩ : ∃ c0 : Nat, a0 = (c0 : Int) := ⟨a0.toNat, by omega⟩
    by_cases h2 : 60 < n1 ∨ 100 < c0
    · exact (back4_long (by omega) (by omega) h2 (sat.start w)).mono fun _ _ ⟨he, hs⟩ => ⟨he, hs.below⟩
    · exact (back4_go (by omega) (by omega) (by omega) (hl w []) (sat.start w)).mono fun _ _ ⟨he, hs⟩ => ⟨he, hs.below⟩
  · exact (back4_no h (sat.start w)).mono fun _ _ ⟨he, hs⟩ => ⟨he, hs.below⟩
end
end Go.Proofs.Yteoeeiinngpogaa
