/- Law 6: RowWhole, of any argument. -/
import Derived.Test.YteoeeiinngpogaaV24
import Derived.Test.YteoeeiinngpogaaV23
namespace Go.Proofs.Yteoeeiinngpogaa
open Go.RowKit Go.Mem Go.Cells
section
variable {E : Type} {enc : TypeId × Value → E} {w : World}
theorem whole_top (a0 : Int) (a1 : Option Addr) (n1 c1 : Nat) (w : World) (_ : (Lit.int .i64 a0).wf = true) (r1 : Rd enc Try.prog w 22 [.slice a1 n1 c1]) :
    Calls Try.prog 3 #[.int .i64 a0, .slice a1 n1 c1] w fun e w' => e = .returned (.bool true) ∧ Below w.heap.size w w' := by
  obtain ⟨l, hl⟩ := sr_ops r1
  by_cases h : 1 ≤ a0 ∧ a0 ≤ 512
  · obtain ⟨c0, rfl⟩ : ∃ c0 : Nat, a0 = (c0 : Int) := ⟨a0.toNat, by omega⟩
    by_cases h2 : 100 < n1 ∨ 100 < c0
    · exact (whole3_long (by omega) (by omega) h2 (sat.start w)).mono fun _ _ ⟨he, hs⟩ => ⟨he, hs.below⟩
    · exact (whole3_go (by omega) (by omega) (by omega) (hl w []) (sat.start w)).mono fun _ _ ⟨he, hs⟩ => ⟨he, hs.below⟩
  · exact (whole3_no h (sat.start w)).mono fun _ _ ⟨he, hs⟩ => ⟨he, hs.below⟩
end
end Go.Proofs.Yteoeeiinngpogaa
