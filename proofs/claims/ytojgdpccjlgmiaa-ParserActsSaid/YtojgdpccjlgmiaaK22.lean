/- Law 04: ParserActs, of any arguments. -/
import Derived.Test.YtojgdpccjlgmiaaK20
import Derived.Test.YtojgdpccjlgmiaaK21
namespace Go.Proofs.Ytojgdpccjlgmiaa
open Go.RowKit Go.Mem Go.Parse
section
variable {E : Type} {enc : TypeId × Value → E} {w : World}
theorem acts_top (a0 : Option Addr) (n0 c0 : Nat) (w : World) (r0 : Rd enc Try.prog w 22 [.slice a0 n0 c0]) :
    Calls Try.prog 4 #[.slice a0 n0 c0] w fun e w' => e = .returned (.bool true) ∧ Below w.heap.size w w' := by
  obtain ⟨l, hl⟩ := sr_i32 r0
  by_cases h : 400 < n0
  · exact (guard4 h (sat.start w)).mono fun _ _ ⟨he, hs⟩ => ⟨he, hs.below⟩
  · exact (acts4 (hl w []) (by omega) (sat.start w)).mono fun _ _ ⟨he, hs⟩ => ⟨he, hs.below⟩
end
end Go.Proofs.Ytojgdpccjlgmiaa
