/- Law 9: ScreenOrder, of any argument. -/
import Derived.Test.YtdcagaaanbgcoaaS32
import Derived.Test.YtdcagaaanbgcoaaS34
namespace Go.Proofs.Ytdcagaaanbgcoaa
open Go.RowKit Go.Mem Go.Cells Go.Lines
section
variable {E : Type} {enc : TypeId × Value → E} {w : World}
theorem order_top (a0 a1 a2 : Int) (b3 : Bool) (a4 : Option Addr) (n4 c4 : Nat) (w : World) (_ : (Lit.int .i64 a0).wf = true) (_ : (Lit.int .i64 a1).wf = true) (_ : (Lit.int .i64 a2).wf = true) (r4 : Rd enc Try.prog w 56 [.slice a4 n4 c4]) :
    Calls Try.prog 5 #[.int .i64 a0, .int .i64 a1, .int .i64 a2, .bool b3, .slice a4 n4 c4] w fun e w' => e = .returned (.bool true) ∧ Below w.heap.size w w' := by
  obtain ⟨l, hl⟩ := sr_ops r4
  exact (order5 (hl w []) (sat.start w)).mono fun _ _ ⟨he, hs⟩ => ⟨he, hs.below⟩
end
end Go.Proofs.Ytdcagaaanbgcoaa
