import Derived.Test.YtdpflhbipolcaaaE11
import Derived.Test.YtdpflhbipolcaaaE12
namespace Go.Proofs.Ytdpflhbipolcaaa
open Go.RowKit Go.Mem Go.Typed
section
variable {E : Type} {enc : TypeId × Value → E} {w : World}
theorem order_top (a0 : Int) (a1 : Int) (a2 : Option Addr) (n2 c2 : Nat) (a3 : Int) (w : World) (_ : (Lit.int .i64 a0).wf = true) (_ : (Lit.int .i64 a1).wf = true) (r2 : Rd enc Try.prog w 22 [.slice a2 n2 c2]) (_ : (Lit.int .i32 a3).wf = true) :
    Calls Try.prog 3 #[.int .i64 a0, .int .i64 a1, .slice a2 n2 c2, .int .i32 a3] w fun e w' => e = .returned (.bool true) ∧ Below w.heap.size w w' := by
  obtain ⟨l, hl⟩ := sr_i32 r2
  by_cases h : a0 < 1 ∨ 1000 < a0 ∨ a1 < 0 ∨ 549755813888 < a1 ∨ 64 < n2
  · exact (order_guard a0 a1 a3 a2 n2 c2 h (by have := (hl w []).len; omega) (sat.start w)).mono fun _ _ ⟨he, hs⟩ => ⟨he, hs.below⟩
  · exact (order_walk l w a0 a1 a3 a2 n2 c2 (hl w []) (by omega) (by omega) (by omega) (by omega) (by omega) (sat.start w)).mono fun _ _ ⟨he, hs⟩ => ⟨he, hs.below⟩
end
end Go.Proofs.Ytdpflhbipolcaaa
