import Derived.Test.YtppdggcefnlncaaF8
namespace Go.Proofs.Ytppdggcefnlncaa
open Go.RowKit Go.Mem Go.Front
section
variable {E : Type} {enc : TypeId × Value → E}
theorem kinds_top (a0 : Option Addr) (n0 c0 : Nat) (a1 : Option Addr) (n1 c1 : Nat) (a2 : Int) (w : World) (r0 : Rd enc Try.prog w 22 [.slice a0 n0 c0]) (r1 : Rd enc Try.prog w 23 [.slice a1 n1 c1]) (_w2 : (Lit.int .i64 a2).wf = true) :
    Calls Try.prog 4 #[.slice a0 n0 c0, .slice a1 n1 c1, .int .i64 a2] w fun e w' => e = .returned (.bool true) ∧ Below w.heap.size w w' := by
  obtain ⟨l, hw, hl⟩ := sr_evs r0
  obtain ⟨m, hm⟩ := sr_bools r1
  by_cases h : 200 < n0
  · exact (kinds_guard a0 n0 c0 _ _ h (by have := (hl w []).len; omega) (sat.start w)).mono fun _ _ ⟨he, hs⟩ => ⟨he, hs.below⟩
  · exact (kinds_walk l m w a0 n0 c0 a1 n1 c1 a2 (hl w []) (hm w []) hw (by omega) (sat.start w)).mono fun _ _ ⟨he, hs⟩ => ⟨he, hs.below⟩
end
end Go.Proofs.Ytppdggcefnlncaa
