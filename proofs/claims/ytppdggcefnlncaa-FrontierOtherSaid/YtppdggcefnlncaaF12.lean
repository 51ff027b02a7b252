import Derived.Test.YtppdggcefnlncaaF10
namespace Go.Proofs.Ytppdggcefnlncaa
open Go.RowKit Go.Mem Go.Front
section
variable {E : Type} {enc : TypeId × Value → E}
theorem other_top (a0 : Option Addr) (n0 c0 : Nat) (a1 : Option Addr) (n1 c1 : Nat) (a2 : Bool) (w : World) (r0 : Rd enc Try.prog w 22 [.slice a0 n0 c0]) (r1 : Rd enc Try.prog w 22 [.slice a1 n1 c1]) :
    Calls Try.prog 5 #[.slice a0 n0 c0, .slice a1 n1 c1, .bool a2] w fun e w' => e = .returned (.bool true) ∧ Below w.heap.size w w' := by
  obtain ⟨l, hw, hl⟩ := sr_evs r0
  obtain ⟨m, hw2, hm⟩ := sr_evs r1
  have h0 := (hl w []).len
  have h1 := (hm w []).len
  by_cases h : 200 < n0 ∨ 200 < n1
  · exact (other_guard a0 n0 c0 a1 n1 c1 _ h (by omega) (by omega) (sat.start w)).mono fun _ _ ⟨he, hs⟩ => ⟨he, hs.below⟩
  · exact (other_walk l m w a0 n0 c0 a1 n1 c1 a2 (hl w []) (hm w []) hw hw2 (by omega) (by omega) (sat.start w)).mono fun _ _ ⟨he, hs⟩ => ⟨he, hs.below⟩
end
end Go.Proofs.Ytppdggcefnlncaa
