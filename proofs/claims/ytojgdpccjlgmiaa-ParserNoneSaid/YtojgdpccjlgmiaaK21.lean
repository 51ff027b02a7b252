/- Law 04: ParserCan, ParserNone, of any arguments. -/
import Derived.Test.YtojgdpccjlgmiaaK19
import Derived.Below
namespace Go.Proofs.Ytojgdpccjlgmiaa
open Go.RowKit Go.Mem Go.Parse
section
variable {E : Type} {enc : TypeId × Value → E} {w : World}
theorem cells21 : Try.prog.cellsOf 21 = 1 := by kernel_rfl
theorem sr_i32 {a : Option Addr} {n c : Nat} (h : Rd enc Try.prog w 22 [.slice a n c]) : ∃ l : List Int, ∀ (W : World) (H : List HProp), SR 1 W (old w :: H) a n c (l.map fun x => [.int .i32 x]) := by
  obtain ⟨L, h1, h2, h3, h4, h5⟩ := rd_slice Try.underlying22 cells21 (by decide) h
  obtain ⟨l, hl⟩ := rd_map (f := fun x : Int => [Value.int .i32 x]) fun cs hc => by
    obtain ⟨x, e, _⟩ := rd_int Try.underlying21 (h4 cs hc)
    exact ⟨x, e⟩
  refine ⟨l, fun W H => ?_⟩
  rw [hl] at h1 h5
  exact h5.sr h1 h2 h3 W H
theorem can_top (a0 : Option Addr) (n0 c0 : Nat) (a1 : Option Addr) (n1 c1 : Nat) (w : World) (r0 : Rd enc Try.prog w 22 [.slice a0 n0 c0]) (r1 : Rd enc Try.prog w 22 [.slice a1 n1 c1]) :
    Calls Try.prog 3 #[.slice a0 n0 c0, .slice a1 n1 c1] w fun e w' => e = .returned (.bool true) ∧ Below w.heap.size w w' := by
  obtain ⟨l, hl⟩ := sr_i32 r0
  obtain ⟨m, hm⟩ := sr_i32 r1
  by_cases h : 300 < n0 ∨ 300 < n1
  · exact (guard3 h (sat.start w)).mono fun _ _ ⟨he, hs⟩ => ⟨he, hs.below⟩
  · exact (can3 (hl w []) (hm w []) (by omega) (by omega) (sat.start w)).mono fun _ _ ⟨he, hs⟩ => ⟨he, hs.below⟩
theorem none_top (a0 : Option Addr) (n0 c0 : Nat) (w : World) (r0 : Rd enc Try.prog w 22 [.slice a0 n0 c0]) :
    Calls Try.prog 5 #[.slice a0 n0 c0] w fun e w' => e = .returned (.bool true) ∧ Below w.heap.size w w' := by
  obtain ⟨l, hl⟩ := sr_i32 r0
  by_cases h : 300 < n0
  · exact (guard5 h (sat.start w)).mono fun _ _ ⟨he, hs⟩ => ⟨he, hs.below⟩
  · exact (none5 (hl w []) (by omega) (sat.start w)).mono fun _ _ ⟨he, hs⟩ => ⟨he, hs.below⟩
end
end Go.Proofs.Ytojgdpccjlgmiaa
