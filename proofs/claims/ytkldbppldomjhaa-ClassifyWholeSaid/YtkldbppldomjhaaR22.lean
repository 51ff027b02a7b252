/- Law 16: ClassifyTyped, of any argument. -/
import Derived.Test.YtkldbppldomjhaaR20
import Derived.Test.YtkldbppldomjhaaR21
import Derived.Test.YtkldbppldomjhaaSs
import Derived.Below
namespace Go.Proofs.Ytkldbppldomjhaa
open Go.RowKit Go.Mem Go.Typed
section
variable {E : Type} {enc : TypeId × Value → E} {w : World}
theorem cells21 : Try.prog.cellsOf 21 = 1 := by kernel_rfl
theorem sr_i32 {a : Option Addr} {n c : Nat} (h : Rd enc Try.prog w 30 [.slice a n c]) : ∃ l : List Int, l.length = n ∧ ∀ (W : World) (H : List HProp), SR 1 W (old w :: H) a n c (l.map fun x => [.int .i32 x]) := by
  obtain ⟨L, h1, h2, h3, h4, h5⟩ := rd_slice Try.underlying30 cells21 (by decide) h
  obtain ⟨l, hl⟩ := rd_map (f := fun x : Int => [Value.int .i32 x]) fun cs hc => by
    obtain ⟨x, e, _⟩ := rd_int Try.underlying21 (h4 cs hc)
    exact ⟨x, e⟩
  rw [hl] at h1 h5
  refine ⟨l, by rw [h1, List.length_map], fun W H => ?_⟩
  exact h5.sr h1 h2 h3 W H
theorem typed_top (a0 : Option Addr) (n0 c0 : Nat) (a1 : Option Addr) (n1 c1 : Nat) (a2 : Int) (w : World) (r0 : Rd enc Try.prog w 30 [.slice a0 n0 c0]) (r1 : Rd enc Try.prog w 30 [.slice a1 n1 c1]) (_ : (Lit.int .i64 a2).wf = true) :
    Calls Try.prog 4 #[.slice a0 n0 c0, .slice a1 n1 c1, .int .i64 a2] w fun e w' => e = .returned (.bool true) ∧ Below w.heap.size w w' := by
  obtain ⟨l, hll, hl⟩ := sr_i32 r0
  obtain ⟨m, hml, hm⟩ := sr_i32 r1
  by_cases h : 60 < n0 ∨ 60 < n1 ∨ a2 < 0 ∨ 1099511627776 < a2
  · exact (guard4 h (sat.start w)).mono fun _ _ ⟨he, hs⟩ => ⟨he, hs.below⟩
  · exact (typed4 (hl w []) (hm w []) hll hml (by omega) (by omega) (by omega) (by omega) (sat.start w)).mono fun _ _ ⟨he, hs⟩ => ⟨he, hs.below⟩
end
end Go.Proofs.Ytkldbppldomjhaa
