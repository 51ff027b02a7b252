import Derived.Test.YtninmdoeippcgaaM9
namespace Go.Proofs.Ytninmdoeippcgaa
open Go.RowKit Go.Mem Go.Modes Go.Maps
theorem put_top (a0 a1 a2 a3 a4 a5 a6 a7 p : Bool) (n : Int) (on : Bool) (hn : (Lit.int .i64 n).wf = true) (w : World) :
    Calls Try.prog 3 #[.agg #[.bool a0, .bool a1, .bool a2, .bool a3, .bool a4, .bool a5, .bool a6, .bool a7], .bool p, .int .i64 n, .bool on] w fun e w' => e = .returned (.bool true) ∧ Below w.heap.size w w' :=
  (put_law ⟨a0, a1, a2, a3, a4, a5, a6, a7⟩ p n on hn (sat.start w)).mono fun _ _ ⟨he, hs⟩ => ⟨he, hs.below⟩
theorem get_top (a0 a1 a2 a3 a4 a5 a6 a7 p : Bool) (n : Int) (hn : (Lit.int .i64 n).wf = true) (w : World) :
    Calls Try.prog 4 #[.agg #[.bool a0, .bool a1, .bool a2, .bool a3, .bool a4, .bool a5, .bool a6, .bool a7], .bool p, .int .i64 n] w fun e w' => e = .returned (.bool true) ∧ Below w.heap.size w w' :=
  (get_law ⟨a0, a1, a2, a3, a4, a5, a6, a7⟩ p n hn (sat.start w)).mono fun _ _ ⟨he, hs⟩ => ⟨he, hs.below⟩
end Go.Proofs.Ytninmdoeippcgaa
