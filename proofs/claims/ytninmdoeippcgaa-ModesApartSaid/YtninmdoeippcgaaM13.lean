import Derived.Test.YtninmdoeippcgaaM10
namespace Go.Proofs.Ytninmdoeippcgaa
open Go.RowKit Go.Mem Go.Modes Go.Maps
theorem apart_top (a0 a1 a2 a3 a4 a5 a6 a7 a b : Bool) (n k : Int) (on : Bool) (hn : (Lit.int .i64 n).wf = true) (hk : (Lit.int .i64 k).wf = true) (w : World) :
    Calls Try.prog 5 #[.agg #[.bool a0, .bool a1, .bool a2, .bool a3, .bool a4, .bool a5, .bool a6, .bool a7], .bool a, .bool b, .int .i64 n, .int .i64 k, .bool on] w fun e w' => e = .returned (.bool true) ∧ Below w.heap.size w w' :=
  (apart_law ⟨a0, a1, a2, a3, a4, a5, a6, a7⟩ a b n k on hn hk (sat.start w)).mono fun _ _ ⟨he, hs⟩ => ⟨he, hs.below⟩
end Go.Proofs.Ytninmdoeippcgaa
