import Derived.Test.YtninmdoeippcgaaM11
namespace Go.Proofs.Ytninmdoeippcgaa
open Go.RowKit Go.Mem Go.Modes Go.Maps
theorem back_top (a0 a1 a2 a3 a4 a5 a6 a7 p : Bool) (n : Int) (on : Bool) (k : Int) (hn : (Lit.int .i64 n).wf = true) (hk : (Lit.int .u8 k).wf = true) (w : World) :
    Calls Try.prog 6 #[.agg #[.bool a0, .bool a1, .bool a2, .bool a3, .bool a4, .bool a5, .bool a6, .bool a7], .bool p, .int .i64 n, .bool on, .int .u8 k] w fun e w' => e = .returned (.bool true) ∧ Below w.heap.size w w' := by
  have h : 0 ≤ k ∧ k < 256 := by
    simp [Lit.wf, IntKind.min, IntKind.max, IntKind.signed, IntKind.bits] at hk
    omega
  obtain ⟨q, rfl⟩ : ∃ q : Nat, k = q := ⟨k.toNat, by omega⟩
  exact (back_law ⟨a0, a1, a2, a3, a4, a5, a6, a7⟩ p n on q (by omega) hn (sat.start w)).mono fun _ _ ⟨he, hs⟩ => ⟨he, hs.below⟩
end Go.Proofs.Ytninmdoeippcgaa
