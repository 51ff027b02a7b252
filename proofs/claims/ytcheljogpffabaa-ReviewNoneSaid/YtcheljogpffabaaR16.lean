/- Law 21: ReviewNone, of any command. -/
import Derived.Test.YtcheljogpffabaaR15
namespace Go.Proofs.Ytcheljogpffabaa
open Go.RowKit Go.Mem Go.Words Go.Deep Go.Rev
theorem none_top (a : Int) (w : World) (h : (Lit.int .u8 a).wf = true) : Calls Try.prog 6 #[.int .u8 a] w fun e w' => e = .returned (.bool true) ∧ Below w.heap.size w w' := by
  have ha : 0 ≤ a ∧ a ≤ 255 := by
    simp [Lit.wf, IntKind.min, IntKind.max, IntKind.signed, IntKind.bits] at h
    omega
  by_cases hc : 1 ≤ a ∧ a ≤ 14
  · obtain ⟨c, rfl⟩ : ∃ c : Nat, a = c := ⟨a.toNat, by omega⟩
    exact (none6_yes (c := c) (by omega) (sat.start w)).mono fun _ _ ⟨he, hs⟩ => ⟨he, hs.below⟩
  · exact (none6_no ha hc (sat.start w)).mono fun _ _ ⟨he, hs⟩ => ⟨he, hs.below⟩
end Go.Proofs.Ytcheljogpffabaa
