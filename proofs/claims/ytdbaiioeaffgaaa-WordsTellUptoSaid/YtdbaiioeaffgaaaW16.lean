/- Law 20: Back, for whatever cells come in. -/
import Derived.Test.YtdbaiioeaffgaaaW15
namespace Go.Proofs.Ytdbaiioeaffgaaa
open Go.RowKit Go.Mem Go.Words Go.Deep
theorem bulk_first {E : Type} {d : DataW E} {r : List (DataW E)} (hk : Rows.uptoSmall E (d :: r) = true) : Rows.uptoBulk d ≤ 1048576 := by
  have h := of_decide_eq_true hk
  simp only [Rows.uptoBulkAll] at h
  omega
theorem back_top {E : Type} {enc : TypeId × Value → E} (a : Option Addr) (n c : Nat) (d : DataW E) (w : World) (h : RdD enc Try.prog w 22 [.slice a n c] d) (hk : Rows.uptoSmall E [d] = true) :
    Calls Try.prog 3 #[.slice a n c] w fun e w' => e = .returned (.bool true) ∧ Below w.heap.size w w' := by
  obtain ⟨L, hL, hz, _⟩ := cells_rd h
  have hb := bulk_first hk
  by_cases hg : 600 < size (cl L)
  · exact (back_great (hL w []) (by omega) hg (sat.start w)).mono fun _ _ ⟨he, hs⟩ => ⟨he, hs.below⟩
  · exact (back_walk (hL w []) (by omega) (sat.start w)).mono fun _ _ ⟨he, hs⟩ => ⟨he, hs.below⟩
end Go.Proofs.Ytdbaiioeaffgaaa
