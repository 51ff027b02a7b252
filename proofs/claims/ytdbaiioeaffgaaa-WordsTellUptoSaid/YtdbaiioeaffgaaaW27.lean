/- Law 20: Tell, for whatever cells come in. -/
import Derived.Test.YtdbaiioeaffgaaaW26
namespace Go.Proofs.Ytdbaiioeaffgaaa
open Go.RowKit Go.Mem Go.Words Go.Deep
theorem tell_top {E : Type} {enc : TypeId × Value → E} (a : Option Addr) (n c : Nat) (fr to_ : Int) (d : DataW E) (w : World) (h : RdD enc Try.prog w 22 [.slice a n c] d) (_h1 : (Lit.int .i64 fr).wf = true) (_h2 : (Lit.int .i64 to_).wf = true) (hk : Rows.uptoSmall E [d, .lit (.int .i64 fr), .lit (.int .i64 to_)] = true) :
    Calls Try.prog 5 #[.slice a n c, .int .i64 fr, .int .i64 to_] w fun e w' => e = .returned (.bool true) ∧ Below w.heap.size w w' := by
  obtain ⟨L, hL, hz, _⟩ := cells_rd h
  have hb := bulk_first hk
  by_cases hg : 600 < size (cl L)
  · exact (tell_great (hL w []) (by omega) hg fr to_ (sat.start w)).mono fun _ _ ⟨he, hs⟩ => ⟨he, hs.below⟩
  · exact (tell_walk (hL w []) (by omega) fr to_ (sat.start w)).mono fun _ _ ⟨he, hs⟩ => ⟨he, hs.below⟩
end Go.Proofs.Ytdbaiioeaffgaaa
