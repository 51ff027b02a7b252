/- Law 21: Within, whatever comes in. -/
import Derived.Test.YtcheljogpffabaaR20
namespace Go.Proofs.Ytcheljogpffabaa
open Go.RowKit Go.Mem Go.Words Go.Deep Go.Rev
variable {W w : World} {H : List HProp}
attribute [local irreducible] rowTy oneTy World.setCell World.setCells World.alloc World.drew World.drewN Calls sat cel own blk old wpQuiet wpList tx onP
set_option maxRecDepth 20000 in
theorem within4_early {aG aL : Option Addr} {nG cG nL cL : Nat} (h : nG < 1 ∨ 5 < nG ∨ 60 < nL) (hs : sat W H w) :
    Calls Try.prog 4 #[.slice aG nG cG, .slice aL nL cL] w fun e w' => e = .returned (.bool true) ∧ sat W H w' := by
  by_cases h1 : nG < 1
  · have e1 : decide ((nG : Int) < 1) = true := decide_eq_true (by omega)
    have e1' : decide (nG < 1) = true := decide_eq_true h1
    clear h h1
    go_enter Try.func4, Try.ntmps4
    go_wp2_with (first | (go_at_call 7; refine (known7 hs).mono ?_; clear hs; rintro e w ⟨rfl, hs⟩) | ((with_reducible refine isl ?_); first | ((with_reducible refine wrap hs ?_); clear hs; intro w hs) | ((with_reducible refine wrapn hs ?_); clear hs; intro w hs) | ((with_reducible refine wrapd hs ?_); clear hs; intro w hs)))
    go_ret
    exact ⟨rfl, hs⟩
  · have e1 : decide ((nG : Int) < 1) = false := decide_eq_false (by omega)
    have e1' : decide (nG < 1) = false := decide_eq_false h1
    by_cases h2 : 5 < nG
    · have e2 : decide ((5 : Int) < (nG : Int)) = true := decide_eq_true (by omega)
      have e2' : decide (5 < nG) = true := decide_eq_true h2
      clear h h1 h2
      go_enter Try.func4, Try.ntmps4
      go_wp2_with (first | (go_at_call 7; refine (known7 hs).mono ?_; clear hs; rintro e w ⟨rfl, hs⟩) | ((with_reducible refine isl ?_); first | ((with_reducible refine wrap hs ?_); clear hs; intro w hs) | ((with_reducible refine wrapn hs ?_); clear hs; intro w hs) | ((with_reducible refine wrapd hs ?_); clear hs; intro w hs)))
      go_ret
      exact ⟨rfl, hs⟩
    · have e2 : decide ((5 : Int) < (nG : Int)) = false := decide_eq_false (by omega)
      have e2' : decide (5 < nG) = false := decide_eq_false h2
      have e3 : decide ((60 : Int) < (nL : Int)) = true := decide_eq_true (by omega)
      have e3' : decide (60 < nL) = true := decide_eq_true (by omega)
      clear h h1 h2
      go_enter Try.func4, Try.ntmps4
      go_wp2_with (first | (go_at_call 7; refine (known7 hs).mono ?_; clear hs; rintro e w ⟨rfl, hs⟩) | ((with_reducible refine isl ?_); first | ((with_reducible refine wrap hs ?_); clear hs; intro w hs) | ((with_reducible refine wrapn hs ?_); clear hs; intro w hs) | ((with_reducible refine wrapd hs ?_); clear hs; intro w hs)))
      go_ret
      exact ⟨rfl, hs⟩
theorem bulk_two {E : Type} {d1 d2 : DataW E} (hk : Rows.uptoSmall E [d1, d2] = true) : Rows.uptoBulk d1 ≤ 1048576 ∧ Rows.uptoBulk d2 ≤ 1048576 := by
  have h := of_decide_eq_true hk
  simp only [Rows.uptoBulkAll] at h
  omega
theorem within_top {E : Type} {enc : TypeId × Value → E} (aG : Option Addr) (nG cG : Nat) (aL : Option Addr) (nL cL : Nat) (d1 d2 : DataW E) (w : World) (h1 : RdD enc Try.prog w 22 [.slice aG nG cG] d1) (h2 : RdD enc Try.prog w 23 [.slice aL nL cL] d2) (hk : Rows.uptoSmall E [d1, d2] = true) :
    Calls Try.prog 4 #[.slice aG nG cG, .slice aL nL cL] w fun e w' => e = .returned (.bool true) ∧ Below w.heap.size w w' := by
  obtain ⟨G, hG, hGo⟩ := grids_rd h1
  obtain ⟨l, hl, hlo⟩ := ops_rd h2
  have hb := bulk_two hk
  by_cases h : nG < 1 ∨ 5 < nG ∨ 60 < nL
  · exact (within4_early h (sat.start w)).mono fun _ _ ⟨he, hs⟩ => ⟨he, hs.below⟩
  · exact (within4 (hG w []) (fun g hg => ⟨(hGo g hg).1 w [], fun r hr => by have := (hGo g hg).2.1 r hr; omega, (hGo g hg).2.2⟩) (hl w []) (fun o ho => (hlo o ho).1) (by omega) (by omega) (by omega) (sat.start w)).mono fun _ _ ⟨he, hs⟩ => ⟨he, hs.below⟩
end Go.Proofs.Ytcheljogpffabaa
