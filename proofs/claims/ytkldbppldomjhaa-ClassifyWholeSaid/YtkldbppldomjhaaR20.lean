/- Law 16: ClassifyTyped: too long, or no tick. -/
import Derived.Test.YtkldbppldomjhaaR14
import Derived.Test.YtkldbppldomjhaaR19
namespace Go.Proofs.Ytkldbppldomjhaa
open Go.RowKit Go.Mem Go.Typed Go.Front Go.Classify
variable {W w : World} {H : List HProp}
attribute [local irreducible] World.setCell World.setCells World.alloc World.drew World.drewN Calls sat cel own blk old wpQuiet wpList tyL ringC rns tyP clP rnl
variable {b z : Nat} {c : Cl}
attribute [local irreducible] lst feedc
theorem guard4 {a1 a2 : Option Addr} {n1 n2 c1 c2 : Nat} {t : Int} (h : 60 < n1 ∨ 60 < n2 ∨ t < 0 ∨ 1099511627776 < t) (hs : sat W H w) : Calls Try.prog 4 #[.slice a1 n1 c1, .slice a2 n2 c2, .int .i64 t] w fun e w' => e = .returned (.bool true) ∧ sat W H w' := by
  by_cases h1 : 60 < n1
  · clear h
    have g : decide ((60 : Int) < (n1 : Int)) = true := decide_eq_true (by omega)
    go_enter Try.func4, Try.ntmps4
    go_wp2_with (first | (go_at_call 5; refine (new5 (by decide) (by decide) (by decide) (by decide) hs).mono ?_; clear hs; rintro e w ⟨z, rfl, hs⟩) | (go_at_call 6; refine (known6 hs).mono ?_; clear hs; rintro e w ⟨rfl, hs⟩) | ((with_reducible refine isl ?_); first | ((with_reducible refine wrap hs ?_); clear hs; intro w hs) | ((with_reducible refine wrapn hs ?_); clear hs; intro w hs) | ((with_reducible refine wrapd hs ?_); clear hs; intro w hs)))
    go_ret
    exact ⟨rfl, hs.drop⟩
  have g : decide ((60 : Int) < (n1 : Int)) = false := decide_eq_false (by omega)
  by_cases h2 : 60 < n2
  · clear h h1
    have g2 : decide ((60 : Int) < (n2 : Int)) = true := decide_eq_true (by omega)
    go_enter Try.func4, Try.ntmps4
    go_wp2_with (first | (go_at_call 5; refine (new5 (by decide) (by decide) (by decide) (by decide) hs).mono ?_; clear hs; rintro e w ⟨z, rfl, hs⟩) | (go_at_call 6; refine (known6 hs).mono ?_; clear hs; rintro e w ⟨rfl, hs⟩) | ((with_reducible refine isl ?_); first | ((with_reducible refine wrap hs ?_); clear hs; intro w hs) | ((with_reducible refine wrapn hs ?_); clear hs; intro w hs) | ((with_reducible refine wrapd hs ?_); clear hs; intro w hs)))
    go_ret
    exact ⟨rfl, hs.drop⟩
  have g2 : decide ((60 : Int) < (n2 : Int)) = false := decide_eq_false (by omega)
  by_cases h3 : t < 0
  · clear h h1 h2
    have g3 : decide (t < 0) = true := decide_eq_true h3
    go_enter Try.func4, Try.ntmps4
    go_wp2_with (first | (go_at_call 5; refine (new5 (by decide) (by decide) (by decide) (by decide) hs).mono ?_; clear hs; rintro e w ⟨z, rfl, hs⟩) | (go_at_call 6; refine (known6 hs).mono ?_; clear hs; rintro e w ⟨rfl, hs⟩) | ((with_reducible refine isl ?_); first | ((with_reducible refine wrap hs ?_); clear hs; intro w hs) | ((with_reducible refine wrapn hs ?_); clear hs; intro w hs) | ((with_reducible refine wrapd hs ?_); clear hs; intro w hs)))
    go_ret
    exact ⟨rfl, hs.drop⟩
  have g3 : decide (t < 0) = false := decide_eq_false h3
  have h4 : 1099511627776 < t := by omega
  · clear h h1 h2 h3
    have g4 : decide ((1099511627776 : Int) < t) = true := decide_eq_true h4
    go_enter Try.func4, Try.ntmps4
    go_wp2_with (first | (go_at_call 5; refine (new5 (by decide) (by decide) (by decide) (by decide) hs).mono ?_; clear hs; rintro e w ⟨z, rfl, hs⟩) | (go_at_call 6; refine (known6 hs).mono ?_; clear hs; rintro e w ⟨rfl, hs⟩) | ((with_reducible refine isl ?_); first | ((with_reducible refine wrap hs ?_); clear hs; intro w hs) | ((with_reducible refine wrapn hs ?_); clear hs; intro w hs) | ((with_reducible refine wrapd hs ?_); clear hs; intro w hs)))
    go_ret
    exact ⟨rfl, hs.drop⟩
end Go.Proofs.Ytkldbppldomjhaa
