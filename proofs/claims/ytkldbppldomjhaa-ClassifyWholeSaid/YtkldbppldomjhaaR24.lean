/- Law 16: ClassifyWhole, the walk: what New refuses; too long. -/
import Derived.Test.YtkldbppldomjhaaR23
import Derived.Test.YtkldbppldomjhaaR20
namespace Go.Proofs.Ytkldbppldomjhaa
open Go.RowKit Go.Mem Go.Typed Go.Front Go.Classify
variable {W w : World} {H : List HProp}
attribute [local irreducible] World.setCell World.setCells World.alloc World.drew World.drewN Calls sat cel own blk old wpQuiet wpList tyL ringC rns tyP clP rnl
variable {b z : Nat} {c : Cl}
attribute [local irreducible] lst feedc
theorem new5_bad {life quiet : Int} (h : life < 1 ∨ 1000 < life ∨ quiet < 1 ∨ 1000 < quiet) (hs : sat W H w) : Calls Try.prog 5 #[.int .i64 life, .int .i64 quiet] w fun e w' => e = .returned (.tuple #[.pointer none, .int .i64 2]) ∧ sat W H w' := by
  by_cases h0 : life < 1 ∨ 1000 < life
  · have HA := Lib.hid h0
    clear h h0
    go_enter Try.func5, Try.ntmps5
    go_wp2_with (first | (go_at_call 12; refine (new_no life HA.out hs).mono ?_; clear hs; rintro e w ⟨rfl, hs⟩) | ((with_reducible refine isl ?_); first | ((with_reducible refine wrap hs ?_); clear hs; intro w hs) | ((with_reducible refine wrapn hs ?_); clear hs; intro w hs) | ((with_reducible refine wrapd hs ?_); clear hs; intro w hs)))
    refine end_ret rfl (results_tmp2 rfl _ _ _) ?_
    exact ⟨rfl, hs⟩
  · have HA : Hid (1 ≤ life ∧ life ≤ 1000) := Lib.hid (by omega)
    by_cases h1 : quiet < 1
    · clear h h0
      go_enter Try.func5, Try.ntmps5
      go_wp2_with (first | (go_at_call 12; refine (new7 life HA.out.1 HA.out.2 hs).mono ?_; clear hs; rintro e w ⟨bt, rfl, hs⟩; replace hs := (ty_of hs).drop) | ((with_reducible refine isl ?_); first | ((with_reducible refine wrap hs ?_); clear hs; intro w hs) | ((with_reducible refine wrapn hs ?_); clear hs; intro w hs) | ((with_reducible refine wrapd hs ?_); clear hs; intro w hs)))
      refine end_ret rfl (results_tmp2 rfl _ _ _) ?_
      exact ⟨rfl, hs⟩
    · have h2 : 1000 < quiet := by omega
      clear h h0
      go_enter Try.func5, Try.ntmps5
      go_wp2_with (first | (go_at_call 12; refine (new7 life HA.out.1 HA.out.2 hs).mono ?_; clear hs; rintro e w ⟨bt, rfl, hs⟩; replace hs := (ty_of hs).drop) | ((with_reducible refine isl ?_); first | ((with_reducible refine wrap hs ?_); clear hs; intro w hs) | ((with_reducible refine wrapn hs ?_); clear hs; intro w hs) | ((with_reducible refine wrapd hs ?_); clear hs; intro w hs)))
      refine end_ret rfl (results_tmp2 rfl _ _ _) ?_
      exact ⟨rfl, hs⟩
theorem bad3 {life quiet from_ step : Int} {a : Option Addr} {n cp : Nat} (h : life < 1 ∨ 1000 < life ∨ quiet < 1 ∨ 1000 < quiet) (hs : sat W H w) : Calls Try.prog 3 #[.int .i64 life, .int .i64 quiet, .int .u32 from_, .slice a n cp, .int .i64 step] w fun e w' => e = .returned (.bool true) ∧ sat W H w' := by
  have HA := Lib.hid h
  clear h
  go_enter Try.func3, Try.ntmps3
  go_wp2_with (first | (go_at_call 5; refine (new5_bad HA.out hs).mono ?_; clear hs; rintro e w ⟨rfl, hs⟩) | (go_at_call 6; refine (known6 hs).mono ?_; clear hs; rintro e w ⟨rfl, hs⟩) | ((with_reducible refine isl ?_); first | ((with_reducible refine wrap hs ?_); clear hs; intro w hs) | ((with_reducible refine wrapn hs ?_); clear hs; intro w hs) | ((with_reducible refine wrapd hs ?_); clear hs; intro w hs)))
  go_ret
  exact ⟨rfl, hs⟩
theorem long3 {life quiet from_ step : Int} {a : Option Addr} {n cp : Nat} (h1 : 1 ≤ life ∧ life ≤ 1000) (h2 : 1 ≤ quiet ∧ quiet ≤ 1000) (h : 1000 < n ∨ step < 0 ∨ 1000 < step) (hs : sat W H w) : Calls Try.prog 3 #[.int .i64 life, .int .i64 quiet, .int .u32 from_, .slice a n cp, .int .i64 step] w fun e w' => e = .returned (.bool true) ∧ sat W H w' := by
  have HA := Lib.hid h1
  have HB := Lib.hid h2
  clear h1 h2
  by_cases h1 : 1000 < n
  · clear h
    have g : decide ((1000 : Int) < (n : Int)) = true := decide_eq_true (by omega)
    go_enter Try.func3, Try.ntmps3
    go_wp2_with (first | (go_at_call 5; refine (new5 HA.out.1 HA.out.2 HB.out.1 HB.out.2 hs).mono ?_; clear hs; rintro e w ⟨z, rfl, hs⟩) | (go_at_call 6; refine (known6 hs).mono ?_; clear hs; rintro e w ⟨rfl, hs⟩) | ((with_reducible refine isl ?_); first | ((with_reducible refine wrap hs ?_); clear hs; intro w hs) | ((with_reducible refine wrapn hs ?_); clear hs; intro w hs) | ((with_reducible refine wrapd hs ?_); clear hs; intro w hs)))
    go_ret
    exact ⟨rfl, hs.drop⟩
  have g : decide ((1000 : Int) < (n : Int)) = false := decide_eq_false (by omega)
  by_cases h2 : step < 0
  · clear h h1
    have g2 : decide (step < 0) = true := decide_eq_true h2
    go_enter Try.func3, Try.ntmps3
    go_wp2_with (first | (go_at_call 5; refine (new5 HA.out.1 HA.out.2 HB.out.1 HB.out.2 hs).mono ?_; clear hs; rintro e w ⟨z, rfl, hs⟩) | (go_at_call 6; refine (known6 hs).mono ?_; clear hs; rintro e w ⟨rfl, hs⟩) | ((with_reducible refine isl ?_); first | ((with_reducible refine wrap hs ?_); clear hs; intro w hs) | ((with_reducible refine wrapn hs ?_); clear hs; intro w hs) | ((with_reducible refine wrapd hs ?_); clear hs; intro w hs)))
    go_ret
    exact ⟨rfl, hs.drop⟩
  have g2 : decide (step < 0) = false := decide_eq_false h2
  have h3 : 1000 < step := by omega
  · clear h h1 h2
    have g3 : decide ((1000 : Int) < step) = true := decide_eq_true h3
    go_enter Try.func3, Try.ntmps3
    go_wp2_with (first | (go_at_call 5; refine (new5 HA.out.1 HA.out.2 HB.out.1 HB.out.2 hs).mono ?_; clear hs; rintro e w ⟨z, rfl, hs⟩) | (go_at_call 6; refine (known6 hs).mono ?_; clear hs; rintro e w ⟨rfl, hs⟩) | ((with_reducible refine isl ?_); first | ((with_reducible refine wrap hs ?_); clear hs; intro w hs) | ((with_reducible refine wrapn hs ?_); clear hs; intro w hs) | ((with_reducible refine wrapd hs ?_); clear hs; intro w hs)))
    go_ret
    exact ⟨rfl, hs.drop⟩
end Go.Proofs.Ytkldbppldomjhaa
