/- Law 16: the known run. -/
import Derived.Test.YtkldbppldomjhaaR13
namespace Go.Proofs.Ytkldbppldomjhaa
open Go.RowKit Go.Mem Go.Typed Go.Front Go.Classify
variable {W w : World} {H : List HProp}
theorem kn1 : feedc ⟨[], 5, 0, Front.new, 5, zr, 0, 0⟩ ⟨1, 0, 0, 0, false, 104, true, false, false, false⟩ 0 = (⟨[], 5, 0, ⟨false, 2⟩, 5, ⟨2, 0, 1, [104]⟩, 0, 0⟩, []) := by kernel_rfl
theorem kn2 : feedc ⟨[], 5, 0, ⟨false, 2⟩, 5, ⟨2, 0, 1, [104]⟩, 0, 0⟩ ⟨1, 1, 0, 0, false, 105, true, false, false, false⟩ 0 = (⟨[], 5, 0, ⟨false, 2⟩, 5, ⟨2, 0, 2, [104, 105]⟩, 0, 0⟩, []) := by kernel_rfl
theorem kn3 : feedc ⟨[], 5, 0, ⟨false, 2⟩, 5, ⟨2, 0, 2, [104, 105]⟩, 0, 0⟩ ⟨3, 0, 0, 0, false, 0, false, false, false, false⟩ 1 = (⟨[], 5, 0, ⟨false, 2⟩, 5, zr, 0, 1⟩, [⟨2, 0, 2, [104, 105]⟩]) := by kernel_rfl
theorem lit_run {z1 z2 cp : Nat} {a : Option Addr} (hs : sat W (cel z2 36 (rnC ⟨2, 0, 2, [104, 105]⟩ (.slice (some ⟨z1, 0, none⟩) 2 2)) :: cel z1 21 [.int .i32 104, .int .i32 105] :: rns (.slice a 1 cp) [⟨2, 0, 2, [104, 105]⟩] :: H) w) : sat W (rns (.slice a 1 cp) [⟨2, 0, 2, [104, 105]⟩] :: rns (.slice (some ⟨z2, 0, none⟩) 1 1) [⟨2, 0, 2, [104, 105]⟩] :: H) w := by
  have h1 := (sat.own_mk (n := 1) (cap := 1) (size := 4) hs (Nat.le_refl _) (by decide) (by simp [rnC]))
  have h2 : sat W (own 21 1 (.slice (some ⟨z1, 0, none⟩) 2 2) 2 (runes [104, 105]) :: _) w := h1.b1.cel_own (by decide)
  have h3 := rnl_one (x := ⟨2, 0, 2, [104, 105]⟩) h2
  have h4 := rns_mk (l := [⟨2, 0, 2, [104, 105]⟩]) (L := [rnC ⟨2, 0, 2, [104, 105]⟩ (.slice (some ⟨z1, 0, none⟩) 2 2)]) (by simp; rfl) h3.b1
  exact h4.b1
attribute [local irreducible] World.setCell World.setCells World.alloc World.drew World.drewN Calls sat cel own blk old wpQuiet wpList tyL ringC rns tyP clP rnl
variable {b z : Nat} {c : Cl}
attribute [local irreducible] lst feedc
theorem new5_no {life : Int} (h1 : 1 ≤ life) (h2 : life ≤ 1000) (hs : sat W H w) : Calls Try.prog 5 #[.int .i64 life, .int .i64 0] w fun e w' => e = .returned (.tuple #[.pointer none, .int .i64 2]) ∧ sat W H w' := by
  have HA := Lib.hid (And.intro h1 h2)
  go_enter Try.func5, Try.ntmps5
  go_wp2_with (first | (go_at_call 12; refine (new7 life HA.out.1 HA.out.2 hs).mono ?_; clear hs; rintro e w ⟨bt, rfl, hs⟩; replace hs := (ty_of hs).drop) | ((with_reducible refine isl ?_); first | ((with_reducible refine wrap hs ?_); clear hs; intro w hs) | ((with_reducible refine wrapn hs ?_); clear hs; intro w hs) | ((with_reducible refine wrapd hs ?_); clear hs; intro w hs)))
  refine end_ret rfl (results_tmp2 rfl _ _ _) ?_
  exact ⟨rfl, hs⟩
set_option maxHeartbeats 1000000 in
theorem known6 (hs : sat W H w) : Calls Try.prog 6 #[] w fun e w' => e = .returned (.bool true) ∧ sat W H w' := by
  go_enter Try.func6, Try.ntmps6
  go_wp2_with (first | (go_at_call 5; refine (new5 (by decide) (by decide) (by decide) (by decide) hs).mono ?_; clear hs; rintro e w ⟨z, rfl, hs⟩) | (go_at_call 5; refine (new5_no (by decide) (by decide) hs).mono ?_; clear hs; rintro e w ⟨rfl, hs⟩) | (go_at_call 7; refine (feed7 (e := ⟨1, 0, 0, 0, false, 104, true, false, false, false⟩) (c := ⟨[], 5, 0, Front.new, 5, zr, 0, 0⟩) ⟨by decide, by decide, by decide, by decide, by decide, by decide, by decide, by decide, by decide, by decide, by decide⟩ ⟨by decide, by decide⟩ (by decide) (by decide) kn1 (by apply sk_from (hs := hs); repeat constructor)).mono ?_; clear hs; rintro e w ⟨x1, cx1, rfl, hs⟩) | (go_at_call 7; refine (feed7 (e := ⟨1, 1, 0, 0, false, 105, true, false, false, false⟩) (c := ⟨[], 5, 0, ⟨false, 2⟩, 5, ⟨2, 0, 1, [104]⟩, 0, 0⟩) ⟨by decide, by decide, by decide, by decide, by decide, by decide, by decide, by decide, by decide, by decide, by decide⟩ ⟨by decide, by decide⟩ (by decide) (by decide) kn2 (by apply sk_from (hs := hs); repeat constructor)).mono ?_; clear hs; rintro e w ⟨x2, cx2, rfl, hs⟩) | (go_at_call 7; refine (feed7 (e := ⟨3, 0, 0, 0, false, 0, false, false, false, false⟩) (c := ⟨[], 5, 0, ⟨false, 2⟩, 5, ⟨2, 0, 2, [104, 105]⟩, 0, 0⟩) ⟨by decide, by decide, by decide, by decide, by decide, by decide, by decide, by decide, by decide, by decide, by decide⟩ ⟨by decide, by decide⟩ (by decide) (by decide) kn3 (by apply sk_from (hs := hs); repeat constructor)).mono ?_; clear hs; rintro e w ⟨x3, cx3, rfl, hs⟩) | (go_at_call 9; refine (same9 (l := [⟨2, 0, 2, [104, 105]⟩]) rfl (by decide) (lit_run hs)).mono ?_; clear hs; rintro e w ⟨rfl, hs⟩) | ((with_reducible refine isl ?_); first | ((with_reducible apply ld hs.b0); exact rfl; exact rfl; exact rfl; exact rfl; kernel_rfl) | ((with_reducible apply ld hs.b1); exact rfl; exact rfl; exact rfl; exact rfl; kernel_rfl) | ((with_reducible apply st hs.b0); exact rfl; exact rfl; exact rfl; exact rfl; exact rfl; exact rfl; kernel_rfl; exact rfl; clear hs; intro w hs) | ((with_reducible apply st hs.b1); exact rfl; exact rfl; exact rfl; exact rfl; exact rfl; exact rfl; kernel_rfl; exact rfl; clear hs; intro w hs) | ((with_reducible apply stc hs.b0); exact rfl; exact rfl; exact rfl; exact rfl; exact rfl; kernel_rfl; exact rfl; clear hs; intro w hs) | ((with_reducible apply stc hs.b1); exact rfl; exact rfl; exact rfl; exact rfl; exact rfl; kernel_rfl; exact rfl; clear hs; intro w hs) | ((with_reducible refine wrap hs ?_); clear hs; intro w hs) | ((with_reducible refine wrapn hs ?_); clear hs; intro w hs) | ((with_reducible refine wrapd hs ?_); clear hs; intro w hs)))
  go_ret
  exact ⟨rfl, by (refine sb_from ?_ hs; repeat constructor)⟩
end Go.Proofs.Ytkldbppldomjhaa
