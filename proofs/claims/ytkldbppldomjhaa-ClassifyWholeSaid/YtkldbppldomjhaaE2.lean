import Derived.Test.YtkldbppldomjhaaProg
import Derived.Test.YtkldbppldomjhaaSi
import Derived.Test.YtkldbppldomjhaaE1
import Derived.RegionTactic
import Derived.BigRegion
import Derived.ChangeAlike
import Derived.Deep.Cut
import Derived.Deep.CutRange
import Derived.Deep.CutBlock
import Derived.Deep.DeepCutAuto
namespace Go.Proofs.Ytkldbppldomjhaa
open Go.RowKit Go.Mem Go.Typed
variable {W w : World} {H : List HProp}
theorem row34 : rowTy Try.prog 60 2 = true := by kernel_rfl
theorem row37 : rowTy Try.prog 63 132 = true := by kernel_rfl
theorem dr0 (w : World) : w = w.drewN 0 := rfl
theorem cel_fr {b : Nat} {T : TypeId} {l : List Value} (hs : sat W (cel b T l :: H) w) (i : Nat) : w.frozen? ⟨b, i, none⟩ = false := sat.frozen hs
theorem beq_no {n k : Int} (h : n ≠ k) : (n == k) = false := by simpa using h
attribute [local irreducible] World.setCell World.setCells World.alloc World.drew World.drewN Calls sat cel own blk old wpQuiet wpList tyL ringC
variable {g : Nat → One} {f n : Nat} {life now : Int} {b : Nat}
theorem none13 (hl : 0 < life) (hs : sat W (cel b 63 (tyL g f n life now) :: H) w) : Calls Try.prog 23 #[.pointer (some ⟨b, 0, none⟩)] w fun e w' => e = .returned (.bool false) ∧ ∃ k, w' = w.drewN k := by
  have b0 : (life == 0) = false := beq_no (by omega)
  go_enter Try.func23, Try.ntmps23
  go_wp2_with (first | ((with_reducible refine isl ?_); first | ((with_reducible apply ld hs); exact rfl; exact rfl; exact rfl; exact ty_life; kernel_rfl) | ((with_reducible refine wrap hs ?_); clear hs; intro w hs) | ((with_reducible refine wrapn hs ?_); clear hs; intro w hs) | ((with_reducible refine wrapd hs ?_); clear hs; intro w hs)))
  go_ret
  exact ⟨rfl, 0, dr0 _⟩
theorem none13_zero (hs : sat W (cel b 63 (tyL g f n 0 now) :: H) w) : Calls Try.prog 23 #[.pointer (some ⟨b, 0, none⟩)] w fun e w' => e = .returned (.bool true) ∧ ∃ k, w' = w.drewN k := by
  go_enter Try.func23, Try.ntmps23
  go_wp2_with (first | ((with_reducible refine isl ?_); first | ((with_reducible apply ld hs); exact rfl; exact rfl; exact rfl; exact ty_life; kernel_rfl) | ((with_reducible refine wrap hs ?_); clear hs; intro w hs) | ((with_reducible refine wrapn hs ?_); clear hs; intro w hs) | ((with_reducible refine wrapd hs ?_); clear hs; intro w hs)))
  go_ret
  exact ⟨rfl, 0, dr0 _⟩
theorem none13_nil (w : World) : Calls Try.prog 23 #[.pointer none] w fun e w' => e = .returned (.bool true) ∧ ∃ k, w' = w.drewN k := by
  go_enter Try.func23, Try.ntmps23
  go_wp2
  go_ret
  exact ⟨rfl, 0, dr0 _⟩
theorem tick14 (t : Int) (hs : sat W (cel b 63 (tyL g f n life now) :: H) w) : Calls Try.prog 24 #[.pointer (some ⟨b, 0, none⟩), .int .i64 t] w fun e w' => e = .returned (.int .i64 (tick now t)) ∧ sat W (cel b 63 (tyL g f n life (tick now t)) :: H) w' := by
  by_cases h1 : t < 1099511627776
  · have h1' : ¬ 1099511627776 < t := by omega
    by_cases h2 : now < t
    · skip
      rw [show tick now t = t from by unfold tick; omega]
      go_enter Try.func24, Try.ntmps24
      go_wp2_with (first | ((with_reducible refine isl ?_); first | ((with_reducible apply ld hs); exact rfl; exact rfl; exact rfl; exact ty_now; kernel_rfl) | ((with_reducible apply st hs); exact rfl; exact rfl; exact rfl; exact rfl; exact rfl; (rw [ty_now]; rfl); kernel_rfl; exact rfl; clear hs; intro w hs; rw [set_now] at hs) | ((with_reducible refine wrap hs ?_); clear hs; intro w hs) | ((with_reducible refine wrapn hs ?_); clear hs; intro w hs) | ((with_reducible refine wrapd hs ?_); clear hs; intro w hs)))
      go_ret
      exact ⟨rfl, hs⟩
    · skip
      rw [show tick now t = now from by unfold tick; omega]
      go_enter Try.func24, Try.ntmps24
      go_wp2_with (first | ((with_reducible refine isl ?_); first | ((with_reducible apply ld hs); exact rfl; exact rfl; exact rfl; exact ty_now; kernel_rfl) | ((with_reducible apply st hs); exact rfl; exact rfl; exact rfl; exact rfl; exact rfl; (rw [ty_now]; rfl); kernel_rfl; exact rfl; clear hs; intro w hs; rw [set_now] at hs) | ((with_reducible refine wrap hs ?_); clear hs; intro w hs) | ((with_reducible refine wrapn hs ?_); clear hs; intro w hs) | ((with_reducible refine wrapd hs ?_); clear hs; intro w hs)))
      go_ret
      exact ⟨rfl, hs⟩
  · by_cases h0 : t = 1099511627776
    · subst h0
      by_cases h2 : now < 1099511627776
      · skip
        rw [show tick now 1099511627776 = 1099511627776 from by unfold tick; omega]
        go_enter Try.func24, Try.ntmps24
        go_wp2_with (first | ((with_reducible refine isl ?_); first | ((with_reducible apply ld hs); exact rfl; exact rfl; exact rfl; exact ty_now; kernel_rfl) | ((with_reducible apply st hs); exact rfl; exact rfl; exact rfl; exact rfl; exact rfl; (rw [ty_now]; rfl); kernel_rfl; exact rfl; clear hs; intro w hs; rw [set_now] at hs) | ((with_reducible refine wrap hs ?_); clear hs; intro w hs) | ((with_reducible refine wrapn hs ?_); clear hs; intro w hs) | ((with_reducible refine wrapd hs ?_); clear hs; intro w hs)))
        go_ret
        exact ⟨rfl, hs⟩
      · skip
        rw [show tick now 1099511627776 = now from by unfold tick; omega]
        go_enter Try.func24, Try.ntmps24
        go_wp2_with (first | ((with_reducible refine isl ?_); first | ((with_reducible apply ld hs); exact rfl; exact rfl; exact rfl; exact ty_now; kernel_rfl) | ((with_reducible apply st hs); exact rfl; exact rfl; exact rfl; exact rfl; exact rfl; (rw [ty_now]; rfl); kernel_rfl; exact rfl; clear hs; intro w hs; rw [set_now] at hs) | ((with_reducible refine wrap hs ?_); clear hs; intro w hs) | ((with_reducible refine wrapn hs ?_); clear hs; intro w hs) | ((with_reducible refine wrapd hs ?_); clear hs; intro w hs)))
        go_ret
        exact ⟨rfl, hs⟩
    · have h1' : 1099511627776 < t := by omega
      by_cases h2 : now < 1099511627776
      · skip
        rw [show tick now t = 1099511627776 from by unfold tick; omega]
        go_enter Try.func24, Try.ntmps24
        go_wp2_with (first | ((with_reducible refine isl ?_); first | ((with_reducible apply ld hs); exact rfl; exact rfl; exact rfl; exact ty_now; kernel_rfl) | ((with_reducible apply st hs); exact rfl; exact rfl; exact rfl; exact rfl; exact rfl; (rw [ty_now]; rfl); kernel_rfl; exact rfl; clear hs; intro w hs; rw [set_now] at hs) | ((with_reducible refine wrap hs ?_); clear hs; intro w hs) | ((with_reducible refine wrapn hs ?_); clear hs; intro w hs) | ((with_reducible refine wrapd hs ?_); clear hs; intro w hs)))
        go_ret
        exact ⟨rfl, hs⟩
      · skip
        rw [show tick now t = now from by unfold tick; omega]
        go_enter Try.func24, Try.ntmps24
        go_wp2_with (first | ((with_reducible refine isl ?_); first | ((with_reducible apply ld hs); exact rfl; exact rfl; exact rfl; exact ty_now; kernel_rfl) | ((with_reducible apply st hs); exact rfl; exact rfl; exact rfl; exact rfl; exact rfl; (rw [ty_now]; rfl); kernel_rfl; exact rfl; clear hs; intro w hs; rw [set_now] at hs) | ((with_reducible refine wrap hs ?_); clear hs; intro w hs) | ((with_reducible refine wrapn hs ?_); clear hs; intro w hs) | ((with_reducible refine wrapd hs ?_); clear hs; intro w hs)))
        go_ret
        exact ⟨rfl, hs⟩
theorem at15 (i : Nat) (hf : f < 64) (hi : i < 64) (hs : sat W (cel b 63 (tyL g f n life now) :: H) w) : Calls Try.prog 25 #[.pointer (some ⟨b, 0, none⟩), .int .i64 i] w fun e w' => e = .returned (.pointer (some ⟨b, (f + i) % 64 * 2, none⟩)) ∧ ∃ k, w' = w.drewN k := by
  have h1 : (0 : Int) ≤ ((f : Int) + i) % 64 := by omega
  have h2 : ((f : Int) + i) % 64 < 64 := by omega
  have hc := hs.cel_cell ty_f
  go_enter Try.func25, Try.ntmps25
  go_wp2
  go_quiet (fail)
  go_wp2
  go_ret
  exact ⟨rfl, _, rfl⟩
theorem drop16 (hf : f < 64) (hn : 0 < n) (hn2 : n ≤ 64) (hs : sat W (cel b 63 (tyL g f n life now) :: H) w) : Calls Try.prog 26 #[.pointer (some ⟨b, 0, none⟩)] w fun e w' => e = .returned (.tuple #[]) ∧ sat W (cel b 63 (tyL g ((f + 1) % 64) (n - 1) life now) :: H) w' := by
  have h1 : (0 : Int) ≤ ((f : Int) + 1) % 64 := by omega
  have h2 : ((f : Int) + 1) % 64 < 64 := by omega
  have hc := hs.cel_cell ty_f
  have hc2 := hs.cel_cell ty_n
  have hfr := cel_fr hs 128
  have hfr2 := cel_fr hs 129
  have hs1 := ((hs.cel_set (i := 128) (.int .i64 (((f : Int) + 1) % 64))).cel_set (i := 129) (.int .i64 ((n : Int) - 1))).drew
  rw [set_f _ ((f + 1) % 64) (by omega), set_n _ (n - 1) (by omega)] at hs1
  go_enter Try.func26, Try.ntmps26
  go_region
  go_end0
  exact ⟨rfl, hs1⟩
end Go.Proofs.Ytkldbppldomjhaa
