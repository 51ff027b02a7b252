import Derived.Test.YtkldbppldomjhaaE4
namespace Go.Proofs.Ytkldbppldomjhaa
open Go.RowKit Go.Mem Go.Typed
variable {W w : World} {H : List HProp}
def zg : Nat → One := fun _ => ⟨0, 0⟩
theorem zinfo : (Try.prog.info? 63).bind (fun i => i.zero) = some (.agg (tyL zg 0 0 0 0).toArray) := by kernel_rfl
theorem zero37 (w : World) : (zeroValue 63).run Try.prog w = .ok (.agg (tyL zg 0 0 0 0).toArray) w := by
  have h := zinfo
  cases hi : Try.prog.info? 63 with
  | none => rw [hi] at h; cases h
  | some i =>
    rw [hi] at h
    have h2 : i.zero = some (.agg (tyL zg 0 0 0 0).toArray) := h
    simp [zeroValue, typeInfo, hi, h2]
theorem zsize : (tyL zg 0 0 0 0).toArray.size = 132 := by simp [tyL_len]
theorem zlen : (tyL zg 0 0 0 0).length = 132 := tyL_len
theorem set_life (life : Int) : (tyL zg 0 0 0 0).set 130 (.int .i64 life) = tyL zg 0 0 life 0 := by
  unfold tyL; rw [List.set_append_right _ _ (by rw [ringC_len]; omega), ringC_len]; rfl
/-- Whatever is no list. -/
def NoneAt (W : World) (H : List HProp) (p : Value) : Prop := ∀ w, sat W H w → Calls Try.prog 23 #[p] w fun e w' => e = .returned (.bool true) ∧ sat W H w'
attribute [local irreducible] World.setCell World.setCells World.alloc World.drew World.drewN Calls sat cel own blk old wpQuiet wpList tyL ringC nOf
variable {g : Nat → One} {f n : Nat} {life now : Int} {b : Nat}
theorem noneAt_nil : NoneAt W H (.pointer none) := fun w hs => (none13_nil w).mono fun _ _ ⟨h, k, e⟩ => ⟨h, e ▸ hs.drewN k⟩
theorem noneAt_zero : NoneAt W (cel b 63 (tyL g f n 0 now) :: H) (.pointer (some ⟨b, 0, none⟩)) := fun _ hs => (none13_zero hs).mono fun _ _ ⟨h, k, e⟩ => ⟨h, e ▸ hs.drewN k⟩
theorem type_none {p : Value} (hn : NoneAt W H p) (r t : Int) (hs : sat W H w) : Calls Try.prog 22 #[p, .int .i32 r, .int .i64 t] w fun e w' => e = .returned (.tuple #[]) ∧ sat W H w' := by
  go_enter Try.func22, Try.ntmps22
  go_wp2_with (first | (go_at_call 23; refine (hn _ hs).mono ?_; clear hs; rintro e w ⟨rfl, hs⟩) | ((with_reducible refine isl ?_); first | ((with_reducible refine wrap hs ?_); clear hs; intro w hs) | ((with_reducible refine wrapn hs ?_); clear hs; intro w hs) | ((with_reducible refine wrapd hs ?_); clear hs; intro w hs)))
  refine end_ret0 rfl rfl ⟨rfl, hs⟩
theorem take_none {p : Value} (hn : NoneAt W H p) (r t : Int) (hs : sat W H w) : Calls Try.prog 16 #[p, .int .i32 r, .int .i64 t] w fun e w' => e = .returned (.bool false) ∧ sat W H w' := by
  go_enter Try.func16, Try.ntmps16
  go_wp2_with (first | (go_at_call 23; refine (hn _ hs).mono ?_; clear hs; rintro e w ⟨rfl, hs⟩) | ((with_reducible refine isl ?_); first | ((with_reducible refine wrap hs ?_); clear hs; intro w hs) | ((with_reducible refine wrapn hs ?_); clear hs; intro w hs) | ((with_reducible refine wrapd hs ?_); clear hs; intro w hs)))
  go_ret
  exact ⟨rfl, hs⟩
set_option maxHeartbeats 1000000 in
theorem new7 (life : Int) (h1 : 1 ≤ life) (h2 : life ≤ 1000) (hs : sat W H w) : Calls Try.prog 12 #[.int .i64 life] w fun e w' => ∃ b, e = .returned (.tuple #[.pointer (some ⟨b, 0, none⟩), .int .i64 0]) ∧ TY W b [] life 0 H w' := by
  have hz := zero37
  have hz2 := zsize
  have hz3 := zlen
  go_enter Try.func12, Try.ntmps12
  go_wp2_with (first | ((with_reducible refine isl ?_); first | ((with_reducible refine wrap hs ?_); clear hs; intro w hs) | ((with_reducible refine wrapn hs ?_); clear hs; intro w hs) | ((with_reducible refine wrapd hs ?_); clear hs; intro w hs)))
  rw [set_life]
  refine end_ret rfl (results_tmp2 rfl _ _ _) ⟨_, rfl, zg, 0, 0, by decide, by decide, rfl, hs.made⟩
theorem new_no (life : Int) (h1 : life < 1 ∨ 1000 < life) (hs : sat W H w) : Calls Try.prog 12 #[.int .i64 life] w fun e w' => e = .returned (.tuple #[.pointer none, .int .i64 2]) ∧ sat W H w' := by
  by_cases h0 : life < 1
  · clear h1
    go_enter Try.func12, Try.ntmps12
    go_wp2_with (first | ((with_reducible refine isl ?_); first | ((with_reducible refine wrap hs ?_); clear hs; intro w hs) | ((with_reducible refine wrapn hs ?_); clear hs; intro w hs) | ((with_reducible refine wrapd hs ?_); clear hs; intro w hs)))
    refine end_ret rfl (results_tmp2 rfl _ _ _) ⟨rfl, hs⟩
  · have h2 : 1000 < life := by omega
    have h3 : ¬ life < 1 := h0
    clear h1
    go_enter Try.func12, Try.ntmps12
    go_wp2_with (first | ((with_reducible refine isl ?_); first | ((with_reducible refine wrap hs ?_); clear hs; intro w hs) | ((with_reducible refine wrapn hs ?_); clear hs; intro w hs) | ((with_reducible refine wrapd hs ?_); clear hs; intro w hs)))
    refine end_ret rfl (results_tmp2 rfl _ _ _) ⟨rfl, hs⟩
end Go.Proofs.Ytkldbppldomjhaa
