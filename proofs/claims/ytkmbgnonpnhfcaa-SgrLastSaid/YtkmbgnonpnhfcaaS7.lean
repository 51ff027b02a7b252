import Derived.Test.YtkmbgnonpnhfcaaS5
namespace Go.Proofs.Ytkmbgnonpnhfcaa
open Go.RowKit Go.Mem Go.Sgr
variable {W w : World} {H : List HProp}
theorem SL.of_cel {b : Nat} {l : List Int} {n : Nat} (e : n = l.length) (hl : n ≤ 1000) : SL W (cel b 3 (ints l) :: H) (some ⟨b, 0, none⟩) n n l := by
  subst e
  refine ⟨rfl, Nat.le_refl _, by unfold maxLen; omega, fun w' hs => ?_⟩
  have := hs.cel_reads (cap := l.length) (by rw [List.length_map]; unfold maxLen; omega)
  rwa [List.length_map] at this
theorem SL.more {A : HProp} {a : Option Addr} {n c : Nat} {l : List Int} (h : SL W H a n c l) : SL W (A :: H) a n c l := ⟨h.1, h.2.1, h.2.2.1, fun w' hs => h.2.2.2 w' hs.drop⟩
theorem wf_zero : wf zero := by unfold wf zero; simp
attribute [local irreducible] World.setCell World.alloc World.drew World.drewN Calls sat cel own blk old wpQuiet flj no go plain follows SL wf apply
theorem _root_.Go.Mem.sat.cel_all {b : Nat} {T : TypeId} {l : List Value} (hs : sat W (cel b T l :: H) w) : w.rangeAt b 0 l := hs.cel_range (i := 0) (n := l.length) (by simp)
def IsAt (v : Value) (x : At) : Prop := v = atV x
theorem apply_t (a : At) (h : wf a) (l : List Int) (x : At) (hx : apply a l = x) (ad : Option Addr) (n cp : Nat) (hl : SL W H ad n cp l) (hs : sat W H w) : Calls Try.prog 8 #[atV a, .slice ad n cp] w fun e w' => e = .returned (atV x) ∧ sat W H w' := hx ▸ apply8 a h l ad n cp hl hs
theorem k1 : apply zero [1, 31] = ⟨2, 0, 1⟩ := by decide +kernel
theorem k2 : apply zero [38, 5, 200, 4] = ⟨201, 0, 8⟩ := by decide +kernel
theorem k3 : apply zero [38, 2, 1, 2] = ⟨0, 0, 0⟩ := by decide +kernel
theorem k4 : apply zero [7, 48, 2, 1, 2, 3] = ⟨0, 16843267, 32⟩ := by decide +kernel
set_option maxHeartbeats 4000000 in
set_option maxRecDepth 8000 in
theorem known7 (hs : sat W H w) : Calls Try.prog 7 #[] w fun e w' => e = .returned (.bool true) ∧ sat W H w' := by
  go_enter Try.func7, Try.ntmps7
  go_wp2_with (first | ((with_reducible refine isl ?_); first | ((with_reducible refine wrap hs ?_); clear hs; intro w hs) | ((with_reducible refine wrapn hs ?_); clear hs; intro w hs) | ((with_reducible refine wrapd hs ?_); clear hs; intro w hs)))
  have hs := hs.made (T := 25) (l := [.int .u32 0, .int .u32 0, .int .u16 0])
  generalize World.alloc w _ = w1 at hs ⊢
  generalize w.heap.size = z1 at hs ⊢
  have hu := Try.underlying25
  have hi : (Try.prog.info? 25).map (·.size) = some 3 := by kernel_rfl
  go_region_held3 (fun w' => w'.cell? ⟨z1, 0, none⟩ = some (.int .u32 0) ∧ w'.cell? ⟨z1, 1, none⟩ = some (.int .u32 0) ∧ w'.cell? ⟨z1, 2, none⟩ = some (.int .u16 0)) (first | exact ⟨hs.cel_cell rfl, hs.cel_cell rfl, hs.cel_cell rfl⟩ | exact ⟨hs.drew.cel_cell rfl, hs.drew.cel_cell rfl, hs.drew.cel_cell rfl⟩ | exact ⟨hs.made.drew.b1.cel_cell rfl, hs.made.drew.b1.cel_cell rfl, hs.made.drew.b1.cel_cell rfl⟩ | exact ⟨hs.drew.made.b1.cel_cell rfl, hs.drew.made.b1.cel_cell rfl, hs.drew.made.b1.cel_cell rfl⟩ | exact ⟨hs.made.b1.cel_cell rfl, hs.made.b1.cel_cell rfl, hs.made.b1.cel_cell rfl⟩) (first | (go_at_call 8; refine (apply_t zero wf_zero [1, 31] _ k1 (some ⟨_, 0, none⟩) 2 2 (SL.of_cel rfl (by decide)) (hs.made (T := 3) (l := ints [1, 31]))).mono ?_; clear hs; rintro e w ⟨rfl, hs⟩; replace hs := hs.drop) | (go_at_call 8; refine (apply_t zero wf_zero [1, 31] _ k1 (some ⟨_, 0, none⟩) 2 2 (SL.of_cel rfl (by decide)) (hs.made (T := 3) (l := ints [1, 31])).drew).mono ?_; clear hs; rintro e w ⟨rfl, hs⟩; replace hs := hs.drop) | (go_at_call 8; refine (apply_t zero wf_zero [38, 5, 200, 4] _ k2 (some ⟨_, 0, none⟩) 4 4 (SL.of_cel rfl (by decide)) (hs.made (T := 3) (l := ints [38, 5, 200, 4]))).mono ?_; clear hs; rintro e w ⟨rfl, hs⟩; replace hs := hs.drop) | (go_at_call 8; refine (apply_t zero wf_zero [38, 5, 200, 4] _ k2 (some ⟨_, 0, none⟩) 4 4 (SL.of_cel rfl (by decide)) (hs.made (T := 3) (l := ints [38, 5, 200, 4])).drew).mono ?_; clear hs; rintro e w ⟨rfl, hs⟩; replace hs := hs.drop) | (go_at_call 8; refine (apply_t zero wf_zero [38, 2, 1, 2] _ k3 (some ⟨_, 0, none⟩) 4 4 (SL.of_cel rfl (by decide)) (hs.made (T := 3) (l := ints [38, 2, 1, 2]))).mono ?_; clear hs; rintro e w ⟨rfl, hs⟩; replace hs := hs.drop) | (go_at_call 8; refine (apply_t zero wf_zero [38, 2, 1, 2] _ k3 (some ⟨_, 0, none⟩) 4 4 (SL.of_cel rfl (by decide)) (hs.made (T := 3) (l := ints [38, 2, 1, 2])).drew).mono ?_; clear hs; rintro e w ⟨rfl, hs⟩; replace hs := hs.drop) | (go_at_call 8; refine (apply_t zero wf_zero [7, 48, 2, 1, 2, 3] _ k4 (some ⟨_, 0, none⟩) 6 6 (SL.of_cel rfl (by decide)) (hs.made (T := 3) (l := ints [7, 48, 2, 1, 2, 3]))).mono ?_; clear hs; rintro e w ⟨rfl, hs⟩; replace hs := hs.drop) | (go_at_call 8; refine (apply_t zero wf_zero [7, 48, 2, 1, 2, 3] _ k4 (some ⟨_, 0, none⟩) 6 6 (SL.of_cel rfl (by decide)) (hs.made (T := 3) (l := ints [7, 48, 2, 1, 2, 3])).drew).mono ?_; clear hs; rintro e w ⟨rfl, hs⟩; replace hs := hs.drop))
  go_wp2
  go_ret
  exact ⟨rfl, hs.drop⟩
end Go.Proofs.Ytkmbgnonpnhfcaa
