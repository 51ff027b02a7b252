import Derived.Test.YtninmdoeippcgaaM8
namespace Go.Proofs.Ytninmdoeippcgaa
open Go.RowKit Go.Mem Go.Modes Go.Maps
variable {W w : World} {H : List HProp}
def alt (a : Bool) (n : Int) : Bool := a && (n == 47 || n == 1047 || n == 1049)
set_option maxHeartbeats 4000000 in
theorem cond_eq {a b : Bool} {n k : Int} {i j : Nat} (h1 : place a n = some i) (h2 : place b k = some j) : ((a == b && n == k) || (alt a n && alt b k)) = decide (i = j) := by
  unfold place at h1 h2
  unfold alt
  cases a <;> cases b <;> (simp only [if_true, Bool.true_eq_false, Bool.false_eq_true, if_false] at h1 h2) <;> (repeat' split at h1) <;> first | (exfalso; simp at h1; done) | (cases h1; (repeat' split at h2) <;> first | (exfalso; simp at h2; done) | (cases h2; simp_all))
attribute [local irreducible] World.setCell World.setCells World.alloc World.drew World.drewN Calls sat cel own blk old mp wpQuiet tab setb acc
theorem fn_alt {p : Bool} {n : Int} {u : Bool} (h : alt p n = u) (w : World) : Calls Try.prog 14 #[.bool p, .int .i64 n] w fun e w' => e = .returned (.bool u) ∧ w' = w := h ▸ fn14 p n w
set_option maxHeartbeats 2000000 in
theorem put_law (m : M) (p : Bool) (n : Int) (on : Bool) (hn : (Lit.int .i64 n).wf = true) (hs : sat W H w) : Calls Try.prog 3 #[mV m, .bool p, .int .i64 n, .bool on] w fun e w' => e = .returned (.bool true) ∧ sat W H w' := by
  have HN := Lib.hid hn
  clear hn
  obtain ⟨x, y, hx⟩ : ∃ x y, Modes.put m p n on = (x, y) := ⟨_, _, rfl⟩
  have HX := Lib.hid hx
  clear hx
  obtain ⟨x0, x1, x2, x3, x4, x5, x6, x7⟩ := x
  obtain ⟨a0, a1, a2, a3, a4, a5, a6, a7⟩ := m
  go_enter Try.func3, Try.ntmps3
  go_wp2_with (first | (go_at_call 7; refine (putp HX.out HN.out hs).mono ?_; clear hs; rintro e w ⟨rfl, hs⟩) | (go_at_call 8; refine (putq HX.out hs).mono ?_; clear hs; rintro e w ⟨rfl, hs⟩) | (go_at_call 9; refine (known9 hs).mono ?_; clear hs; rintro e w ⟨rfl, hs⟩) | (apply stsw hs.b0; exact rfl; exact rfl; exact rfl; exact rfl; (show rowTy _ _ 8 = true; kernel_rfl); exact rfl; exact rfl; exact rfl; clear hs; intro w hs) | (apply stsw hs.b1; exact rfl; exact rfl; exact rfl; exact rfl; (show rowTy _ _ 8 = true; kernel_rfl); exact rfl; exact rfl; exact rfl; clear hs; intro w hs) | (apply ldsw hs.b0; exact rfl; exact rfl; exact rfl; (show rowTy _ _ 8 = true; kernel_rfl)) | (apply ldsw hs.b1; exact rfl; exact rfl; exact rfl; (show rowTy _ _ 8 = true; kernel_rfl)) | (apply ldsw hs.b2; exact rfl; exact rfl; exact rfl; (show rowTy _ _ 8 = true; kernel_rfl)) | (apply ld hs.b0; exact rfl; exact rfl; exact rfl; exact rfl; kernel_rfl) | (apply ld hs.b1; exact rfl; exact rfl; exact rfl; exact rfl; kernel_rfl) | (apply ld hs.b2; exact rfl; exact rfl; exact rfl; exact rfl; kernel_rfl) | (apply st hs.b0; exact rfl; exact rfl; exact rfl; exact rfl; exact rfl; exact rfl; kernel_rfl; exact rfl; clear hs; intro w hs) | (apply st hs.b1; exact rfl; exact rfl; exact rfl; exact rfl; exact rfl; exact rfl; kernel_rfl; exact rfl; clear hs; intro w hs) | (apply st hs.b2; exact rfl; exact rfl; exact rfl; exact rfl; exact rfl; exact rfl; kernel_rfl; exact rfl; clear hs; intro w hs) | (apply stc hs.b0; exact rfl; exact rfl; exact rfl; exact rfl; exact rfl; kernel_rfl; exact rfl; clear hs; intro w hs) | (apply stc hs.b1; exact rfl; exact rfl; exact rfl; exact rfl; exact rfl; kernel_rfl; exact rfl; clear hs; intro w hs) | (apply stc hs.b2; exact rfl; exact rfl; exact rfl; exact rfl; exact rfl; kernel_rfl; exact rfl; clear hs; intro w hs) | (refine wrap hs ?_; clear hs; (first | (have _t := z2; clear _t; generalize w.heap.size = z3) | (have _t := z1; clear _t; generalize w.heap.size = z2) | generalize w.heap.size = z1); intro w hs) | (refine wrap hs ?_; clear hs; intro w hs) | (refine wrapn hs ?_; clear hs; intro w hs) | (refine wrapd hs ?_; clear hs; intro w hs))
  go_ret
  exact ⟨rfl, hs.drop.drop.drop⟩
set_option maxHeartbeats 2000000 in
theorem get_law (m : M) (p : Bool) (n : Int) (hn : (Lit.int .i64 n).wf = true) (hs : sat W H w) : Calls Try.prog 4 #[mV m, .bool p, .int .i64 n] w fun e w' => e = .returned (.bool true) ∧ sat W H w' := by
  have HN := Lib.hid hn
  clear hn
  obtain ⟨x, y, hx⟩ : ∃ x y, Modes.get m p n = (x, y) := ⟨_, _, rfl⟩
  have HX := Lib.hid hx
  clear hx
  obtain ⟨a0, a1, a2, a3, a4, a5, a6, a7⟩ := m
  go_enter Try.func4, Try.ntmps4
  go_wp2_with (first | (go_at_call 10; refine (getp HX.out HN.out hs).mono ?_; clear hs; rintro e w ⟨rfl, hs⟩) | (go_at_call 11; refine (getq HX.out hs).mono ?_; clear hs; rintro e w ⟨rfl, hs⟩) | (go_at_call 9; refine (known9 hs).mono ?_; clear hs; rintro e w ⟨rfl, hs⟩) | (go_at_call 12; refine (def12 hs).mono ?_; clear hs; rintro e w ⟨rfl, hs⟩) | (go_at_call 13; refine (def13 hs).mono ?_; clear hs; rintro e w ⟨rfl, hs⟩) | (apply stsw hs.b0; exact rfl; exact rfl; exact rfl; exact rfl; (show rowTy _ _ 8 = true; kernel_rfl); exact rfl; exact rfl; exact rfl; clear hs; intro w hs) | (apply stsw hs.b1; exact rfl; exact rfl; exact rfl; exact rfl; (show rowTy _ _ 8 = true; kernel_rfl); exact rfl; exact rfl; exact rfl; clear hs; intro w hs) | (apply ldsw hs.b0; exact rfl; exact rfl; exact rfl; (show rowTy _ _ 8 = true; kernel_rfl)) | (apply ldsw hs.b1; exact rfl; exact rfl; exact rfl; (show rowTy _ _ 8 = true; kernel_rfl)) | (apply ldsw hs.b2; exact rfl; exact rfl; exact rfl; (show rowTy _ _ 8 = true; kernel_rfl)) | (apply ld hs.b0; exact rfl; exact rfl; exact rfl; exact rfl; kernel_rfl) | (apply ld hs.b1; exact rfl; exact rfl; exact rfl; exact rfl; kernel_rfl) | (apply ld hs.b2; exact rfl; exact rfl; exact rfl; exact rfl; kernel_rfl) | (apply st hs.b0; exact rfl; exact rfl; exact rfl; exact rfl; exact rfl; exact rfl; kernel_rfl; exact rfl; clear hs; intro w hs) | (apply st hs.b1; exact rfl; exact rfl; exact rfl; exact rfl; exact rfl; exact rfl; kernel_rfl; exact rfl; clear hs; intro w hs) | (apply st hs.b2; exact rfl; exact rfl; exact rfl; exact rfl; exact rfl; exact rfl; kernel_rfl; exact rfl; clear hs; intro w hs) | (apply stc hs.b0; exact rfl; exact rfl; exact rfl; exact rfl; exact rfl; kernel_rfl; exact rfl; clear hs; intro w hs) | (apply stc hs.b1; exact rfl; exact rfl; exact rfl; exact rfl; exact rfl; kernel_rfl; exact rfl; clear hs; intro w hs) | (apply stc hs.b2; exact rfl; exact rfl; exact rfl; exact rfl; exact rfl; kernel_rfl; exact rfl; clear hs; intro w hs) | (refine wrap hs ?_; clear hs; (first | (have _t := z2; clear _t; generalize w.heap.size = z3) | (have _t := z1; clear _t; generalize w.heap.size = z2) | generalize w.heap.size = z1); intro w hs) | (refine wrap hs ?_; clear hs; intro w hs) | (refine wrapn hs ?_; clear hs; intro w hs) | (refine wrapd hs ?_; clear hs; intro w hs))
  go_ret
  exact ⟨rfl, hs.drop⟩
end Go.Proofs.Ytninmdoeippcgaa
