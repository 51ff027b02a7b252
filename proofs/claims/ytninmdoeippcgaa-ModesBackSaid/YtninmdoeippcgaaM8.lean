import Derived.Test.YtninmdoeippcgaaM7
namespace Go.Proofs.Ytninmdoeippcgaa
open Go.RowKit Go.Mem Go.Modes Go.Maps
variable {W w : World} {H : List HProp}
theorem kget : Modes.get dflt true 7 = (true, true) := by decide +kernel
def m112 : M := ⟨false, false, false, false, true, true, true, false⟩
theorem kput : Modes.put dflt true 1049 true = (m112, true) := by decide +kernel
theorem kb1 : Modes.bits dflt = 48 := by decide +kernel
theorem kb2 : Modes.bits m112 = 112 := by decide +kernel
theorem w7 : (Lit.int .i64 7).wf = true := by decide +kernel
theorem w1049 : (Lit.int .i64 1049).wf = true := by decide +kernel
attribute [local irreducible] World.setCell World.setCells World.alloc World.drew World.drewN Calls sat cel own blk old mp wpQuiet tab setb acc
theorem getp {m : M} {p : Bool} {n : Int} {x y : Bool} (h : Modes.get m p n = (x, y)) (hn : (Lit.int .i64 n).wf = true) (hs : sat W H w) : Calls Try.prog 10 #[mV m, .bool p, .int .i64 n] w fun e w' => e = .returned (.tuple #[.bool x, .bool y]) ∧ sat W H w' := by
  have := get10 m p n hn hs
  rw [h] at this; exact this
theorem getq {m : M} {p : Bool} {n : Int} {x y : Bool} (h : Modes.get m p n = (x, y)) (hs : sat W H w) : Calls Try.prog 11 #[mV m, .bool p, .int .i64 n] w fun e w' => e = .returned (.tuple #[.bool x, .bool y]) ∧ sat W H w' := by
  have := get11 m p n hs
  rw [h] at this; exact this
theorem putp {m x : M} {p on y : Bool} {n : Int} (h : Modes.put m p n on = (x, y)) (hn : (Lit.int .i64 n).wf = true) (hs : sat W H w) : Calls Try.prog 7 #[mV m, .bool p, .int .i64 n, .bool on] w fun e w' => e = .returned (.tuple #[mV x, .bool y]) ∧ sat W H w' := by
  have := put7 m p n on hn hs
  rw [h] at this; exact this
theorem putq {m x : M} {p on y : Bool} {n : Int} (h : Modes.put m p n on = (x, y)) (hs : sat W H w) : Calls Try.prog 8 #[mV m, .bool p, .int .i64 n, .bool on] w fun e w' => e = .returned (.tuple #[mV x, .bool y]) ∧ sat W H w' := by
  have := put8 m p n on hs
  rw [h] at this; exact this
theorem bitsp {m : M} {k : Int} (h : (Modes.bits m : Int) = k) (hs : sat W H w) : Calls Try.prog 16 #[mV m] w fun e w' => e = .returned (.int .u8 k) ∧ sat W H w' := h ▸ bits16 m hs
set_option maxHeartbeats 2000000 in
theorem known9 (hs : sat W H w) : Calls Try.prog 9 #[] w fun e w' => e = .returned (.bool true) ∧ sat W H w' := by
  go_enter Try.func9, Try.ntmps9
  go_wp2_with (first | (go_at_call 12; refine (def12 hs).mono ?_; clear hs; rintro e w ⟨rfl, hs⟩) | (go_at_call 10; refine (getp kget w7 hs).mono ?_; clear hs; rintro e w ⟨rfl, hs⟩) | (go_at_call 7; refine (putp kput w1049 hs).mono ?_; clear hs; rintro e w ⟨rfl, hs⟩) | (go_at_call 16; refine (bitsp (m := dflt) (congrArg Nat.cast kb1) hs).mono ?_; clear hs; rintro e w ⟨rfl, hs⟩) | (go_at_call 16; refine (bitsp (m := m112) (congrArg Nat.cast kb2) hs).mono ?_; clear hs; rintro e w ⟨rfl, hs⟩) | (apply stsw hs.b0; exact rfl; exact rfl; exact rfl; exact rfl; (show rowTy _ _ 8 = true; kernel_rfl); exact rfl; exact rfl; exact rfl; clear hs; intro w hs) | (apply stsw hs.b1; exact rfl; exact rfl; exact rfl; exact rfl; (show rowTy _ _ 8 = true; kernel_rfl); exact rfl; exact rfl; exact rfl; clear hs; intro w hs) | (apply ldsw hs.b0; exact rfl; exact rfl; exact rfl; (show rowTy _ _ 8 = true; kernel_rfl)) | (apply ldsw hs.b1; exact rfl; exact rfl; exact rfl; (show rowTy _ _ 8 = true; kernel_rfl)) | (apply ld hs.b0; exact rfl; exact rfl; exact rfl; exact rfl; kernel_rfl) | (apply ld hs.b1; exact rfl; exact rfl; exact rfl; exact rfl; kernel_rfl) | (apply st hs.b0; exact rfl; exact rfl; exact rfl; exact rfl; exact rfl; exact rfl; kernel_rfl; exact rfl; clear hs; intro w hs) | (apply st hs.b1; exact rfl; exact rfl; exact rfl; exact rfl; exact rfl; exact rfl; kernel_rfl; exact rfl; clear hs; intro w hs) | (apply stc hs.b0; exact rfl; exact rfl; exact rfl; exact rfl; exact rfl; kernel_rfl; exact rfl; clear hs; intro w hs) | (apply stc hs.b1; exact rfl; exact rfl; exact rfl; exact rfl; exact rfl; kernel_rfl; exact rfl; clear hs; intro w hs) | (refine wrap hs ?_; clear hs; (first | (have _t := z1; clear _t; generalize w.heap.size = z4) | generalize w.heap.size = z1); intro w hs) | (refine wrap hs ?_; clear hs; intro w hs) | (refine wrapn hs ?_; clear hs; intro w hs) | (refine wrapd hs ?_; clear hs; intro w hs))
  go_ret
  exact ⟨rfl, hs.drop.drop⟩
end Go.Proofs.Ytninmdoeippcgaa
