import Derived.Test.YtninmdoeippcgaaM3
namespace Go.Proofs.Ytninmdoeippcgaa
open Go.RowKit Go.Mem Go.Modes Go.Maps
variable {W w : World} {H : List HProp}
theorem of_int (n : Nat) : [Value.bool ((n : Int) % 2 == 1), .bool ((n : Int) / 2 % 2 == 1), .bool ((n : Int) / 4 % 2 == 1), .bool ((n : Int) / 8 % 2 == 1), .bool ((n : Int) / 16 % 2 == 1), .bool ((n : Int) / 32 % 2 == 1), .bool ((n : Int) / 64 % 2 == 1), .bool ((n : Int) / 128 == 1)] = mL (ofBits n) := by
  simp only [ofBits, List.cons.injEq, Value.bool.injEq, and_true]
  refine ⟨?_, ?_, ?_, ?_, ?_, ?_, ?_, ?_⟩ <;> (rw [Bool.eq_iff_iff]; simp only [beq_iff_eq]; omega)
attribute [local irreducible] World.setCell World.setCells World.alloc World.drew World.drewN Calls sat cel own blk old mp wpQuiet tab
set_option maxHeartbeats 2000000 in
theorem of20 (n : Nat) (h : n < 256) (hs : sat W H w) : Calls Try.prog 20 #[.int .u8 n] w fun e w' => e = .returned (mV (ofBits n)) ∧ sat W H w' := by
  have h0 : (0 : Int) ≤ (n : Int) := by omega
  have h1 : (n : Int) < 256 := by omega
  go_enter Try.func20, Try.ntmps20
  go_wp2_with (first | (apply stsw hs.b0; exact rfl; exact rfl; exact rfl; exact rfl; (show rowTy _ _ 8 = true; kernel_rfl); exact rfl; exact rfl; exact rfl; clear hs; intro w hs) | (apply ld hs.b0; exact rfl; exact rfl; exact rfl; exact rfl; kernel_rfl) | (apply st hs.b0; exact rfl; exact rfl; exact rfl; exact rfl; exact rfl; exact rfl; kernel_rfl; exact rfl; clear hs; intro w hs) | (apply stc hs.b0; exact rfl; exact rfl; exact rfl; exact rfl; exact rfl; kernel_rfl; exact rfl; clear hs; intro w hs) | (refine wrap hs ?_; clear hs; (first | generalize w.heap.size = z1); intro w hs) | (refine wrap hs ?_; clear hs; intro w hs) | (refine wrapn hs ?_; clear hs; intro w hs) | (refine wrapd hs ?_; clear hs; intro w hs))
  refine ret_cell hs rfl rfl rfl (show rowTy _ _ 8 = true by kernel_rfl) ?_
  exact ⟨congrArg (fun l : List Value => Ending.returned (.agg l.toArray)) (of_int n), hs.drop⟩
/-! ## The closures -/
theorem bit_and : ∀ j : Nat, j < 8 → ∀ f : Nat, f < 256 → (Go.bits .and .u8 (f : Int) ((2 ^ j : Nat) : Int) != 0) = (f / 2 ^ j % 2 == 1) := by decide +kernel
theorem do22 (n k : Nat) (hn : n < 256) (hk : k < 8) (b z : Nat) (l : List Value) (hl : l.length = 8) (hs : sat W (cel b 23 l :: cel z 5 [.int .u8 n] :: H) w) :
    Calls Try.prog 22 #[.int .u8 (2 ^ k : Nat), .pointer (some ⟨b, k, none⟩), .pointer (some ⟨z, 0, none⟩)] w fun e w' => e = .returned (.tuple #[]) ∧ sat W (cel b 23 (l.set k (.bool (n / 2 ^ k % 2 == 1))) :: cel z 5 [.int .u8 n] :: H) w' := by
  have HB := Lib.hid (bit_and k hk n hn)
  have HL := Lib.hid (show l[k]?.isSome = true by simp [hl, hk])
  clear hl hn hk
  obtain ⟨p, hp⟩ : ∃ p : Int, p = ((2 ^ k : Nat) : Int) := ⟨_, rfl⟩
  rw [← hp] at HB ⊢
  clear hp
  go_enter Try.func22, Try.ntmps22
  go_wp2_with (first | (apply st hs; exact rfl; exact rfl; exact rfl; exact rfl; exact rfl; exact HL.out; kernel_rfl; exact rfl; clear hs; intro w hs) | (apply ld hs.b0; exact rfl; exact rfl; exact rfl; exact rfl; kernel_rfl) | (apply ld hs.b1; exact rfl; exact rfl; exact rfl; exact rfl; kernel_rfl) | (apply st hs.b0; exact rfl; exact rfl; exact rfl; exact rfl; exact rfl; exact rfl; kernel_rfl; exact rfl; clear hs; intro w hs) | (apply st hs.b1; exact rfl; exact rfl; exact rfl; exact rfl; exact rfl; exact rfl; kernel_rfl; exact rfl; clear hs; intro w hs) | (apply stc hs.b0; exact rfl; exact rfl; exact rfl; exact rfl; exact rfl; kernel_rfl; exact rfl; clear hs; intro w hs) | (apply stc hs.b1; exact rfl; exact rfl; exact rfl; exact rfl; exact rfl; kernel_rfl; exact rfl; clear hs; intro w hs) | (refine wrap hs ?_; clear hs; intro w hs) | (refine wrapn hs ?_; clear hs; intro w hs) | (refine wrapd hs ?_; clear hs; intro w hs))
  refine end_end0 rfl rfl ⟨rfl, ?_⟩
  rw [← HB.out]
  exact hs
def acc (m : M) (k : Nat) : Nat := Modes.bits m % 2 ^ k
theorem acc_step : ∀ m : M, ∀ k < 8, (m.get k = true → Go.bits .or .u8 (acc m k : Nat) ((2 ^ k : Nat) : Int) = (acc m (k + 1) : Nat)) ∧ (m.get k = false → acc m (k + 1) = acc m k) := allM (by decide +kernel)
theorem acc_lt (m : M) (k : Nat) : acc m k < 256 := Nat.lt_of_le_of_lt (Nat.mod_le _ _) (Modes.bits_lt m)
theorem do23 (m : M) (k : Nat) (hk : k < 8) (b z : Nat) (hs : sat W (cel z 5 [.int .u8 (acc m k : Nat)] :: cel b 23 (mL m) :: H) w) :
    Calls Try.prog 23 #[.int .u8 (2 ^ k : Nat), .pointer (some ⟨b, k, none⟩), .pointer (some ⟨z, 0, none⟩)] w fun e w' => e = .returned (.tuple #[]) ∧ sat W (cel z 5 [.int .u8 (acc m (k + 1) : Nat)] :: cel b 23 (mL m) :: H) w' := by
  have HL := Lib.hid (mget m k hk)
  have HA := Lib.hid (acc_step m k hk)
  obtain ⟨p, hp⟩ : ∃ p : Int, p = ((2 ^ k : Nat) : Int) := ⟨_, rfl⟩
  rw [← hp] at HA ⊢
  clear hp hk
  cases hg : m.get k
  · rw [hg] at HA HL
    have HE := Lib.hid (HA.out.2 rfl)
    clear hg HA
    go_enter Try.func23, Try.ntmps23
    go_wp2_with (first | (apply ld hs.b0; exact rfl; exact rfl; exact rfl; exact rfl; kernel_rfl) | (apply ld hs.b1; exact rfl; exact rfl; exact rfl; exact rfl; kernel_rfl) | (apply ld hs.b1; exact rfl; exact rfl; exact rfl; exact HL.out; kernel_rfl) | (apply st hs.b0; exact rfl; exact rfl; exact rfl; exact rfl; exact rfl; exact rfl; kernel_rfl; exact rfl; clear hs; intro w hs) | (apply st hs.b1; exact rfl; exact rfl; exact rfl; exact rfl; exact rfl; exact rfl; kernel_rfl; exact rfl; clear hs; intro w hs) | (apply stc hs.b0; exact rfl; exact rfl; exact rfl; exact rfl; exact rfl; kernel_rfl; exact rfl; clear hs; intro w hs) | (apply stc hs.b1; exact rfl; exact rfl; exact rfl; exact rfl; exact rfl; kernel_rfl; exact rfl; clear hs; intro w hs) | (refine wrap hs ?_; clear hs; intro w hs) | (refine wrapn hs ?_; clear hs; intro w hs) | (refine wrapd hs ?_; clear hs; intro w hs))
    refine end_end0 rfl rfl ⟨rfl, ?_⟩
    rw [HE.out]; exact hs
  · rw [hg] at HA HL
    have HE := Lib.hid (HA.out.1 rfl)
    clear hg HA
    go_enter Try.func23, Try.ntmps23
    go_wp2_with (first | (apply ld hs.b0; exact rfl; exact rfl; exact rfl; exact rfl; kernel_rfl) | (apply ld hs.b1; exact rfl; exact rfl; exact rfl; exact rfl; kernel_rfl) | (apply ld hs.b1; exact rfl; exact rfl; exact rfl; exact HL.out; kernel_rfl) | (apply st hs.b0; exact rfl; exact rfl; exact rfl; exact rfl; exact rfl; exact rfl; kernel_rfl; exact rfl; clear hs; intro w hs) | (apply st hs.b1; exact rfl; exact rfl; exact rfl; exact rfl; exact rfl; exact rfl; kernel_rfl; exact rfl; clear hs; intro w hs) | (apply stc hs.b0; exact rfl; exact rfl; exact rfl; exact rfl; exact rfl; kernel_rfl; exact rfl; clear hs; intro w hs) | (apply stc hs.b1; exact rfl; exact rfl; exact rfl; exact rfl; exact rfl; kernel_rfl; exact rfl; clear hs; intro w hs) | (refine wrap hs ?_; clear hs; intro w hs) | (refine wrapn hs ?_; clear hs; intro w hs) | (refine wrapd hs ?_; clear hs; intro w hs))
    refine end_end0 rfl rfl ⟨rfl, ?_⟩
    rw [← HE.out]; exact hs
end Go.Proofs.Ytninmdoeippcgaa
