import Derived.Test.YtaajgkccannjlaaProg
import Derived.Test.YtaajgkccannjlaaSy
import Derived.Test.YtaajgkccannjlaaU1
import Derived.Laws.BitsAllLaws
import Derived.BigRegion
namespace Go.Proofs.Ytaajgkccannjlaa
open Go.RowKit Go.Mem Go.Utf
variable {W w : World} {H : List HProp}
abbrev runes (l : List Int) : List Value := l.map (Value.int .i32)
abbrev dL (d : D) : List Value := [.int .i64 d.opn, .int .i64 d.left, .int .i32 d.r, .int .u8 d.lo, .int .u8 d.hi]
def BR (W : World) (H : List HProp) (l : List Int) : Ending → World → Prop := fun e w' => ∃ a cp, e = .returned (.slice a l.length cp) ∧ sat W (own 21 1 (.slice a l.length cp) l.length (runes l) :: H) w'
theorem BR.elim {l : List Int} {e : Ending} {w : World} (h : BR W H l e w) : ∃ a cp, e = .returned (.slice a l.length cp) ∧ sat W (own 21 1 (.slice a l.length cp) l.length (runes l) :: H) w := by unfold BR at h; exact h
attribute [local irreducible] World.setCell World.alloc World.drew World.drewN Calls sat cel own blk old wpQuiet
theorem br_nil (hs : sat W H w) : BR W H [] (.returned (.slice none 0 0)) w := ⟨_, _, rfl, hs.own_nil 21 1⟩
theorem br_one {x y : Int} (h : x = y) {b : Nat} (hs : sat W (cel b 21 [.int .i32 x] :: H) w) : BR W H [y] (.returned (.slice (some ⟨b, 0, none⟩) 1 1)) w := by
  subst h
  exact ⟨_, _, rfl, hs.cel_own (l := [.int .i32 x]) (by simp [maxLen])⟩
theorem beq_no {n k : Int} (h : n ≠ k) : (n == k) = false := by simpa using h
theorem open20 (b : Nat) (d : D) (hs : sat W (cel b 38 (dL d) :: H) w) : Calls Try.prog 20 #[.pointer (some ⟨b, 0, none⟩)] w fun e w' => e = .returned (.int .i64 d.opn) ∧ sat W (cel b 38 (dL d) :: H) w' := by
  obtain ⟨o, l, r, f, t⟩ := d
  go_enter Try.func20, Try.ntmps20
  go_wp2_with (first
    | (apply ld hs.b0; exact rfl; exact rfl; exact rfl; exact rfl; kernel_rfl)
    | (apply st hs.b0; exact rfl; exact rfl; exact rfl; exact rfl; exact rfl; exact rfl; kernel_rfl; exact rfl; clear hs; intro w hs)
    | (apply stc hs.b0; exact rfl; exact rfl; exact rfl; exact rfl; exact rfl; kernel_rfl; exact rfl; clear hs; intro w hs)
    | (refine wrap hs ?_; clear hs; intro w hs)
    | (refine wrapn hs ?_; clear hs; intro w hs)
    | (refine wrapd hs ?_; clear hs; intro w hs))
  go_ret
  exact ⟨rfl, hs⟩
theorem open_nil (hs : sat W H w) : Calls Try.prog 20 #[.pointer none] w fun e w' => e = .returned (.int .i64 0) ∧ sat W H w' := by
  go_enter Try.func20, Try.ntmps20
  go_wp2
  go_ret
  exact ⟨rfl, hs⟩
theorem mask (k : Nat) (x : Int) (m : Int) (hm : m.toNat = 2 ^ k - 1) (h0 : 0 ≤ m) (h1 : m < 256) (hx : 0 ≤ x) (hx1 : x < 256) : bits .and .u8 x m = x % (2 ^ k : Nat) := by
  rw [u8_and x m hx hx1 h0 h1, hm, Nat.and_two_pow_sub_one_eq_mod, Int.natCast_emod, Int.toNat_of_nonneg hx]
set_option maxHeartbeats 4000000 in
theorem first22 (b : Nat) (d : D) (x : Int) (h0 : 0 ≤ x) (h1 : x < 256) (hs : sat W (cel b 38 (dL d) :: H) w) : Calls Try.prog 22 #[.pointer (some ⟨b, 0, none⟩), .int .u8 x] w (BR W (cel b 38 (dL (first x).1) :: H) (first x).2) := by
  have hc : x < 128 ∨ (128 ≤ x ∧ x < 194) ∨ 244 < x ∨ (194 ≤ x ∧ x < 224) ∨ (x = 224 ∨ x = 237 ∨ x = 240 ∨ x = 244) ∨ (224 < x ∧ x < 237) ∨ (237 < x ∧ x < 240) ∨ (240 < x ∧ x < 244) := by omega
  obtain ⟨o, l, r, f, t⟩ := d
  have m5 : bits .and .u8 x 31 = x % 32 := mask 5 x 31 rfl (by decide) (by decide) h0 h1
  have m4 : bits .and .u8 x 15 = x % 16 := mask 4 x 15 rfl (by decide) (by decide) h0 h1
  have m3 : bits .and .u8 x 7 = x % 8 := mask 3 x 7 rfl (by decide) (by decide) h0 h1
  rcases hc with hc | ⟨hc, hd⟩ | hc | ⟨hc, hd⟩ | hc | ⟨hc, hd⟩ | ⟨hc, hd⟩ | ⟨hc, hd⟩
  · have HF : Hid (first x = (⟨0, 0, 0, 128, 191⟩, [x])) := Lib.hid (by unfold first; rw [if_pos hc])
    as_aux_lemma =>
    go_enter Try.func22, Try.ntmps22
    go_wp2_with (first
    | (apply sts hs.b0; exact rfl; exact rfl; exact rfl; exact rfl; (show rowTy _ _ 5 = true; kernel_rfl); exact Nat.le_refl _; exact rfl; exact rfl; clear hs; intro w hs)
    | (apply ld hs.b0; exact rfl; exact rfl; exact rfl; exact rfl; kernel_rfl)
    | (apply st hs.b0; exact rfl; exact rfl; exact rfl; exact rfl; exact rfl; exact rfl; kernel_rfl; exact rfl; clear hs; intro w hs)
    | (apply stc hs.b0; exact rfl; exact rfl; exact rfl; exact rfl; exact rfl; kernel_rfl; exact rfl; clear hs; intro w hs)
    | (refine wrap hs ?_; clear hs; intro w hs)
    | (refine wrapn hs ?_; clear hs; intro w hs)
    | (refine wrapd hs ?_; clear hs; intro w hs))
    go_ret
    rw [HF.out]; exact br_one rfl hs.made
  · have HF : Hid (first x = (⟨0, 0, 0, 128, 191⟩, [bad])) := Lib.hid (by unfold first; rw [if_neg (by omega), if_pos (by omega)])
    as_aux_lemma =>
    go_enter Try.func22, Try.ntmps22
    go_wp2_with (first
    | (apply sts hs.b0; exact rfl; exact rfl; exact rfl; exact rfl; (show rowTy _ _ 5 = true; kernel_rfl); exact Nat.le_refl _; exact rfl; exact rfl; clear hs; intro w hs)
    | (apply ld hs.b0; exact rfl; exact rfl; exact rfl; exact rfl; kernel_rfl)
    | (apply st hs.b0; exact rfl; exact rfl; exact rfl; exact rfl; exact rfl; exact rfl; kernel_rfl; exact rfl; clear hs; intro w hs)
    | (apply stc hs.b0; exact rfl; exact rfl; exact rfl; exact rfl; exact rfl; kernel_rfl; exact rfl; clear hs; intro w hs)
    | (refine wrap hs ?_; clear hs; intro w hs)
    | (refine wrapn hs ?_; clear hs; intro w hs)
    | (refine wrapd hs ?_; clear hs; intro w hs))
    go_ret
    rw [HF.out]; exact br_one rfl hs.made
  · have HF : Hid (first x = (⟨0, 0, 0, 128, 191⟩, [bad])) := Lib.hid (by unfold first; rw [if_neg (by omega), if_pos (by omega)])
    as_aux_lemma =>
    go_enter Try.func22, Try.ntmps22
    go_wp2_with (first
    | (apply sts hs.b0; exact rfl; exact rfl; exact rfl; exact rfl; (show rowTy _ _ 5 = true; kernel_rfl); exact Nat.le_refl _; exact rfl; exact rfl; clear hs; intro w hs)
    | (apply ld hs.b0; exact rfl; exact rfl; exact rfl; exact rfl; kernel_rfl)
    | (apply st hs.b0; exact rfl; exact rfl; exact rfl; exact rfl; exact rfl; exact rfl; kernel_rfl; exact rfl; clear hs; intro w hs)
    | (apply stc hs.b0; exact rfl; exact rfl; exact rfl; exact rfl; exact rfl; kernel_rfl; exact rfl; clear hs; intro w hs)
    | (refine wrap hs ?_; clear hs; intro w hs)
    | (refine wrapn hs ?_; clear hs; intro w hs)
    | (refine wrapd hs ?_; clear hs; intro w hs))
    go_ret
    rw [HF.out]; exact br_one rfl hs.made
  · have HF : Hid (first x = (⟨1, 1, x % 32, 128, 191⟩, [])) := Lib.hid (by
      unfold first
      rw [if_neg (by omega), if_neg (by omega), if_pos (by omega)]
      unfold lo hi
      (repeat rw [if_neg (by omega)])
      try rw [if_pos (by omega)]
      (repeat rw [if_neg (by omega)])
      try rw [if_pos (by omega)])
    have e0 := beq_no (show x ≠ 224 by omega)
    have e1 := beq_no (show x ≠ 237 by omega)
    have e2 := beq_no (show x ≠ 240 by omega)
    have e3 := beq_no (show x ≠ 244 by omega)
    as_aux_lemma =>
    go_enter Try.func22, Try.ntmps22
    go_wp2_with (first
    | (apply sts hs.b0; exact rfl; exact rfl; exact rfl; exact rfl; (show rowTy _ _ 5 = true; kernel_rfl); exact Nat.le_refl _; exact rfl; exact rfl; clear hs; intro w hs)
    | (apply ld hs.b0; exact rfl; exact rfl; exact rfl; exact rfl; kernel_rfl)
    | (apply st hs.b0; exact rfl; exact rfl; exact rfl; exact rfl; exact rfl; exact rfl; kernel_rfl; exact rfl; clear hs; intro w hs)
    | (apply stc hs.b0; exact rfl; exact rfl; exact rfl; exact rfl; exact rfl; kernel_rfl; exact rfl; clear hs; intro w hs)
    | (refine wrap hs ?_; clear hs; intro w hs)
    | (refine wrapn hs ?_; clear hs; intro w hs)
    | (refine wrapd hs ?_; clear hs; intro w hs))
    go_ret
    rw [HF.out]; exact br_nil hs
  · rcases hc with rfl | rfl | rfl | rfl
    · have HF : Hid (first 224 = (⟨1, 2, 0, 160, 191⟩, [])) := Lib.hid rfl
      as_aux_lemma =>
      go_enter Try.func22, Try.ntmps22
      go_wp2_with (first
    | (apply sts hs.b0; exact rfl; exact rfl; exact rfl; exact rfl; (show rowTy _ _ 5 = true; kernel_rfl); exact Nat.le_refl _; exact rfl; exact rfl; clear hs; intro w hs)
    | (apply ld hs.b0; exact rfl; exact rfl; exact rfl; exact rfl; kernel_rfl)
    | (apply st hs.b0; exact rfl; exact rfl; exact rfl; exact rfl; exact rfl; exact rfl; kernel_rfl; exact rfl; clear hs; intro w hs)
    | (apply stc hs.b0; exact rfl; exact rfl; exact rfl; exact rfl; exact rfl; kernel_rfl; exact rfl; clear hs; intro w hs)
    | (refine wrap hs ?_; clear hs; intro w hs)
    | (refine wrapn hs ?_; clear hs; intro w hs)
    | (refine wrapd hs ?_; clear hs; intro w hs))
      go_ret
      rw [HF.out]; exact br_nil hs
    · have HF : Hid (first 237 = (⟨1, 2, 13, 128, 159⟩, [])) := Lib.hid rfl
      as_aux_lemma =>
      go_enter Try.func22, Try.ntmps22
      go_wp2_with (first
    | (apply sts hs.b0; exact rfl; exact rfl; exact rfl; exact rfl; (show rowTy _ _ 5 = true; kernel_rfl); exact Nat.le_refl _; exact rfl; exact rfl; clear hs; intro w hs)
    | (apply ld hs.b0; exact rfl; exact rfl; exact rfl; exact rfl; kernel_rfl)
    | (apply st hs.b0; exact rfl; exact rfl; exact rfl; exact rfl; exact rfl; exact rfl; kernel_rfl; exact rfl; clear hs; intro w hs)
    | (apply stc hs.b0; exact rfl; exact rfl; exact rfl; exact rfl; exact rfl; kernel_rfl; exact rfl; clear hs; intro w hs)
    | (refine wrap hs ?_; clear hs; intro w hs)
    | (refine wrapn hs ?_; clear hs; intro w hs)
    | (refine wrapd hs ?_; clear hs; intro w hs))
      go_ret
      rw [HF.out]; exact br_nil hs
    · have HF : Hid (first 240 = (⟨1, 3, 0, 144, 191⟩, [])) := Lib.hid rfl
      as_aux_lemma =>
      go_enter Try.func22, Try.ntmps22
      go_wp2_with (first
    | (apply sts hs.b0; exact rfl; exact rfl; exact rfl; exact rfl; (show rowTy _ _ 5 = true; kernel_rfl); exact Nat.le_refl _; exact rfl; exact rfl; clear hs; intro w hs)
    | (apply ld hs.b0; exact rfl; exact rfl; exact rfl; exact rfl; kernel_rfl)
    | (apply st hs.b0; exact rfl; exact rfl; exact rfl; exact rfl; exact rfl; exact rfl; kernel_rfl; exact rfl; clear hs; intro w hs)
    | (apply stc hs.b0; exact rfl; exact rfl; exact rfl; exact rfl; exact rfl; kernel_rfl; exact rfl; clear hs; intro w hs)
    | (refine wrap hs ?_; clear hs; intro w hs)
    | (refine wrapn hs ?_; clear hs; intro w hs)
    | (refine wrapd hs ?_; clear hs; intro w hs))
      go_ret
      rw [HF.out]; exact br_nil hs
    · have HF : Hid (first 244 = (⟨1, 3, 4, 128, 143⟩, [])) := Lib.hid rfl
      as_aux_lemma =>
      go_enter Try.func22, Try.ntmps22
      go_wp2_with (first
    | (apply sts hs.b0; exact rfl; exact rfl; exact rfl; exact rfl; (show rowTy _ _ 5 = true; kernel_rfl); exact Nat.le_refl _; exact rfl; exact rfl; clear hs; intro w hs)
    | (apply ld hs.b0; exact rfl; exact rfl; exact rfl; exact rfl; kernel_rfl)
    | (apply st hs.b0; exact rfl; exact rfl; exact rfl; exact rfl; exact rfl; exact rfl; kernel_rfl; exact rfl; clear hs; intro w hs)
    | (apply stc hs.b0; exact rfl; exact rfl; exact rfl; exact rfl; exact rfl; kernel_rfl; exact rfl; clear hs; intro w hs)
    | (refine wrap hs ?_; clear hs; intro w hs)
    | (refine wrapn hs ?_; clear hs; intro w hs)
    | (refine wrapd hs ?_; clear hs; intro w hs))
      go_ret
      rw [HF.out]; exact br_nil hs
  · have HF : Hid (first x = (⟨1, 2, x % 16, 128, 191⟩, [])) := Lib.hid (by
      unfold first
      rw [if_neg (by omega), if_neg (by omega), if_neg (by omega), if_pos (by omega)]
      unfold lo hi
      (repeat rw [if_neg (by omega)])
      try rw [if_pos (by omega)]
      (repeat rw [if_neg (by omega)])
      try rw [if_pos (by omega)])
    have e0 := beq_no (show x ≠ 224 by omega)
    have e1 := beq_no (show x ≠ 237 by omega)
    have e2 := beq_no (show x ≠ 240 by omega)
    have e3 := beq_no (show x ≠ 244 by omega)
    as_aux_lemma =>
    go_enter Try.func22, Try.ntmps22
    go_wp2_with (first
    | (apply sts hs.b0; exact rfl; exact rfl; exact rfl; exact rfl; (show rowTy _ _ 5 = true; kernel_rfl); exact Nat.le_refl _; exact rfl; exact rfl; clear hs; intro w hs)
    | (apply ld hs.b0; exact rfl; exact rfl; exact rfl; exact rfl; kernel_rfl)
    | (apply st hs.b0; exact rfl; exact rfl; exact rfl; exact rfl; exact rfl; exact rfl; kernel_rfl; exact rfl; clear hs; intro w hs)
    | (apply stc hs.b0; exact rfl; exact rfl; exact rfl; exact rfl; exact rfl; kernel_rfl; exact rfl; clear hs; intro w hs)
    | (refine wrap hs ?_; clear hs; intro w hs)
    | (refine wrapn hs ?_; clear hs; intro w hs)
    | (refine wrapd hs ?_; clear hs; intro w hs))
    go_ret
    rw [HF.out]; exact br_nil hs
  · have HF : Hid (first x = (⟨1, 2, x % 16, 128, 191⟩, [])) := Lib.hid (by
      unfold first
      rw [if_neg (by omega), if_neg (by omega), if_neg (by omega), if_pos (by omega)]
      unfold lo hi
      (repeat rw [if_neg (by omega)])
      try rw [if_pos (by omega)]
      (repeat rw [if_neg (by omega)])
      try rw [if_pos (by omega)])
    have e0 := beq_no (show x ≠ 224 by omega)
    have e1 := beq_no (show x ≠ 237 by omega)
    have e2 := beq_no (show x ≠ 240 by omega)
    have e3 := beq_no (show x ≠ 244 by omega)
    as_aux_lemma =>
    go_enter Try.func22, Try.ntmps22
    go_wp2_with (first
    | (apply sts hs.b0; exact rfl; exact rfl; exact rfl; exact rfl; (show rowTy _ _ 5 = true; kernel_rfl); exact Nat.le_refl _; exact rfl; exact rfl; clear hs; intro w hs)
    | (apply ld hs.b0; exact rfl; exact rfl; exact rfl; exact rfl; kernel_rfl)
    | (apply st hs.b0; exact rfl; exact rfl; exact rfl; exact rfl; exact rfl; exact rfl; kernel_rfl; exact rfl; clear hs; intro w hs)
    | (apply stc hs.b0; exact rfl; exact rfl; exact rfl; exact rfl; exact rfl; kernel_rfl; exact rfl; clear hs; intro w hs)
    | (refine wrap hs ?_; clear hs; intro w hs)
    | (refine wrapn hs ?_; clear hs; intro w hs)
    | (refine wrapd hs ?_; clear hs; intro w hs))
    go_ret
    rw [HF.out]; exact br_nil hs
  · have HF : Hid (first x = (⟨1, 3, x % 8, 128, 191⟩, [])) := Lib.hid (by
      unfold first
      rw [if_neg (by omega), if_neg (by omega), if_neg (by omega), if_neg (by omega)]
      unfold lo hi
      (repeat rw [if_neg (by omega)])
      try rw [if_pos (by omega)]
      (repeat rw [if_neg (by omega)])
      try rw [if_pos (by omega)])
    have e0 := beq_no (show x ≠ 224 by omega)
    have e1 := beq_no (show x ≠ 237 by omega)
    have e2 := beq_no (show x ≠ 240 by omega)
    have e3 := beq_no (show x ≠ 244 by omega)
    as_aux_lemma =>
    go_enter Try.func22, Try.ntmps22
    go_wp2_with (first
    | (apply sts hs.b0; exact rfl; exact rfl; exact rfl; exact rfl; (show rowTy _ _ 5 = true; kernel_rfl); exact Nat.le_refl _; exact rfl; exact rfl; clear hs; intro w hs)
    | (apply ld hs.b0; exact rfl; exact rfl; exact rfl; exact rfl; kernel_rfl)
    | (apply st hs.b0; exact rfl; exact rfl; exact rfl; exact rfl; exact rfl; exact rfl; kernel_rfl; exact rfl; clear hs; intro w hs)
    | (apply stc hs.b0; exact rfl; exact rfl; exact rfl; exact rfl; exact rfl; kernel_rfl; exact rfl; clear hs; intro w hs)
    | (refine wrap hs ?_; clear hs; intro w hs)
    | (refine wrapn hs ?_; clear hs; intro w hs)
    | (refine wrapd hs ?_; clear hs; intro w hs))
    go_ret
    rw [HF.out]; exact br_nil hs
theorem new15 (hs : sat W H w) : Calls Try.prog 15 #[] w fun e w' => ∃ b, e = .returned (.pointer (some ⟨b, 0, none⟩)) ∧ sat W (cel b 38 (dL .new) :: H) w' := by
  go_enter Try.func15, Try.ntmps15
  go_wp2_with (first
    | (refine wrap hs ?_; clear hs; intro w hs)
    | (refine wrapn hs ?_; clear hs; intro w hs)
    | (refine wrapd hs ?_; clear hs; intro w hs))
  go_ret
  exact ⟨_, rfl, hs.made⟩
theorem end17 (b : Nat) (d : D) (hs : sat W (cel b 38 (dL d) :: H) w) : Calls Try.prog 17 #[.pointer (some ⟨b, 0, none⟩)] w (BR W (cel b 38 (dL (if d.opn = 0 then d else .new)) :: H) (if d.opn = 0 then [] else [bad])) := by
  by_cases h : d.opn = 0
  · rw [if_pos h, if_pos h]
    have e1 : (d.opn == 0) = true := by simpa using h
    as_aux_lemma =>
    go_enter Try.func17, Try.ntmps17
    go_wp2_with (first
    | (go_at_call 20; refine (open20 b d hs).mono ?_; clear hs; rintro e w ⟨rfl, hs⟩)
    | (refine wrap hs ?_; clear hs; intro w hs)
    | (refine wrapn hs ?_; clear hs; intro w hs)
    | (refine wrapd hs ?_; clear hs; intro w hs))
    go_ret
    exact br_nil hs
  · rw [if_neg h, if_neg h]
    have e1 : (d.opn == 0) = false := by simpa using h
    as_aux_lemma =>
    go_enter Try.func17, Try.ntmps17
    go_wp2_with (first
    | (go_at_call 20; refine (open20 b d hs).mono ?_; clear hs; rintro e w ⟨rfl, hs⟩)
    | (apply sts hs.b0; exact rfl; exact rfl; exact rfl; exact rfl; (show rowTy _ _ 5 = true; kernel_rfl); exact Nat.le_refl _; exact rfl; exact rfl; clear hs; intro w hs)
    | (refine wrap hs ?_; clear hs; intro w hs)
    | (refine wrapn hs ?_; clear hs; intro w hs)
    | (refine wrapd hs ?_; clear hs; intro w hs))
    go_ret
    exact br_one rfl hs.made
theorem end_nil (hs : sat W H w) : Calls Try.prog 17 #[.pointer none] w (BR W H []) := by
  go_enter Try.func17, Try.ntmps17
  go_wp2_with (first
    | (go_at_call 20; refine (open_nil hs).mono ?_; clear hs; rintro e w ⟨rfl, hs⟩)
    | (refine wrap hs ?_; clear hs; intro w hs)
    | (refine wrapn hs ?_; clear hs; intro w hs)
    | (refine wrapd hs ?_; clear hs; intro w hs))
  go_ret
  exact br_nil hs
theorem copy18 (b : Nat) (d : D) (hs : sat W (cel b 38 (dL d) :: H) w) : Calls Try.prog 18 #[.pointer (some ⟨b, 0, none⟩)] w fun e w' => ∃ c, e = .returned (.pointer (some ⟨c, 0, none⟩)) ∧ sat W (cel c 38 (dL d) :: cel b 38 (dL d) :: H) w' := by
  obtain ⟨o, l, r, f, t⟩ := d
  go_enter Try.func18, Try.ntmps18
  go_wp2_with (first
    | (apply lds 5 hs.b0; exact rfl; exact rfl; exact rfl; kernel_rfl; exact rfl; exact rfl)
    | (apply lds 5 hs.b1; exact rfl; exact rfl; exact rfl; kernel_rfl; exact rfl; exact rfl)
    | (apply sts hs.b0; exact rfl; exact rfl; exact rfl; exact rfl; (show rowTy _ _ 5 = true; kernel_rfl); exact Nat.le_refl _; exact rfl; exact rfl; clear hs; intro w hs)
    | (apply ld hs.b0; exact rfl; exact rfl; exact rfl; exact rfl; kernel_rfl)
    | (apply st hs.b0; exact rfl; exact rfl; exact rfl; exact rfl; exact rfl; exact rfl; kernel_rfl; exact rfl; clear hs; intro w hs)
    | (apply stc hs.b0; exact rfl; exact rfl; exact rfl; exact rfl; exact rfl; kernel_rfl; exact rfl; clear hs; intro w hs)
    | (refine wrap hs ?_; clear hs; intro w hs)
    | (refine wrapn hs ?_; clear hs; intro w hs)
    | (refine wrapd hs ?_; clear hs; intro w hs))
  go_ret
  exact ⟨_, rfl, hs⟩
theorem copy_nil (hs : sat W H w) : Calls Try.prog 18 #[.pointer none] w fun e w' => e = .returned (.pointer none) ∧ sat W H w' := by
  go_enter Try.func18, Try.ntmps18
  go_wp2
  go_ret
  exact ⟨rfl, hs⟩
theorem feed_nil (x : Int) (hs : sat W H w) : Calls Try.prog 16 #[.pointer none, .int .u8 x] w (BR W H []) := by
  go_enter Try.func16, Try.ntmps16
  go_wp2
  go_ret
  exact br_nil hs
end Go.Proofs.Ytaajgkccannjlaa
