import Derived.Test.YtjchjdlapacknaaA6
namespace Go.Proofs.Ytjchjdlapacknaa
open Go.RowKit Go.Mem
variable {W w : World} {H : List HProp}
attribute [local irreducible] World.setCell World.setCells World.alloc World.drew World.drewN Calls sat cel own blk old mp wpQuiet

theorem capitalL_bd {r : Int} (h : inL capitalL r = true) : (65 ≤ r ∧ r ≤ 90) ∨ (192 ≤ r ∧ r ≤ 214) ∨ (216 ≤ r ∧ r ≤ 222) := by
  rw [inL_iff] at h; simpa [capitalL] using h
theorem smallL_bd {r : Int} (h : inL smallL r = true) : (97 ≤ r ∧ r ≤ 122) ∨ (223 ≤ r ∧ r ≤ 246) ∨ (248 ≤ r ∧ r ≤ 255) := by
  rw [inL_iff] at h; simpa [smallL] using h
theorem marksL_lo {r : Int} (h : inL marksL r = true) : 768 ≤ r := by
  rw [inL_iff] at h; simp [marksL] at h; omega
theorem blankL_bd {r : Int} (h : inL blankL r = true) : r = 32 ∨ r = 160 ∨ 8192 ≤ r := by
  rw [inL_iff] at h; simp [blankL] at h; omega
theorem width_ne (r : Int) (h : (32 ≤ r ∧ r ≤ 126) ∨ (160 ≤ r ∧ r < 768)) : width r ≠ 0 := by
  unfold width
  rw [if_neg (by unfold may; omega), if_neg (by omega), if_neg (by omega), if_neg (fun hm => by have := marksL_lo hm; omega)]
  split <;> decide
theorem cls_four (r : Int) : cls r = 4 ↔ inL capitalL r = true := by
  constructor
  · intro h
    unfold cls at h
    split at h; · cases h
    split at h; · cases h
    split at h; · cases h
    split at h; · cases h
    split at h; · assumption
    split at h <;> cases h
  · intro h
    have hb := capitalL_bd h
    have hs : inL smallL r = false := by rw [Bool.eq_false_iff]; intro h2; have := smallL_bd h2; omega
    have hk : inL blankL r = false := by rw [Bool.eq_false_iff]; intro h2; have := blankL_bd h2; omega
    unfold cls
    rw [if_neg (width_ne r (by omega)), hk, if_neg Bool.false_ne_true, if_neg (by omega), hs, if_neg Bool.false_ne_true, if_pos h]
theorem cls_three (r : Int) : cls r = 3 ↔ inL smallL r = true := by
  constructor
  · intro h
    unfold cls at h
    split at h; · cases h
    split at h; · cases h
    split at h; · cases h
    split at h; · assumption
    split at h; · cases h
    split at h <;> cases h
  · intro h
    have hb := smallL_bd h
    have hk : inL blankL r = false := by rw [Bool.eq_false_iff]; intro h2; have := blankL_bd h2; omega
    unfold cls
    rw [if_neg (width_ne r (by omega)), hk, if_neg Bool.false_ne_true, if_neg (by omega), if_pos h]
def lower (r : Int) : Int := if inL capitalL r = true then r + 32 else r
def upper (r : Int) : Int := if inL smallL r = true ∧ inL capitalL (r - 32) = true then r - 32 else r

theorem lower22 (r : Int) (hs : sat W H w) : Calls Try.prog 22 #[.int .i32 r] w fun e w' => e = .returned (.int .i32 (lower r)) ∧ sat W H w' := by
  by_cases hc : inL capitalL r = true
  · have e1 : (cls r == 4) = true := by simpa using (cls_four r).2 hc
    have hb := capitalL_bd hc
    have b1 : 65 ≤ r := by omega
    have b2 : r ≤ 222 := by omega
    have HF := Lib.hid (show lower r = r + 32 by unfold lower; rw [if_pos hc])
    clear hc hb
    go_enter Try.func22, Try.ntmps22
    go_wp2_with (first
    | (go_at_call 16; refine (class16 _ hs).mono ?_; clear hs; rintro e w ⟨rfl, hs⟩)
    | (refine wrap hs ?_; clear hs; intro w hs)
    | (refine wrapn hs ?_; clear hs; intro w hs)
    | (refine wrapd hs ?_; clear hs; intro w hs))
    go_ret
    exact ⟨ret_int HF.out, hs⟩
  · have e1 : (cls r == 4) = false := by rw [beq_eq_false_iff_ne]; exact fun h => hc ((cls_four r).1 h)
    have HF := Lib.hid (show lower r = r by unfold lower; rw [if_neg hc])
    clear hc
    go_enter Try.func22, Try.ntmps22
    go_wp2_with (first
    | (go_at_call 16; refine (class16 _ hs).mono ?_; clear hs; rintro e w ⟨rfl, hs⟩)
    | (refine wrap hs ?_; clear hs; intro w hs)
    | (refine wrapn hs ?_; clear hs; intro w hs)
    | (refine wrapd hs ?_; clear hs; intro w hs))
    go_ret
    exact ⟨ret_int HF.out, hs⟩
theorem lower23 (r : Int) (w : World) : Calls Try.prog 23 #[.int .i32 r] w fun e w' => e = .returned (.int .i32 (lower r)) ∧ w' = w := by
  cases hc : inL capitalL r
  · have HF := Lib.hid (show lower r = r by unfold lower; rw [hc]; rfl)
    go_enter Try.func23, Try.ntmps23
    go_wp2_with (first
    | (go_at_call 36; refine (capital36 _ _).mono ?_; rintro e w' ⟨rfl, rfl⟩)
    | (refine wrap hs ?_; clear hs; intro w hs)
    | (refine wrapn hs ?_; clear hs; intro w hs)
    | (refine wrapd hs ?_; clear hs; intro w hs))
    go_ret
    exact ⟨ret_int HF.out, rfl⟩
  · have hb := capitalL_bd hc
    have b1 : 65 ≤ r := by omega
    have b2 : r ≤ 222 := by omega
    have HF := Lib.hid (show lower r = r + 32 by unfold lower; rw [if_pos hc])
    clear hb
    go_enter Try.func23, Try.ntmps23
    go_wp2_with (first
    | (go_at_call 36; refine (capital36 _ _).mono ?_; rintro e w' ⟨rfl, rfl⟩)
    | (refine wrap hs ?_; clear hs; intro w hs)
    | (refine wrapn hs ?_; clear hs; intro w hs)
    | (refine wrapd hs ?_; clear hs; intro w hs))
    go_ret
    exact ⟨ret_int HF.out, rfl⟩
theorem upper24 (r : Int) (hs : sat W H w) : Calls Try.prog 24 #[.int .i32 r] w fun e w' => e = .returned (.int .i32 (upper r)) ∧ sat W H w' := by
  by_cases hs3 : inL smallL r = true
  · have e1 : (cls r == 3) = true := by simpa using (cls_three r).2 hs3
    have hb := smallL_bd hs3
    have b1 : 97 ≤ r := by omega
    have b2 : r ≤ 255 := by omega
    by_cases hc : inL capitalL (r - 32) = true
    · have e2 : (cls (r - 32) == 4) = true := by simpa using (cls_four _).2 hc
      have HF := Lib.hid (show upper r = r - 32 by unfold upper; rw [if_pos ⟨hs3, hc⟩])
      clear hc hb hs3
      go_enter Try.func24, Try.ntmps24
      go_wp2_with (first
    | (go_at_call 16; refine (class16 _ hs).mono ?_; clear hs; rintro e w ⟨rfl, hs⟩)
    | (refine wrap hs ?_; clear hs; intro w hs)
    | (refine wrapn hs ?_; clear hs; intro w hs)
    | (refine wrapd hs ?_; clear hs; intro w hs))
      go_ret
      exact ⟨ret_int HF.out, hs⟩
    · have e2 : (cls (r - 32) == 4) = false := by rw [beq_eq_false_iff_ne]; exact fun h => hc ((cls_four _).1 h)
      have HF := Lib.hid (show upper r = r by unfold upper; rw [if_neg (fun h => hc h.2)])
      clear hc hb hs3
      go_enter Try.func24, Try.ntmps24
      go_wp2_with (first
    | (go_at_call 16; refine (class16 _ hs).mono ?_; clear hs; rintro e w ⟨rfl, hs⟩)
    | (refine wrap hs ?_; clear hs; intro w hs)
    | (refine wrapn hs ?_; clear hs; intro w hs)
    | (refine wrapd hs ?_; clear hs; intro w hs))
      go_ret
      exact ⟨ret_int HF.out, hs⟩
  · have e1 : (cls r == 3) = false := by rw [beq_eq_false_iff_ne]; exact fun h => hs3 ((cls_three r).1 h)
    have HF := Lib.hid (show upper r = r by unfold upper; rw [if_neg (fun h => hs3 h.1)])
    clear hs3
    go_enter Try.func24, Try.ntmps24
    go_wp2_with (first
    | (go_at_call 16; refine (class16 _ hs).mono ?_; clear hs; rintro e w ⟨rfl, hs⟩)
    | (refine wrap hs ?_; clear hs; intro w hs)
    | (refine wrapn hs ?_; clear hs; intro w hs)
    | (refine wrapd hs ?_; clear hs; intro w hs))
    go_ret
    exact ⟨ret_int HF.out, hs⟩
theorem upper25 (r : Int) (w : World) : Calls Try.prog 25 #[.int .i32 r] w fun e w' => e = .returned (.int .i32 (upper r)) ∧ w' = w := by
  cases hs3 : inL smallL r
  · have HF := Lib.hid (show upper r = r by unfold upper; rw [hs3]; rfl)
    go_enter Try.func25, Try.ntmps25
    go_wp2_with (first
    | (go_at_call 35; refine (small35 _ _).mono ?_; rintro e w' ⟨rfl, rfl⟩)
    | (go_at_call 36; refine (capital36 _ _).mono ?_; rintro e w' ⟨rfl, rfl⟩)
    | (refine wrap hs ?_; clear hs; intro w hs)
    | (refine wrapn hs ?_; clear hs; intro w hs)
    | (refine wrapd hs ?_; clear hs; intro w hs))
    go_ret
    exact ⟨ret_int HF.out, rfl⟩
  · have hb := smallL_bd hs3
    have b1 : 97 ≤ r := by omega
    have b2 : r ≤ 255 := by omega
    clear hb
    cases hc : inL capitalL (r - 32)
    · have HF := Lib.hid (show upper r = r by unfold upper; rw [hc, if_neg (fun h => Bool.false_ne_true h.2)])
      go_enter Try.func25, Try.ntmps25
      go_wp2_with (first
    | (go_at_call 35; refine (small35 _ _).mono ?_; rintro e w' ⟨rfl, rfl⟩)
    | (go_at_call 36; refine (capital36 _ _).mono ?_; rintro e w' ⟨rfl, rfl⟩)
    | (refine wrap hs ?_; clear hs; intro w hs)
    | (refine wrapn hs ?_; clear hs; intro w hs)
    | (refine wrapd hs ?_; clear hs; intro w hs))
      go_ret
      exact ⟨ret_int HF.out, rfl⟩
    · have HF := Lib.hid (show upper r = r - 32 by unfold upper; rw [if_pos ⟨hs3, hc⟩])
      go_enter Try.func25, Try.ntmps25
      go_wp2_with (first
    | (go_at_call 35; refine (small35 _ _).mono ?_; rintro e w' ⟨rfl, rfl⟩)
    | (go_at_call 36; refine (capital36 _ _).mono ?_; rintro e w' ⟨rfl, rfl⟩)
    | (refine wrap hs ?_; clear hs; intro w hs)
    | (refine wrapn hs ?_; clear hs; intro w hs)
    | (refine wrapd hs ?_; clear hs; intro w hs))
      go_ret
      exact ⟨ret_int HF.out, rfl⟩
end Go.Proofs.Ytjchjdlapacknaa
