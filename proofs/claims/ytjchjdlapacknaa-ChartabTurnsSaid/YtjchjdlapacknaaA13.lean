import Derived.Test.YtjchjdlapacknaaA12
namespace Go.Proofs.Ytjchjdlapacknaa
open Go.RowKit Go.Mem Go.Maps
variable {W w : World} {H : List HProp}

theorem capital_iff (r : Int) : inL capitalL r = true ↔ (65 ≤ r ∧ r ≤ 90) ∨ (192 ≤ r ∧ r ≤ 214) ∨ (216 ≤ r ∧ r ≤ 222) := by
  rw [inL_iff]; simp [capitalL]
theorem small_iff (r : Int) : inL smallL r = true ↔ (97 ≤ r ∧ r ≤ 122) ∨ (223 ≤ r ∧ r ≤ 246) ∨ (248 ≤ r ∧ r ≤ 255) := by
  rw [inL_iff]; simp [smallL]
theorem widesL_lo {r : Int} (h : inL widesL r = true) : 4352 ≤ r := by
  rw [inL_iff] at h; simp [widesL] at h; omega
theorem width_one (r : Int) (h : (32 ≤ r ∧ r ≤ 126) ∨ (160 ≤ r ∧ r < 768)) : width r = 1 := by
  unfold width
  rw [if_neg (by unfold may; omega), if_neg (by omega), if_neg (by omega), if_neg (fun hm => by have := marksL_lo hm; omega), if_neg (fun hm => by have := widesL_lo hm; omega)]
theorem lower_cap {r : Int} (h : inL capitalL r = true) : lower r = r + 32 := by unfold lower; rw [if_pos h]
theorem lower_not {r : Int} (h : ¬ inL capitalL r = true) : lower r = r := by unfold lower; rw [if_neg h]
theorem lower_lower (r : Int) : lower (lower r) = lower r := by
  by_cases h : inL capitalL r = true
  · rw [lower_cap h]
    rw [capital_iff] at h
    exact lower_not (fun h2 => by rw [capital_iff] at h2; omega)
  · rw [lower_not h, lower_not h]
theorem upper_yes {r : Int} (h : inL smallL r = true ∧ inL capitalL (r - 32) = true) : upper r = r - 32 := by unfold upper; rw [if_pos h]
theorem upper_not {r : Int} (h : ¬ (inL smallL r = true ∧ inL capitalL (r - 32) = true)) : upper r = r := by unfold upper; rw [if_neg h]
theorem upper_upper (r : Int) : upper (upper r) = upper r := by
  by_cases h : inL smallL r = true ∧ inL capitalL (r - 32) = true
  · rw [upper_yes h]
    rw [small_iff, capital_iff] at h
    exact upper_not (fun h2 => by rw [small_iff, capital_iff] at h2; omega)
  · rw [upper_not h, upper_not h]
theorem width_lower (r : Int) : width (lower r) = width r := by
  by_cases h : inL capitalL r = true
  · rw [lower_cap h]
    rw [capital_iff] at h
    rw [width_one r (by omega), width_one (r + 32) (by omega)]
  · rw [lower_not h]
theorem width_upper (r : Int) : width (upper r) = width r := by
  by_cases h : inL smallL r = true ∧ inL capitalL (r - 32) = true
  · rw [upper_yes h]
    rw [small_iff, capital_iff] at h
    rw [width_one r (by omega), width_one (r - 32) (by omega)]
  · rw [upper_not h]
theorem cap_turn (r : Int) (h : inL capitalL r = true) : cls (lower r) = 3 ∧ upper (lower r) = r := by
  rw [lower_cap h]
  have hb := (capital_iff r).1 h
  have hs : inL smallL (r + 32) = true := (small_iff _).2 (by omega)
  refine ⟨(cls_three _).2 hs, ?_⟩
  rw [upper_yes ⟨hs, by rw [Int.add_sub_cancel]; exact h⟩, Int.add_sub_cancel]
theorem else_turn (r : Int) (h : ¬ upper r = r) : cls (upper r) = 4 ∧ lower (upper r) = r := by
  by_cases hu : inL smallL r = true ∧ inL capitalL (r - 32) = true
  · rw [upper_yes hu]
    exact ⟨(cls_four _).2 hu.2, by rw [lower_cap hu.2]; omega⟩
  · exact (h (upper_not hu)).elim

theorem cls_zero (r : Int) : cls r = 0 ↔ width r = 0 := by
  constructor
  · intro h
    unfold cls at h
    split at h; · assumption
    split at h; · cases h
    split at h; · cases h
    split at h; · cases h
    split at h; · cases h
    split at h <;> cases h
  · intro h; unfold cls; rw [if_pos h]
theorem cls_bd (r : Int) : 0 ≤ cls r ∧ cls r ≤ 6 := by
  unfold cls
  repeat' split
  all_goals decide
theorem width_bd (r : Int) : 0 ≤ width r ∧ width r ≤ 2 := by
  unfold width
  repeat' split
  all_goals decide
theorem may_of_width (r : Int) (h : ¬ width r = 0) : may r := by
  apply Decidable.byContradiction
  intro hm
  exact h (by unfold width; rw [if_pos hm])
theorem gfx_width : ∀ k : Fin 32, width (gfx ((k.val : Int) + 95)) = 1 := by decide
theorem charset_width (s r : Int) (h : 32 ≤ r ∧ r ≤ 126) : width (charset s r) = 1 := by
  unfold charset
  split
  · decide
  · split
    · rename_i h2
      obtain ⟨k, hk⟩ := Int.eq_ofNat_of_zero_le (show 0 ≤ r - 95 by omega)
      obtain rfl : r = k + 95 := by omega
      exact gfx_width ⟨k, by omega⟩
    · exact width_one r (.inl h)
theorem width_may (r : Int) (h : ¬ may r) : width r = 0 := by unfold width; rw [if_pos h]
theorem noSign_may (r : Int) (h : ¬ may r) : noSign r := by unfold may at h; unfold noSign; omega
theorem sign_some (r : Int) (h : ¬ noSign r) : ¬ (nameV r).1.toList = [] ∧ 1 ≤ (nameV r).2 ∧ (nameV r).2 ≤ 3 ∧ cls r = 5 ∧ ¬ width r = 0 := by
  have hd : r = 33 ∨ r = 34 ∨ r = 35 ∨ r = 36 ∨ r = 37 ∨ r = 38 ∨ r = 39 ∨ r = 40 ∨ r = 41 ∨ r = 42 ∨ r = 43 ∨ r = 44 ∨ r = 45 ∨ r = 46 ∨ r = 47 ∨ r = 58 ∨ r = 59 ∨ r = 60 ∨ r = 61 ∨ r = 62 ∨ r = 63 ∨ r = 64 ∨ r = 91 ∨ r = 92 ∨ r = 93 ∨ r = 94 ∨ r = 95 ∨ r = 96 ∨ r = 123 ∨ r = 124 ∨ r = 125 ∨ r = 126 := by unfold noSign at h; omega
  clear h
  rcases hd with rfl | rfl | rfl | rfl | rfl | rfl | rfl | rfl | rfl | rfl | rfl | rfl | rfl | rfl | rfl | rfl | rfl | rfl | rfl | rfl | rfl | rfl | rfl | rfl | rfl | rfl | rfl | rfl | rfl | rfl | rfl | rfl
  · rw [name_33]; decide +kernel
  · rw [name_34]; decide +kernel
  · rw [name_35]; decide +kernel
  · rw [name_36]; decide +kernel
  · rw [name_37]; decide +kernel
  · rw [name_38]; decide +kernel
  · rw [name_39]; decide +kernel
  · rw [name_40]; decide +kernel
  · rw [name_41]; decide +kernel
  · rw [name_42]; decide +kernel
  · rw [name_43]; decide +kernel
  · rw [name_44]; decide +kernel
  · rw [name_45]; decide +kernel
  · rw [name_46]; decide +kernel
  · rw [name_47]; decide +kernel
  · rw [name_58]; decide +kernel
  · rw [name_59]; decide +kernel
  · rw [name_60]; decide +kernel
  · rw [name_61]; decide +kernel
  · rw [name_62]; decide +kernel
  · rw [name_63]; decide +kernel
  · rw [name_64]; decide +kernel
  · rw [name_91]; decide +kernel
  · rw [name_92]; decide +kernel
  · rw [name_93]; decide +kernel
  · rw [name_94]; decide +kernel
  · rw [name_95]; decide +kernel
  · rw [name_96]; decide +kernel
  · rw [name_123]; decide +kernel
  · rw [name_124]; decide +kernel
  · rw [name_125]; decide +kernel
  · rw [name_126]; decide +kernel

attribute [local irreducible] World.setCell World.setCells World.alloc World.drew World.drewN Calls sat cel own blk old mp wpQuiet addM nameV allNames width cls charset lower upper may


theorem fits_A (r s : Int) (b1 b2 : Bool) (hm : ¬ may r) (hr : (Lit.int .i32 r).wf = true) (e1 : decide (r < 32) = b1) (e2 : decide (126 < r) = b2) (h12 : b1 = true ∨ b2 = true) (hs : sat W H w) :
    Calls Try.prog 8 #[.int .i32 r, .int .u8 s] w fun e w' => e = .returned (.bool true) ∧ sat W H w' := by
  have hw : width r = 0 := width_may r hm
  have hc : cls r = 0 := (cls_zero r).2 hw
  have hmm : decide (may r) = false := decide_eq_false hm
  have hn : nameV r = (⟨#[]⟩, 0) := name_none r (noSign_may r hm)
  have HR := Lib.hid hr
  clear hr hm
  cases b1 <;> cases b2
  · exact absurd h12 (by simp)
  · clear h12
    go_enter Try.func8, Try.ntmps8
    go_wp2_with (first
    | (go_at_call 11; refine (may11 _ _).mono ?_; rintro e w' ⟨rfl, rfl⟩)
    | (go_at_call 13; refine (known13 hs).mono ?_; clear hs; rintro e w ⟨rfl, hs⟩)
    | (go_at_call 14; refine (width14 _ hs).mono ?_; clear hs; rintro e w ⟨rfl, hs⟩)
    | (go_at_call 16; refine (class16 _ hs).mono ?_; clear hs; rintro e w ⟨rfl, hs⟩)
    | (go_at_call 18; refine (charset18 _ _ hs).mono ?_; clear hs; rintro e w ⟨rfl, hs⟩)
    | (go_at_call 20; refine (name20 _ HR.out hs).mono ?_; clear hs; rintro e w ⟨rfl, hs⟩)
    | (go_at_call 22; refine (lower22 _ hs).mono ?_; clear hs; rintro e w ⟨rfl, hs⟩)
    | (go_at_call 24; refine (upper24 _ hs).mono ?_; clear hs; rintro e w ⟨rfl, hs⟩)
    | (refine wrap hs ?_; clear hs; intro w hs)
    | (refine wrapn hs ?_; clear hs; intro w hs)
    | (refine wrapd hs ?_; clear hs; intro w hs))
    go_ret
    exact ⟨rfl, hs⟩
  · clear h12
    go_enter Try.func8, Try.ntmps8
    go_wp2_with (first
    | (go_at_call 11; refine (may11 _ _).mono ?_; rintro e w' ⟨rfl, rfl⟩)
    | (go_at_call 13; refine (known13 hs).mono ?_; clear hs; rintro e w ⟨rfl, hs⟩)
    | (go_at_call 14; refine (width14 _ hs).mono ?_; clear hs; rintro e w ⟨rfl, hs⟩)
    | (go_at_call 16; refine (class16 _ hs).mono ?_; clear hs; rintro e w ⟨rfl, hs⟩)
    | (go_at_call 18; refine (charset18 _ _ hs).mono ?_; clear hs; rintro e w ⟨rfl, hs⟩)
    | (go_at_call 20; refine (name20 _ HR.out hs).mono ?_; clear hs; rintro e w ⟨rfl, hs⟩)
    | (go_at_call 22; refine (lower22 _ hs).mono ?_; clear hs; rintro e w ⟨rfl, hs⟩)
    | (go_at_call 24; refine (upper24 _ hs).mono ?_; clear hs; rintro e w ⟨rfl, hs⟩)
    | (refine wrap hs ?_; clear hs; intro w hs)
    | (refine wrapn hs ?_; clear hs; intro w hs)
    | (refine wrapd hs ?_; clear hs; intro w hs))
    go_ret
    exact ⟨rfl, hs⟩
  · clear h12
    go_enter Try.func8, Try.ntmps8
    go_wp2_with (first
    | (go_at_call 11; refine (may11 _ _).mono ?_; rintro e w' ⟨rfl, rfl⟩)
    | (go_at_call 13; refine (known13 hs).mono ?_; clear hs; rintro e w ⟨rfl, hs⟩)
    | (go_at_call 14; refine (width14 _ hs).mono ?_; clear hs; rintro e w ⟨rfl, hs⟩)
    | (go_at_call 16; refine (class16 _ hs).mono ?_; clear hs; rintro e w ⟨rfl, hs⟩)
    | (go_at_call 18; refine (charset18 _ _ hs).mono ?_; clear hs; rintro e w ⟨rfl, hs⟩)
    | (go_at_call 20; refine (name20 _ HR.out hs).mono ?_; clear hs; rintro e w ⟨rfl, hs⟩)
    | (go_at_call 22; refine (lower22 _ hs).mono ?_; clear hs; rintro e w ⟨rfl, hs⟩)
    | (go_at_call 24; refine (upper24 _ hs).mono ?_; clear hs; rintro e w ⟨rfl, hs⟩)
    | (refine wrap hs ?_; clear hs; intro w hs)
    | (refine wrapn hs ?_; clear hs; intro w hs)
    | (refine wrapd hs ?_; clear hs; intro w hs))
    go_ret
    exact ⟨rfl, hs⟩
theorem fits_B (r s wd c : Int) (b1 b2 z : Bool) (hm : may r) (h : noSign r) (hr : (Lit.int .i32 r).wf = true) (hw : width r = wd) (hc : cls r = c) (z1 : (wd == 0) = z) (z2 : (c == 0) = z) (e1 : decide (r < 32) = b1) (e2 : decide (126 < r) = b2)
    (f2 : decide (wd < 0) = false) (f3 : decide (2 < wd) = false) (f4 : decide (6 < c) = false) (f9 : b1 = false → b2 = false → width (charset s r) = 1) (hs : sat W H w) :
    Calls Try.prog 8 #[.int .i32 r, .int .u8 s] w fun e w' => e = .returned (.bool true) ∧ sat W H w' := by
  have hmm : decide (may r) = true := decide_eq_true hm
  have hn : nameV r = (⟨#[]⟩, 0) := name_none r h
  have HR := Lib.hid hr
  clear hr hm h
  cases b1 <;> cases b2
  · have g9 := f9 rfl rfl
    clear f9
    cases z
    · go_enter Try.func8, Try.ntmps8
      go_wp2_with (first
    | (go_at_call 11; refine (may11 _ _).mono ?_; rintro e w' ⟨rfl, rfl⟩)
    | (go_at_call 13; refine (known13 hs).mono ?_; clear hs; rintro e w ⟨rfl, hs⟩)
    | (go_at_call 14; refine (width14 _ hs).mono ?_; clear hs; rintro e w ⟨rfl, hs⟩)
    | (go_at_call 16; refine (class16 _ hs).mono ?_; clear hs; rintro e w ⟨rfl, hs⟩)
    | (go_at_call 18; refine (charset18 _ _ hs).mono ?_; clear hs; rintro e w ⟨rfl, hs⟩)
    | (go_at_call 20; refine (name20 _ HR.out hs).mono ?_; clear hs; rintro e w ⟨rfl, hs⟩)
    | (go_at_call 22; refine (lower22 _ hs).mono ?_; clear hs; rintro e w ⟨rfl, hs⟩)
    | (go_at_call 24; refine (upper24 _ hs).mono ?_; clear hs; rintro e w ⟨rfl, hs⟩)
    | (refine wrap hs ?_; clear hs; intro w hs)
    | (refine wrapn hs ?_; clear hs; intro w hs)
    | (refine wrapd hs ?_; clear hs; intro w hs))
      go_ret
      exact ⟨rfl, hs⟩
    · go_enter Try.func8, Try.ntmps8
      go_wp2_with (first
    | (go_at_call 11; refine (may11 _ _).mono ?_; rintro e w' ⟨rfl, rfl⟩)
    | (go_at_call 13; refine (known13 hs).mono ?_; clear hs; rintro e w ⟨rfl, hs⟩)
    | (go_at_call 14; refine (width14 _ hs).mono ?_; clear hs; rintro e w ⟨rfl, hs⟩)
    | (go_at_call 16; refine (class16 _ hs).mono ?_; clear hs; rintro e w ⟨rfl, hs⟩)
    | (go_at_call 18; refine (charset18 _ _ hs).mono ?_; clear hs; rintro e w ⟨rfl, hs⟩)
    | (go_at_call 20; refine (name20 _ HR.out hs).mono ?_; clear hs; rintro e w ⟨rfl, hs⟩)
    | (go_at_call 22; refine (lower22 _ hs).mono ?_; clear hs; rintro e w ⟨rfl, hs⟩)
    | (go_at_call 24; refine (upper24 _ hs).mono ?_; clear hs; rintro e w ⟨rfl, hs⟩)
    | (refine wrap hs ?_; clear hs; intro w hs)
    | (refine wrapn hs ?_; clear hs; intro w hs)
    | (refine wrapd hs ?_; clear hs; intro w hs))
      go_ret
      exact ⟨rfl, hs⟩
  · clear f9
    cases z
    · go_enter Try.func8, Try.ntmps8
      go_wp2_with (first
    | (go_at_call 11; refine (may11 _ _).mono ?_; rintro e w' ⟨rfl, rfl⟩)
    | (go_at_call 13; refine (known13 hs).mono ?_; clear hs; rintro e w ⟨rfl, hs⟩)
    | (go_at_call 14; refine (width14 _ hs).mono ?_; clear hs; rintro e w ⟨rfl, hs⟩)
    | (go_at_call 16; refine (class16 _ hs).mono ?_; clear hs; rintro e w ⟨rfl, hs⟩)
    | (go_at_call 18; refine (charset18 _ _ hs).mono ?_; clear hs; rintro e w ⟨rfl, hs⟩)
    | (go_at_call 20; refine (name20 _ HR.out hs).mono ?_; clear hs; rintro e w ⟨rfl, hs⟩)
    | (go_at_call 22; refine (lower22 _ hs).mono ?_; clear hs; rintro e w ⟨rfl, hs⟩)
    | (go_at_call 24; refine (upper24 _ hs).mono ?_; clear hs; rintro e w ⟨rfl, hs⟩)
    | (refine wrap hs ?_; clear hs; intro w hs)
    | (refine wrapn hs ?_; clear hs; intro w hs)
    | (refine wrapd hs ?_; clear hs; intro w hs))
      go_ret
      exact ⟨rfl, hs⟩
    · go_enter Try.func8, Try.ntmps8
      go_wp2_with (first
    | (go_at_call 11; refine (may11 _ _).mono ?_; rintro e w' ⟨rfl, rfl⟩)
    | (go_at_call 13; refine (known13 hs).mono ?_; clear hs; rintro e w ⟨rfl, hs⟩)
    | (go_at_call 14; refine (width14 _ hs).mono ?_; clear hs; rintro e w ⟨rfl, hs⟩)
    | (go_at_call 16; refine (class16 _ hs).mono ?_; clear hs; rintro e w ⟨rfl, hs⟩)
    | (go_at_call 18; refine (charset18 _ _ hs).mono ?_; clear hs; rintro e w ⟨rfl, hs⟩)
    | (go_at_call 20; refine (name20 _ HR.out hs).mono ?_; clear hs; rintro e w ⟨rfl, hs⟩)
    | (go_at_call 22; refine (lower22 _ hs).mono ?_; clear hs; rintro e w ⟨rfl, hs⟩)
    | (go_at_call 24; refine (upper24 _ hs).mono ?_; clear hs; rintro e w ⟨rfl, hs⟩)
    | (refine wrap hs ?_; clear hs; intro w hs)
    | (refine wrapn hs ?_; clear hs; intro w hs)
    | (refine wrapd hs ?_; clear hs; intro w hs))
      go_ret
      exact ⟨rfl, hs⟩
  · clear f9
    cases z
    · go_enter Try.func8, Try.ntmps8
      go_wp2_with (first
    | (go_at_call 11; refine (may11 _ _).mono ?_; rintro e w' ⟨rfl, rfl⟩)
    | (go_at_call 13; refine (known13 hs).mono ?_; clear hs; rintro e w ⟨rfl, hs⟩)
    | (go_at_call 14; refine (width14 _ hs).mono ?_; clear hs; rintro e w ⟨rfl, hs⟩)
    | (go_at_call 16; refine (class16 _ hs).mono ?_; clear hs; rintro e w ⟨rfl, hs⟩)
    | (go_at_call 18; refine (charset18 _ _ hs).mono ?_; clear hs; rintro e w ⟨rfl, hs⟩)
    | (go_at_call 20; refine (name20 _ HR.out hs).mono ?_; clear hs; rintro e w ⟨rfl, hs⟩)
    | (go_at_call 22; refine (lower22 _ hs).mono ?_; clear hs; rintro e w ⟨rfl, hs⟩)
    | (go_at_call 24; refine (upper24 _ hs).mono ?_; clear hs; rintro e w ⟨rfl, hs⟩)
    | (refine wrap hs ?_; clear hs; intro w hs)
    | (refine wrapn hs ?_; clear hs; intro w hs)
    | (refine wrapd hs ?_; clear hs; intro w hs))
      go_ret
      exact ⟨rfl, hs⟩
    · go_enter Try.func8, Try.ntmps8
      go_wp2_with (first
    | (go_at_call 11; refine (may11 _ _).mono ?_; rintro e w' ⟨rfl, rfl⟩)
    | (go_at_call 13; refine (known13 hs).mono ?_; clear hs; rintro e w ⟨rfl, hs⟩)
    | (go_at_call 14; refine (width14 _ hs).mono ?_; clear hs; rintro e w ⟨rfl, hs⟩)
    | (go_at_call 16; refine (class16 _ hs).mono ?_; clear hs; rintro e w ⟨rfl, hs⟩)
    | (go_at_call 18; refine (charset18 _ _ hs).mono ?_; clear hs; rintro e w ⟨rfl, hs⟩)
    | (go_at_call 20; refine (name20 _ HR.out hs).mono ?_; clear hs; rintro e w ⟨rfl, hs⟩)
    | (go_at_call 22; refine (lower22 _ hs).mono ?_; clear hs; rintro e w ⟨rfl, hs⟩)
    | (go_at_call 24; refine (upper24 _ hs).mono ?_; clear hs; rintro e w ⟨rfl, hs⟩)
    | (refine wrap hs ?_; clear hs; intro w hs)
    | (refine wrapn hs ?_; clear hs; intro w hs)
    | (refine wrapd hs ?_; clear hs; intro w hs))
      go_ret
      exact ⟨rfl, hs⟩
  · clear f9
    cases z
    · go_enter Try.func8, Try.ntmps8
      go_wp2_with (first
    | (go_at_call 11; refine (may11 _ _).mono ?_; rintro e w' ⟨rfl, rfl⟩)
    | (go_at_call 13; refine (known13 hs).mono ?_; clear hs; rintro e w ⟨rfl, hs⟩)
    | (go_at_call 14; refine (width14 _ hs).mono ?_; clear hs; rintro e w ⟨rfl, hs⟩)
    | (go_at_call 16; refine (class16 _ hs).mono ?_; clear hs; rintro e w ⟨rfl, hs⟩)
    | (go_at_call 18; refine (charset18 _ _ hs).mono ?_; clear hs; rintro e w ⟨rfl, hs⟩)
    | (go_at_call 20; refine (name20 _ HR.out hs).mono ?_; clear hs; rintro e w ⟨rfl, hs⟩)
    | (go_at_call 22; refine (lower22 _ hs).mono ?_; clear hs; rintro e w ⟨rfl, hs⟩)
    | (go_at_call 24; refine (upper24 _ hs).mono ?_; clear hs; rintro e w ⟨rfl, hs⟩)
    | (refine wrap hs ?_; clear hs; intro w hs)
    | (refine wrapn hs ?_; clear hs; intro w hs)
    | (refine wrapd hs ?_; clear hs; intro w hs))
      go_ret
      exact ⟨rfl, hs⟩
    · go_enter Try.func8, Try.ntmps8
      go_wp2_with (first
    | (go_at_call 11; refine (may11 _ _).mono ?_; rintro e w' ⟨rfl, rfl⟩)
    | (go_at_call 13; refine (known13 hs).mono ?_; clear hs; rintro e w ⟨rfl, hs⟩)
    | (go_at_call 14; refine (width14 _ hs).mono ?_; clear hs; rintro e w ⟨rfl, hs⟩)
    | (go_at_call 16; refine (class16 _ hs).mono ?_; clear hs; rintro e w ⟨rfl, hs⟩)
    | (go_at_call 18; refine (charset18 _ _ hs).mono ?_; clear hs; rintro e w ⟨rfl, hs⟩)
    | (go_at_call 20; refine (name20 _ HR.out hs).mono ?_; clear hs; rintro e w ⟨rfl, hs⟩)
    | (go_at_call 22; refine (lower22 _ hs).mono ?_; clear hs; rintro e w ⟨rfl, hs⟩)
    | (go_at_call 24; refine (upper24 _ hs).mono ?_; clear hs; rintro e w ⟨rfl, hs⟩)
    | (refine wrap hs ?_; clear hs; intro w hs)
    | (refine wrapn hs ?_; clear hs; intro w hs)
    | (refine wrapd hs ?_; clear hs; intro w hs))
      go_ret
      exact ⟨rfl, hs⟩
theorem fits_C (r s wd n : Int) (nm : ByteArray) (hm : may r) (hr : (Lit.int .i32 r).wf = true) (hw : width r = wd) (hc : cls r = 5) (z1 : (wd == 0) = false) (hn : nameV r = (nm, n)) (y1 : ¬ nm.toList = []) (y2 : (n == 0) = false) (f7 : decide (3 < n) = false) (e1 : decide (r < 32) = false) (e2 : decide (126 < r) = false)
    (f2 : decide (wd < 0) = false) (f3 : decide (2 < wd) = false) (g9 : width (charset s r) = 1) (hs : sat W H w) :
    Calls Try.prog 8 #[.int .i32 r, .int .u8 s] w fun e w' => e = .returned (.bool true) ∧ sat W H w' := by
  have hmm : decide (may r) = true := decide_eq_true hm
  have y4 : nm.toList.isEmpty = false := by rw [List.isEmpty_eq_false_iff]; exact y1
  have HR := Lib.hid hr
  clear hr hm
  go_enter Try.func8, Try.ntmps8
  go_wp2_with (first
    | (go_at_call 11; refine (may11 _ _).mono ?_; rintro e w' ⟨rfl, rfl⟩)
    | (go_at_call 13; refine (known13 hs).mono ?_; clear hs; rintro e w ⟨rfl, hs⟩)
    | (go_at_call 14; refine (width14 _ hs).mono ?_; clear hs; rintro e w ⟨rfl, hs⟩)
    | (go_at_call 16; refine (class16 _ hs).mono ?_; clear hs; rintro e w ⟨rfl, hs⟩)
    | (go_at_call 18; refine (charset18 _ _ hs).mono ?_; clear hs; rintro e w ⟨rfl, hs⟩)
    | (go_at_call 20; refine (name20 _ HR.out hs).mono ?_; clear hs; rintro e w ⟨rfl, hs⟩)
    | (go_at_call 22; refine (lower22 _ hs).mono ?_; clear hs; rintro e w ⟨rfl, hs⟩)
    | (go_at_call 24; refine (upper24 _ hs).mono ?_; clear hs; rintro e w ⟨rfl, hs⟩)
    | (refine wrap hs ?_; clear hs; intro w hs)
    | (refine wrapn hs ?_; clear hs; intro w hs)
    | (refine wrapd hs ?_; clear hs; intro w hs))
  go_ret
  exact ⟨rfl, hs⟩
theorem fits_law (r s : Int) (hr : (Lit.int .i32 r).wf = true) (hs : sat W H w) : Calls Try.prog 8 #[.int .i32 r, .int .u8 s] w fun e w' => e = .returned (.bool true) ∧ sat W H w' := by
  have hb := width_bd r
  have hk := cls_bd r
  have hz : (cls r == 0) = (width r == 0) := by
    rw [Bool.eq_iff_iff, beq_iff_eq, beq_iff_eq]; exact cls_zero r
  by_cases hm : may r
  · by_cases h : noSign r
    · exact fits_B r s _ _ _ _ _ hm h hr rfl rfl rfl hz rfl rfl (decide_eq_false (by omega)) (decide_eq_false (by omega)) (decide_eq_false (by omega))
        (fun h1 h2 => charset_width s r ⟨by have := of_decide_eq_false h1; omega, by have := of_decide_eq_false h2; omega⟩) hs
    · obtain ⟨n1, n2, n3, n4, n5⟩ := sign_some r h
      have hlo : 33 ≤ r ∧ r ≤ 126 := by unfold noSign at h; omega
      have e2 : ((nameV r).2 == 0) = false := by rw [beq_eq_false_iff_ne]; omega
      exact fits_C r s _ _ _ hm hr rfl n4 (by rw [beq_eq_false_iff_ne]; exact n5) rfl n1 e2 (decide_eq_false (by omega)) (decide_eq_false (by omega)) (decide_eq_false (by omega)) (decide_eq_false (by omega)) (decide_eq_false (by omega)) (charset_width s r (by omega)) hs
  · exact fits_A r s _ _ hm hr rfl rfl (by rw [decide_eq_true_eq, decide_eq_true_eq]; unfold may at hm; omega) hs

theorem fits_top (r s : Int) (hr : (Lit.int .i32 r).wf = true) : Calls Try.prog 8 #[.int .i32 r, .int .u8 s] w fun e w' => e = .returned (.bool true) ∧ Below w.heap.size w w' :=
  (fits_law r s hr (sat.start w)).mono fun _ _ ⟨he, hs⟩ => ⟨he, hs.below⟩

theorem turns_law (r : Int) (hs : sat W H w) : Calls Try.prog 10 #[.int .i32 r] w fun e w' => e = .returned (.bool true) ∧ sat W H w' := by
  have h1 := lower_lower r
  have h2 := upper_upper r
  have h3 := width_lower r
  have h4 := width_upper r
  by_cases hc : inL capitalL r = true
  · have h5 := cap_turn r hc
    have h6 := (cls_four r).2 hc
    obtain ⟨h7, h8⟩ := h5
    clear hc
    go_enter Try.func10, Try.ntmps10
    go_wp2_with (first
    | (go_at_call 11; refine (may11 _ _).mono ?_; rintro e w' ⟨rfl, rfl⟩)
    | (go_at_call 13; refine (known13 hs).mono ?_; clear hs; rintro e w ⟨rfl, hs⟩)
    | (go_at_call 14; refine (width14 _ hs).mono ?_; clear hs; rintro e w ⟨rfl, hs⟩)
    | (go_at_call 16; refine (class16 _ hs).mono ?_; clear hs; rintro e w ⟨rfl, hs⟩)
    | (go_at_call 18; refine (charset18 _ _ hs).mono ?_; clear hs; rintro e w ⟨rfl, hs⟩)
    | (go_at_call 20; refine (name20 _ HR.out hs).mono ?_; clear hs; rintro e w ⟨rfl, hs⟩)
    | (go_at_call 22; refine (lower22 _ hs).mono ?_; clear hs; rintro e w ⟨rfl, hs⟩)
    | (go_at_call 24; refine (upper24 _ hs).mono ?_; clear hs; rintro e w ⟨rfl, hs⟩)
    | (refine wrap hs ?_; clear hs; intro w hs)
    | (refine wrapn hs ?_; clear hs; intro w hs)
    | (refine wrapd hs ?_; clear hs; intro w hs))
    go_ret
    exact ⟨rfl, hs⟩
  · have h5 : (cls r == 4) = false := by rw [beq_eq_false_iff_ne]; exact fun h => hc ((cls_four r).1 h)
    have h6 := lower_not hc
    by_cases hu : upper r = r
    · clear hc
      go_enter Try.func10, Try.ntmps10
      go_wp2_with (first
    | (go_at_call 11; refine (may11 _ _).mono ?_; rintro e w' ⟨rfl, rfl⟩)
    | (go_at_call 13; refine (known13 hs).mono ?_; clear hs; rintro e w ⟨rfl, hs⟩)
    | (go_at_call 14; refine (width14 _ hs).mono ?_; clear hs; rintro e w ⟨rfl, hs⟩)
    | (go_at_call 16; refine (class16 _ hs).mono ?_; clear hs; rintro e w ⟨rfl, hs⟩)
    | (go_at_call 18; refine (charset18 _ _ hs).mono ?_; clear hs; rintro e w ⟨rfl, hs⟩)
    | (go_at_call 20; refine (name20 _ HR.out hs).mono ?_; clear hs; rintro e w ⟨rfl, hs⟩)
    | (go_at_call 22; refine (lower22 _ hs).mono ?_; clear hs; rintro e w ⟨rfl, hs⟩)
    | (go_at_call 24; refine (upper24 _ hs).mono ?_; clear hs; rintro e w ⟨rfl, hs⟩)
    | (refine wrap hs ?_; clear hs; intro w hs)
    | (refine wrapn hs ?_; clear hs; intro w hs)
    | (refine wrapd hs ?_; clear hs; intro w hs))
      go_ret
      exact ⟨rfl, hs⟩
    · obtain ⟨h7, h8⟩ := else_turn r hu
      have hu' : (upper r == r) = false := by rw [beq_eq_false_iff_ne]; exact hu
      clear hc hu
      go_enter Try.func10, Try.ntmps10
      go_wp2_with (first
    | (go_at_call 11; refine (may11 _ _).mono ?_; rintro e w' ⟨rfl, rfl⟩)
    | (go_at_call 13; refine (known13 hs).mono ?_; clear hs; rintro e w ⟨rfl, hs⟩)
    | (go_at_call 14; refine (width14 _ hs).mono ?_; clear hs; rintro e w ⟨rfl, hs⟩)
    | (go_at_call 16; refine (class16 _ hs).mono ?_; clear hs; rintro e w ⟨rfl, hs⟩)
    | (go_at_call 18; refine (charset18 _ _ hs).mono ?_; clear hs; rintro e w ⟨rfl, hs⟩)
    | (go_at_call 20; refine (name20 _ HR.out hs).mono ?_; clear hs; rintro e w ⟨rfl, hs⟩)
    | (go_at_call 22; refine (lower22 _ hs).mono ?_; clear hs; rintro e w ⟨rfl, hs⟩)
    | (go_at_call 24; refine (upper24 _ hs).mono ?_; clear hs; rintro e w ⟨rfl, hs⟩)
    | (refine wrap hs ?_; clear hs; intro w hs)
    | (refine wrapn hs ?_; clear hs; intro w hs)
    | (refine wrapd hs ?_; clear hs; intro w hs))
      go_ret
      exact ⟨rfl, hs⟩
theorem turns_top (r : Int) : Calls Try.prog 10 #[.int .i32 r] w fun e w' => e = .returned (.bool true) ∧ Below w.heap.size w w' :=
  (turns_law r (sat.start w)).mono fun _ _ ⟨he, hs⟩ => ⟨he, hs.below⟩
end Go.Proofs.Ytjchjdlapacknaa
