import Derived.Test.YtjchjdlapacknaaA5
namespace Go.Proofs.Ytjchjdlapacknaa
open Go.RowKit Go.Mem
variable {W w : World} {H : List HProp}
attribute [local irreducible] World.setCell World.setCells World.alloc World.drew World.drewN Calls sat cel own blk old mp wpQuiet

def cls (r : Int) : Int := if width r = 0 then 0 else if inL blankL r = true then 1 else if 48 ≤ r ∧ r ≤ 57 then 2 else if inL smallL r = true then 3 else if inL capitalL r = true then 4 else if r < 128 then 5 else 6

theorem class17 (r : Int) (w : World) : Calls Try.prog 17 #[.int .i32 r] w fun e w' => e = .returned (.int .u8 (cls r)) ∧ w' = w := by
  by_cases w0 : width r = 0
  · have HF := Lib.hid (show cls r = 0 by unfold cls; rw [if_pos w0])
    have ew : (width r == 0) = true := by simpa using w0
    clear w0
    go_enter Try.func17, Try.ntmps17
    go_wp2_with (first
    | (go_at_call 15; refine (width15 _ _).mono ?_; rintro e w' ⟨rfl, rfl⟩)
    | (go_at_call 33; refine (blank33 _ _).mono ?_; rintro e w' ⟨rfl, rfl⟩)
    | (go_at_call 34; first | (refine (in34_true _ _ _ _ (by omega)).mono ?_; rintro e w' ⟨rfl, rfl⟩) | (refine (in34_false _ _ _ _ (by omega)).mono ?_; rintro e w' ⟨rfl, rfl⟩))
    | (go_at_call 35; refine (small35 _ _).mono ?_; rintro e w' ⟨rfl, rfl⟩)
    | (go_at_call 36; refine (capital36 _ _).mono ?_; rintro e w' ⟨rfl, rfl⟩)
    | (refine wrap hs ?_; clear hs; intro w hs)
    | (refine wrapn hs ?_; clear hs; intro w hs)
    | (refine wrapd hs ?_; clear hs; intro w hs))
    go_ret
    exact ⟨ret_int HF.out, rfl⟩
  · have ew : (width r == 0) = false := by simpa using w0
    cases hb : inL blankL r
    · by_cases hd : 48 ≤ r ∧ r ≤ 57
      · have HF := Lib.hid (show cls r = 2 by unfold cls; rw [if_neg w0, hb, if_neg Bool.false_ne_true, if_pos hd])
        clear w0
        go_enter Try.func17, Try.ntmps17
        go_wp2_with (first
    | (go_at_call 15; refine (width15 _ _).mono ?_; rintro e w' ⟨rfl, rfl⟩)
    | (go_at_call 33; refine (blank33 _ _).mono ?_; rintro e w' ⟨rfl, rfl⟩)
    | (go_at_call 34; first | (refine (in34_true _ _ _ _ (by omega)).mono ?_; rintro e w' ⟨rfl, rfl⟩) | (refine (in34_false _ _ _ _ (by omega)).mono ?_; rintro e w' ⟨rfl, rfl⟩))
    | (go_at_call 35; refine (small35 _ _).mono ?_; rintro e w' ⟨rfl, rfl⟩)
    | (go_at_call 36; refine (capital36 _ _).mono ?_; rintro e w' ⟨rfl, rfl⟩)
    | (refine wrap hs ?_; clear hs; intro w hs)
    | (refine wrapn hs ?_; clear hs; intro w hs)
    | (refine wrapd hs ?_; clear hs; intro w hs))
        go_ret
        exact ⟨ret_int HF.out, rfl⟩
      · cases hs : inL smallL r
        · cases hc : inL capitalL r
          · by_cases h128 : r < 128
            · have HF := Lib.hid (show cls r = 5 by unfold cls; rw [if_neg w0, hb, if_neg Bool.false_ne_true, if_neg hd, hs, if_neg Bool.false_ne_true, hc, if_neg Bool.false_ne_true, if_pos h128])
              clear w0
              go_enter Try.func17, Try.ntmps17
              go_wp2_with (first
    | (go_at_call 15; refine (width15 _ _).mono ?_; rintro e w' ⟨rfl, rfl⟩)
    | (go_at_call 33; refine (blank33 _ _).mono ?_; rintro e w' ⟨rfl, rfl⟩)
    | (go_at_call 34; first | (refine (in34_true _ _ _ _ (by omega)).mono ?_; rintro e w' ⟨rfl, rfl⟩) | (refine (in34_false _ _ _ _ (by omega)).mono ?_; rintro e w' ⟨rfl, rfl⟩))
    | (go_at_call 35; refine (small35 _ _).mono ?_; rintro e w' ⟨rfl, rfl⟩)
    | (go_at_call 36; refine (capital36 _ _).mono ?_; rintro e w' ⟨rfl, rfl⟩)
    | (refine wrap hs ?_; clear hs; intro w hs)
    | (refine wrapn hs ?_; clear hs; intro w hs)
    | (refine wrapd hs ?_; clear hs; intro w hs))
              go_ret
              exact ⟨ret_int HF.out, rfl⟩
            · have HF := Lib.hid (show cls r = 6 by unfold cls; rw [if_neg w0, hb, if_neg Bool.false_ne_true, if_neg hd, hs, if_neg Bool.false_ne_true, hc, if_neg Bool.false_ne_true, if_neg h128])
              clear w0
              go_enter Try.func17, Try.ntmps17
              go_wp2_with (first
    | (go_at_call 15; refine (width15 _ _).mono ?_; rintro e w' ⟨rfl, rfl⟩)
    | (go_at_call 33; refine (blank33 _ _).mono ?_; rintro e w' ⟨rfl, rfl⟩)
    | (go_at_call 34; first | (refine (in34_true _ _ _ _ (by omega)).mono ?_; rintro e w' ⟨rfl, rfl⟩) | (refine (in34_false _ _ _ _ (by omega)).mono ?_; rintro e w' ⟨rfl, rfl⟩))
    | (go_at_call 35; refine (small35 _ _).mono ?_; rintro e w' ⟨rfl, rfl⟩)
    | (go_at_call 36; refine (capital36 _ _).mono ?_; rintro e w' ⟨rfl, rfl⟩)
    | (refine wrap hs ?_; clear hs; intro w hs)
    | (refine wrapn hs ?_; clear hs; intro w hs)
    | (refine wrapd hs ?_; clear hs; intro w hs))
              go_ret
              exact ⟨ret_int HF.out, rfl⟩
          · have HF := Lib.hid (show cls r = 4 by unfold cls; rw [if_neg w0, hb, if_neg Bool.false_ne_true, if_neg hd, hs, if_neg Bool.false_ne_true, hc, if_pos rfl])
            clear w0
            go_enter Try.func17, Try.ntmps17
            go_wp2_with (first
    | (go_at_call 15; refine (width15 _ _).mono ?_; rintro e w' ⟨rfl, rfl⟩)
    | (go_at_call 33; refine (blank33 _ _).mono ?_; rintro e w' ⟨rfl, rfl⟩)
    | (go_at_call 34; first | (refine (in34_true _ _ _ _ (by omega)).mono ?_; rintro e w' ⟨rfl, rfl⟩) | (refine (in34_false _ _ _ _ (by omega)).mono ?_; rintro e w' ⟨rfl, rfl⟩))
    | (go_at_call 35; refine (small35 _ _).mono ?_; rintro e w' ⟨rfl, rfl⟩)
    | (go_at_call 36; refine (capital36 _ _).mono ?_; rintro e w' ⟨rfl, rfl⟩)
    | (refine wrap hs ?_; clear hs; intro w hs)
    | (refine wrapn hs ?_; clear hs; intro w hs)
    | (refine wrapd hs ?_; clear hs; intro w hs))
            go_ret
            exact ⟨ret_int HF.out, rfl⟩
        · have HF := Lib.hid (show cls r = 3 by unfold cls; rw [if_neg w0, hb, if_neg Bool.false_ne_true, if_neg hd, hs, if_pos rfl])
          clear w0
          go_enter Try.func17, Try.ntmps17
          go_wp2_with (first
    | (go_at_call 15; refine (width15 _ _).mono ?_; rintro e w' ⟨rfl, rfl⟩)
    | (go_at_call 33; refine (blank33 _ _).mono ?_; rintro e w' ⟨rfl, rfl⟩)
    | (go_at_call 34; first | (refine (in34_true _ _ _ _ (by omega)).mono ?_; rintro e w' ⟨rfl, rfl⟩) | (refine (in34_false _ _ _ _ (by omega)).mono ?_; rintro e w' ⟨rfl, rfl⟩))
    | (go_at_call 35; refine (small35 _ _).mono ?_; rintro e w' ⟨rfl, rfl⟩)
    | (go_at_call 36; refine (capital36 _ _).mono ?_; rintro e w' ⟨rfl, rfl⟩)
    | (refine wrap hs ?_; clear hs; intro w hs)
    | (refine wrapn hs ?_; clear hs; intro w hs)
    | (refine wrapd hs ?_; clear hs; intro w hs))
          go_ret
          exact ⟨ret_int HF.out, rfl⟩
    · have HF := Lib.hid (show cls r = 1 by unfold cls; rw [if_neg w0, hb, if_pos rfl])
      clear w0
      go_enter Try.func17, Try.ntmps17
      go_wp2_with (first
    | (go_at_call 15; refine (width15 _ _).mono ?_; rintro e w' ⟨rfl, rfl⟩)
    | (go_at_call 33; refine (blank33 _ _).mono ?_; rintro e w' ⟨rfl, rfl⟩)
    | (go_at_call 34; first | (refine (in34_true _ _ _ _ (by omega)).mono ?_; rintro e w' ⟨rfl, rfl⟩) | (refine (in34_false _ _ _ _ (by omega)).mono ?_; rintro e w' ⟨rfl, rfl⟩))
    | (go_at_call 35; refine (small35 _ _).mono ?_; rintro e w' ⟨rfl, rfl⟩)
    | (go_at_call 36; refine (capital36 _ _).mono ?_; rintro e w' ⟨rfl, rfl⟩)
    | (refine wrap hs ?_; clear hs; intro w hs)
    | (refine wrapn hs ?_; clear hs; intro w hs)
    | (refine wrapd hs ?_; clear hs; intro w hs))
      go_ret
      exact ⟨ret_int HF.out, rfl⟩

set_option maxHeartbeats 2000000 in
theorem class16 (r : Int) (hs : sat W H w) : Calls Try.prog 16 #[.int .i32 r] w fun e w' => e = .returned (.int .u8 (cls r)) ∧ sat W H w' := by
  by_cases w0 : width r = 0
  · have HF := Lib.hid (show cls r = 0 by unfold cls; rw [if_pos w0])
    have ew : (width r == 0) = true := by simpa using w0
    clear w0
    go_enter Try.func16, Try.ntmps16
    go_wp2_with (first
    | (go_at_call 14; refine (width14 _ hs).mono ?_; clear hs; rintro e w ⟨rfl, hs⟩)
    | (go_at_call 32; first | (refine (in32_true _ _ _ _ (by omega)).mono ?_; rintro e w' ⟨rfl, rfl⟩) | (refine (in32_false _ _ _ _ (by omega)).mono ?_; rintro e w' ⟨rfl, rfl⟩))
    | (refine wrap hs ?_; clear hs; intro w hs)
    | (refine wrapn hs ?_; clear hs; intro w hs)
    | (refine wrapd hs ?_; clear hs; intro w hs))
    go_ret
    exact ⟨ret_int HF.out, hs⟩
  · have ew : (width r == 0) = false := by simpa using w0
    by_cases c0 : 32 ≤ r ∧ r ≤ 32
    · skip
      have hblank : inL blankL r = true := by rw [inL_iff]; simp [blankL]; omega
      have HF := Lib.hid (show cls r = 1 by unfold cls; rw [if_neg w0, if_pos hblank])
      clear hblank w0
      obtain rfl : r = 32 := by omega
      go_enter Try.func16, Try.ntmps16
      go_wp2_with (first
    | (go_at_call 14; refine (width14 _ hs).mono ?_; clear hs; rintro e w ⟨rfl, hs⟩)
    | (go_at_call 32; first | (refine (in32_true _ _ _ _ (by omega)).mono ?_; rintro e w' ⟨rfl, rfl⟩) | (refine (in32_false _ _ _ _ (by omega)).mono ?_; rintro e w' ⟨rfl, rfl⟩))
    | (refine wrap hs ?_; clear hs; intro w hs)
    | (refine wrapn hs ?_; clear hs; intro w hs)
    | (refine wrapd hs ?_; clear hs; intro w hs))
      go_ret
      exact ⟨ret_int HF.out, hs⟩
    · skip
      by_cases c1 : 160 ≤ r ∧ r ≤ 160
      · skip
        clear c0
        have hblank : inL blankL r = true := by rw [inL_iff]; simp [blankL]; omega
        have HF := Lib.hid (show cls r = 1 by unfold cls; rw [if_neg w0, if_pos hblank])
        clear hblank w0
        obtain rfl : r = 160 := by omega
        go_enter Try.func16, Try.ntmps16
        go_wp2_with (first
    | (go_at_call 14; refine (width14 _ hs).mono ?_; clear hs; rintro e w ⟨rfl, hs⟩)
    | (go_at_call 32; first | (refine (in32_true _ _ _ _ (by omega)).mono ?_; rintro e w' ⟨rfl, rfl⟩) | (refine (in32_false _ _ _ _ (by omega)).mono ?_; rintro e w' ⟨rfl, rfl⟩))
    | (refine wrap hs ?_; clear hs; intro w hs)
    | (refine wrapn hs ?_; clear hs; intro w hs)
    | (refine wrapd hs ?_; clear hs; intro w hs))
        go_ret
        exact ⟨ret_int HF.out, hs⟩
      · skip
        by_cases c2 : 8192 ≤ r ∧ r ≤ 8202
        · skip
          clear c0 c1
          have hblank : inL blankL r = true := by rw [inL_iff]; simp [blankL]; omega
          have HF := Lib.hid (show cls r = 1 by unfold cls; rw [if_neg w0, if_pos hblank])
          clear hblank w0
          have n32 : ¬ r = 32 := by omega
          have n160 : ¬ r = 160 := by omega
          have n8239 : ¬ r = 8239 := by omega
          have n8287 : ¬ r = 8287 := by omega
          have n12288 : ¬ r = 12288 := by omega
          have n247 : ¬ r = 247 := by omega
          have n215 : ¬ r = 215 := by omega
          have e128 : decide (r < 128) = false := decide_eq_false (by omega)
          go_enter Try.func16, Try.ntmps16
          go_wp2_with (first
    | (go_at_call 14; refine (width14 _ hs).mono ?_; clear hs; rintro e w ⟨rfl, hs⟩)
    | (go_at_call 32; first | (refine (in32_true _ _ _ _ (by omega)).mono ?_; rintro e w' ⟨rfl, rfl⟩) | (refine (in32_false _ _ _ _ (by omega)).mono ?_; rintro e w' ⟨rfl, rfl⟩))
    | (refine wrap hs ?_; clear hs; intro w hs)
    | (refine wrapn hs ?_; clear hs; intro w hs)
    | (refine wrapd hs ?_; clear hs; intro w hs))
          go_ret
          exact ⟨ret_int HF.out, hs⟩
        · skip
          by_cases c3 : 8239 ≤ r ∧ r ≤ 8239
          · skip
            clear c0 c1 c2
            have hblank : inL blankL r = true := by rw [inL_iff]; simp [blankL]; omega
            have HF := Lib.hid (show cls r = 1 by unfold cls; rw [if_neg w0, if_pos hblank])
            clear hblank w0
            obtain rfl : r = 8239 := by omega
            go_enter Try.func16, Try.ntmps16
            go_wp2_with (first
    | (go_at_call 14; refine (width14 _ hs).mono ?_; clear hs; rintro e w ⟨rfl, hs⟩)
    | (go_at_call 32; first | (refine (in32_true _ _ _ _ (by omega)).mono ?_; rintro e w' ⟨rfl, rfl⟩) | (refine (in32_false _ _ _ _ (by omega)).mono ?_; rintro e w' ⟨rfl, rfl⟩))
    | (refine wrap hs ?_; clear hs; intro w hs)
    | (refine wrapn hs ?_; clear hs; intro w hs)
    | (refine wrapd hs ?_; clear hs; intro w hs))
            go_ret
            exact ⟨ret_int HF.out, hs⟩
          · skip
            by_cases c4 : 8287 ≤ r ∧ r ≤ 8287
            · skip
              clear c0 c1 c2 c3
              have hblank : inL blankL r = true := by rw [inL_iff]; simp [blankL]; omega
              have HF := Lib.hid (show cls r = 1 by unfold cls; rw [if_neg w0, if_pos hblank])
              clear hblank w0
              obtain rfl : r = 8287 := by omega
              go_enter Try.func16, Try.ntmps16
              go_wp2_with (first
    | (go_at_call 14; refine (width14 _ hs).mono ?_; clear hs; rintro e w ⟨rfl, hs⟩)
    | (go_at_call 32; first | (refine (in32_true _ _ _ _ (by omega)).mono ?_; rintro e w' ⟨rfl, rfl⟩) | (refine (in32_false _ _ _ _ (by omega)).mono ?_; rintro e w' ⟨rfl, rfl⟩))
    | (refine wrap hs ?_; clear hs; intro w hs)
    | (refine wrapn hs ?_; clear hs; intro w hs)
    | (refine wrapd hs ?_; clear hs; intro w hs))
              go_ret
              exact ⟨ret_int HF.out, hs⟩
            · skip
              by_cases c5 : 12288 ≤ r ∧ r ≤ 12288
              · skip
                clear c0 c1 c2 c3 c4
                have hblank : inL blankL r = true := by rw [inL_iff]; simp [blankL]; omega
                have HF := Lib.hid (show cls r = 1 by unfold cls; rw [if_neg w0, if_pos hblank])
                clear hblank w0
                obtain rfl : r = 12288 := by omega
                go_enter Try.func16, Try.ntmps16
                go_wp2_with (first
    | (go_at_call 14; refine (width14 _ hs).mono ?_; clear hs; rintro e w ⟨rfl, hs⟩)
    | (go_at_call 32; first | (refine (in32_true _ _ _ _ (by omega)).mono ?_; rintro e w' ⟨rfl, rfl⟩) | (refine (in32_false _ _ _ _ (by omega)).mono ?_; rintro e w' ⟨rfl, rfl⟩))
    | (refine wrap hs ?_; clear hs; intro w hs)
    | (refine wrapn hs ?_; clear hs; intro w hs)
    | (refine wrapd hs ?_; clear hs; intro w hs))
                go_ret
                exact ⟨ret_int HF.out, hs⟩
              · skip
                by_cases c6 : 48 ≤ r ∧ r ≤ 57
                · skip
                  have hblank : inL blankL r = false := by rw [Bool.eq_false_iff]; intro h; rw [inL_iff] at h; simp [blankL] at h; omega
                  have HF := Lib.hid (show cls r = 2 by unfold cls; rw [if_neg w0, hblank, if_neg Bool.false_ne_true, if_pos (by omega)])
                  clear hblank w0
                  clear c0 c1 c2 c3 c4 c5
                  have n32 : ¬ r = 32 := by omega
                  have n160 : ¬ r = 160 := by omega
                  have n8239 : ¬ r = 8239 := by omega
                  have n8287 : ¬ r = 8287 := by omega
                  have n12288 : ¬ r = 12288 := by omega
                  have n247 : ¬ r = 247 := by omega
                  have n215 : ¬ r = 215 := by omega
                  have e128 : decide (r < 128) = true := decide_eq_true (by omega)
                  go_enter Try.func16, Try.ntmps16
                  go_wp2_with (first
    | (go_at_call 14; refine (width14 _ hs).mono ?_; clear hs; rintro e w ⟨rfl, hs⟩)
    | (go_at_call 32; first | (refine (in32_true _ _ _ _ (by omega)).mono ?_; rintro e w' ⟨rfl, rfl⟩) | (refine (in32_false _ _ _ _ (by omega)).mono ?_; rintro e w' ⟨rfl, rfl⟩))
    | (refine wrap hs ?_; clear hs; intro w hs)
    | (refine wrapn hs ?_; clear hs; intro w hs)
    | (refine wrapd hs ?_; clear hs; intro w hs))
                  go_ret
                  exact ⟨ret_int HF.out, hs⟩
                · skip
                  by_cases c7 : 97 ≤ r ∧ r ≤ 122
                  · skip
                    have hblank : inL blankL r = false := by rw [Bool.eq_false_iff]; intro h; rw [inL_iff] at h; simp [blankL] at h; omega
                    have hsmall : inL smallL r = true := by rw [inL_iff]; simp [smallL]; omega
                    have HF := Lib.hid (show cls r = 3 by unfold cls; rw [if_neg w0, hblank, if_neg Bool.false_ne_true, if_neg (by omega), if_pos hsmall])
                    clear hblank hsmall w0
                    clear c0 c1 c2 c3 c4 c5 c6
                    have n32 : ¬ r = 32 := by omega
                    have n160 : ¬ r = 160 := by omega
                    have n8239 : ¬ r = 8239 := by omega
                    have n8287 : ¬ r = 8287 := by omega
                    have n12288 : ¬ r = 12288 := by omega
                    have n247 : ¬ r = 247 := by omega
                    have n215 : ¬ r = 215 := by omega
                    have e128 : decide (r < 128) = true := decide_eq_true (by omega)
                    go_enter Try.func16, Try.ntmps16
                    go_wp2_with (first
    | (go_at_call 14; refine (width14 _ hs).mono ?_; clear hs; rintro e w ⟨rfl, hs⟩)
    | (go_at_call 32; first | (refine (in32_true _ _ _ _ (by omega)).mono ?_; rintro e w' ⟨rfl, rfl⟩) | (refine (in32_false _ _ _ _ (by omega)).mono ?_; rintro e w' ⟨rfl, rfl⟩))
    | (refine wrap hs ?_; clear hs; intro w hs)
    | (refine wrapn hs ?_; clear hs; intro w hs)
    | (refine wrapd hs ?_; clear hs; intro w hs))
                    go_ret
                    exact ⟨ret_int HF.out, hs⟩
                  · skip
                    by_cases c8 : 223 ≤ r ∧ r ≤ 246
                    · skip
                      have hblank : inL blankL r = false := by rw [Bool.eq_false_iff]; intro h; rw [inL_iff] at h; simp [blankL] at h; omega
                      have hsmall : inL smallL r = true := by rw [inL_iff]; simp [smallL]; omega
                      have HF := Lib.hid (show cls r = 3 by unfold cls; rw [if_neg w0, hblank, if_neg Bool.false_ne_true, if_neg (by omega), if_pos hsmall])
                      clear hblank hsmall w0
                      clear c0 c1 c2 c3 c4 c5 c6 c7
                      have n32 : ¬ r = 32 := by omega
                      have n160 : ¬ r = 160 := by omega
                      have n8239 : ¬ r = 8239 := by omega
                      have n8287 : ¬ r = 8287 := by omega
                      have n12288 : ¬ r = 12288 := by omega
                      have n247 : ¬ r = 247 := by omega
                      have n215 : ¬ r = 215 := by omega
                      have e128 : decide (r < 128) = false := decide_eq_false (by omega)
                      go_enter Try.func16, Try.ntmps16
                      go_wp2_with (first
    | (go_at_call 14; refine (width14 _ hs).mono ?_; clear hs; rintro e w ⟨rfl, hs⟩)
    | (go_at_call 32; first | (refine (in32_true _ _ _ _ (by omega)).mono ?_; rintro e w' ⟨rfl, rfl⟩) | (refine (in32_false _ _ _ _ (by omega)).mono ?_; rintro e w' ⟨rfl, rfl⟩))
    | (refine wrap hs ?_; clear hs; intro w hs)
    | (refine wrapn hs ?_; clear hs; intro w hs)
    | (refine wrapd hs ?_; clear hs; intro w hs))
                      go_ret
                      exact ⟨ret_int HF.out, hs⟩
                    · skip
                      by_cases c9 : 248 ≤ r ∧ r ≤ 255
                      · skip
                        have hblank : inL blankL r = false := by rw [Bool.eq_false_iff]; intro h; rw [inL_iff] at h; simp [blankL] at h; omega
                        have hsmall : inL smallL r = true := by rw [inL_iff]; simp [smallL]; omega
                        have HF := Lib.hid (show cls r = 3 by unfold cls; rw [if_neg w0, hblank, if_neg Bool.false_ne_true, if_neg (by omega), if_pos hsmall])
                        clear hblank hsmall w0
                        clear c0 c1 c2 c3 c4 c5 c6 c7 c8
                        have n32 : ¬ r = 32 := by omega
                        have n160 : ¬ r = 160 := by omega
                        have n8239 : ¬ r = 8239 := by omega
                        have n8287 : ¬ r = 8287 := by omega
                        have n12288 : ¬ r = 12288 := by omega
                        have n247 : ¬ r = 247 := by omega
                        have n215 : ¬ r = 215 := by omega
                        have e128 : decide (r < 128) = false := decide_eq_false (by omega)
                        go_enter Try.func16, Try.ntmps16
                        go_wp2_with (first
    | (go_at_call 14; refine (width14 _ hs).mono ?_; clear hs; rintro e w ⟨rfl, hs⟩)
    | (go_at_call 32; first | (refine (in32_true _ _ _ _ (by omega)).mono ?_; rintro e w' ⟨rfl, rfl⟩) | (refine (in32_false _ _ _ _ (by omega)).mono ?_; rintro e w' ⟨rfl, rfl⟩))
    | (refine wrap hs ?_; clear hs; intro w hs)
    | (refine wrapn hs ?_; clear hs; intro w hs)
    | (refine wrapd hs ?_; clear hs; intro w hs))
                        go_ret
                        exact ⟨ret_int HF.out, hs⟩
                      · skip
                        by_cases c10 : 247 ≤ r ∧ r ≤ 247
                        · skip
                          have hblank : inL blankL r = false := by rw [Bool.eq_false_iff]; intro h; rw [inL_iff] at h; simp [blankL] at h; omega
                          have hsmall : inL smallL r = false := by rw [Bool.eq_false_iff]; intro h; rw [inL_iff] at h; simp [smallL] at h; omega
                          have hcapital : inL capitalL r = false := by rw [Bool.eq_false_iff]; intro h; rw [inL_iff] at h; simp [capitalL] at h; omega
                          have HF := Lib.hid (show cls r = 6 by unfold cls; rw [if_neg w0, hblank, if_neg Bool.false_ne_true, if_neg (by omega), hsmall, if_neg Bool.false_ne_true, hcapital, if_neg Bool.false_ne_true, if_neg (by omega)])
                          clear hblank hsmall hcapital w0
                          clear c0 c1 c2 c3 c4 c5 c6 c7 c8 c9
                          obtain rfl : r = 247 := by omega
                          go_enter Try.func16, Try.ntmps16
                          go_wp2_with (first
    | (go_at_call 14; refine (width14 _ hs).mono ?_; clear hs; rintro e w ⟨rfl, hs⟩)
    | (go_at_call 32; first | (refine (in32_true _ _ _ _ (by omega)).mono ?_; rintro e w' ⟨rfl, rfl⟩) | (refine (in32_false _ _ _ _ (by omega)).mono ?_; rintro e w' ⟨rfl, rfl⟩))
    | (refine wrap hs ?_; clear hs; intro w hs)
    | (refine wrapn hs ?_; clear hs; intro w hs)
    | (refine wrapd hs ?_; clear hs; intro w hs))
                          go_ret
                          exact ⟨ret_int HF.out, hs⟩
                        · skip
                          by_cases c11 : 65 ≤ r ∧ r ≤ 90
                          · skip
                            have hblank : inL blankL r = false := by rw [Bool.eq_false_iff]; intro h; rw [inL_iff] at h; simp [blankL] at h; omega
                            have hsmall : inL smallL r = false := by rw [Bool.eq_false_iff]; intro h; rw [inL_iff] at h; simp [smallL] at h; omega
                            have hcapital : inL capitalL r = true := by rw [inL_iff]; simp [capitalL]; omega
                            have HF := Lib.hid (show cls r = 4 by unfold cls; rw [if_neg w0, hblank, if_neg Bool.false_ne_true, if_neg (by omega), hsmall, if_neg Bool.false_ne_true, if_pos hcapital])
                            clear hblank hsmall hcapital w0
                            clear c0 c1 c2 c3 c4 c5 c6 c7 c8 c9 c10
                            have n32 : ¬ r = 32 := by omega
                            have n160 : ¬ r = 160 := by omega
                            have n8239 : ¬ r = 8239 := by omega
                            have n8287 : ¬ r = 8287 := by omega
                            have n12288 : ¬ r = 12288 := by omega
                            have n247 : ¬ r = 247 := by omega
                            have n215 : ¬ r = 215 := by omega
                            have e128 : decide (r < 128) = true := decide_eq_true (by omega)
                            go_enter Try.func16, Try.ntmps16
                            go_wp2_with (first
    | (go_at_call 14; refine (width14 _ hs).mono ?_; clear hs; rintro e w ⟨rfl, hs⟩)
    | (go_at_call 32; first | (refine (in32_true _ _ _ _ (by omega)).mono ?_; rintro e w' ⟨rfl, rfl⟩) | (refine (in32_false _ _ _ _ (by omega)).mono ?_; rintro e w' ⟨rfl, rfl⟩))
    | (refine wrap hs ?_; clear hs; intro w hs)
    | (refine wrapn hs ?_; clear hs; intro w hs)
    | (refine wrapd hs ?_; clear hs; intro w hs))
                            go_ret
                            exact ⟨ret_int HF.out, hs⟩
                          · skip
                            by_cases c12 : 192 ≤ r ∧ r ≤ 214
                            · skip
                              have hblank : inL blankL r = false := by rw [Bool.eq_false_iff]; intro h; rw [inL_iff] at h; simp [blankL] at h; omega
                              have hsmall : inL smallL r = false := by rw [Bool.eq_false_iff]; intro h; rw [inL_iff] at h; simp [smallL] at h; omega
                              have hcapital : inL capitalL r = true := by rw [inL_iff]; simp [capitalL]; omega
                              have HF := Lib.hid (show cls r = 4 by unfold cls; rw [if_neg w0, hblank, if_neg Bool.false_ne_true, if_neg (by omega), hsmall, if_neg Bool.false_ne_true, if_pos hcapital])
                              clear hblank hsmall hcapital w0
                              clear c0 c1 c2 c3 c4 c5 c6 c7 c8 c9 c10 c11
                              have n32 : ¬ r = 32 := by omega
                              have n160 : ¬ r = 160 := by omega
                              have n8239 : ¬ r = 8239 := by omega
                              have n8287 : ¬ r = 8287 := by omega
                              have n12288 : ¬ r = 12288 := by omega
                              have n247 : ¬ r = 247 := by omega
                              have n215 : ¬ r = 215 := by omega
                              have e128 : decide (r < 128) = false := decide_eq_false (by omega)
                              go_enter Try.func16, Try.ntmps16
                              go_wp2_with (first
    | (go_at_call 14; refine (width14 _ hs).mono ?_; clear hs; rintro e w ⟨rfl, hs⟩)
    | (go_at_call 32; first | (refine (in32_true _ _ _ _ (by omega)).mono ?_; rintro e w' ⟨rfl, rfl⟩) | (refine (in32_false _ _ _ _ (by omega)).mono ?_; rintro e w' ⟨rfl, rfl⟩))
    | (refine wrap hs ?_; clear hs; intro w hs)
    | (refine wrapn hs ?_; clear hs; intro w hs)
    | (refine wrapd hs ?_; clear hs; intro w hs))
                              go_ret
                              exact ⟨ret_int HF.out, hs⟩
                            · skip
                              by_cases c13 : 216 ≤ r ∧ r ≤ 222
                              · skip
                                have hblank : inL blankL r = false := by rw [Bool.eq_false_iff]; intro h; rw [inL_iff] at h; simp [blankL] at h; omega
                                have hsmall : inL smallL r = false := by rw [Bool.eq_false_iff]; intro h; rw [inL_iff] at h; simp [smallL] at h; omega
                                have hcapital : inL capitalL r = true := by rw [inL_iff]; simp [capitalL]; omega
                                have HF := Lib.hid (show cls r = 4 by unfold cls; rw [if_neg w0, hblank, if_neg Bool.false_ne_true, if_neg (by omega), hsmall, if_neg Bool.false_ne_true, if_pos hcapital])
                                clear hblank hsmall hcapital w0
                                clear c0 c1 c2 c3 c4 c5 c6 c7 c8 c9 c10 c11 c12
                                have n32 : ¬ r = 32 := by omega
                                have n160 : ¬ r = 160 := by omega
                                have n8239 : ¬ r = 8239 := by omega
                                have n8287 : ¬ r = 8287 := by omega
                                have n12288 : ¬ r = 12288 := by omega
                                have n247 : ¬ r = 247 := by omega
                                have n215 : ¬ r = 215 := by omega
                                have e128 : decide (r < 128) = false := decide_eq_false (by omega)
                                go_enter Try.func16, Try.ntmps16
                                go_wp2_with (first
    | (go_at_call 14; refine (width14 _ hs).mono ?_; clear hs; rintro e w ⟨rfl, hs⟩)
    | (go_at_call 32; first | (refine (in32_true _ _ _ _ (by omega)).mono ?_; rintro e w' ⟨rfl, rfl⟩) | (refine (in32_false _ _ _ _ (by omega)).mono ?_; rintro e w' ⟨rfl, rfl⟩))
    | (refine wrap hs ?_; clear hs; intro w hs)
    | (refine wrapn hs ?_; clear hs; intro w hs)
    | (refine wrapd hs ?_; clear hs; intro w hs))
                                go_ret
                                exact ⟨ret_int HF.out, hs⟩
                              · skip
                                by_cases c14 : 215 ≤ r ∧ r ≤ 215
                                · skip
                                  have hblank : inL blankL r = false := by rw [Bool.eq_false_iff]; intro h; rw [inL_iff] at h; simp [blankL] at h; omega
                                  have hsmall : inL smallL r = false := by rw [Bool.eq_false_iff]; intro h; rw [inL_iff] at h; simp [smallL] at h; omega
                                  have hcapital : inL capitalL r = false := by rw [Bool.eq_false_iff]; intro h; rw [inL_iff] at h; simp [capitalL] at h; omega
                                  have HF := Lib.hid (show cls r = 6 by unfold cls; rw [if_neg w0, hblank, if_neg Bool.false_ne_true, if_neg (by omega), hsmall, if_neg Bool.false_ne_true, hcapital, if_neg Bool.false_ne_true, if_neg (by omega)])
                                  clear hblank hsmall hcapital w0
                                  clear c0 c1 c2 c3 c4 c5 c6 c7 c8 c9 c10 c11 c12 c13
                                  obtain rfl : r = 215 := by omega
                                  go_enter Try.func16, Try.ntmps16
                                  go_wp2_with (first
    | (go_at_call 14; refine (width14 _ hs).mono ?_; clear hs; rintro e w ⟨rfl, hs⟩)
    | (go_at_call 32; first | (refine (in32_true _ _ _ _ (by omega)).mono ?_; rintro e w' ⟨rfl, rfl⟩) | (refine (in32_false _ _ _ _ (by omega)).mono ?_; rintro e w' ⟨rfl, rfl⟩))
    | (refine wrap hs ?_; clear hs; intro w hs)
    | (refine wrapn hs ?_; clear hs; intro w hs)
    | (refine wrapd hs ?_; clear hs; intro w hs))
                                  go_ret
                                  exact ⟨ret_int HF.out, hs⟩
                                · skip
                                  by_cases c128 : r < 128
                                  · skip
                                    have hblank : inL blankL r = false := by rw [Bool.eq_false_iff]; intro h; rw [inL_iff] at h; simp [blankL] at h; omega
                                    have hsmall : inL smallL r = false := by rw [Bool.eq_false_iff]; intro h; rw [inL_iff] at h; simp [smallL] at h; omega
                                    have hcapital : inL capitalL r = false := by rw [Bool.eq_false_iff]; intro h; rw [inL_iff] at h; simp [capitalL] at h; omega
                                    have HF := Lib.hid (show cls r = 5 by unfold cls; rw [if_neg w0, hblank, if_neg Bool.false_ne_true, if_neg (by omega), hsmall, if_neg Bool.false_ne_true, hcapital, if_neg Bool.false_ne_true, if_pos (by omega)])
                                    clear hblank hsmall hcapital w0
                                    have n32 : ¬ r = 32 := by omega
                                    have n160 : ¬ r = 160 := by omega
                                    have n8239 : ¬ r = 8239 := by omega
                                    have n8287 : ¬ r = 8287 := by omega
                                    have n12288 : ¬ r = 12288 := by omega
                                    have n247 : ¬ r = 247 := by omega
                                    have n215 : ¬ r = 215 := by omega
                                    have e128 : decide (r < 128) = true := decide_eq_true c128
                                    go_enter Try.func16, Try.ntmps16
                                    go_wp2_with (first
    | (go_at_call 14; refine (width14 _ hs).mono ?_; clear hs; rintro e w ⟨rfl, hs⟩)
    | (go_at_call 32; first | (refine (in32_true _ _ _ _ (by omega)).mono ?_; rintro e w' ⟨rfl, rfl⟩) | (refine (in32_false _ _ _ _ (by omega)).mono ?_; rintro e w' ⟨rfl, rfl⟩))
    | (refine wrap hs ?_; clear hs; intro w hs)
    | (refine wrapn hs ?_; clear hs; intro w hs)
    | (refine wrapd hs ?_; clear hs; intro w hs))
                                    go_ret
                                    exact ⟨ret_int HF.out, hs⟩
                                  · skip
                                    have hblank : inL blankL r = false := by rw [Bool.eq_false_iff]; intro h; rw [inL_iff] at h; simp [blankL] at h; omega
                                    have hsmall : inL smallL r = false := by rw [Bool.eq_false_iff]; intro h; rw [inL_iff] at h; simp [smallL] at h; omega
                                    have hcapital : inL capitalL r = false := by rw [Bool.eq_false_iff]; intro h; rw [inL_iff] at h; simp [capitalL] at h; omega
                                    have HF := Lib.hid (show cls r = 6 by unfold cls; rw [if_neg w0, hblank, if_neg Bool.false_ne_true, if_neg (by omega), hsmall, if_neg Bool.false_ne_true, hcapital, if_neg Bool.false_ne_true, if_neg (by omega)])
                                    clear hblank hsmall hcapital w0
                                    have n32 : ¬ r = 32 := by omega
                                    have n160 : ¬ r = 160 := by omega
                                    have n8239 : ¬ r = 8239 := by omega
                                    have n8287 : ¬ r = 8287 := by omega
                                    have n12288 : ¬ r = 12288 := by omega
                                    have n247 : ¬ r = 247 := by omega
                                    have n215 : ¬ r = 215 := by omega
                                    have e128 : decide (r < 128) = false := decide_eq_false c128
                                    go_enter Try.func16, Try.ntmps16
                                    go_wp2_with (first
    | (go_at_call 14; refine (width14 _ hs).mono ?_; clear hs; rintro e w ⟨rfl, hs⟩)
    | (go_at_call 32; first | (refine (in32_true _ _ _ _ (by omega)).mono ?_; rintro e w' ⟨rfl, rfl⟩) | (refine (in32_false _ _ _ _ (by omega)).mono ?_; rintro e w' ⟨rfl, rfl⟩))
    | (refine wrap hs ?_; clear hs; intro w hs)
    | (refine wrapn hs ?_; clear hs; intro w hs)
    | (refine wrapd hs ?_; clear hs; intro w hs))
                                    go_ret
                                    exact ⟨ret_int HF.out, hs⟩
end Go.Proofs.Ytjchjdlapacknaa
