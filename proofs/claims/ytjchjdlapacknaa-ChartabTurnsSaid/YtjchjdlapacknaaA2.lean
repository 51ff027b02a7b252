import Derived.Test.YtjchjdlapacknaaA1
namespace Go.Proofs.Ytjchjdlapacknaa
open Go.RowKit Go.Mem
variable {W w : World} {H : List HProp}
attribute [local irreducible] World.setCell World.alloc World.drew World.drewN Calls sat cel own blk old mp wpQuiet

def inL (L : List (Int × Int)) (r : Int) : Bool := L.any fun s => decide (s.1 ≤ r) && decide (r ≤ s.2)
theorem inL_iff (L : List (Int × Int)) (r : Int) : inL L r = true ↔ ∃ s ∈ L, s.1 ≤ r ∧ r ≤ s.2 := by
  simp [inL]
def marksL : List (Int × Int) := [(768, 879), (1155, 1161), (1425, 1469), (1552, 1562), (1611, 1631), (3633, 3633), (3636, 3642), (3655, 3662), (6832, 6911), (7616, 7679), (8203, 8207), (8400, 8447), (65024, 65039), (65056, 65071), (917760, 917999)]
def widesL : List (Int × Int) := [(4352, 4447), (11904, 12350), (12353, 42191), (44032, 55203), (63744, 64255), (65072, 65135), (65280, 65376), (65504, 65510), (127744, 128591), (129280, 129535), (131072, 196605), (196608, 262141)]
def controlL : List (Int × Int) := [(0, 31), (127, 159)]
def blankL : List (Int × Int) := [(32, 32), (160, 160), (8192, 8202), (8239, 8239), (8287, 8287), (12288, 12288)]
def smallL : List (Int × Int) := [(97, 122), (223, 246), (248, 255)]
def capitalL : List (Int × Int) := [(65, 90), (192, 214), (216, 222)]

theorem control29 (r : Int) (w : World) : Calls Try.prog 29 #[.int .i32 r] w fun e w' => e = .returned (.bool (inL controlL r)) ∧ w' = w := by
  by_cases c0 : 0 ≤ r ∧ r ≤ 31
  · have HG := Lib.hid (show inL controlL r = true by simp only [inL_iff]; exact ⟨(0, 31), by simp [controlL], c0⟩)
    go_enter Try.func29, Try.ntmps29
    go_wp2_with (first | (go_at_call 34; first | (refine (in34_true _ _ _ _ (by omega)).mono ?_; rintro e w' ⟨rfl, rfl⟩) | (refine (in34_false _ _ _ _ (by omega)).mono ?_; rintro e w' ⟨rfl, rfl⟩)))
    go_ret
    exact ⟨ret_bool HG.out, rfl⟩
  · skip
    by_cases c1 : 127 ≤ r ∧ r ≤ 159
    · have HG := Lib.hid (show inL controlL r = true by simp only [inL_iff]; exact ⟨(127, 159), by simp [controlL], c1⟩)
      clear c0
      go_enter Try.func29, Try.ntmps29
      go_wp2_with (first | (go_at_call 34; first | (refine (in34_true _ _ _ _ (by omega)).mono ?_; rintro e w' ⟨rfl, rfl⟩) | (refine (in34_false _ _ _ _ (by omega)).mono ?_; rintro e w' ⟨rfl, rfl⟩)))
      go_ret
      exact ⟨ret_bool HG.out, rfl⟩
    · skip
      have HG := Lib.hid (show inL controlL r = false by rw [Bool.eq_false_iff]; intro h; rw [inL_iff] at h; simp [controlL] at h; omega)
      go_enter Try.func29, Try.ntmps29
      go_wp2_with (first | (go_at_call 34; first | (refine (in34_true _ _ _ _ (by omega)).mono ?_; rintro e w' ⟨rfl, rfl⟩) | (refine (in34_false _ _ _ _ (by omega)).mono ?_; rintro e w' ⟨rfl, rfl⟩)))
      go_ret
      exact ⟨ret_bool (by first | exact HG.out | (rw [HG.out]; symm; simp only [Bool.or_eq_false_iff, beq_eq_false_iff_ne]; omega)), rfl⟩

theorem blank33 (r : Int) (w : World) : Calls Try.prog 33 #[.int .i32 r] w fun e w' => e = .returned (.bool (inL blankL r)) ∧ w' = w := by
  by_cases c0 : 32 ≤ r ∧ r ≤ 32
  · have HG := Lib.hid (show inL blankL r = true by simp only [inL_iff]; exact ⟨(32, 32), by simp [blankL], c0⟩)
    obtain rfl : r = 32 := by omega
    go_enter Try.func33, Try.ntmps33
    go_wp2_with (first | (go_at_call 34; first | (refine (in34_true _ _ _ _ (by omega)).mono ?_; rintro e w' ⟨rfl, rfl⟩) | (refine (in34_false _ _ _ _ (by omega)).mono ?_; rintro e w' ⟨rfl, rfl⟩)))
    go_ret
    exact ⟨ret_bool HG.out, rfl⟩
  · skip
    by_cases c1 : 160 ≤ r ∧ r ≤ 160
    · have HG := Lib.hid (show inL blankL r = true by simp only [inL_iff]; exact ⟨(160, 160), by simp [blankL], c1⟩)
      clear c0
      obtain rfl : r = 160 := by omega
      go_enter Try.func33, Try.ntmps33
      go_wp2_with (first | (go_at_call 34; first | (refine (in34_true _ _ _ _ (by omega)).mono ?_; rintro e w' ⟨rfl, rfl⟩) | (refine (in34_false _ _ _ _ (by omega)).mono ?_; rintro e w' ⟨rfl, rfl⟩)))
      go_ret
      exact ⟨ret_bool HG.out, rfl⟩
    · skip
      by_cases c2 : 8192 ≤ r ∧ r ≤ 8202
      · have HG := Lib.hid (show inL blankL r = true by simp only [inL_iff]; exact ⟨(8192, 8202), by simp [blankL], c2⟩)
        clear c0 c1
        have n32 : ¬ r = 32 := by omega
        have n160 : ¬ r = 160 := by omega
        have n8239 : ¬ r = 8239 := by omega
        have n8287 : ¬ r = 8287 := by omega
        have n12288 : ¬ r = 12288 := by omega
        go_enter Try.func33, Try.ntmps33
        go_wp2_with (first | (go_at_call 34; first | (refine (in34_true _ _ _ _ (by omega)).mono ?_; rintro e w' ⟨rfl, rfl⟩) | (refine (in34_false _ _ _ _ (by omega)).mono ?_; rintro e w' ⟨rfl, rfl⟩)))
        go_ret
        exact ⟨ret_bool HG.out, rfl⟩
      · skip
        by_cases c3 : 8239 ≤ r ∧ r ≤ 8239
        · have HG := Lib.hid (show inL blankL r = true by simp only [inL_iff]; exact ⟨(8239, 8239), by simp [blankL], c3⟩)
          clear c0 c1 c2
          obtain rfl : r = 8239 := by omega
          go_enter Try.func33, Try.ntmps33
          go_wp2_with (first | (go_at_call 34; first | (refine (in34_true _ _ _ _ (by omega)).mono ?_; rintro e w' ⟨rfl, rfl⟩) | (refine (in34_false _ _ _ _ (by omega)).mono ?_; rintro e w' ⟨rfl, rfl⟩)))
          go_ret
          exact ⟨ret_bool HG.out, rfl⟩
        · skip
          by_cases c4 : 8287 ≤ r ∧ r ≤ 8287
          · have HG := Lib.hid (show inL blankL r = true by simp only [inL_iff]; exact ⟨(8287, 8287), by simp [blankL], c4⟩)
            clear c0 c1 c2 c3
            obtain rfl : r = 8287 := by omega
            go_enter Try.func33, Try.ntmps33
            go_wp2_with (first | (go_at_call 34; first | (refine (in34_true _ _ _ _ (by omega)).mono ?_; rintro e w' ⟨rfl, rfl⟩) | (refine (in34_false _ _ _ _ (by omega)).mono ?_; rintro e w' ⟨rfl, rfl⟩)))
            go_ret
            exact ⟨ret_bool HG.out, rfl⟩
          · skip
            by_cases c5 : 12288 ≤ r ∧ r ≤ 12288
            · have HG := Lib.hid (show inL blankL r = true by simp only [inL_iff]; exact ⟨(12288, 12288), by simp [blankL], c5⟩)
              clear c0 c1 c2 c3 c4
              obtain rfl : r = 12288 := by omega
              go_enter Try.func33, Try.ntmps33
              go_wp2_with (first | (go_at_call 34; first | (refine (in34_true _ _ _ _ (by omega)).mono ?_; rintro e w' ⟨rfl, rfl⟩) | (refine (in34_false _ _ _ _ (by omega)).mono ?_; rintro e w' ⟨rfl, rfl⟩)))
              go_ret
              exact ⟨ret_bool HG.out, rfl⟩
            · skip
              have HG := Lib.hid (show inL blankL r = false by rw [Bool.eq_false_iff]; intro h; rw [inL_iff] at h; simp [blankL] at h; omega)
              have n32 : ¬ r = 32 := by omega
              have n160 : ¬ r = 160 := by omega
              have n8239 : ¬ r = 8239 := by omega
              have n8287 : ¬ r = 8287 := by omega
              have n12288 : ¬ r = 12288 := by omega
              go_enter Try.func33, Try.ntmps33
              go_wp2_with (first | (go_at_call 34; first | (refine (in34_true _ _ _ _ (by omega)).mono ?_; rintro e w' ⟨rfl, rfl⟩) | (refine (in34_false _ _ _ _ (by omega)).mono ?_; rintro e w' ⟨rfl, rfl⟩)))
              go_ret
              exact ⟨ret_bool (by first | exact HG.out | (rw [HG.out]; symm; simp only [Bool.or_eq_false_iff, beq_eq_false_iff_ne]; omega)), rfl⟩

theorem small35 (r : Int) (w : World) : Calls Try.prog 35 #[.int .i32 r] w fun e w' => e = .returned (.bool (inL smallL r)) ∧ w' = w := by
  by_cases c0 : 97 ≤ r ∧ r ≤ 122
  · have HG := Lib.hid (show inL smallL r = true by simp only [inL_iff]; exact ⟨(97, 122), by simp [smallL], c0⟩)
    go_enter Try.func35, Try.ntmps35
    go_wp2_with (first | (go_at_call 34; first | (refine (in34_true _ _ _ _ (by omega)).mono ?_; rintro e w' ⟨rfl, rfl⟩) | (refine (in34_false _ _ _ _ (by omega)).mono ?_; rintro e w' ⟨rfl, rfl⟩)))
    go_ret
    exact ⟨ret_bool HG.out, rfl⟩
  · skip
    by_cases c1 : 223 ≤ r ∧ r ≤ 246
    · have HG := Lib.hid (show inL smallL r = true by simp only [inL_iff]; exact ⟨(223, 246), by simp [smallL], c1⟩)
      clear c0
      go_enter Try.func35, Try.ntmps35
      go_wp2_with (first | (go_at_call 34; first | (refine (in34_true _ _ _ _ (by omega)).mono ?_; rintro e w' ⟨rfl, rfl⟩) | (refine (in34_false _ _ _ _ (by omega)).mono ?_; rintro e w' ⟨rfl, rfl⟩)))
      go_ret
      exact ⟨ret_bool HG.out, rfl⟩
    · skip
      by_cases c2 : 248 ≤ r ∧ r ≤ 255
      · have HG := Lib.hid (show inL smallL r = true by simp only [inL_iff]; exact ⟨(248, 255), by simp [smallL], c2⟩)
        clear c0 c1
        go_enter Try.func35, Try.ntmps35
        go_wp2_with (first | (go_at_call 34; first | (refine (in34_true _ _ _ _ (by omega)).mono ?_; rintro e w' ⟨rfl, rfl⟩) | (refine (in34_false _ _ _ _ (by omega)).mono ?_; rintro e w' ⟨rfl, rfl⟩)))
        go_ret
        exact ⟨ret_bool HG.out, rfl⟩
      · skip
        have HG := Lib.hid (show inL smallL r = false by rw [Bool.eq_false_iff]; intro h; rw [inL_iff] at h; simp [smallL] at h; omega)
        go_enter Try.func35, Try.ntmps35
        go_wp2_with (first | (go_at_call 34; first | (refine (in34_true _ _ _ _ (by omega)).mono ?_; rintro e w' ⟨rfl, rfl⟩) | (refine (in34_false _ _ _ _ (by omega)).mono ?_; rintro e w' ⟨rfl, rfl⟩)))
        go_ret
        exact ⟨ret_bool (by first | exact HG.out | (rw [HG.out]; symm; simp only [Bool.or_eq_false_iff, beq_eq_false_iff_ne]; omega)), rfl⟩

theorem capital36 (r : Int) (w : World) : Calls Try.prog 36 #[.int .i32 r] w fun e w' => e = .returned (.bool (inL capitalL r)) ∧ w' = w := by
  by_cases c0 : 65 ≤ r ∧ r ≤ 90
  · have HG := Lib.hid (show inL capitalL r = true by simp only [inL_iff]; exact ⟨(65, 90), by simp [capitalL], c0⟩)
    go_enter Try.func36, Try.ntmps36
    go_wp2_with (first | (go_at_call 34; first | (refine (in34_true _ _ _ _ (by omega)).mono ?_; rintro e w' ⟨rfl, rfl⟩) | (refine (in34_false _ _ _ _ (by omega)).mono ?_; rintro e w' ⟨rfl, rfl⟩)))
    go_ret
    exact ⟨ret_bool HG.out, rfl⟩
  · skip
    by_cases c1 : 192 ≤ r ∧ r ≤ 214
    · have HG := Lib.hid (show inL capitalL r = true by simp only [inL_iff]; exact ⟨(192, 214), by simp [capitalL], c1⟩)
      clear c0
      go_enter Try.func36, Try.ntmps36
      go_wp2_with (first | (go_at_call 34; first | (refine (in34_true _ _ _ _ (by omega)).mono ?_; rintro e w' ⟨rfl, rfl⟩) | (refine (in34_false _ _ _ _ (by omega)).mono ?_; rintro e w' ⟨rfl, rfl⟩)))
      go_ret
      exact ⟨ret_bool HG.out, rfl⟩
    · skip
      by_cases c2 : 216 ≤ r ∧ r ≤ 222
      · have HG := Lib.hid (show inL capitalL r = true by simp only [inL_iff]; exact ⟨(216, 222), by simp [capitalL], c2⟩)
        clear c0 c1
        go_enter Try.func36, Try.ntmps36
        go_wp2_with (first | (go_at_call 34; first | (refine (in34_true _ _ _ _ (by omega)).mono ?_; rintro e w' ⟨rfl, rfl⟩) | (refine (in34_false _ _ _ _ (by omega)).mono ?_; rintro e w' ⟨rfl, rfl⟩)))
        go_ret
        exact ⟨ret_bool HG.out, rfl⟩
      · skip
        have HG := Lib.hid (show inL capitalL r = false by rw [Bool.eq_false_iff]; intro h; rw [inL_iff] at h; simp [capitalL] at h; omega)
        go_enter Try.func36, Try.ntmps36
        go_wp2_with (first | (go_at_call 34; first | (refine (in34_true _ _ _ _ (by omega)).mono ?_; rintro e w' ⟨rfl, rfl⟩) | (refine (in34_false _ _ _ _ (by omega)).mono ?_; rintro e w' ⟨rfl, rfl⟩)))
        go_ret
        exact ⟨ret_bool (by first | exact HG.out | (rw [HG.out]; symm; simp only [Bool.or_eq_false_iff, beq_eq_false_iff_ne]; omega)), rfl⟩

set_option maxHeartbeats 1000000 in
theorem mark30 (r : Int) (w : World) : Calls Try.prog 30 #[.int .i32 r] w fun e w' => e = .returned (.bool (inL marksL r)) ∧ w' = w := by
  by_cases c0 : 768 ≤ r ∧ r ≤ 879
  · have HG := Lib.hid (show inL marksL r = true by simp only [inL_iff]; exact ⟨(768, 879), by simp [marksL], c0⟩)
    have n3633 : ¬ r = 3633 := by omega
    go_enter Try.func30, Try.ntmps30
    go_wp2_with (first | (go_at_call 34; first | (refine (in34_true _ _ _ _ (by omega)).mono ?_; rintro e w' ⟨rfl, rfl⟩) | (refine (in34_false _ _ _ _ (by omega)).mono ?_; rintro e w' ⟨rfl, rfl⟩)))
    go_ret
    exact ⟨ret_bool HG.out, rfl⟩
  · skip
    by_cases c1 : 1155 ≤ r ∧ r ≤ 1161
    · have HG := Lib.hid (show inL marksL r = true by simp only [inL_iff]; exact ⟨(1155, 1161), by simp [marksL], c1⟩)
      clear c0
      have n3633 : ¬ r = 3633 := by omega
      go_enter Try.func30, Try.ntmps30
      go_wp2_with (first | (go_at_call 34; first | (refine (in34_true _ _ _ _ (by omega)).mono ?_; rintro e w' ⟨rfl, rfl⟩) | (refine (in34_false _ _ _ _ (by omega)).mono ?_; rintro e w' ⟨rfl, rfl⟩)))
      go_ret
      exact ⟨ret_bool HG.out, rfl⟩
    · skip
      by_cases c2 : 1425 ≤ r ∧ r ≤ 1469
      · have HG := Lib.hid (show inL marksL r = true by simp only [inL_iff]; exact ⟨(1425, 1469), by simp [marksL], c2⟩)
        clear c0 c1
        have n3633 : ¬ r = 3633 := by omega
        go_enter Try.func30, Try.ntmps30
        go_wp2_with (first | (go_at_call 34; first | (refine (in34_true _ _ _ _ (by omega)).mono ?_; rintro e w' ⟨rfl, rfl⟩) | (refine (in34_false _ _ _ _ (by omega)).mono ?_; rintro e w' ⟨rfl, rfl⟩)))
        go_ret
        exact ⟨ret_bool HG.out, rfl⟩
      · skip
        by_cases c3 : 1552 ≤ r ∧ r ≤ 1562
        · have HG := Lib.hid (show inL marksL r = true by simp only [inL_iff]; exact ⟨(1552, 1562), by simp [marksL], c3⟩)
          clear c0 c1 c2
          have n3633 : ¬ r = 3633 := by omega
          go_enter Try.func30, Try.ntmps30
          go_wp2_with (first | (go_at_call 34; first | (refine (in34_true _ _ _ _ (by omega)).mono ?_; rintro e w' ⟨rfl, rfl⟩) | (refine (in34_false _ _ _ _ (by omega)).mono ?_; rintro e w' ⟨rfl, rfl⟩)))
          go_ret
          exact ⟨ret_bool HG.out, rfl⟩
        · skip
          by_cases c4 : 1611 ≤ r ∧ r ≤ 1631
          · have HG := Lib.hid (show inL marksL r = true by simp only [inL_iff]; exact ⟨(1611, 1631), by simp [marksL], c4⟩)
            clear c0 c1 c2 c3
            have n3633 : ¬ r = 3633 := by omega
            go_enter Try.func30, Try.ntmps30
            go_wp2_with (first | (go_at_call 34; first | (refine (in34_true _ _ _ _ (by omega)).mono ?_; rintro e w' ⟨rfl, rfl⟩) | (refine (in34_false _ _ _ _ (by omega)).mono ?_; rintro e w' ⟨rfl, rfl⟩)))
            go_ret
            exact ⟨ret_bool HG.out, rfl⟩
          · skip
            by_cases c5 : 3633 ≤ r ∧ r ≤ 3633
            · have HG := Lib.hid (show inL marksL r = true by simp only [inL_iff]; exact ⟨(3633, 3633), by simp [marksL], c5⟩)
              clear c0 c1 c2 c3 c4
              obtain rfl : r = 3633 := by omega
              go_enter Try.func30, Try.ntmps30
              go_wp2_with (first | (go_at_call 34; first | (refine (in34_true _ _ _ _ (by omega)).mono ?_; rintro e w' ⟨rfl, rfl⟩) | (refine (in34_false _ _ _ _ (by omega)).mono ?_; rintro e w' ⟨rfl, rfl⟩)))
              go_ret
              exact ⟨ret_bool HG.out, rfl⟩
            · skip
              by_cases c6 : 3636 ≤ r ∧ r ≤ 3642
              · have HG := Lib.hid (show inL marksL r = true by simp only [inL_iff]; exact ⟨(3636, 3642), by simp [marksL], c6⟩)
                clear c0 c1 c2 c3 c4 c5
                have n3633 : ¬ r = 3633 := by omega
                go_enter Try.func30, Try.ntmps30
                go_wp2_with (first | (go_at_call 34; first | (refine (in34_true _ _ _ _ (by omega)).mono ?_; rintro e w' ⟨rfl, rfl⟩) | (refine (in34_false _ _ _ _ (by omega)).mono ?_; rintro e w' ⟨rfl, rfl⟩)))
                go_ret
                exact ⟨ret_bool HG.out, rfl⟩
              · skip
                by_cases c7 : 3655 ≤ r ∧ r ≤ 3662
                · have HG := Lib.hid (show inL marksL r = true by simp only [inL_iff]; exact ⟨(3655, 3662), by simp [marksL], c7⟩)
                  clear c0 c1 c2 c3 c4 c5 c6
                  have n3633 : ¬ r = 3633 := by omega
                  go_enter Try.func30, Try.ntmps30
                  go_wp2_with (first | (go_at_call 34; first | (refine (in34_true _ _ _ _ (by omega)).mono ?_; rintro e w' ⟨rfl, rfl⟩) | (refine (in34_false _ _ _ _ (by omega)).mono ?_; rintro e w' ⟨rfl, rfl⟩)))
                  go_ret
                  exact ⟨ret_bool HG.out, rfl⟩
                · skip
                  by_cases c8 : 6832 ≤ r ∧ r ≤ 6911
                  · have HG := Lib.hid (show inL marksL r = true by simp only [inL_iff]; exact ⟨(6832, 6911), by simp [marksL], c8⟩)
                    clear c0 c1 c2 c3 c4 c5 c6 c7
                    have n3633 : ¬ r = 3633 := by omega
                    go_enter Try.func30, Try.ntmps30
                    go_wp2_with (first | (go_at_call 34; first | (refine (in34_true _ _ _ _ (by omega)).mono ?_; rintro e w' ⟨rfl, rfl⟩) | (refine (in34_false _ _ _ _ (by omega)).mono ?_; rintro e w' ⟨rfl, rfl⟩)))
                    go_ret
                    exact ⟨ret_bool HG.out, rfl⟩
                  · skip
                    by_cases c9 : 7616 ≤ r ∧ r ≤ 7679
                    · have HG := Lib.hid (show inL marksL r = true by simp only [inL_iff]; exact ⟨(7616, 7679), by simp [marksL], c9⟩)
                      clear c0 c1 c2 c3 c4 c5 c6 c7 c8
                      have n3633 : ¬ r = 3633 := by omega
                      go_enter Try.func30, Try.ntmps30
                      go_wp2_with (first | (go_at_call 34; first | (refine (in34_true _ _ _ _ (by omega)).mono ?_; rintro e w' ⟨rfl, rfl⟩) | (refine (in34_false _ _ _ _ (by omega)).mono ?_; rintro e w' ⟨rfl, rfl⟩)))
                      go_ret
                      exact ⟨ret_bool HG.out, rfl⟩
                    · skip
                      by_cases c10 : 8203 ≤ r ∧ r ≤ 8207
                      · have HG := Lib.hid (show inL marksL r = true by simp only [inL_iff]; exact ⟨(8203, 8207), by simp [marksL], c10⟩)
                        clear c0 c1 c2 c3 c4 c5 c6 c7 c8 c9
                        have n3633 : ¬ r = 3633 := by omega
                        go_enter Try.func30, Try.ntmps30
                        go_wp2_with (first | (go_at_call 34; first | (refine (in34_true _ _ _ _ (by omega)).mono ?_; rintro e w' ⟨rfl, rfl⟩) | (refine (in34_false _ _ _ _ (by omega)).mono ?_; rintro e w' ⟨rfl, rfl⟩)))
                        go_ret
                        exact ⟨ret_bool HG.out, rfl⟩
                      · skip
                        by_cases c11 : 8400 ≤ r ∧ r ≤ 8447
                        · have HG := Lib.hid (show inL marksL r = true by simp only [inL_iff]; exact ⟨(8400, 8447), by simp [marksL], c11⟩)
                          clear c0 c1 c2 c3 c4 c5 c6 c7 c8 c9 c10
                          have n3633 : ¬ r = 3633 := by omega
                          go_enter Try.func30, Try.ntmps30
                          go_wp2_with (first | (go_at_call 34; first | (refine (in34_true _ _ _ _ (by omega)).mono ?_; rintro e w' ⟨rfl, rfl⟩) | (refine (in34_false _ _ _ _ (by omega)).mono ?_; rintro e w' ⟨rfl, rfl⟩)))
                          go_ret
                          exact ⟨ret_bool HG.out, rfl⟩
                        · skip
                          by_cases c12 : 65024 ≤ r ∧ r ≤ 65039
                          · have HG := Lib.hid (show inL marksL r = true by simp only [inL_iff]; exact ⟨(65024, 65039), by simp [marksL], c12⟩)
                            clear c0 c1 c2 c3 c4 c5 c6 c7 c8 c9 c10 c11
                            have n3633 : ¬ r = 3633 := by omega
                            go_enter Try.func30, Try.ntmps30
                            go_wp2_with (first | (go_at_call 34; first | (refine (in34_true _ _ _ _ (by omega)).mono ?_; rintro e w' ⟨rfl, rfl⟩) | (refine (in34_false _ _ _ _ (by omega)).mono ?_; rintro e w' ⟨rfl, rfl⟩)))
                            go_ret
                            exact ⟨ret_bool HG.out, rfl⟩
                          · skip
                            by_cases c13 : 65056 ≤ r ∧ r ≤ 65071
                            · have HG := Lib.hid (show inL marksL r = true by simp only [inL_iff]; exact ⟨(65056, 65071), by simp [marksL], c13⟩)
                              clear c0 c1 c2 c3 c4 c5 c6 c7 c8 c9 c10 c11 c12
                              have n3633 : ¬ r = 3633 := by omega
                              go_enter Try.func30, Try.ntmps30
                              go_wp2_with (first | (go_at_call 34; first | (refine (in34_true _ _ _ _ (by omega)).mono ?_; rintro e w' ⟨rfl, rfl⟩) | (refine (in34_false _ _ _ _ (by omega)).mono ?_; rintro e w' ⟨rfl, rfl⟩)))
                              go_ret
                              exact ⟨ret_bool HG.out, rfl⟩
                            · skip
                              by_cases c14 : 917760 ≤ r ∧ r ≤ 917999
                              · have HG := Lib.hid (show inL marksL r = true by simp only [inL_iff]; exact ⟨(917760, 917999), by simp [marksL], c14⟩)
                                clear c0 c1 c2 c3 c4 c5 c6 c7 c8 c9 c10 c11 c12 c13
                                have n3633 : ¬ r = 3633 := by omega
                                go_enter Try.func30, Try.ntmps30
                                go_wp2_with (first | (go_at_call 34; first | (refine (in34_true _ _ _ _ (by omega)).mono ?_; rintro e w' ⟨rfl, rfl⟩) | (refine (in34_false _ _ _ _ (by omega)).mono ?_; rintro e w' ⟨rfl, rfl⟩)))
                                go_ret
                                exact ⟨ret_bool HG.out, rfl⟩
                              · skip
                                have HG := Lib.hid (show inL marksL r = false by rw [Bool.eq_false_iff]; intro h; rw [inL_iff] at h; simp [marksL] at h; omega)
                                have n3633 : ¬ r = 3633 := by omega
                                go_enter Try.func30, Try.ntmps30
                                go_wp2_with (first | (go_at_call 34; first | (refine (in34_true _ _ _ _ (by omega)).mono ?_; rintro e w' ⟨rfl, rfl⟩) | (refine (in34_false _ _ _ _ (by omega)).mono ?_; rintro e w' ⟨rfl, rfl⟩)))
                                go_ret
                                exact ⟨ret_bool (by first | exact HG.out | (rw [HG.out]; symm; simp only [beq_eq_false_iff_ne]; omega)), rfl⟩

set_option maxHeartbeats 1000000 in
theorem wide31 (r : Int) (w : World) : Calls Try.prog 31 #[.int .i32 r] w fun e w' => e = .returned (.bool (inL widesL r)) ∧ w' = w := by
  by_cases c0 : 4352 ≤ r ∧ r ≤ 4447
  · have HG := Lib.hid (show inL widesL r = true by simp only [inL_iff]; exact ⟨(4352, 4447), by simp [widesL], c0⟩)
    go_enter Try.func31, Try.ntmps31
    go_wp2_with (first | (go_at_call 34; first | (refine (in34_true _ _ _ _ (by omega)).mono ?_; rintro e w' ⟨rfl, rfl⟩) | (refine (in34_false _ _ _ _ (by omega)).mono ?_; rintro e w' ⟨rfl, rfl⟩)))
    go_ret
    exact ⟨ret_bool HG.out, rfl⟩
  · skip
    by_cases c1 : 11904 ≤ r ∧ r ≤ 12350
    · have HG := Lib.hid (show inL widesL r = true by simp only [inL_iff]; exact ⟨(11904, 12350), by simp [widesL], c1⟩)
      clear c0
      go_enter Try.func31, Try.ntmps31
      go_wp2_with (first | (go_at_call 34; first | (refine (in34_true _ _ _ _ (by omega)).mono ?_; rintro e w' ⟨rfl, rfl⟩) | (refine (in34_false _ _ _ _ (by omega)).mono ?_; rintro e w' ⟨rfl, rfl⟩)))
      go_ret
      exact ⟨ret_bool HG.out, rfl⟩
    · skip
      by_cases c2 : 12353 ≤ r ∧ r ≤ 42191
      · have HG := Lib.hid (show inL widesL r = true by simp only [inL_iff]; exact ⟨(12353, 42191), by simp [widesL], c2⟩)
        clear c0 c1
        go_enter Try.func31, Try.ntmps31
        go_wp2_with (first | (go_at_call 34; first | (refine (in34_true _ _ _ _ (by omega)).mono ?_; rintro e w' ⟨rfl, rfl⟩) | (refine (in34_false _ _ _ _ (by omega)).mono ?_; rintro e w' ⟨rfl, rfl⟩)))
        go_ret
        exact ⟨ret_bool HG.out, rfl⟩
      · skip
        by_cases c3 : 44032 ≤ r ∧ r ≤ 55203
        · have HG := Lib.hid (show inL widesL r = true by simp only [inL_iff]; exact ⟨(44032, 55203), by simp [widesL], c3⟩)
          clear c0 c1 c2
          go_enter Try.func31, Try.ntmps31
          go_wp2_with (first | (go_at_call 34; first | (refine (in34_true _ _ _ _ (by omega)).mono ?_; rintro e w' ⟨rfl, rfl⟩) | (refine (in34_false _ _ _ _ (by omega)).mono ?_; rintro e w' ⟨rfl, rfl⟩)))
          go_ret
          exact ⟨ret_bool HG.out, rfl⟩
        · skip
          by_cases c4 : 63744 ≤ r ∧ r ≤ 64255
          · have HG := Lib.hid (show inL widesL r = true by simp only [inL_iff]; exact ⟨(63744, 64255), by simp [widesL], c4⟩)
            clear c0 c1 c2 c3
            go_enter Try.func31, Try.ntmps31
            go_wp2_with (first | (go_at_call 34; first | (refine (in34_true _ _ _ _ (by omega)).mono ?_; rintro e w' ⟨rfl, rfl⟩) | (refine (in34_false _ _ _ _ (by omega)).mono ?_; rintro e w' ⟨rfl, rfl⟩)))
            go_ret
            exact ⟨ret_bool HG.out, rfl⟩
          · skip
            by_cases c5 : 65072 ≤ r ∧ r ≤ 65135
            · have HG := Lib.hid (show inL widesL r = true by simp only [inL_iff]; exact ⟨(65072, 65135), by simp [widesL], c5⟩)
              clear c0 c1 c2 c3 c4
              go_enter Try.func31, Try.ntmps31
              go_wp2_with (first | (go_at_call 34; first | (refine (in34_true _ _ _ _ (by omega)).mono ?_; rintro e w' ⟨rfl, rfl⟩) | (refine (in34_false _ _ _ _ (by omega)).mono ?_; rintro e w' ⟨rfl, rfl⟩)))
              go_ret
              exact ⟨ret_bool HG.out, rfl⟩
            · skip
              by_cases c6 : 65280 ≤ r ∧ r ≤ 65376
              · have HG := Lib.hid (show inL widesL r = true by simp only [inL_iff]; exact ⟨(65280, 65376), by simp [widesL], c6⟩)
                clear c0 c1 c2 c3 c4 c5
                go_enter Try.func31, Try.ntmps31
                go_wp2_with (first | (go_at_call 34; first | (refine (in34_true _ _ _ _ (by omega)).mono ?_; rintro e w' ⟨rfl, rfl⟩) | (refine (in34_false _ _ _ _ (by omega)).mono ?_; rintro e w' ⟨rfl, rfl⟩)))
                go_ret
                exact ⟨ret_bool HG.out, rfl⟩
              · skip
                by_cases c7 : 65504 ≤ r ∧ r ≤ 65510
                · have HG := Lib.hid (show inL widesL r = true by simp only [inL_iff]; exact ⟨(65504, 65510), by simp [widesL], c7⟩)
                  clear c0 c1 c2 c3 c4 c5 c6
                  go_enter Try.func31, Try.ntmps31
                  go_wp2_with (first | (go_at_call 34; first | (refine (in34_true _ _ _ _ (by omega)).mono ?_; rintro e w' ⟨rfl, rfl⟩) | (refine (in34_false _ _ _ _ (by omega)).mono ?_; rintro e w' ⟨rfl, rfl⟩)))
                  go_ret
                  exact ⟨ret_bool HG.out, rfl⟩
                · skip
                  by_cases c8 : 127744 ≤ r ∧ r ≤ 128591
                  · have HG := Lib.hid (show inL widesL r = true by simp only [inL_iff]; exact ⟨(127744, 128591), by simp [widesL], c8⟩)
                    clear c0 c1 c2 c3 c4 c5 c6 c7
                    go_enter Try.func31, Try.ntmps31
                    go_wp2_with (first | (go_at_call 34; first | (refine (in34_true _ _ _ _ (by omega)).mono ?_; rintro e w' ⟨rfl, rfl⟩) | (refine (in34_false _ _ _ _ (by omega)).mono ?_; rintro e w' ⟨rfl, rfl⟩)))
                    go_ret
                    exact ⟨ret_bool HG.out, rfl⟩
                  · skip
                    by_cases c9 : 129280 ≤ r ∧ r ≤ 129535
                    · have HG := Lib.hid (show inL widesL r = true by simp only [inL_iff]; exact ⟨(129280, 129535), by simp [widesL], c9⟩)
                      clear c0 c1 c2 c3 c4 c5 c6 c7 c8
                      go_enter Try.func31, Try.ntmps31
                      go_wp2_with (first | (go_at_call 34; first | (refine (in34_true _ _ _ _ (by omega)).mono ?_; rintro e w' ⟨rfl, rfl⟩) | (refine (in34_false _ _ _ _ (by omega)).mono ?_; rintro e w' ⟨rfl, rfl⟩)))
                      go_ret
                      exact ⟨ret_bool HG.out, rfl⟩
                    · skip
                      by_cases c10 : 131072 ≤ r ∧ r ≤ 196605
                      · have HG := Lib.hid (show inL widesL r = true by simp only [inL_iff]; exact ⟨(131072, 196605), by simp [widesL], c10⟩)
                        clear c0 c1 c2 c3 c4 c5 c6 c7 c8 c9
                        go_enter Try.func31, Try.ntmps31
                        go_wp2_with (first | (go_at_call 34; first | (refine (in34_true _ _ _ _ (by omega)).mono ?_; rintro e w' ⟨rfl, rfl⟩) | (refine (in34_false _ _ _ _ (by omega)).mono ?_; rintro e w' ⟨rfl, rfl⟩)))
                        go_ret
                        exact ⟨ret_bool HG.out, rfl⟩
                      · skip
                        by_cases c11 : 196608 ≤ r ∧ r ≤ 262141
                        · have HG := Lib.hid (show inL widesL r = true by simp only [inL_iff]; exact ⟨(196608, 262141), by simp [widesL], c11⟩)
                          clear c0 c1 c2 c3 c4 c5 c6 c7 c8 c9 c10
                          go_enter Try.func31, Try.ntmps31
                          go_wp2_with (first | (go_at_call 34; first | (refine (in34_true _ _ _ _ (by omega)).mono ?_; rintro e w' ⟨rfl, rfl⟩) | (refine (in34_false _ _ _ _ (by omega)).mono ?_; rintro e w' ⟨rfl, rfl⟩)))
                          go_ret
                          exact ⟨ret_bool HG.out, rfl⟩
                        · skip
                          have HG := Lib.hid (show inL widesL r = false by rw [Bool.eq_false_iff]; intro h; rw [inL_iff] at h; simp [widesL] at h; omega)
                          go_enter Try.func31, Try.ntmps31
                          go_wp2_with (first | (go_at_call 34; first | (refine (in34_true _ _ _ _ (by omega)).mono ?_; rintro e w' ⟨rfl, rfl⟩) | (refine (in34_false _ _ _ _ (by omega)).mono ?_; rintro e w' ⟨rfl, rfl⟩)))
                          go_ret
                          exact ⟨ret_bool (by first | exact HG.out | (rw [HG.out]; symm; simp only [Bool.or_eq_false_iff, beq_eq_false_iff_ne]; omega)), rfl⟩
end Go.Proofs.Ytjchjdlapacknaa
