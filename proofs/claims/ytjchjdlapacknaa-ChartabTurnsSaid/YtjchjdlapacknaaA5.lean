import Derived.Test.YtjchjdlapacknaaA4
namespace Go.Proofs.Ytjchjdlapacknaa
open Go.RowKit Go.Mem
variable {W w : World} {H : List HProp}
attribute [local irreducible] World.setCell World.setCells World.alloc World.drew World.drewN Calls sat cel own blk old mp wpQuiet

def width (r : Int) : Int := if ¬ may r then 0 else if r < 32 then 0 else if 126 < r ∧ r < 160 then 0 else if inL marksL r = true then 0 else if inL widesL r = true then 2 else 1
theorem controlL_iff (r : Int) (h : may r) : inL controlL r = true ↔ (r < 32 ∨ (126 < r ∧ r < 160)) := by
  rw [inL_iff]
  unfold may at h
  simp [controlL]
  omega

set_option maxHeartbeats 1000000 in
theorem width15 (r : Int) (w : World) : Calls Try.prog 15 #[.int .i32 r] w fun e w' => e = .returned (.int .i64 (width r)) ∧ w' = w := by
  by_cases hm : may r
  · have em : decide (may r) = true := decide_eq_true hm
    have hci := controlL_iff r hm
    cases hc : inL controlL r
    · rw [hc] at hci
      have hn : ¬(r < 32 ∨ (126 < r ∧ r < 160)) := fun h => Bool.noConfusion (hci.2 h)
      have h1 : ¬ r < 32 := fun h => hn (.inl h)
      have h2 : ¬(126 < r ∧ r < 160) := fun h => hn (.inr h)
      clear hci hn
      cases hk : inL marksL r
      · cases hw : inL widesL r
        · have HF := Lib.hid (show width r = 1 by unfold width; rw [if_neg (by simpa using hm), if_neg h1, if_neg h2, hk, hw]; rfl)
          clear h1 h2 hm
          go_enter Try.func15, Try.ntmps15
          go_wp2_with (first
    | (go_at_call 12; refine (may12 _ _).mono ?_; rintro e w' ⟨rfl, rfl⟩)
    | (go_at_call 29; refine (control29 _ _).mono ?_; rintro e w' ⟨rfl, rfl⟩)
    | (go_at_call 30; refine (mark30 _ _).mono ?_; rintro e w' ⟨rfl, rfl⟩)
    | (go_at_call 31; refine (wide31 _ _).mono ?_; rintro e w' ⟨rfl, rfl⟩)
    | (refine wrap hs ?_; clear hs; intro w hs)
    | (refine wrapn hs ?_; clear hs; intro w hs)
    | (refine wrapd hs ?_; clear hs; intro w hs))
          go_ret
          exact ⟨ret_int HF.out, rfl⟩
        · have HF := Lib.hid (show width r = 2 by unfold width; rw [if_neg (by simpa using hm), if_neg h1, if_neg h2, hk, hw]; rfl)
          clear h1 h2 hm
          go_enter Try.func15, Try.ntmps15
          go_wp2_with (first
    | (go_at_call 12; refine (may12 _ _).mono ?_; rintro e w' ⟨rfl, rfl⟩)
    | (go_at_call 29; refine (control29 _ _).mono ?_; rintro e w' ⟨rfl, rfl⟩)
    | (go_at_call 30; refine (mark30 _ _).mono ?_; rintro e w' ⟨rfl, rfl⟩)
    | (go_at_call 31; refine (wide31 _ _).mono ?_; rintro e w' ⟨rfl, rfl⟩)
    | (refine wrap hs ?_; clear hs; intro w hs)
    | (refine wrapn hs ?_; clear hs; intro w hs)
    | (refine wrapd hs ?_; clear hs; intro w hs))
          go_ret
          exact ⟨ret_int HF.out, rfl⟩
      · have HF := Lib.hid (show width r = 0 by unfold width; rw [if_neg (by simpa using hm), if_neg h1, if_neg h2, hk]; rfl)
        clear h1 h2 hm
        go_enter Try.func15, Try.ntmps15
        go_wp2_with (first
    | (go_at_call 12; refine (may12 _ _).mono ?_; rintro e w' ⟨rfl, rfl⟩)
    | (go_at_call 29; refine (control29 _ _).mono ?_; rintro e w' ⟨rfl, rfl⟩)
    | (go_at_call 30; refine (mark30 _ _).mono ?_; rintro e w' ⟨rfl, rfl⟩)
    | (go_at_call 31; refine (wide31 _ _).mono ?_; rintro e w' ⟨rfl, rfl⟩)
    | (refine wrap hs ?_; clear hs; intro w hs)
    | (refine wrapn hs ?_; clear hs; intro w hs)
    | (refine wrapd hs ?_; clear hs; intro w hs))
        go_ret
        exact ⟨ret_int HF.out, rfl⟩
    · have h1 := hci.1 hc
      have HF := Lib.hid (show width r = 0 by
        unfold width
        rw [if_neg (by simpa using hm)]
        rcases h1 with h1 | h1
        · rw [if_pos h1]
        · rw [if_neg (by omega), if_pos h1])
      clear h1 hci hm
      go_enter Try.func15, Try.ntmps15
      go_wp2_with (first
    | (go_at_call 12; refine (may12 _ _).mono ?_; rintro e w' ⟨rfl, rfl⟩)
    | (go_at_call 29; refine (control29 _ _).mono ?_; rintro e w' ⟨rfl, rfl⟩)
    | (go_at_call 30; refine (mark30 _ _).mono ?_; rintro e w' ⟨rfl, rfl⟩)
    | (go_at_call 31; refine (wide31 _ _).mono ?_; rintro e w' ⟨rfl, rfl⟩)
    | (refine wrap hs ?_; clear hs; intro w hs)
    | (refine wrapn hs ?_; clear hs; intro w hs)
    | (refine wrapd hs ?_; clear hs; intro w hs))
      go_ret
      exact ⟨ret_int HF.out, rfl⟩
  · have em : decide (may r) = false := decide_eq_false hm
    have HF := Lib.hid (show width r = 0 by unfold width; rw [if_pos hm])
    clear hm
    go_enter Try.func15, Try.ntmps15
    go_wp2_with (first
    | (go_at_call 12; refine (may12 _ _).mono ?_; rintro e w' ⟨rfl, rfl⟩)
    | (go_at_call 29; refine (control29 _ _).mono ?_; rintro e w' ⟨rfl, rfl⟩)
    | (go_at_call 30; refine (mark30 _ _).mono ?_; rintro e w' ⟨rfl, rfl⟩)
    | (go_at_call 31; refine (wide31 _ _).mono ?_; rintro e w' ⟨rfl, rfl⟩)
    | (refine wrap hs ?_; clear hs; intro w hs)
    | (refine wrapn hs ?_; clear hs; intro w hs)
    | (refine wrapd hs ?_; clear hs; intro w hs))
    go_ret
    exact ⟨ret_int HF.out, rfl⟩

theorem width14_walk (r v : Int) (m32 m126 m160 mk mw mm : Bool) (e0 : decide (may r) = mm) (e1 : decide (r < 32) = m32) (e2 : decide (126 < r) = m126) (e3 : decide (r < 160) = m160) (e4 : inL marksL r = mk) (e5 : inL widesL r = mw)
    (hv : Hid ((if mm = false then 0 else if m32 = true then 0 else if m126 = true ∧ m160 = true then 0 else if mk = true then 0 else if mw = true then 2 else 1) = v)) (hs : sat W H w) :
    Calls Try.prog 14 #[.int .i32 r] w fun e w' => e = .returned (.int .i64 v) ∧ sat W H w' := by
  cases mm
  · skip
    go_enter Try.func14, Try.ntmps14
    go_wp2_with (first
    | (go_at_call 26; refine (marks26 hs).mono ?_; clear hs; rintro e w ⟨rfl, hs⟩)
    | (go_at_call 27; refine (wides27 hs).mono ?_; clear hs; rintro e w ⟨rfl, hs⟩)
    | (go_at_call 11; refine (may11 _ _).mono ?_; rintro e w' ⟨rfl, rfl⟩)
    | (go_at_call 28; refine (among28 _ _ _ marksL _ (by decide) hs.b1).mono ?_; clear hs; rintro e w ⟨rfl, hs⟩)
    | (go_at_call 28; refine (among28 _ _ _ widesL _ (by decide) hs.b1).mono ?_; clear hs; rintro e w ⟨rfl, hs⟩)
    | (refine wrap hs ?_; clear hs; generalize w.heap.size = z; intro w hs)
    | (apply sts hs.b1; exact rfl; exact rfl; exact rfl; exact rfl; kernel_rfl; decide; kernel_rfl; exact rfl; clear hs; intro w hs; have hs : sat W (cel _ _ (spans marksL) :: _) w := hs)
    | (apply sts hs.b1; exact rfl; exact rfl; exact rfl; exact rfl; kernel_rfl; decide; kernel_rfl; exact rfl; clear hs; intro w hs; have hs : sat W (cel _ _ (spans widesL) :: _) w := hs)
    | (refine wrap hs ?_; clear hs; intro w hs)
    | (refine wrapn hs ?_; clear hs; intro w hs)
    | (refine wrapd hs ?_; clear hs; intro w hs))
    go_ret
    exact ⟨ret_int (by simpa using hv.out.symm), hs.dropN 2⟩
  · cases m32
    · cases m126
      · cases mk
        · cases mw
          · skip
            go_enter Try.func14, Try.ntmps14
            go_wp2_with (first
    | (go_at_call 26; refine (marks26 hs).mono ?_; clear hs; rintro e w ⟨rfl, hs⟩)
    | (go_at_call 27; refine (wides27 hs).mono ?_; clear hs; rintro e w ⟨rfl, hs⟩)
    | (go_at_call 11; refine (may11 _ _).mono ?_; rintro e w' ⟨rfl, rfl⟩)
    | (go_at_call 28; refine (among28 _ _ _ marksL _ (by decide) hs.b1).mono ?_; clear hs; rintro e w ⟨rfl, hs⟩)
    | (go_at_call 28; refine (among28 _ _ _ widesL _ (by decide) hs.b1).mono ?_; clear hs; rintro e w ⟨rfl, hs⟩)
    | (refine wrap hs ?_; clear hs; generalize w.heap.size = z; intro w hs)
    | (apply sts hs.b1; exact rfl; exact rfl; exact rfl; exact rfl; kernel_rfl; decide; kernel_rfl; exact rfl; clear hs; intro w hs; have hs : sat W (cel _ _ (spans marksL) :: _) w := hs)
    | (apply sts hs.b1; exact rfl; exact rfl; exact rfl; exact rfl; kernel_rfl; decide; kernel_rfl; exact rfl; clear hs; intro w hs; have hs : sat W (cel _ _ (spans widesL) :: _) w := hs)
    | (refine wrap hs ?_; clear hs; intro w hs)
    | (refine wrapn hs ?_; clear hs; intro w hs)
    | (refine wrapd hs ?_; clear hs; intro w hs))
            go_ret
            exact ⟨ret_int (by simpa using hv.out.symm), hs.dropN 2⟩
          · skip
            go_enter Try.func14, Try.ntmps14
            go_wp2_with (first
    | (go_at_call 26; refine (marks26 hs).mono ?_; clear hs; rintro e w ⟨rfl, hs⟩)
    | (go_at_call 27; refine (wides27 hs).mono ?_; clear hs; rintro e w ⟨rfl, hs⟩)
    | (go_at_call 11; refine (may11 _ _).mono ?_; rintro e w' ⟨rfl, rfl⟩)
    | (go_at_call 28; refine (among28 _ _ _ marksL _ (by decide) hs.b1).mono ?_; clear hs; rintro e w ⟨rfl, hs⟩)
    | (go_at_call 28; refine (among28 _ _ _ widesL _ (by decide) hs.b1).mono ?_; clear hs; rintro e w ⟨rfl, hs⟩)
    | (refine wrap hs ?_; clear hs; generalize w.heap.size = z; intro w hs)
    | (apply sts hs.b1; exact rfl; exact rfl; exact rfl; exact rfl; kernel_rfl; decide; kernel_rfl; exact rfl; clear hs; intro w hs; have hs : sat W (cel _ _ (spans marksL) :: _) w := hs)
    | (apply sts hs.b1; exact rfl; exact rfl; exact rfl; exact rfl; kernel_rfl; decide; kernel_rfl; exact rfl; clear hs; intro w hs; have hs : sat W (cel _ _ (spans widesL) :: _) w := hs)
    | (refine wrap hs ?_; clear hs; intro w hs)
    | (refine wrapn hs ?_; clear hs; intro w hs)
    | (refine wrapd hs ?_; clear hs; intro w hs))
            go_ret
            exact ⟨ret_int (by simpa using hv.out.symm), hs.dropN 2⟩
        · skip
          go_enter Try.func14, Try.ntmps14
          go_wp2_with (first
    | (go_at_call 26; refine (marks26 hs).mono ?_; clear hs; rintro e w ⟨rfl, hs⟩)
    | (go_at_call 27; refine (wides27 hs).mono ?_; clear hs; rintro e w ⟨rfl, hs⟩)
    | (go_at_call 11; refine (may11 _ _).mono ?_; rintro e w' ⟨rfl, rfl⟩)
    | (go_at_call 28; refine (among28 _ _ _ marksL _ (by decide) hs.b1).mono ?_; clear hs; rintro e w ⟨rfl, hs⟩)
    | (go_at_call 28; refine (among28 _ _ _ widesL _ (by decide) hs.b1).mono ?_; clear hs; rintro e w ⟨rfl, hs⟩)
    | (refine wrap hs ?_; clear hs; generalize w.heap.size = z; intro w hs)
    | (apply sts hs.b1; exact rfl; exact rfl; exact rfl; exact rfl; kernel_rfl; decide; kernel_rfl; exact rfl; clear hs; intro w hs; have hs : sat W (cel _ _ (spans marksL) :: _) w := hs)
    | (apply sts hs.b1; exact rfl; exact rfl; exact rfl; exact rfl; kernel_rfl; decide; kernel_rfl; exact rfl; clear hs; intro w hs; have hs : sat W (cel _ _ (spans widesL) :: _) w := hs)
    | (refine wrap hs ?_; clear hs; intro w hs)
    | (refine wrapn hs ?_; clear hs; intro w hs)
    | (refine wrapd hs ?_; clear hs; intro w hs))
          go_ret
          exact ⟨ret_int (by simpa using hv.out.symm), hs.dropN 2⟩
      · cases m160
        · cases mk
          · cases mw
            · skip
              go_enter Try.func14, Try.ntmps14
              go_wp2_with (first
    | (go_at_call 26; refine (marks26 hs).mono ?_; clear hs; rintro e w ⟨rfl, hs⟩)
    | (go_at_call 27; refine (wides27 hs).mono ?_; clear hs; rintro e w ⟨rfl, hs⟩)
    | (go_at_call 11; refine (may11 _ _).mono ?_; rintro e w' ⟨rfl, rfl⟩)
    | (go_at_call 28; refine (among28 _ _ _ marksL _ (by decide) hs.b1).mono ?_; clear hs; rintro e w ⟨rfl, hs⟩)
    | (go_at_call 28; refine (among28 _ _ _ widesL _ (by decide) hs.b1).mono ?_; clear hs; rintro e w ⟨rfl, hs⟩)
    | (refine wrap hs ?_; clear hs; generalize w.heap.size = z; intro w hs)
    | (apply sts hs.b1; exact rfl; exact rfl; exact rfl; exact rfl; kernel_rfl; decide; kernel_rfl; exact rfl; clear hs; intro w hs; have hs : sat W (cel _ _ (spans marksL) :: _) w := hs)
    | (apply sts hs.b1; exact rfl; exact rfl; exact rfl; exact rfl; kernel_rfl; decide; kernel_rfl; exact rfl; clear hs; intro w hs; have hs : sat W (cel _ _ (spans widesL) :: _) w := hs)
    | (refine wrap hs ?_; clear hs; intro w hs)
    | (refine wrapn hs ?_; clear hs; intro w hs)
    | (refine wrapd hs ?_; clear hs; intro w hs))
              go_ret
              exact ⟨ret_int (by simpa using hv.out.symm), hs.dropN 2⟩
            · skip
              go_enter Try.func14, Try.ntmps14
              go_wp2_with (first
    | (go_at_call 26; refine (marks26 hs).mono ?_; clear hs; rintro e w ⟨rfl, hs⟩)
    | (go_at_call 27; refine (wides27 hs).mono ?_; clear hs; rintro e w ⟨rfl, hs⟩)
    | (go_at_call 11; refine (may11 _ _).mono ?_; rintro e w' ⟨rfl, rfl⟩)
    | (go_at_call 28; refine (among28 _ _ _ marksL _ (by decide) hs.b1).mono ?_; clear hs; rintro e w ⟨rfl, hs⟩)
    | (go_at_call 28; refine (among28 _ _ _ widesL _ (by decide) hs.b1).mono ?_; clear hs; rintro e w ⟨rfl, hs⟩)
    | (refine wrap hs ?_; clear hs; generalize w.heap.size = z; intro w hs)
    | (apply sts hs.b1; exact rfl; exact rfl; exact rfl; exact rfl; kernel_rfl; decide; kernel_rfl; exact rfl; clear hs; intro w hs; have hs : sat W (cel _ _ (spans marksL) :: _) w := hs)
    | (apply sts hs.b1; exact rfl; exact rfl; exact rfl; exact rfl; kernel_rfl; decide; kernel_rfl; exact rfl; clear hs; intro w hs; have hs : sat W (cel _ _ (spans widesL) :: _) w := hs)
    | (refine wrap hs ?_; clear hs; intro w hs)
    | (refine wrapn hs ?_; clear hs; intro w hs)
    | (refine wrapd hs ?_; clear hs; intro w hs))
              go_ret
              exact ⟨ret_int (by simpa using hv.out.symm), hs.dropN 2⟩
          · skip
            go_enter Try.func14, Try.ntmps14
            go_wp2_with (first
    | (go_at_call 26; refine (marks26 hs).mono ?_; clear hs; rintro e w ⟨rfl, hs⟩)
    | (go_at_call 27; refine (wides27 hs).mono ?_; clear hs; rintro e w ⟨rfl, hs⟩)
    | (go_at_call 11; refine (may11 _ _).mono ?_; rintro e w' ⟨rfl, rfl⟩)
    | (go_at_call 28; refine (among28 _ _ _ marksL _ (by decide) hs.b1).mono ?_; clear hs; rintro e w ⟨rfl, hs⟩)
    | (go_at_call 28; refine (among28 _ _ _ widesL _ (by decide) hs.b1).mono ?_; clear hs; rintro e w ⟨rfl, hs⟩)
    | (refine wrap hs ?_; clear hs; generalize w.heap.size = z; intro w hs)
    | (apply sts hs.b1; exact rfl; exact rfl; exact rfl; exact rfl; kernel_rfl; decide; kernel_rfl; exact rfl; clear hs; intro w hs; have hs : sat W (cel _ _ (spans marksL) :: _) w := hs)
    | (apply sts hs.b1; exact rfl; exact rfl; exact rfl; exact rfl; kernel_rfl; decide; kernel_rfl; exact rfl; clear hs; intro w hs; have hs : sat W (cel _ _ (spans widesL) :: _) w := hs)
    | (refine wrap hs ?_; clear hs; intro w hs)
    | (refine wrapn hs ?_; clear hs; intro w hs)
    | (refine wrapd hs ?_; clear hs; intro w hs))
            go_ret
            exact ⟨ret_int (by simpa using hv.out.symm), hs.dropN 2⟩
        · skip
          go_enter Try.func14, Try.ntmps14
          go_wp2_with (first
    | (go_at_call 26; refine (marks26 hs).mono ?_; clear hs; rintro e w ⟨rfl, hs⟩)
    | (go_at_call 27; refine (wides27 hs).mono ?_; clear hs; rintro e w ⟨rfl, hs⟩)
    | (go_at_call 11; refine (may11 _ _).mono ?_; rintro e w' ⟨rfl, rfl⟩)
    | (go_at_call 28; refine (among28 _ _ _ marksL _ (by decide) hs.b1).mono ?_; clear hs; rintro e w ⟨rfl, hs⟩)
    | (go_at_call 28; refine (among28 _ _ _ widesL _ (by decide) hs.b1).mono ?_; clear hs; rintro e w ⟨rfl, hs⟩)
    | (refine wrap hs ?_; clear hs; generalize w.heap.size = z; intro w hs)
    | (apply sts hs.b1; exact rfl; exact rfl; exact rfl; exact rfl; kernel_rfl; decide; kernel_rfl; exact rfl; clear hs; intro w hs; have hs : sat W (cel _ _ (spans marksL) :: _) w := hs)
    | (apply sts hs.b1; exact rfl; exact rfl; exact rfl; exact rfl; kernel_rfl; decide; kernel_rfl; exact rfl; clear hs; intro w hs; have hs : sat W (cel _ _ (spans widesL) :: _) w := hs)
    | (refine wrap hs ?_; clear hs; intro w hs)
    | (refine wrapn hs ?_; clear hs; intro w hs)
    | (refine wrapd hs ?_; clear hs; intro w hs))
          go_ret
          exact ⟨ret_int (by simpa using hv.out.symm), hs.dropN 2⟩
    · skip
      go_enter Try.func14, Try.ntmps14
      go_wp2_with (first
    | (go_at_call 26; refine (marks26 hs).mono ?_; clear hs; rintro e w ⟨rfl, hs⟩)
    | (go_at_call 27; refine (wides27 hs).mono ?_; clear hs; rintro e w ⟨rfl, hs⟩)
    | (go_at_call 11; refine (may11 _ _).mono ?_; rintro e w' ⟨rfl, rfl⟩)
    | (go_at_call 28; refine (among28 _ _ _ marksL _ (by decide) hs.b1).mono ?_; clear hs; rintro e w ⟨rfl, hs⟩)
    | (go_at_call 28; refine (among28 _ _ _ widesL _ (by decide) hs.b1).mono ?_; clear hs; rintro e w ⟨rfl, hs⟩)
    | (refine wrap hs ?_; clear hs; generalize w.heap.size = z; intro w hs)
    | (apply sts hs.b1; exact rfl; exact rfl; exact rfl; exact rfl; kernel_rfl; decide; kernel_rfl; exact rfl; clear hs; intro w hs; have hs : sat W (cel _ _ (spans marksL) :: _) w := hs)
    | (apply sts hs.b1; exact rfl; exact rfl; exact rfl; exact rfl; kernel_rfl; decide; kernel_rfl; exact rfl; clear hs; intro w hs; have hs : sat W (cel _ _ (spans widesL) :: _) w := hs)
    | (refine wrap hs ?_; clear hs; intro w hs)
    | (refine wrapn hs ?_; clear hs; intro w hs)
    | (refine wrapd hs ?_; clear hs; intro w hs))
      go_ret
      exact ⟨ret_int (by simpa using hv.out.symm), hs.dropN 2⟩
theorem width14 (r : Int) (hs : sat W H w) : Calls Try.prog 14 #[.int .i32 r] w fun e w' => e = .returned (.int .i64 (width r)) ∧ sat W H w' :=
  width14_walk r (width r) _ _ _ _ _ _ rfl rfl rfl rfl rfl rfl (show _ = width r by unfold width; simp only [decide_eq_false_iff_not, decide_eq_true_eq]) hs
end Go.Proofs.Ytjchjdlapacknaa
