import Derived.Test.YtkmbgnonpnhfcaaS2
import Derived.Test.YtkmbgnonpnhfcaaSx
namespace Go.Proofs.Ytkmbgnonpnhfcaa
open Go.RowKit Go.Mem Go.Sgr
variable {W w : World} {H : List HProp}
/-- The flags behind j of the flags' numbers. -/
def flj (n fl : Int) : Nat → Int
  | 0 => fl
  | j + 1 => if n = no j then orF (flj n fl j) ((2 ^ j : Nat) : Int) else flj n fl j
theorem flj_on (n fl : Int) : flj n fl 8 = if on n = 0 then fl else orF fl (on n) := by
  by_cases h : n = 1 ∨ n = 2 ∨ n = 3 ∨ n = 4 ∨ n = 5 ∨ n = 7 ∨ n = 8 ∨ n = 9
  · rcases h with rfl | rfl | rfl | rfl | rfl | rfl | rfl | rfl
    all_goals
      simp only [flj, no, on]
      simp
  · have h1 : n ≠ 1 := fun e => h (by omega)
    have h2 : n ≠ 2 := fun e => h (by omega)
    have h3 : n ≠ 3 := fun e => h (by omega)
    have h4 : n ≠ 4 := fun e => h (by omega)
    have h5 : n ≠ 5 := fun e => h (by omega)
    have h7 : n ≠ 7 := fun e => h (by omega)
    have h8 : n ≠ 8 := fun e => h (by omega)
    have h9 : n ≠ 9 := fun e => h (by omega)
    simp only [flj, no, on]
    simp [h1, h2, h3, h4, h5, h7, h8, h9]
theorem no_get (j : Nat) (h : j < 8) : (#[Value.int .i64 1, .int .i64 2, .int .i64 3, .int .i64 4, .int .i64 5, .int .i64 7, .int .i64 8, .int .i64 9] : Array Value)[j]? = some (.int .i64 (no j)) := by
  have : j = 0 ∨ j = 1 ∨ j = 2 ∨ j = 3 ∨ j = 4 ∨ j = 5 ∨ j = 6 ∨ j = 7 := by omega
  rcases this with rfl | rfl | rfl | rfl | rfl | rfl | rfl | rfl <;> rfl
theorem flj_zero (n fl : Int) : fl = flj n fl 0 := rfl
theorem flj_yes {n fl : Int} {j : Nat} (h : n = no j) : flj n fl (j + 1) = orF (flj n fl j) ((2 ^ j : Nat) : Int) := by show (if n = no j then _ else _) = _; rw [if_pos h]
theorem flj_no {n fl : Int} {j : Nat} (h : n ≠ no j) : flj n fl (j + 1) = flj n fl j := by show (if n = no j then _ else _) = _; rw [if_neg h]
attribute [local irreducible] World.setCell World.alloc World.drew World.drewN Calls sat cel own blk old wpQuiet flj no
set_option maxHeartbeats 4000000 in
theorem plain15 (a : At) (h : wf a) (n : Int) (hs : sat W H w) : Calls Try.prog 15 #[atV a, .int .i64 n] w fun e w' => e = .returned (atV (plain a n)) ∧ sat W H w' := by
  obtain ⟨fg, bg, fl⟩ := a
  go_enter Try.func15, Try.ntmps15
  go_wp2_with (first | (go_at_call 22; refine (flags22 hs).mono ?_; clear hs; rintro e w ⟨rfl, hs⟩) | ((with_reducible refine isl ?_); first | ((with_reducible refine wrap hs ?_); clear hs; (first | (have _t := z2; clear _t; generalize w.heap.size = z4) | generalize w.heap.size = z2); intro w hs) | ((with_reducible refine wrap hs ?_); clear hs; intro w hs) | ((with_reducible refine wrapn hs ?_); clear hs; intro w hs) | ((with_reducible refine wrapd hs ?_); clear hs; intro w hs)))
  go_loopw [5, 6, 8] (fun _ _ i wr => ∃ (j : Nat) (x : Int), j ≤ 8 ∧ i = .int .i64 j ∧ Hid (x = flj n fl j) ∧ sat W (cel z2 25 (atL ⟨fg, bg, x⟩) :: cel z4 25 (atL zero) :: H) wr) (fun _ _ i _ => 8 - (intOf i).toNat)
  case atStart => exact ⟨0, fl, Nat.zero_le _, rfl, Lib.hid (flj_zero n fl), hs.b1⟩
  case round =>
    clear hs
    obtain ⟨j, x, hj, rfl, hx, hs⟩ := hrel
    by_cases hlt : j < 8
    · have HG := Lib.hid (no_get j hlt)
      generalize hno : no j = m at *
      have HY : Hid (n = m → orF x ((2 ^ j : Nat) : Int) = flj n fl (j + 1)) := Lib.hid fun e => by rw [flj_yes (e.trans hno.symm), ← hx.out]
      have HN : Hid (n ≠ m → x = flj n fl (j + 1)) := Lib.hid fun e => by rw [flj_no (fun e2 => e (e2.trans hno)), ← hx.out]
      clear hno
      by_cases hn : n = m
      · have HY2 := Lib.hid (HY.out hn)
        subst hn
        have hj8 : j = 0 ∨ j = 1 ∨ j = 2 ∨ j = 3 ∨ j = 4 ∨ j = 5 ∨ j = 6 ∨ j = 7 := by omega
        rcases hj8 with rfl | rfl | rfl | rfl | rfl | rfl | rfl | rfl
        all_goals
          go_wp2_with (first | (apply ixi; exact rfl; exact rfl; exact rfl; exact rfl; exact Try.underlying49; kernel_rfl; decide; decide; exact HG.out) | ((try simp only [Act.put, List.setIfInBounds_toArray, List.set_cons_succ, List.set_cons_zero]); refine region_tail 6 hs (by kernel_rfl) (by kernel_rfl) ?_; simp only [List.take_succ_cons, List.take_zero, List.drop_succ_cons, List.drop_zero]; clear hs; intro w hs; (repeat (first | ((with_reducible apply ldt hs.b0); exact rfl; exact rfl; exact rfl; exact rfl; kernel_rfl; (try simp only [Act.put, List.setIfInBounds_toArray, List.set_cons_succ, List.set_cons_zero])) | ((with_reducible apply ldt hs.b1); exact rfl; exact rfl; exact rfl; exact rfl; kernel_rfl; (try simp only [Act.put, List.setIfInBounds_toArray, List.set_cons_succ, List.set_cons_zero])) | go_big_quiet_step (fail))); refine wpQuiet_nil ?_) | ((with_reducible refine isl ?_); first | ((with_reducible apply ld hs.b0); exact rfl; exact rfl; exact rfl; exact rfl; kernel_rfl) | ((with_reducible apply ld hs.b1); exact rfl; exact rfl; exact rfl; exact rfl; kernel_rfl) | ((with_reducible apply st hs.b0); exact rfl; exact rfl; exact rfl; exact rfl; exact rfl; exact rfl; kernel_rfl; exact rfl; clear hs; intro w hs) | ((with_reducible apply st hs.b1); exact rfl; exact rfl; exact rfl; exact rfl; exact rfl; exact rfl; kernel_rfl; exact rfl; clear hs; intro w hs) | ((with_reducible apply stc hs.b0); exact rfl; exact rfl; exact rfl; exact rfl; exact rfl; kernel_rfl; exact rfl; clear hs; intro w hs) | ((with_reducible apply stc hs.b1); exact rfl; exact rfl; exact rfl; exact rfl; exact rfl; kernel_rfl; exact rfl; clear hs; intro w hs) | ((with_reducible refine wrap hs ?_); clear hs; intro w hs) | ((with_reducible refine wrapn hs ?_); clear hs; intro w hs) | ((with_reducible refine wrapd hs ?_); clear hs; intro w hs)))
          go_roundw
          case rel => refine ⟨_, _, ?_, ?_, Lib.hid HY2.out, hs⟩; decide; rfl
          case measure => simp [intOf]
      · have HN2 := Lib.hid (HN.out hn)
        go_wp2_with (first | (apply ixi; exact rfl; exact rfl; exact rfl; exact rfl; exact Try.underlying49; kernel_rfl; omega; omega; exact HG.out) | ((try simp only [Act.put, List.setIfInBounds_toArray, List.set_cons_succ, List.set_cons_zero]); refine region_tail 6 hs (by kernel_rfl) (by kernel_rfl) ?_; simp only [List.take_succ_cons, List.take_zero, List.drop_succ_cons, List.drop_zero]; clear hs; intro w hs; (repeat (first | ((with_reducible apply ldt hs.b0); exact rfl; exact rfl; exact rfl; exact rfl; kernel_rfl; (try simp only [Act.put, List.setIfInBounds_toArray, List.set_cons_succ, List.set_cons_zero])) | ((with_reducible apply ldt hs.b1); exact rfl; exact rfl; exact rfl; exact rfl; kernel_rfl; (try simp only [Act.put, List.setIfInBounds_toArray, List.set_cons_succ, List.set_cons_zero])) | go_big_quiet_step (fail))); refine wpQuiet_nil ?_) | ((with_reducible refine isl ?_); first | ((with_reducible apply ld hs.b0); exact rfl; exact rfl; exact rfl; exact rfl; kernel_rfl) | ((with_reducible apply ld hs.b1); exact rfl; exact rfl; exact rfl; exact rfl; kernel_rfl) | ((with_reducible apply st hs.b0); exact rfl; exact rfl; exact rfl; exact rfl; exact rfl; exact rfl; kernel_rfl; exact rfl; clear hs; intro w hs) | ((with_reducible apply st hs.b1); exact rfl; exact rfl; exact rfl; exact rfl; exact rfl; exact rfl; kernel_rfl; exact rfl; clear hs; intro w hs) | ((with_reducible apply stc hs.b0); exact rfl; exact rfl; exact rfl; exact rfl; exact rfl; kernel_rfl; exact rfl; clear hs; intro w hs) | ((with_reducible apply stc hs.b1); exact rfl; exact rfl; exact rfl; exact rfl; exact rfl; kernel_rfl; exact rfl; clear hs; intro w hs) | ((with_reducible refine wrap hs ?_); clear hs; intro w hs) | ((with_reducible refine wrapn hs ?_); clear hs; intro w hs) | ((with_reducible refine wrapd hs ?_); clear hs; intro w hs)))
        go_roundw
        case rel => exact ⟨j + 1, x, by omega, by go_num, HN2, hs⟩
        case measure => simp [intOf]; omega
    · obtain rfl : j = 8 := by omega
      have HX := Lib.hid (hx.out.trans (flj_on n fl))
      clear hx
      have hc : (n = 0 ∨ n = 22 ∨ n = 23 ∨ n = 24 ∨ n = 25 ∨ n = 27 ∨ n = 28 ∨ n = 29 ∨ n = 39 ∨ n = 49) ∨ (n = 1 ∨ n = 2 ∨ n = 3 ∨ n = 4 ∨ n = 5 ∨ n = 7 ∨ n = 8 ∨ n = 9) ∨ (30 ≤ n ∧ n ≤ 37) ∨ (40 ≤ n ∧ n ≤ 47) ∨ (90 ≤ n ∧ n ≤ 97) ∨ (100 ≤ n ∧ n ≤ 107) ∨ (n < 0 ∨ n = 6 ∨ (10 ≤ n ∧ n ≤ 21) ∨ n = 26 ∨ n = 38 ∨ n = 48 ∨ (50 ≤ n ∧ n ≤ 89) ∨ n = 98 ∨ n = 99 ∨ 107 < n) := by omega
      rcases hc with hc | hc | hc | hc | hc | hc | hc
      · rcases hc with rfl | rfl | rfl | rfl | rfl | rfl | rfl | rfl | rfl | rfl
        all_goals
          obtain rfl : x = fl := HX.out
          go_wp2_with (first | ((try simp only [Act.put, List.setIfInBounds_toArray, List.set_cons_succ, List.set_cons_zero]); refine region_tail 7 hs (by kernel_rfl) (by kernel_rfl) ?_; simp only [List.take_succ_cons, List.take_zero, List.drop_succ_cons, List.drop_zero]; clear hs; intro w hs; (repeat (first | ((with_reducible apply ldt hs.b0); exact rfl; exact rfl; exact rfl; exact rfl; kernel_rfl; (try simp only [Act.put, List.setIfInBounds_toArray, List.set_cons_succ, List.set_cons_zero])) | ((with_reducible apply ldt hs.b1); exact rfl; exact rfl; exact rfl; exact rfl; kernel_rfl; (try simp only [Act.put, List.setIfInBounds_toArray, List.set_cons_succ, List.set_cons_zero])) | go_big_quiet_step (fail))); refine wpQuiet_nil ?_) | ((with_reducible refine isl ?_); first | ((with_reducible apply lds 3 hs.b0); exact rfl; exact rfl; exact rfl; kernel_rfl; exact rfl; exact rfl) | ((with_reducible apply lds 3 hs.b1); exact rfl; exact rfl; exact rfl; kernel_rfl; exact rfl; exact rfl) | ((with_reducible apply sts hs.b0); exact rfl; exact rfl; exact rfl; exact rfl; (show rowTy _ _ 3 = true; kernel_rfl); exact Nat.le_refl _; exact rfl; exact rfl; clear hs; intro w hs) | ((with_reducible apply sts hs.b1); exact rfl; exact rfl; exact rfl; exact rfl; (show rowTy _ _ 3 = true; kernel_rfl); exact Nat.le_refl _; exact rfl; exact rfl; clear hs; intro w hs) | ((with_reducible apply ld hs.b0); exact rfl; exact rfl; exact rfl; exact rfl; kernel_rfl) | ((with_reducible apply ld hs.b1); exact rfl; exact rfl; exact rfl; exact rfl; kernel_rfl) | ((with_reducible apply st hs.b0); exact rfl; exact rfl; exact rfl; exact rfl; exact rfl; exact rfl; kernel_rfl; exact rfl; clear hs; intro w hs) | ((with_reducible apply st hs.b1); exact rfl; exact rfl; exact rfl; exact rfl; exact rfl; exact rfl; kernel_rfl; exact rfl; clear hs; intro w hs) | ((with_reducible apply stc hs.b0); exact rfl; exact rfl; exact rfl; exact rfl; exact rfl; kernel_rfl; exact rfl; clear hs; intro w hs) | ((with_reducible apply stc hs.b1); exact rfl; exact rfl; exact rfl; exact rfl; exact rfl; kernel_rfl; exact rfl; clear hs; intro w hs) | ((with_reducible refine wrap hs ?_); clear hs; intro w hs) | ((with_reducible refine wrapn hs ?_); clear hs; intro w hs) | ((with_reducible refine wrapd hs ?_); clear hs; intro w hs)))
          refine ret_cell hs rfl rfl rfl (by kernel_rfl) ?_
          exact ⟨rfl, hs.drop.drop⟩
      · rcases hc with rfl | rfl | rfl | rfl | rfl | rfl | rfl | rfl
        all_goals
          obtain rfl : x = _ := HX.out
          clear HX
          go_wp2_with (first | ((with_reducible refine isl ?_); first | ((with_reducible apply lds 3 hs.b0); exact rfl; exact rfl; exact rfl; kernel_rfl; exact rfl; exact rfl) | ((with_reducible apply lds 3 hs.b1); exact rfl; exact rfl; exact rfl; kernel_rfl; exact rfl; exact rfl) | ((with_reducible apply sts hs.b0); exact rfl; exact rfl; exact rfl; exact rfl; (show rowTy _ _ 3 = true; kernel_rfl); exact Nat.le_refl _; exact rfl; exact rfl; clear hs; intro w hs) | ((with_reducible apply sts hs.b1); exact rfl; exact rfl; exact rfl; exact rfl; (show rowTy _ _ 3 = true; kernel_rfl); exact Nat.le_refl _; exact rfl; exact rfl; clear hs; intro w hs) | ((with_reducible apply ld hs.b0); exact rfl; exact rfl; exact rfl; exact rfl; kernel_rfl) | ((with_reducible apply ld hs.b1); exact rfl; exact rfl; exact rfl; exact rfl; kernel_rfl) | ((with_reducible apply st hs.b0); exact rfl; exact rfl; exact rfl; exact rfl; exact rfl; exact rfl; kernel_rfl; exact rfl; clear hs; intro w hs) | ((with_reducible apply st hs.b1); exact rfl; exact rfl; exact rfl; exact rfl; exact rfl; exact rfl; kernel_rfl; exact rfl; clear hs; intro w hs) | ((with_reducible apply stc hs.b0); exact rfl; exact rfl; exact rfl; exact rfl; exact rfl; kernel_rfl; exact rfl; clear hs; intro w hs) | ((with_reducible apply stc hs.b1); exact rfl; exact rfl; exact rfl; exact rfl; exact rfl; kernel_rfl; exact rfl; clear hs; intro w hs) | ((with_reducible refine wrap hs ?_); clear hs; intro w hs) | ((with_reducible refine wrapn hs ?_); clear hs; intro w hs) | ((with_reducible refine wrapd hs ?_); clear hs; intro w hs)))
          refine ret_cell hs rfl rfl rfl (by kernel_rfl) ?_
          exact ⟨rfl, hs.drop.drop⟩
      · obtain ⟨c1, c2⟩ := hc
        have HP := Lib.hid (plain_hi ⟨fg, bg, fl⟩ n (by omega))
        obtain rfl : x = fl := by rw [HX.out, if_pos (on_zero n (by omega))]
        clear HX
        go_wp2_with (first | ((with_reducible refine isl ?_); first | ((with_reducible apply lds 3 hs.b0); exact rfl; exact rfl; exact rfl; kernel_rfl; exact rfl; exact rfl) | ((with_reducible apply lds 3 hs.b1); exact rfl; exact rfl; exact rfl; kernel_rfl; exact rfl; exact rfl) | ((with_reducible apply sts hs.b0); exact rfl; exact rfl; exact rfl; exact rfl; (show rowTy _ _ 3 = true; kernel_rfl); exact Nat.le_refl _; exact rfl; exact rfl; clear hs; intro w hs) | ((with_reducible apply sts hs.b1); exact rfl; exact rfl; exact rfl; exact rfl; (show rowTy _ _ 3 = true; kernel_rfl); exact Nat.le_refl _; exact rfl; exact rfl; clear hs; intro w hs) | ((with_reducible apply ld hs.b0); exact rfl; exact rfl; exact rfl; exact rfl; kernel_rfl) | ((with_reducible apply ld hs.b1); exact rfl; exact rfl; exact rfl; exact rfl; kernel_rfl) | ((with_reducible apply st hs.b0); exact rfl; exact rfl; exact rfl; exact rfl; exact rfl; exact rfl; kernel_rfl; exact rfl; clear hs; intro w hs) | ((with_reducible apply st hs.b1); exact rfl; exact rfl; exact rfl; exact rfl; exact rfl; exact rfl; kernel_rfl; exact rfl; clear hs; intro w hs) | ((with_reducible apply stc hs.b0); exact rfl; exact rfl; exact rfl; exact rfl; exact rfl; kernel_rfl; exact rfl; clear hs; intro w hs) | ((with_reducible apply stc hs.b1); exact rfl; exact rfl; exact rfl; exact rfl; exact rfl; kernel_rfl; exact rfl; clear hs; intro w hs) | ((with_reducible refine wrap hs ?_); clear hs; intro w hs) | ((with_reducible refine wrapn hs ?_); clear hs; intro w hs) | ((with_reducible refine wrapd hs ?_); clear hs; intro w hs)))
        refine ret_cell hs rfl rfl rfl (by kernel_rfl) ?_
        exact ⟨by rw [HP.out]; (repeat rw [if_neg (by omega)]); rw [if_pos (by omega)]; rfl, hs.drop.drop⟩
      · obtain ⟨c1, c2⟩ := hc
        have HP := Lib.hid (plain_hi ⟨fg, bg, fl⟩ n (by omega))
        obtain rfl : x = fl := by rw [HX.out, if_pos (on_zero n (by omega))]
        clear HX
        go_wp2_with (first | ((with_reducible refine isl ?_); first | ((with_reducible apply lds 3 hs.b0); exact rfl; exact rfl; exact rfl; kernel_rfl; exact rfl; exact rfl) | ((with_reducible apply lds 3 hs.b1); exact rfl; exact rfl; exact rfl; kernel_rfl; exact rfl; exact rfl) | ((with_reducible apply sts hs.b0); exact rfl; exact rfl; exact rfl; exact rfl; (show rowTy _ _ 3 = true; kernel_rfl); exact Nat.le_refl _; exact rfl; exact rfl; clear hs; intro w hs) | ((with_reducible apply sts hs.b1); exact rfl; exact rfl; exact rfl; exact rfl; (show rowTy _ _ 3 = true; kernel_rfl); exact Nat.le_refl _; exact rfl; exact rfl; clear hs; intro w hs) | ((with_reducible apply ld hs.b0); exact rfl; exact rfl; exact rfl; exact rfl; kernel_rfl) | ((with_reducible apply ld hs.b1); exact rfl; exact rfl; exact rfl; exact rfl; kernel_rfl) | ((with_reducible apply st hs.b0); exact rfl; exact rfl; exact rfl; exact rfl; exact rfl; exact rfl; kernel_rfl; exact rfl; clear hs; intro w hs) | ((with_reducible apply st hs.b1); exact rfl; exact rfl; exact rfl; exact rfl; exact rfl; exact rfl; kernel_rfl; exact rfl; clear hs; intro w hs) | ((with_reducible apply stc hs.b0); exact rfl; exact rfl; exact rfl; exact rfl; exact rfl; kernel_rfl; exact rfl; clear hs; intro w hs) | ((with_reducible apply stc hs.b1); exact rfl; exact rfl; exact rfl; exact rfl; exact rfl; kernel_rfl; exact rfl; clear hs; intro w hs) | ((with_reducible refine wrap hs ?_); clear hs; intro w hs) | ((with_reducible refine wrapn hs ?_); clear hs; intro w hs) | ((with_reducible refine wrapd hs ?_); clear hs; intro w hs)))
        refine ret_cell hs rfl rfl rfl (by kernel_rfl) ?_
        exact ⟨by rw [HP.out]; (repeat rw [if_neg (by omega)]); rw [if_pos (by omega)]; rfl, hs.drop.drop⟩
      · obtain ⟨c1, c2⟩ := hc
        have HP := Lib.hid (plain_hi ⟨fg, bg, fl⟩ n (by omega))
        obtain rfl : x = fl := by rw [HX.out, if_pos (on_zero n (by omega))]
        clear HX
        go_wp2_with (first | ((with_reducible refine isl ?_); first | ((with_reducible apply lds 3 hs.b0); exact rfl; exact rfl; exact rfl; kernel_rfl; exact rfl; exact rfl) | ((with_reducible apply lds 3 hs.b1); exact rfl; exact rfl; exact rfl; kernel_rfl; exact rfl; exact rfl) | ((with_reducible apply sts hs.b0); exact rfl; exact rfl; exact rfl; exact rfl; (show rowTy _ _ 3 = true; kernel_rfl); exact Nat.le_refl _; exact rfl; exact rfl; clear hs; intro w hs) | ((with_reducible apply sts hs.b1); exact rfl; exact rfl; exact rfl; exact rfl; (show rowTy _ _ 3 = true; kernel_rfl); exact Nat.le_refl _; exact rfl; exact rfl; clear hs; intro w hs) | ((with_reducible apply ld hs.b0); exact rfl; exact rfl; exact rfl; exact rfl; kernel_rfl) | ((with_reducible apply ld hs.b1); exact rfl; exact rfl; exact rfl; exact rfl; kernel_rfl) | ((with_reducible apply st hs.b0); exact rfl; exact rfl; exact rfl; exact rfl; exact rfl; exact rfl; kernel_rfl; exact rfl; clear hs; intro w hs) | ((with_reducible apply st hs.b1); exact rfl; exact rfl; exact rfl; exact rfl; exact rfl; exact rfl; kernel_rfl; exact rfl; clear hs; intro w hs) | ((with_reducible apply stc hs.b0); exact rfl; exact rfl; exact rfl; exact rfl; exact rfl; kernel_rfl; exact rfl; clear hs; intro w hs) | ((with_reducible apply stc hs.b1); exact rfl; exact rfl; exact rfl; exact rfl; exact rfl; kernel_rfl; exact rfl; clear hs; intro w hs) | ((with_reducible refine wrap hs ?_); clear hs; intro w hs) | ((with_reducible refine wrapn hs ?_); clear hs; intro w hs) | ((with_reducible refine wrapd hs ?_); clear hs; intro w hs)))
        refine ret_cell hs rfl rfl rfl (by kernel_rfl) ?_
        exact ⟨by rw [HP.out]; (repeat rw [if_neg (by omega)]); rw [if_pos (by omega)]; rfl, hs.drop.drop⟩
      · obtain ⟨c1, c2⟩ := hc
        have HP := Lib.hid (plain_hi ⟨fg, bg, fl⟩ n (by omega))
        obtain rfl : x = fl := by rw [HX.out, if_pos (on_zero n (by omega))]
        clear HX
        go_wp2_with (first | ((with_reducible refine isl ?_); first | ((with_reducible apply lds 3 hs.b0); exact rfl; exact rfl; exact rfl; kernel_rfl; exact rfl; exact rfl) | ((with_reducible apply lds 3 hs.b1); exact rfl; exact rfl; exact rfl; kernel_rfl; exact rfl; exact rfl) | ((with_reducible apply sts hs.b0); exact rfl; exact rfl; exact rfl; exact rfl; (show rowTy _ _ 3 = true; kernel_rfl); exact Nat.le_refl _; exact rfl; exact rfl; clear hs; intro w hs) | ((with_reducible apply sts hs.b1); exact rfl; exact rfl; exact rfl; exact rfl; (show rowTy _ _ 3 = true; kernel_rfl); exact Nat.le_refl _; exact rfl; exact rfl; clear hs; intro w hs) | ((with_reducible apply ld hs.b0); exact rfl; exact rfl; exact rfl; exact rfl; kernel_rfl) | ((with_reducible apply ld hs.b1); exact rfl; exact rfl; exact rfl; exact rfl; kernel_rfl) | ((with_reducible apply st hs.b0); exact rfl; exact rfl; exact rfl; exact rfl; exact rfl; exact rfl; kernel_rfl; exact rfl; clear hs; intro w hs) | ((with_reducible apply st hs.b1); exact rfl; exact rfl; exact rfl; exact rfl; exact rfl; exact rfl; kernel_rfl; exact rfl; clear hs; intro w hs) | ((with_reducible apply stc hs.b0); exact rfl; exact rfl; exact rfl; exact rfl; exact rfl; kernel_rfl; exact rfl; clear hs; intro w hs) | ((with_reducible apply stc hs.b1); exact rfl; exact rfl; exact rfl; exact rfl; exact rfl; kernel_rfl; exact rfl; clear hs; intro w hs) | ((with_reducible refine wrap hs ?_); clear hs; intro w hs) | ((with_reducible refine wrapn hs ?_); clear hs; intro w hs) | ((with_reducible refine wrapd hs ?_); clear hs; intro w hs)))
        refine ret_cell hs rfl rfl rfl (by kernel_rfl) ?_
        exact ⟨by rw [HP.out]; (repeat rw [if_neg (by omega)]); rw [if_pos (by omega)]; rfl, hs.drop.drop⟩
      · have HP : Hid (plain ⟨fg, bg, fl⟩ n = ⟨fg, bg, x⟩) := Lib.hid (by
          have e0 : on n = 0 := by unfold on; repeat' rw [if_neg (by omega)]
          have e1 : off n = 0 := by unfold off; repeat' rw [if_neg (by omega)]
          unfold plain
          rw [e0, e1, HX.out, e0]
          simp only [ne_eq, not_true, if_false, if_true]
          repeat' rw [if_neg (by omega)])
        have e1 : n ≠ 39 := by omega
        have e2 : n ≠ 49 := by omega
        clear HX
        rcases hc with hc | rfl | ⟨hc, hd⟩ | rfl | rfl | rfl | ⟨hc, hd⟩ | rfl | rfl | hc
        all_goals
          go_wp2_with (first | ((with_reducible refine isl ?_); first | ((with_reducible apply lds 3 hs.b0); exact rfl; exact rfl; exact rfl; kernel_rfl; exact rfl; exact rfl) | ((with_reducible apply lds 3 hs.b1); exact rfl; exact rfl; exact rfl; kernel_rfl; exact rfl; exact rfl) | ((with_reducible apply sts hs.b0); exact rfl; exact rfl; exact rfl; exact rfl; (show rowTy _ _ 3 = true; kernel_rfl); exact Nat.le_refl _; exact rfl; exact rfl; clear hs; intro w hs) | ((with_reducible apply sts hs.b1); exact rfl; exact rfl; exact rfl; exact rfl; (show rowTy _ _ 3 = true; kernel_rfl); exact Nat.le_refl _; exact rfl; exact rfl; clear hs; intro w hs) | ((with_reducible apply ld hs.b0); exact rfl; exact rfl; exact rfl; exact rfl; kernel_rfl) | ((with_reducible apply ld hs.b1); exact rfl; exact rfl; exact rfl; exact rfl; kernel_rfl) | ((with_reducible apply st hs.b0); exact rfl; exact rfl; exact rfl; exact rfl; exact rfl; exact rfl; kernel_rfl; exact rfl; clear hs; intro w hs) | ((with_reducible apply st hs.b1); exact rfl; exact rfl; exact rfl; exact rfl; exact rfl; exact rfl; kernel_rfl; exact rfl; clear hs; intro w hs) | ((with_reducible apply stc hs.b0); exact rfl; exact rfl; exact rfl; exact rfl; exact rfl; kernel_rfl; exact rfl; clear hs; intro w hs) | ((with_reducible apply stc hs.b1); exact rfl; exact rfl; exact rfl; exact rfl; exact rfl; kernel_rfl; exact rfl; clear hs; intro w hs) | ((with_reducible refine wrap hs ?_); clear hs; intro w hs) | ((with_reducible refine wrapn hs ?_); clear hs; intro w hs) | ((with_reducible refine wrapd hs ?_); clear hs; intro w hs)))
          refine ret_cell hs rfl rfl rfl (by kernel_rfl) ?_
          exact ⟨by rw [HP.out]; rfl, hs.drop.drop⟩
end Go.Proofs.Ytkmbgnonpnhfcaa
