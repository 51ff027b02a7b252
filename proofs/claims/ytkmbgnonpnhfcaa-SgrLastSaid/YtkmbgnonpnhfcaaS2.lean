import Derived.Test.YtkmbgnonpnhfcaaProg
import Derived.Test.YtkmbgnonpnhfcaaSr
import Derived.Test.YtkmbgnonpnhfcaaSv
import Derived.Test.YtkmbgnonpnhfcaaS1
import Derived.Laws.BitsAllLaws
import Derived.Outline
namespace Go.Proofs.Ytkmbgnonpnhfcaa
open Go.RowKit Go.Mem Go.Sgr
variable {W w : World} {H : List HProp}
/-- An attribute as a value, as cells. -/
abbrev atL (a : At) : List Value := [.int .u32 a.fg, .int .u32 a.bg, .int .u16 a.fl]
abbrev atV (a : At) : Value := .agg #[.int .u32 a.fg, .int .u32 a.bg, .int .u16 a.fl]
theorem beq_no {n k : Int} (h : n ≠ k) : (n == k) = false := by simpa using h
theorem slty26 : SlTy Try.prog 26 3 1 8 := ⟨Try.underlying26, by obtain ⟨i0, hi, hz0, hz1, hz2⟩ := info_parts (show (Try.prog.info? 3).map (fun i => (i.zero, i.size, i.bytes)) = some (some (.int .i64 0), 1, 8) by kernel_rfl); exact ⟨i0, _, hi, hz0, hz1, hz2, rfl⟩, by decide⟩
attribute [local irreducible] World.setCell World.alloc World.drew World.drewN Calls sat cel own blk old wpQuiet

/-! ## Colours -/
def colB (c : Int) : Bool := decide (colour c)
theorem colB_yes {c : Int} (h : colour c) : colB c = true := by unfold colB; exact decide_eq_true h
theorem colB_no {c : Int} (h : ¬colour c) : colB c = false := by unfold colB; exact decide_eq_false h
theorem col_cases (c : Int) : (c ≤ 256 ∧ colB c = true) ∨ (256 < c ∧ c < 16777216 ∧ colB c = false) ∨ (16777216 ≤ c ∧ c < 33554432 ∧ colB c = true) ∨ (33554432 ≤ c ∧ colB c = false) := by
  by_cases h1 : c ≤ 256
  · exact .inl ⟨h1, colB_yes (.inl h1)⟩
  · by_cases h2 : 16777216 ≤ c
    · by_cases h3 : c < 33554432
      · exact .inr (.inr (.inl ⟨h2, h3, colB_yes (.inr ⟨h2, h3⟩)⟩))
      · exact .inr (.inr (.inr ⟨by omega, colB_no (by unfold colour; omega)⟩))
    · exact .inr (.inl ⟨by omega, by omega, colB_no (by unfold colour; omega)⟩)
theorem col20 (c : Int) (h0 : 0 ≤ c) (h1 : c < 4294967296) (w : World) : Calls Try.prog 20 #[.int .u32 c] w fun e w' => e = .returned (.bool (colB c)) ∧ w' = w := by
  rcases col_cases c with ⟨h, hb⟩ | ⟨h, h2, hb⟩ | ⟨h, h2, hb⟩ | ⟨h, hb⟩
  all_goals
    have HB := Lib.hid hb
    clear hb
    first | (have e1 := (beq_no (show c / 16777216 ≠ 1 by omega))) | (have e1 : (c / 16777216 == 1) = true := by rw [beq_iff_eq]; omega)
    go_enter Try.func20, Try.ntmps20
    go_wp2
    go_ret
    exact ⟨ret_bool (by have e := HB.out; first | exact e | (rw [e]; done) | (rw [e]; symm; simp; try omega)), rfl⟩
theorem col21 (c : Int) (h0 : 0 ≤ c) (h1 : c < 4294967296) (w : World) : Calls Try.prog 21 #[.int .u32 c] w fun e w' => e = .returned (.bool (colB c)) ∧ w' = w := by
  rcases col_cases c with ⟨h, hb⟩ | ⟨h, h2, hb⟩ | ⟨h, h2, hb⟩ | ⟨h, hb⟩
  all_goals
    have HB := Lib.hid hb
    clear hb
    go_enter Try.func21, Try.ntmps21
    go_wp2
    go_ret
    exact ⟨ret_bool (by have e := HB.out; first | exact e | (rw [e]; done) | (rw [e]; symm; simp; try omega)), rfl⟩
def mayB (a : At) : Bool := decide (may a)
theorem mayB_eq (a : At) : mayB a = (decide (a.fl < 256) && (colB a.fg && colB a.bg)) := by
  unfold mayB
  rw [Bool.eq_iff_iff, Bool.and_eq_true, Bool.and_eq_true, decide_eq_true_eq, decide_eq_true_eq]
  unfold colB
  rw [decide_eq_true_eq, decide_eq_true_eq]
  exact Iff.rfl
attribute [local irreducible] colB mayB
theorem col20_yes (c : Int) (h0 : 0 ≤ c) (h1 : c < 4294967296) {b : Bool} (h : colB c = b) (w : World) : Calls Try.prog 20 #[.int .u32 c] w fun e w' => e = .returned (.bool b) ∧ w' = w := h ▸ col20 c h0 h1 w
theorem col21_yes (c : Int) (h0 : 0 ≤ c) (h1 : c < 4294967296) {b : Bool} (h : colB c = b) (w : World) : Calls Try.prog 21 #[.int .u32 c] w fun e w' => e = .returned (.bool b) ∧ w' = w := h ▸ col21 c h0 h1 w
theorem may10 (a : At) (h : wf a) (hs : sat W H w) : Calls Try.prog 10 #[atV a] w fun e w' => e = .returned (.bool (mayB a)) ∧ sat W H w' := by
  have HB := Lib.hid (mayB_eq a)
  obtain ⟨fg, bg, fl⟩ := a
  obtain ⟨⟨f0, f1⟩, ⟨b0, b1⟩, l0, l1⟩ := h
  simp only at f0 f1 b0 b1 l0 l1 HB
  generalize mayB ⟨fg, bg, fl⟩ = r at *
  by_cases h : fl < 256
  all_goals
    cases hf : colB fg
    all_goals
      cases hb : colB bg
      all_goals
        have HF := Lib.hid hf
        have HG := Lib.hid hb
        clear hf hb
        go_enter Try.func10, Try.ntmps10
        go_wp2_with (first | (go_at_call 20; refine (col20_yes fg f0 f1 HF.out _).mono ?_; rintro e w' ⟨rfl, rfl⟩) | (go_at_call 20; refine (col20_yes bg b0 b1 HG.out _).mono ?_; rintro e w' ⟨rfl, rfl⟩) | ((with_reducible refine isl ?_); first | ((with_reducible apply ld hs.b0); exact rfl; exact rfl; exact rfl; exact rfl; kernel_rfl) | ((with_reducible apply st hs.b0); exact rfl; exact rfl; exact rfl; exact rfl; exact rfl; exact rfl; kernel_rfl; exact rfl; clear hs; intro w hs) | ((with_reducible apply stc hs.b0); exact rfl; exact rfl; exact rfl; exact rfl; exact rfl; kernel_rfl; exact rfl; clear hs; intro w hs) | ((with_reducible refine wrap hs ?_); clear hs; intro w hs) | ((with_reducible refine wrapn hs ?_); clear hs; intro w hs) | ((with_reducible refine wrapd hs ?_); clear hs; intro w hs)))
        go_ret
        exact ⟨ret_bool (by rw [HB.out, HF.out, HG.out]; simp [h]), hs.drop⟩
theorem may11 (a : At) (h : wf a) (hs : sat W H w) : Calls Try.prog 11 #[atV a] w fun e w' => e = .returned (.bool (mayB a)) ∧ sat W H w' := by
  have HB := Lib.hid (mayB_eq a)
  obtain ⟨fg, bg, fl⟩ := a
  obtain ⟨⟨f0, f1⟩, ⟨b0, b1⟩, l0, l1⟩ := h
  simp only at f0 f1 b0 b1 l0 l1 HB
  generalize mayB ⟨fg, bg, fl⟩ = r at *
  by_cases h : fl < 256
  all_goals
    cases hf : colB fg
    all_goals
      cases hb : colB bg
      all_goals
        have HF := Lib.hid hf
        have HG := Lib.hid hb
        clear hf hb
        go_enter Try.func11, Try.ntmps11
        go_wp2_with (first | (go_at_call 21; refine (col21_yes fg f0 f1 HF.out _).mono ?_; rintro e w' ⟨rfl, rfl⟩) | (go_at_call 21; refine (col21_yes bg b0 b1 HG.out _).mono ?_; rintro e w' ⟨rfl, rfl⟩) | ((with_reducible refine isl ?_); first | ((with_reducible apply ld hs.b0); exact rfl; exact rfl; exact rfl; exact rfl; kernel_rfl) | ((with_reducible apply st hs.b0); exact rfl; exact rfl; exact rfl; exact rfl; exact rfl; exact rfl; kernel_rfl; exact rfl; clear hs; intro w hs) | ((with_reducible apply stc hs.b0); exact rfl; exact rfl; exact rfl; exact rfl; exact rfl; kernel_rfl; exact rfl; clear hs; intro w hs) | ((with_reducible refine wrap hs ?_); clear hs; intro w hs) | ((with_reducible refine wrapn hs ?_); clear hs; intro w hs) | ((with_reducible refine wrapd hs ?_); clear hs; intro w hs)))
        go_ret
        exact ⟨ret_bool (by rw [HB.out, HF.out, HG.out]; simp [h]), hs.drop⟩

/-! ## Numbers -/
theorem byte19 (n : Int) (w : World) : Calls Try.prog 19 #[.int .i64 n] w fun e w' => e = .returned (.bool (decide (0 ≤ n) && decide (n ≤ 255))) ∧ w' = w := by
  by_cases h : 0 ≤ n
  · go_enter Try.func19, Try.ntmps19
    go_wp2
    go_ret
    exact ⟨ret_bool (by simp [h]), rfl⟩
  · have e1 : decide (0 ≤ n) = false := by simpa using h
    go_enter Try.func19, Try.ntmps19
    go_wp2
    go_ret
    exact ⟨ret_bool (by simp [h]), rfl⟩
theorem byte19_is (n : Int) {b : Bool} (h : decide (b255 n) = b) (w : World) : Calls Try.prog 19 #[.int .i64 n] w fun e w' => e = .returned (.bool b) ∧ w' = w := by
  have := byte19 n w
  rwa [show (decide (0 ≤ n) && decide (n ≤ 255)) = b by rw [← h, Bool.eq_iff_iff, Bool.and_eq_true, decide_eq_true_eq, decide_eq_true_eq, decide_eq_true_eq]; exact Iff.rfl] at this
set_option maxHeartbeats 1000000 in
theorem flags22 (hs : sat W H w) : Calls Try.prog 22 #[] w fun e w' => e = .returned (.agg #[.int .i64 1, .int .i64 2, .int .i64 3, .int .i64 4, .int .i64 5, .int .i64 7, .int .i64 8, .int .i64 9]) ∧ sat W H w' := by
  go_enter Try.func22, Try.ntmps22
  go_wp2_with (first | ((with_reducible refine isl ?_); first | ((with_reducible apply sts hs.b0); exact rfl; exact rfl; exact rfl; exact rfl; (show rowTy _ _ 8 = true; kernel_rfl); exact Nat.le_refl _; exact rfl; exact rfl; clear hs; intro w hs) | ((with_reducible refine wrap hs ?_); clear hs; intro w hs) | ((with_reducible refine wrapn hs ?_); clear hs; intro w hs) | ((with_reducible refine wrapd hs ?_); clear hs; intro w hs)))
  refine ret_cell hs rfl rfl rfl (by kernel_rfl) ?_
  exact ⟨rfl, hs.drop⟩
/-- The number's flag, and whether it is set or taken away. -/
def flagV (n : Int) : Int × Int := if on n ≠ 0 then (on n, 1) else if off n ≠ 0 then (off n, 2) else (0, 0)
theorem flag17 (n : Int) (w : World) : Calls Try.prog 17 #[.int .i64 n] w fun e w' => e = .returned (.tuple #[.int .u16 (flagV n).1, .int .i64 (flagV n).2]) ∧ w' = w := by
  have hc : n = 1 ∨ n = 2 ∨ n = 3 ∨ n = 4 ∨ n = 5 ∨ n = 7 ∨ n = 8 ∨ n = 9 ∨ n = 22 ∨ n = 23 ∨ n = 24 ∨ n = 25 ∨ n = 27 ∨ n = 28 ∨ n = 29 ∨ (n ≠ 1 ∧ n ≠ 2 ∧ n ≠ 3 ∧ n ≠ 4 ∧ n ≠ 5 ∧ n ≠ 7 ∧ n ≠ 8 ∧ n ≠ 9 ∧ n ≠ 22 ∧ n ≠ 23 ∧ n ≠ 24 ∧ n ≠ 25 ∧ n ≠ 27 ∧ n ≠ 28 ∧ n ≠ 29) := by omega
  rcases hc with rfl | rfl | rfl | rfl | rfl | rfl | rfl | rfl | rfl | rfl | rfl | rfl | rfl | rfl | rfl | ⟨h1, h2, h3, h4, h5, h7, h8, h9, h22, h23, h24, h25, h27, h28, h29⟩
  iterate 15
    · go_enter Try.func17, Try.ntmps17
      go_wp2
      refine end_ret rfl (results_tmp2 rfl _ _ _) ?_
      exact ⟨rfl, rfl⟩
  · have HV : Hid (flagV n = (0, 0)) := Lib.hid (by unfold flagV on off; simp [h1, h2, h3, h4, h5, h7, h8, h9, h22, h23, h24, h25, h27, h28, h29])
    have e1 := beq_no h1; have e2 := beq_no h2; have e3 := beq_no h3; have e4 := beq_no h4; have e5 := beq_no h5; have e7 := beq_no h7; have e8 := beq_no h8; have e9 := beq_no h9
    have e22 := beq_no h22; have e23 := beq_no h23; have e24 := beq_no h24; have e25 := beq_no h25; have e27 := beq_no h27; have e28 := beq_no h28; have e29 := beq_no h29
    clear h1 h2 h3 h4 h5 h7 h8 h9 h22 h23 h24 h25 h27 h28 h29
    go_enter Try.func17, Try.ntmps17
    go_wp2
    refine end_ret rfl (results_tmp2 rfl _ _ _) ?_
    exact ⟨by rw [HV.out]; rfl, rfl⟩
/-- The colour of a number, and whether it is the ground's; 999: it is none. -/
def baseV (n : Int) : Int × Bool :=
  if 30 ≤ n ∧ n ≤ 37 then (n - 29, false) else if 40 ≤ n ∧ n ≤ 47 then (n - 39, true) else if 90 ≤ n ∧ n ≤ 97 then (n - 81, false) else if 100 ≤ n ∧ n ≤ 107 then (n - 91, true) else if n = 39 then (0, false) else if n = 49 then (0, true) else (999, false)
theorem base18 (n : Int) (w : World) : Calls Try.prog 18 #[.int .i64 n] w fun e w' => e = .returned (.tuple #[.int .u32 (baseV n).1, .bool (baseV n).2]) ∧ w' = w := by
  have hc : (30 ≤ n ∧ n ≤ 37) ∨ (40 ≤ n ∧ n ≤ 47) ∨ (90 ≤ n ∧ n ≤ 97) ∨ (100 ≤ n ∧ n ≤ 107) ∨ n = 39 ∨ n = 49 ∨ ((n < 30 ∨ n = 38 ∨ n = 48 ∨ (50 ≤ n ∧ n < 90) ∨ n = 98 ∨ n = 99 ∨ 107 < n)) := by omega
  have z1 : n ≠ 39 → (n == 39) = false := beq_no
  have z2 : n ≠ 49 → (n == 49) = false := beq_no
  have Z1 := Lib.hid z1; have Z2 := Lib.hid z2; clear z1 z2
  rcases hc with ⟨a, b⟩ | ⟨a, b⟩ | ⟨a, b⟩ | ⟨a, b⟩ | rfl | rfl | a | hn | hn | ⟨a, b⟩ | hn | hn | a
  · have HV : Hid (baseV n = (n - 29, false)) := Lib.hid (by unfold baseV; rw [if_pos ⟨a, b⟩])
    go_enter Try.func18, Try.ntmps18
    go_wp2
    refine end_ret rfl (results_tmp2 rfl _ _ _) ?_
    exact ⟨by rw [HV.out]; exact congrArg (fun x : Int => Ending.returned (.tuple #[.int .u32 x, .bool _])) (by omega), rfl⟩
  · have HV : Hid (baseV n = (n - 39, true)) := Lib.hid (by unfold baseV; rw [if_neg (by omega), if_pos ⟨a, b⟩])
    go_enter Try.func18, Try.ntmps18
    go_wp2
    refine end_ret rfl (results_tmp2 rfl _ _ _) ?_
    exact ⟨by rw [HV.out]; exact congrArg (fun x : Int => Ending.returned (.tuple #[.int .u32 x, .bool _])) (by omega), rfl⟩
  · have HV : Hid (baseV n = (n - 81, false)) := Lib.hid (by unfold baseV; rw [if_neg (by omega), if_neg (by omega), if_pos ⟨a, b⟩])
    go_enter Try.func18, Try.ntmps18
    go_wp2
    refine end_ret rfl (results_tmp2 rfl _ _ _) ?_
    exact ⟨by rw [HV.out]; exact congrArg (fun x : Int => Ending.returned (.tuple #[.int .u32 x, .bool _])) (by omega), rfl⟩
  · have HV : Hid (baseV n = (n - 91, true)) := Lib.hid (by unfold baseV; rw [if_neg (by omega), if_neg (by omega), if_neg (by omega), if_pos ⟨a, b⟩])
    go_enter Try.func18, Try.ntmps18
    go_wp2
    refine end_ret rfl (results_tmp2 rfl _ _ _) ?_
    exact ⟨by rw [HV.out]; exact congrArg (fun x : Int => Ending.returned (.tuple #[.int .u32 x, .bool _])) (by omega), rfl⟩
  iterate 2
    · go_enter Try.func18, Try.ntmps18
      go_wp2
      refine end_ret rfl (results_tmp2 rfl _ _ _) ?_
      exact ⟨rfl, rfl⟩
  all_goals
    have e1 := Z1.out (by omega)
    have e2 := Z2.out (by omega)
    have HV : Hid (baseV n = (999, false)) := Lib.hid (by unfold baseV; rw [if_neg (by omega), if_neg (by omega), if_neg (by omega), if_neg (by omega), if_neg (by omega), if_neg (by omega)])
    go_enter Try.func18, Try.ntmps18
    go_wp2
    refine end_ret rfl (results_tmp2 rfl _ _ _) ?_
    exact ⟨by rw [HV.out]; rfl, rfl⟩
end Go.Proofs.Ytkmbgnonpnhfcaa
