import Derived.Test.YtkmbgnonpnhfcaaS7
namespace Go.Proofs.Ytkmbgnonpnhfcaa
open Go.RowKit Go.Mem Go.Sgr
variable {W w : World} {H : List HProp}
attribute [local irreducible] World.setCell World.alloc World.drew World.drewN Calls sat cel own blk old wpQuiet flj no go plain follows SL wf apply


theorem same_no (a b : Value) (xs ys : List Int) (w : World) (ha : Reads w a (xs.map (Value.int .i64))) (hb : Reads w b (ys.map (Value.int .i64))) (hne : xs.length ≠ ys.length) :
    Calls Try.prog 12 #[a, b] w fun e w' => e = .returned (.bool (decide (xs = ys))) ∧ ∃ n, w' = w.drewN n := by
  have HF := Lib.hid (show decide (xs = ys) = false by simp; rintro rfl; exact hne rfl)
  obtain ⟨h1, a, c, rfl, _⟩ := ha
  obtain ⟨h2, b, c', rfl, _⟩ := hb
  simp only [List.length_map] at *
  have e1 : ((xs.length : Int) != (ys.length : Int)) = true := by simp; omega
  unfold maxLen at h1 h2
  go_enter Try.func12, Try.ntmps12
  go_wp2
  go_ret
  exact ⟨ret_bool HF.out, 0, (World.drewN_zero w).symm⟩

set_option maxHeartbeats 400000 in
theorem same_eq (a b : Value) (xs ys : List Int) (w : World) (ha : Reads w a (xs.map (Value.int .i64))) (hb : Reads w b (ys.map (Value.int .i64))) (hne : xs.length = ys.length) :
    Calls Try.prog 12 #[a, b] w fun e w' => e = .returned (.bool (decide (xs = ys))) ∧ ∃ n, w' = w.drewN n := by
  obtain ⟨h1, a, c, rfl, ka⟩ := ha
  obtain ⟨h2, b, c', rfl, kb⟩ := hb
  simp only [List.length_map] at *
  obtain ⟨n, hn⟩ : ∃ n, n = xs.length := ⟨_, rfl⟩
  have hn2 : n = ys.length := by omega
  have ga : 0 < n → ∃ g off, a = some ⟨g, off, none⟩ ∧ ∀ i, i < n → w.cell? ⟨g, off + i, none⟩ = some (.int .i64 (xs.getD i 0)) := fun hp => by
    obtain ⟨g, off, rfl, hc⟩ := ka (by intro h; simp at h; subst h; simp at hn; omega)
    exact ⟨g, off, rfl, fun i hi => hc i _ (ints_get (by omega))⟩
  have gb : 0 < n → ∃ g off, b = some ⟨g, off, none⟩ ∧ ∀ i, i < n → w.cell? ⟨g, off + i, none⟩ = some (.int .i64 (ys.getD i 0)) := fun hp => by
    obtain ⟨g, off, rfl, hc⟩ := kb (by intro h; simp at h; subst h; simp at hn2; omega)
    exact ⟨g, off, rfl, fun i hi => hc i _ (ints_get (by omega))⟩
  have HN := Lib.hid hn
  have HN2 := Lib.hid hn2
  rw [← hn] at h1
  rw [← hn, ← hn2]
  clear ka kb hne hn hn2 h2
  unfold maxLen at h1
  have e1 : ((n : Int) != (n : Int)) = false := by simp
  have HA := Lib.hid ga
  have HB := Lib.hid gb
  clear ga gb
  go_enter Try.func12, Try.ntmps12
  go_wp2
  go_loopw [5] (fun i wr => ∃ k : Nat, k ≤ n ∧ i = .int .i64 k ∧ (∀ j, j < k → xs.getD j 0 = ys.getD j 0) ∧ ∃ m, wr = w.drewN m) (fun i _ => n - (intOf i).toNat)
  case atStart => exact ⟨0, Nat.zero_le _, rfl, fun j hj => by omega, 0, (World.drewN_zero w).symm⟩
  case round =>
    obtain ⟨k, hk, rfl, hj, m, rfl⟩ := hrel
    have HJ := Lib.hid hj
    clear hj
    by_cases hlt : k < n
    · obtain ⟨g, off, rfl, hc⟩ := HA.out (by omega)
      obtain ⟨g', off', rfl, hc'⟩ := HB.out (by omega)
      have c1 := hc k hlt
      have c2 := hc' k hlt
      clear hc hc'
      generalize hx : xs.getD k 0 = x at *
      generalize hy : ys.getD k 0 = y at *
      have HX := Lib.hid hx
      have HY := Lib.hid hy
      clear hx hy
      by_cases hxy : x = y
      · have e2 : (x != y) = false := by simpa using hxy
        have HXY := Lib.hid hxy
        clear hxy
        go_wp2
        go_quiet (fail)
        go_wp2
        go_roundw
        case rel => exact ⟨k + 1, by omega, by go_num, fun j hj => by
          by_cases e : j = k
          · subst e; rw [HX.out, HY.out, HXY.out]
          · exact HJ.out j (by omega), _, rfl⟩
        case measure => simp [intOf]; omega
      · have e2 : (x != y) = true := by simpa using hxy
        have HF := Lib.hid (show decide (xs = ys) = false by simp; intro h; rw [← HX.out, ← HY.out, h] at hxy; exact hxy rfl)
        clear hxy
        go_wp2
        go_quiet (fail)
        go_wp2
        go_ret
        exact ⟨ret_bool HF.out, _, World.drewN_drewN _ _ _⟩
    · have HF := Lib.hid (show decide (xs = ys) = true by
        simp only [decide_eq_true_eq]
        have h1 := HN.out
        have h2 := HN2.out
        apply List.ext_getElem (by omega)
        intro i h3 h4
        have := HJ.out i (by omega)
        rw [List.getD_eq_getElem?_getD, List.getD_eq_getElem?_getD, List.getElem?_eq_getElem h3, List.getElem?_eq_getElem h4] at this
        exact this)
      go_wp2
      go_ret
      exact ⟨ret_bool HF.out, _, rfl⟩

theorem same_any (a b : Value) (xs ys : List Int) (w : World) (ha : Reads w a (xs.map (Value.int .i64))) (hb : Reads w b (ys.map (Value.int .i64))) :
    Calls Try.prog 12 #[a, b] w fun e w' => e = .returned (.bool (decide (xs = ys))) ∧ ∃ n, w' = w.drewN n := by
  by_cases h : xs.length = ys.length
  · exact same_eq a b xs ys w ha hb h
  · exact same_no a b xs ys w ha hb h

theorem same_self (a b : Value) (xs : List Int) (w : World) (ha : Reads w a (xs.map (Value.int .i64))) (hb : Reads w b (xs.map (Value.int .i64))) :
    Calls Try.prog 12 #[a, b] w fun e w' => e = .returned (.bool true) ∧ ∃ n, w' = w.drewN n :=
  (same_any a b xs xs w ha hb).mono fun e w' ⟨he, hn⟩ => ⟨by rw [he, decide_eq_true rfl], hn⟩

def ColR (W : World) (H : List HProp) (l : List Int) : Ending → World → Prop := fun e w' => ∃ a cp, e = .returned (.slice a l.length cp) ∧ sat W (own 3 1 (.slice a l.length cp) l.length (ints l) :: H) w'
theorem col_r {l l2 : List Int} (h : l2 = l) {b n : Nat} (hn : n = l.length) (hl : n ≤ 5) (hs : sat W (cel b 3 (ints l2) :: H) w) : ColR W H l (.returned (.slice (some ⟨b, 0, none⟩) n n)) w := by
  subst h hn
  have := hs.cel_own (by rw [List.length_map]; unfold maxLen; omega)
  rw [List.length_map] at this
  exact ⟨_, _, rfl, this⟩
theorem col_nil (hs : sat W H w) : ColR W H [] (.returned (.slice none 0 0)) w := ⟨_, _, rfl, hs.own_nil 3 1⟩
def cr (c : Int) : Prop := 0 ≤ c ∧ colour c
theorem cols_cases {c : Int} (h : cr c) : c = 0 ∨ (0 < c ∧ c ≤ 8) ∨ (8 < c ∧ c ≤ 16) ∨ (16 < c ∧ c ≤ 256) ∨ (16777216 ≤ c ∧ c < 33554432) := by
  unfold cr colour at h; omega
attribute [local irreducible] ColR
theorem and255 (x : Int) (h0 : 0 ≤ x) (h1 : x < 4294967296) : bits .and .u32 x 255 = x % 256 := by
  rw [u32_and x 255 h0 h1 (by decide) (by decide)]
  have := Nat.and_two_pow_sub_one_eq_mod x.toNat 8
  rw [show (255 : Int).toNat = 2 ^ 8 - 1 from rfl, this]
  omega
theorem colour23 (c g : Int) (h : cr c) (hg : g = 0 ∨ g = 10) (hs : sat W H w) : Calls Try.prog 23 #[.int .u32 c, .int .i64 (30 + g), .int .i64 (90 + g), .int .i64 (38 + g)] w (ColR W H (colN c g)) := by
  have HP : ∀ L, L = colN c g → Hid (colN c g = L) := fun L h => Lib.hid h.symm
  rcases cols_cases h with rfl | ⟨h1, h2⟩ | ⟨h1, h2⟩ | ⟨h1, h2⟩ | ⟨h1, h2⟩
  · replace HP := HP [] rfl
    go_enter Try.func23, Try.ntmps23
    go_wp2
    go_ret
    rw [HP.out]; exact col_nil hs
  · replace HP := HP [30 + g + c - 1] (by unfold colN; (repeat rw [if_neg (by omega)]); try first | (rw [if_pos (by omega)]; try (congr 1; omega)) | rfl)
    have f0 := beq_no (show c ≠ 0 by omega)
    go_enter Try.func23, Try.ntmps23
    go_wp2_with (first | ((with_reducible refine isl ?_); first | ((with_reducible refine wrap hs ?_); clear hs; intro w hs) | ((with_reducible refine wrapn hs ?_); clear hs; intro w hs) | ((with_reducible refine wrapd hs ?_); clear hs; intro w hs)))
    go_ret
    rw [HP.out]
    exact col_r rfl rfl (by decide) (hs.made (T := 3) (l := ints [30 + g + c - 1]))
  · replace HP := HP [90 + g + c - 9] (by unfold colN; (repeat rw [if_neg (by omega)]); try first | (rw [if_pos (by omega)]; try (congr 1; omega)) | rfl)
    have f0 := beq_no (show c ≠ 0 by omega)
    go_enter Try.func23, Try.ntmps23
    go_wp2_with (first | ((with_reducible refine isl ?_); first | ((with_reducible refine wrap hs ?_); clear hs; intro w hs) | ((with_reducible refine wrapn hs ?_); clear hs; intro w hs) | ((with_reducible refine wrapd hs ?_); clear hs; intro w hs)))
    go_ret
    rw [HP.out]
    exact col_r rfl rfl (by decide) (hs.made (T := 3) (l := ints [90 + g + c - 9]))
  · replace HP := HP [38 + g, 5, c - 1] (by unfold colN; (repeat rw [if_neg (by omega)]); try first | (rw [if_pos (by omega)]; try (congr 1; omega)) | rfl)
    have f0 := beq_no (show c ≠ 0 by omega)
    go_enter Try.func23, Try.ntmps23
    go_wp2_with (first | ((with_reducible refine isl ?_); first | ((with_reducible refine wrap hs ?_); clear hs; intro w hs) | ((with_reducible refine wrapn hs ?_); clear hs; intro w hs) | ((with_reducible refine wrapd hs ?_); clear hs; intro w hs)))
    go_ret
    rw [HP.out]
    exact col_r rfl rfl (by decide) (hs.made (T := 3) (l := ints [38 + g, 5, c - 1]))
  · replace HP := HP [38 + g, 2, (c - 16777216) / 65536, (c - 16777216) / 256 % 256, (c - 16777216) % 256] (by unfold colN; (repeat rw [if_neg (by omega)]); try first | (rw [if_pos (by omega)]; try (congr 1; omega)) | rfl)
    have f0 := beq_no (show c ≠ 0 by omega)
    have m1 : bits BinOp.and IntKind.u32 (c / 65536) 255 = (c - 16777216) / 65536 := by rw [and255 _ (by omega) (by omega)]; omega
    have m2 : bits BinOp.and IntKind.u32 (c / 256) 255 = (c - 16777216) / 256 % 256 := by rw [and255 _ (by omega) (by omega)]; omega
    have m3 : bits BinOp.and IntKind.u32 c 255 = (c - 16777216) % 256 := by rw [and255 _ (by omega) (by omega)]; omega
    go_enter Try.func23, Try.ntmps23
    go_wp2_with (first | ((with_reducible refine isl ?_); first | ((with_reducible refine wrap hs ?_); clear hs; intro w hs) | ((with_reducible refine wrapn hs ?_); clear hs; intro w hs) | ((with_reducible refine wrapd hs ?_); clear hs; intro w hs)))
    go_ret
    rw [HP.out]
    exact col_r rfl rfl (by decide) (hs.made (T := 3) (l := ints [38 + g, 2, (c - 16777216) / 65536, (c - 16777216) / 256 % 256, (c - 16777216) % 256]))
theorem numbers24 (c g : Int) (h : cr c) (hg : g = 0 ∨ g = 10) (hs : sat W H w) : Calls Try.prog 24 #[.int .u32 c, .int .i64 g] w (ColR W H (colN c g)) := by
  have HP : ∀ L, L = colN c g → Hid (colN c g = L) := fun L h => Lib.hid h.symm
  rcases cols_cases h with rfl | ⟨h1, h2⟩ | ⟨h1, h2⟩ | ⟨h1, h2⟩ | ⟨h1, h2⟩
  · replace HP := HP [] rfl
    go_enter Try.func24, Try.ntmps24
    go_wp2
    go_ret
    rw [HP.out]; exact col_nil hs
  · replace HP := HP [29 + g + c] (by unfold colN; (repeat rw [if_neg (by omega)]); try first | (rw [if_pos (by omega)]; try (congr 1; omega)) | rfl)
    have f0 := beq_no (show c ≠ 0 by omega)
    go_enter Try.func24, Try.ntmps24
    go_wp2_with (first | ((with_reducible refine isl ?_); first | ((with_reducible refine wrap hs ?_); clear hs; intro w hs) | ((with_reducible refine wrapn hs ?_); clear hs; intro w hs) | ((with_reducible refine wrapd hs ?_); clear hs; intro w hs)))
    go_ret
    rw [HP.out]
    exact col_r rfl rfl (by decide) (hs.made (T := 3) (l := ints [29 + g + c]))
  · replace HP := HP [81 + g + c] (by unfold colN; (repeat rw [if_neg (by omega)]); try first | (rw [if_pos (by omega)]; try (congr 1; omega)) | rfl)
    have f0 := beq_no (show c ≠ 0 by omega)
    go_enter Try.func24, Try.ntmps24
    go_wp2_with (first | ((with_reducible refine isl ?_); first | ((with_reducible refine wrap hs ?_); clear hs; intro w hs) | ((with_reducible refine wrapn hs ?_); clear hs; intro w hs) | ((with_reducible refine wrapd hs ?_); clear hs; intro w hs)))
    go_ret
    rw [HP.out]
    exact col_r rfl rfl (by decide) (hs.made (T := 3) (l := ints [81 + g + c]))
  · replace HP := HP [38 + g, 5, c - 1] (by unfold colN; (repeat rw [if_neg (by omega)]); try first | (rw [if_pos (by omega)]; try (congr 1; omega)) | rfl)
    have f0 := beq_no (show c ≠ 0 by omega)
    go_enter Try.func24, Try.ntmps24
    go_wp2_with (first | ((with_reducible refine isl ?_); first | ((with_reducible refine wrap hs ?_); clear hs; intro w hs) | ((with_reducible refine wrapn hs ?_); clear hs; intro w hs) | ((with_reducible refine wrapd hs ?_); clear hs; intro w hs)))
    go_ret
    rw [HP.out]
    exact col_r rfl rfl (by decide) (hs.made (T := 3) (l := ints [38 + g, 5, c - 1]))
  · replace HP := HP [38 + g, 2, (c - 16777216) / 65536, (c - 16777216) / 256 % 256, (c - 16777216) % 256] (by unfold colN; (repeat rw [if_neg (by omega)]); try first | (rw [if_pos (by omega)]; try (congr 1; omega)) | rfl)
    have f0 := beq_no (show c ≠ 0 by omega)
    go_enter Try.func24, Try.ntmps24
    go_wp2_with (first | ((with_reducible refine isl ?_); first | ((with_reducible refine wrap hs ?_); clear hs; intro w hs) | ((with_reducible refine wrapn hs ?_); clear hs; intro w hs) | ((with_reducible refine wrapd hs ?_); clear hs; intro w hs)))
    go_ret
    rw [HP.out]
    exact col_r rfl rfl (by decide) (hs.made (T := 3) (l := ints [38 + g, 2, (c - 16777216) / 65536, (c - 16777216) / 256 % 256, (c - 16777216) % 256]))
theorem bit13 : ∀ j : Nat, j < 8 → ∀ f : Nat, f < 256 → (bits .and .u16 ((f / 2 ^ j : Nat) : Int) 1 == 1) = (f / 2 ^ j % 2 == 1) := by decide +kernel
theorem bit14 : ∀ j : Nat, j < 8 → ∀ f : Nat, f < 256 → (bits .and .u16 (f : Int) ((2 ^ j : Nat) : Int) != 0) = (f / 2 ^ j % 2 == 1) := by decide +kernel
abbrev Own (W : World) (H : List HProp) (l : List Int) (n : Nat) (v : Value) (w : World) : Prop := n = l.length ∧ ∃ a cp, v = .slice a n cp ∧ sat W (own 3 1 (.slice a n cp) n (ints l) :: H) w
theorem numsF_zero (f : Nat) : numsF f 0 = [] := rfl
theorem numsF_len (f j : Nat) : (numsF f j).length ≤ j := by
  unfold numsF
  rw [List.length_map]
  exact Nat.le_trans (List.length_filter_le _ _) (by simp)
theorem colN_len (c g : Int) : (colN c g).length ≤ 5 := by unfold colN; (repeat' split) <;> simp
theorem colour_t (c g : Int) (h : cr c) (hg : g = 0 ∨ g = 10) (l : List Int) (hl : colN c g = l) (lo hi long : Int) (e1 : lo = 30 + g) (e2 : hi = 90 + g) (e3 : long = 38 + g) (hs : sat W H w) : Calls Try.prog 23 #[.int .u32 c, .int .i64 lo, .int .i64 hi, .int .i64 long] w (ColR W H l) := by
  subst hl e1 e2 e3; exact colour23 c g h hg hs
theorem ColR.elim {l : List Int} {e : Ending} {w : World} (h : ColR W H l e w) : ∃ a cp, e = .returned (.slice a l.length cp) ∧ sat W (own 3 1 (.slice a l.length cp) l.length (ints l) :: H) w := by unfold ColR at h; exact h
theorem ints_ok {l : List Int} : ∀ u ∈ ints l, u.oneCell' = true := by
  intro u hu; obtain ⟨n, _, rfl⟩ := List.mem_map.1 hu; rfl
attribute [local irreducible] numsF colN numbers mayB
set_option maxHeartbeats 4000000 in
set_option maxRecDepth 8000 in
theorem numbers13 (a : At) (h : wf a) (hm : may a) (hs : sat W H w) : Calls Try.prog 13 #[atV a] w fun e w' => ∃ ad cp n, n = (numbers a).length ∧ e = .returned (.tuple #[.slice ad n cp, .int .i64 0]) ∧ sat W (own 3 1 (.slice ad n cp) n (ints (numbers a)) :: H) w' := by
  obtain ⟨f, hf, hl⟩ := fl_nat h
  have hmB : mayB a = true := by unfold mayB; exact decide_eq_true hm
  have HM := Lib.hid hmB
  have HW := Lib.hid h
  unfold may at hm
  obtain ⟨m1, m2, m3⟩ := hm
  unfold wf at h
  obtain ⟨h1, h2, _⟩ := h
  have cr1 : cr a.fg := ⟨h1.1, m2⟩
  have cr2 : cr a.bg := ⟨h2.1, m3⟩
  have hf8 : f < 256 := by omega
  have HN : Hid (numbers a = 0 :: numsF f 8 ++ (colN a.fg 0 ++ colN a.bg 10)) := Lib.hid (by unfold numbers; rw [hf]; rfl)
  have C1 := Lib.hid (colN_len a.fg 0)
  have C2 := Lib.hid (colN_len a.bg 10)
  clear m1 m2 m3 h1 h2 hmB
  obtain ⟨fg, bg, fl⟩ := a
  simp only at hf cr1 cr2 HN C1 C2
  subst hf
  go_enter Try.func13, Try.ntmps13
  go_wp2_with (first | (go_at_call 10; refine (may10 _ HW.out hs).mono ?_; clear hs; rintro e w ⟨rfl, hs⟩; rw [HM.out]) | (go_at_call 22; refine (flags22 hs).mono ?_; clear hs; rintro e w ⟨rfl, hs⟩) | ((with_reducible refine isl ?_); first | ((with_reducible apply lds 3 hs.b0); exact rfl; exact rfl; exact rfl; kernel_rfl; exact rfl; exact rfl) | ((with_reducible apply lds 3 hs.b1); exact rfl; exact rfl; exact rfl; kernel_rfl; exact rfl; exact rfl) | ((with_reducible apply sts hs.b0); exact rfl; exact rfl; exact rfl; exact rfl; (show rowTy _ _ 3 = true; kernel_rfl); exact Nat.le_refl _; exact rfl; exact rfl; clear hs; intro w hs) | ((with_reducible apply sts hs.b1); exact rfl; exact rfl; exact rfl; exact rfl; (show rowTy _ _ 3 = true; kernel_rfl); exact Nat.le_refl _; exact rfl; exact rfl; clear hs; intro w hs) | ((with_reducible apply ld hs.b0); exact rfl; exact rfl; exact rfl; exact rfl; kernel_rfl) | ((with_reducible apply ld hs.b1); exact rfl; exact rfl; exact rfl; exact rfl; kernel_rfl) | ((with_reducible apply st hs.b0); exact rfl; exact rfl; exact rfl; exact rfl; exact rfl; exact rfl; kernel_rfl; exact rfl; clear hs; intro w hs) | ((with_reducible apply st hs.b1); exact rfl; exact rfl; exact rfl; exact rfl; exact rfl; exact rfl; kernel_rfl; exact rfl; clear hs; intro w hs) | ((with_reducible apply stc hs.b0); exact rfl; exact rfl; exact rfl; exact rfl; exact rfl; kernel_rfl; exact rfl; clear hs; intro w hs) | ((with_reducible apply stc hs.b1); exact rfl; exact rfl; exact rfl; exact rfl; exact rfl; kernel_rfl; exact rfl; clear hs; intro w hs) | ((with_reducible refine wrap hs ?_); clear hs; (first | (have _t := z1; clear _t; generalize w.heap.size = z2) | generalize w.heap.size = z1); intro w hs) | ((with_reducible refine wrap hs ?_); clear hs; intro w hs) | ((with_reducible refine wrapn hs ?_); clear hs; intro w hs) | ((with_reducible refine wrapd hs ?_); clear hs; intro w hs)))
  have hs := hs.cel_own (by decide)
  go_loopw [4, 5, 6, 12] (fun sv _ _ i wr => ∃ (j m : Nat) (ad : Option Addr) (cp : Nat) (l : List Int), j ≤ 8 ∧ m ≤ 9 ∧ i = .int .i64 j ∧ sv = .slice ad m cp ∧ Hid (l = 0 :: numsF f j) ∧ Hid (m = l.length) ∧ sat W (own 3 1 (.slice ad m cp) m (ints l) :: cel z1 25 (atL ⟨fg, bg, f⟩) :: H) wr) (fun _ _ _ i _ => 8 - (intOf i).toNat)
  case atStart => exact ⟨0, 1, _, _, [0], Nat.zero_le _, by decide, rfl, rfl, Lib.hid (by rw [numsF_zero]), rfl, hs⟩
  case round =>
    clear hs
    obtain ⟨j, m, ad, cp, l, hj, hm, rfl, rfl, HL, HLn, hs⟩ := hrel
    by_cases hlt : j < 8
    · have HG := Lib.hid (no_get j hlt)
      have HB := Lib.hid (bit13 j hlt f hf8)
      have HS := Lib.hid (numsF_succ f j)
      have hm9 : m ≤ j + 1 := by rw [HLn.out, HL.out, List.length_cons]; have := numsF_len f j; omega
      generalize hno : no j = q at *
      clear hno
      cases hb : (f / 2 ^ j % 2 == 1)
      all_goals
        rw [hb] at HB HS
        have hj8 : j = 0 ∨ j = 1 ∨ j = 2 ∨ j = 3 ∨ j = 4 ∨ j = 5 ∨ j = 6 ∨ j = 7 := by omega
        clear hb
        rcases hj8 with rfl | rfl | rfl | rfl | rfl | rfl | rfl | rfl
      · have B : (bits BinOp.and IntKind.u16 (f : Int) 1 == 1) = false := by have := HB.out; rwa [Nat.pow_zero, Nat.div_one] at this
        skip
        as_aux_lemma =>
         go_wp2_with (first | (apply ixi; exact rfl; exact rfl; exact rfl; exact rfl; exact Try.underlying49; kernel_rfl; decide; decide; exact HG.out) | ((with_reducible refine isl ?_); first | ((with_reducible apply ld hs.b0); exact rfl; exact rfl; exact rfl; exact rfl; kernel_rfl) | ((with_reducible apply ld hs.b1); exact rfl; exact rfl; exact rfl; exact rfl; kernel_rfl) | ((with_reducible apply st hs.b0); exact rfl; exact rfl; exact rfl; exact rfl; exact rfl; exact rfl; kernel_rfl; exact rfl; clear hs; intro w hs) | ((with_reducible apply st hs.b1); exact rfl; exact rfl; exact rfl; exact rfl; exact rfl; exact rfl; kernel_rfl; exact rfl; clear hs; intro w hs) | ((with_reducible apply stc hs.b0); exact rfl; exact rfl; exact rfl; exact rfl; exact rfl; kernel_rfl; exact rfl; clear hs; intro w hs) | ((with_reducible apply stc hs.b1); exact rfl; exact rfl; exact rfl; exact rfl; exact rfl; kernel_rfl; exact rfl; clear hs; intro w hs) | ((with_reducible apply app hs.b1); exact rfl; exact rfl; exact rfl; exact rfl; exact slty26; exact rfl; exact rfl; decide; omega; unfold maxLen; omega; clear hs; intro g' c' w hs) | ((with_reducible refine wrap hs ?_); clear hs; intro w hs) | ((with_reducible refine wrapn hs ?_); clear hs; intro w hs) | ((with_reducible refine wrapd hs ?_); clear hs; intro w hs)))
         go_roundw
         case rel => exact ⟨1, m, ad, cp, l, by decide, hm, rfl, rfl, Lib.hid (by rw [HL.out, HS.out, if_neg (by decide), List.append_nil]), HLn, hs⟩
         case measure => simp [intOf]
      · have B : (bits BinOp.and IntKind.u16 ((f : Int) / 2) 1 == 1) = false := HB.out
        skip
        as_aux_lemma =>
         go_wp2_with (first | (apply ixi; exact rfl; exact rfl; exact rfl; exact rfl; exact Try.underlying49; kernel_rfl; decide; decide; exact HG.out) | ((with_reducible refine isl ?_); first | ((with_reducible apply ld hs.b0); exact rfl; exact rfl; exact rfl; exact rfl; kernel_rfl) | ((with_reducible apply ld hs.b1); exact rfl; exact rfl; exact rfl; exact rfl; kernel_rfl) | ((with_reducible apply st hs.b0); exact rfl; exact rfl; exact rfl; exact rfl; exact rfl; exact rfl; kernel_rfl; exact rfl; clear hs; intro w hs) | ((with_reducible apply st hs.b1); exact rfl; exact rfl; exact rfl; exact rfl; exact rfl; exact rfl; kernel_rfl; exact rfl; clear hs; intro w hs) | ((with_reducible apply stc hs.b0); exact rfl; exact rfl; exact rfl; exact rfl; exact rfl; kernel_rfl; exact rfl; clear hs; intro w hs) | ((with_reducible apply stc hs.b1); exact rfl; exact rfl; exact rfl; exact rfl; exact rfl; kernel_rfl; exact rfl; clear hs; intro w hs) | ((with_reducible apply app hs.b1); exact rfl; exact rfl; exact rfl; exact rfl; exact slty26; exact rfl; exact rfl; decide; omega; unfold maxLen; omega; clear hs; intro g' c' w hs) | ((with_reducible refine wrap hs ?_); clear hs; intro w hs) | ((with_reducible refine wrapn hs ?_); clear hs; intro w hs) | ((with_reducible refine wrapd hs ?_); clear hs; intro w hs)))
         go_roundw
         case rel => exact ⟨2, m, ad, cp, l, by decide, hm, rfl, rfl, Lib.hid (by rw [HL.out, HS.out, if_neg (by decide), List.append_nil]), HLn, hs⟩
         case measure => simp [intOf]
      · have B : (bits BinOp.and IntKind.u16 ((f : Int) / 4) 1 == 1) = false := HB.out
        skip
        as_aux_lemma =>
         go_wp2_with (first | (apply ixi; exact rfl; exact rfl; exact rfl; exact rfl; exact Try.underlying49; kernel_rfl; decide; decide; exact HG.out) | ((with_reducible refine isl ?_); first | ((with_reducible apply ld hs.b0); exact rfl; exact rfl; exact rfl; exact rfl; kernel_rfl) | ((with_reducible apply ld hs.b1); exact rfl; exact rfl; exact rfl; exact rfl; kernel_rfl) | ((with_reducible apply st hs.b0); exact rfl; exact rfl; exact rfl; exact rfl; exact rfl; exact rfl; kernel_rfl; exact rfl; clear hs; intro w hs) | ((with_reducible apply st hs.b1); exact rfl; exact rfl; exact rfl; exact rfl; exact rfl; exact rfl; kernel_rfl; exact rfl; clear hs; intro w hs) | ((with_reducible apply stc hs.b0); exact rfl; exact rfl; exact rfl; exact rfl; exact rfl; kernel_rfl; exact rfl; clear hs; intro w hs) | ((with_reducible apply stc hs.b1); exact rfl; exact rfl; exact rfl; exact rfl; exact rfl; kernel_rfl; exact rfl; clear hs; intro w hs) | ((with_reducible apply app hs.b1); exact rfl; exact rfl; exact rfl; exact rfl; exact slty26; exact rfl; exact rfl; decide; omega; unfold maxLen; omega; clear hs; intro g' c' w hs) | ((with_reducible refine wrap hs ?_); clear hs; intro w hs) | ((with_reducible refine wrapn hs ?_); clear hs; intro w hs) | ((with_reducible refine wrapd hs ?_); clear hs; intro w hs)))
         go_roundw
         case rel => exact ⟨3, m, ad, cp, l, by decide, hm, rfl, rfl, Lib.hid (by rw [HL.out, HS.out, if_neg (by decide), List.append_nil]), HLn, hs⟩
         case measure => simp [intOf]
      · have B : (bits BinOp.and IntKind.u16 ((f : Int) / 8) 1 == 1) = false := HB.out
        skip
        as_aux_lemma =>
         go_wp2_with (first | (apply ixi; exact rfl; exact rfl; exact rfl; exact rfl; exact Try.underlying49; kernel_rfl; decide; decide; exact HG.out) | ((with_reducible refine isl ?_); first | ((with_reducible apply ld hs.b0); exact rfl; exact rfl; exact rfl; exact rfl; kernel_rfl) | ((with_reducible apply ld hs.b1); exact rfl; exact rfl; exact rfl; exact rfl; kernel_rfl) | ((with_reducible apply st hs.b0); exact rfl; exact rfl; exact rfl; exact rfl; exact rfl; exact rfl; kernel_rfl; exact rfl; clear hs; intro w hs) | ((with_reducible apply st hs.b1); exact rfl; exact rfl; exact rfl; exact rfl; exact rfl; exact rfl; kernel_rfl; exact rfl; clear hs; intro w hs) | ((with_reducible apply stc hs.b0); exact rfl; exact rfl; exact rfl; exact rfl; exact rfl; kernel_rfl; exact rfl; clear hs; intro w hs) | ((with_reducible apply stc hs.b1); exact rfl; exact rfl; exact rfl; exact rfl; exact rfl; kernel_rfl; exact rfl; clear hs; intro w hs) | ((with_reducible apply app hs.b1); exact rfl; exact rfl; exact rfl; exact rfl; exact slty26; exact rfl; exact rfl; decide; omega; unfold maxLen; omega; clear hs; intro g' c' w hs) | ((with_reducible refine wrap hs ?_); clear hs; intro w hs) | ((with_reducible refine wrapn hs ?_); clear hs; intro w hs) | ((with_reducible refine wrapd hs ?_); clear hs; intro w hs)))
         go_roundw
         case rel => exact ⟨4, m, ad, cp, l, by decide, hm, rfl, rfl, Lib.hid (by rw [HL.out, HS.out, if_neg (by decide), List.append_nil]), HLn, hs⟩
         case measure => simp [intOf]
      · have B : (bits BinOp.and IntKind.u16 ((f : Int) / 16) 1 == 1) = false := HB.out
        skip
        as_aux_lemma =>
         go_wp2_with (first | (apply ixi; exact rfl; exact rfl; exact rfl; exact rfl; exact Try.underlying49; kernel_rfl; decide; decide; exact HG.out) | ((with_reducible refine isl ?_); first | ((with_reducible apply ld hs.b0); exact rfl; exact rfl; exact rfl; exact rfl; kernel_rfl) | ((with_reducible apply ld hs.b1); exact rfl; exact rfl; exact rfl; exact rfl; kernel_rfl) | ((with_reducible apply st hs.b0); exact rfl; exact rfl; exact rfl; exact rfl; exact rfl; exact rfl; kernel_rfl; exact rfl; clear hs; intro w hs) | ((with_reducible apply st hs.b1); exact rfl; exact rfl; exact rfl; exact rfl; exact rfl; exact rfl; kernel_rfl; exact rfl; clear hs; intro w hs) | ((with_reducible apply stc hs.b0); exact rfl; exact rfl; exact rfl; exact rfl; exact rfl; kernel_rfl; exact rfl; clear hs; intro w hs) | ((with_reducible apply stc hs.b1); exact rfl; exact rfl; exact rfl; exact rfl; exact rfl; kernel_rfl; exact rfl; clear hs; intro w hs) | ((with_reducible apply app hs.b1); exact rfl; exact rfl; exact rfl; exact rfl; exact slty26; exact rfl; exact rfl; decide; omega; unfold maxLen; omega; clear hs; intro g' c' w hs) | ((with_reducible refine wrap hs ?_); clear hs; intro w hs) | ((with_reducible refine wrapn hs ?_); clear hs; intro w hs) | ((with_reducible refine wrapd hs ?_); clear hs; intro w hs)))
         go_roundw
         case rel => exact ⟨5, m, ad, cp, l, by decide, hm, rfl, rfl, Lib.hid (by rw [HL.out, HS.out, if_neg (by decide), List.append_nil]), HLn, hs⟩
         case measure => simp [intOf]
      · have B : (bits BinOp.and IntKind.u16 ((f : Int) / 32) 1 == 1) = false := HB.out
        skip
        as_aux_lemma =>
         go_wp2_with (first | (apply ixi; exact rfl; exact rfl; exact rfl; exact rfl; exact Try.underlying49; kernel_rfl; decide; decide; exact HG.out) | ((with_reducible refine isl ?_); first | ((with_reducible apply ld hs.b0); exact rfl; exact rfl; exact rfl; exact rfl; kernel_rfl) | ((with_reducible apply ld hs.b1); exact rfl; exact rfl; exact rfl; exact rfl; kernel_rfl) | ((with_reducible apply st hs.b0); exact rfl; exact rfl; exact rfl; exact rfl; exact rfl; exact rfl; kernel_rfl; exact rfl; clear hs; intro w hs) | ((with_reducible apply st hs.b1); exact rfl; exact rfl; exact rfl; exact rfl; exact rfl; exact rfl; kernel_rfl; exact rfl; clear hs; intro w hs) | ((with_reducible apply stc hs.b0); exact rfl; exact rfl; exact rfl; exact rfl; exact rfl; kernel_rfl; exact rfl; clear hs; intro w hs) | ((with_reducible apply stc hs.b1); exact rfl; exact rfl; exact rfl; exact rfl; exact rfl; kernel_rfl; exact rfl; clear hs; intro w hs) | ((with_reducible apply app hs.b1); exact rfl; exact rfl; exact rfl; exact rfl; exact slty26; exact rfl; exact rfl; decide; omega; unfold maxLen; omega; clear hs; intro g' c' w hs) | ((with_reducible refine wrap hs ?_); clear hs; intro w hs) | ((with_reducible refine wrapn hs ?_); clear hs; intro w hs) | ((with_reducible refine wrapd hs ?_); clear hs; intro w hs)))
         go_roundw
         case rel => exact ⟨6, m, ad, cp, l, by decide, hm, rfl, rfl, Lib.hid (by rw [HL.out, HS.out, if_neg (by decide), List.append_nil]), HLn, hs⟩
         case measure => simp [intOf]
      · have B : (bits BinOp.and IntKind.u16 ((f : Int) / 64) 1 == 1) = false := HB.out
        skip
        as_aux_lemma =>
         go_wp2_with (first | (apply ixi; exact rfl; exact rfl; exact rfl; exact rfl; exact Try.underlying49; kernel_rfl; decide; decide; exact HG.out) | ((with_reducible refine isl ?_); first | ((with_reducible apply ld hs.b0); exact rfl; exact rfl; exact rfl; exact rfl; kernel_rfl) | ((with_reducible apply ld hs.b1); exact rfl; exact rfl; exact rfl; exact rfl; kernel_rfl) | ((with_reducible apply st hs.b0); exact rfl; exact rfl; exact rfl; exact rfl; exact rfl; exact rfl; kernel_rfl; exact rfl; clear hs; intro w hs) | ((with_reducible apply st hs.b1); exact rfl; exact rfl; exact rfl; exact rfl; exact rfl; exact rfl; kernel_rfl; exact rfl; clear hs; intro w hs) | ((with_reducible apply stc hs.b0); exact rfl; exact rfl; exact rfl; exact rfl; exact rfl; kernel_rfl; exact rfl; clear hs; intro w hs) | ((with_reducible apply stc hs.b1); exact rfl; exact rfl; exact rfl; exact rfl; exact rfl; kernel_rfl; exact rfl; clear hs; intro w hs) | ((with_reducible apply app hs.b1); exact rfl; exact rfl; exact rfl; exact rfl; exact slty26; exact rfl; exact rfl; decide; omega; unfold maxLen; omega; clear hs; intro g' c' w hs) | ((with_reducible refine wrap hs ?_); clear hs; intro w hs) | ((with_reducible refine wrapn hs ?_); clear hs; intro w hs) | ((with_reducible refine wrapd hs ?_); clear hs; intro w hs)))
         go_roundw
         case rel => exact ⟨7, m, ad, cp, l, by decide, hm, rfl, rfl, Lib.hid (by rw [HL.out, HS.out, if_neg (by decide), List.append_nil]), HLn, hs⟩
         case measure => simp [intOf]
      · have B : (bits BinOp.and IntKind.u16 ((f : Int) / 128) 1 == 1) = false := HB.out
        skip
        as_aux_lemma =>
         go_wp2_with (first | (apply ixi; exact rfl; exact rfl; exact rfl; exact rfl; exact Try.underlying49; kernel_rfl; decide; decide; exact HG.out) | ((with_reducible refine isl ?_); first | ((with_reducible apply ld hs.b0); exact rfl; exact rfl; exact rfl; exact rfl; kernel_rfl) | ((with_reducible apply ld hs.b1); exact rfl; exact rfl; exact rfl; exact rfl; kernel_rfl) | ((with_reducible apply st hs.b0); exact rfl; exact rfl; exact rfl; exact rfl; exact rfl; exact rfl; kernel_rfl; exact rfl; clear hs; intro w hs) | ((with_reducible apply st hs.b1); exact rfl; exact rfl; exact rfl; exact rfl; exact rfl; exact rfl; kernel_rfl; exact rfl; clear hs; intro w hs) | ((with_reducible apply stc hs.b0); exact rfl; exact rfl; exact rfl; exact rfl; exact rfl; kernel_rfl; exact rfl; clear hs; intro w hs) | ((with_reducible apply stc hs.b1); exact rfl; exact rfl; exact rfl; exact rfl; exact rfl; kernel_rfl; exact rfl; clear hs; intro w hs) | ((with_reducible apply app hs.b1); exact rfl; exact rfl; exact rfl; exact rfl; exact slty26; exact rfl; exact rfl; decide; omega; unfold maxLen; omega; clear hs; intro g' c' w hs) | ((with_reducible refine wrap hs ?_); clear hs; intro w hs) | ((with_reducible refine wrapn hs ?_); clear hs; intro w hs) | ((with_reducible refine wrapd hs ?_); clear hs; intro w hs)))
         go_roundw
         case rel => exact ⟨8, m, ad, cp, l, by decide, hm, rfl, rfl, Lib.hid (by rw [HL.out, HS.out, if_neg (by decide), List.append_nil]), HLn, hs⟩
         case measure => simp [intOf]
      · have B : (bits BinOp.and IntKind.u16 (f : Int) 1 == 1) = true := by have := HB.out; rwa [Nat.pow_zero, Nat.div_one] at this
        skip
        as_aux_lemma =>
         go_wp2_with (first | (apply ixi; exact rfl; exact rfl; exact rfl; exact rfl; exact Try.underlying49; kernel_rfl; decide; decide; exact HG.out) | ((with_reducible refine isl ?_); first | ((with_reducible apply ld hs.b0); exact rfl; exact rfl; exact rfl; exact rfl; kernel_rfl) | ((with_reducible apply ld hs.b1); exact rfl; exact rfl; exact rfl; exact rfl; kernel_rfl) | ((with_reducible apply st hs.b0); exact rfl; exact rfl; exact rfl; exact rfl; exact rfl; exact rfl; kernel_rfl; exact rfl; clear hs; intro w hs) | ((with_reducible apply st hs.b1); exact rfl; exact rfl; exact rfl; exact rfl; exact rfl; exact rfl; kernel_rfl; exact rfl; clear hs; intro w hs) | ((with_reducible apply stc hs.b0); exact rfl; exact rfl; exact rfl; exact rfl; exact rfl; kernel_rfl; exact rfl; clear hs; intro w hs) | ((with_reducible apply stc hs.b1); exact rfl; exact rfl; exact rfl; exact rfl; exact rfl; kernel_rfl; exact rfl; clear hs; intro w hs) | ((with_reducible apply app hs.b1); exact rfl; exact rfl; exact rfl; exact rfl; exact slty26; exact rfl; exact rfl; decide; omega; unfold maxLen; omega; clear hs; intro g' c' w hs) | ((with_reducible refine wrap hs ?_); clear hs; intro w hs) | ((with_reducible refine wrapn hs ?_); clear hs; intro w hs) | ((with_reducible refine wrapd hs ?_); clear hs; intro w hs)))
         go_roundw
         case rel => exact ⟨1, m + 1, _, _, l ++ [q], by decide, by omega, rfl, rfl, Lib.hid (by rw [HL.out, HS.out, if_pos rfl]; rfl), Lib.hid (by rw [List.length_append, HLn.out]; rfl), by rw [show ints (l ++ [q]) = ints l ++ ints [q] from List.map_append]; exact hs⟩
         case measure => simp [intOf]
      · have B : (bits BinOp.and IntKind.u16 ((f : Int) / 2) 1 == 1) = true := HB.out
        skip
        as_aux_lemma =>
         go_wp2_with (first | (apply ixi; exact rfl; exact rfl; exact rfl; exact rfl; exact Try.underlying49; kernel_rfl; decide; decide; exact HG.out) | ((with_reducible refine isl ?_); first | ((with_reducible apply ld hs.b0); exact rfl; exact rfl; exact rfl; exact rfl; kernel_rfl) | ((with_reducible apply ld hs.b1); exact rfl; exact rfl; exact rfl; exact rfl; kernel_rfl) | ((with_reducible apply st hs.b0); exact rfl; exact rfl; exact rfl; exact rfl; exact rfl; exact rfl; kernel_rfl; exact rfl; clear hs; intro w hs) | ((with_reducible apply st hs.b1); exact rfl; exact rfl; exact rfl; exact rfl; exact rfl; exact rfl; kernel_rfl; exact rfl; clear hs; intro w hs) | ((with_reducible apply stc hs.b0); exact rfl; exact rfl; exact rfl; exact rfl; exact rfl; kernel_rfl; exact rfl; clear hs; intro w hs) | ((with_reducible apply stc hs.b1); exact rfl; exact rfl; exact rfl; exact rfl; exact rfl; kernel_rfl; exact rfl; clear hs; intro w hs) | ((with_reducible apply app hs.b1); exact rfl; exact rfl; exact rfl; exact rfl; exact slty26; exact rfl; exact rfl; decide; omega; unfold maxLen; omega; clear hs; intro g' c' w hs) | ((with_reducible refine wrap hs ?_); clear hs; intro w hs) | ((with_reducible refine wrapn hs ?_); clear hs; intro w hs) | ((with_reducible refine wrapd hs ?_); clear hs; intro w hs)))
         go_roundw
         case rel => exact ⟨2, m + 1, _, _, l ++ [q], by decide, by omega, rfl, rfl, Lib.hid (by rw [HL.out, HS.out, if_pos rfl]; rfl), Lib.hid (by rw [List.length_append, HLn.out]; rfl), by rw [show ints (l ++ [q]) = ints l ++ ints [q] from List.map_append]; exact hs⟩
         case measure => simp [intOf]
      · have B : (bits BinOp.and IntKind.u16 ((f : Int) / 4) 1 == 1) = true := HB.out
        skip
        as_aux_lemma =>
         go_wp2_with (first | (apply ixi; exact rfl; exact rfl; exact rfl; exact rfl; exact Try.underlying49; kernel_rfl; decide; decide; exact HG.out) | ((with_reducible refine isl ?_); first | ((with_reducible apply ld hs.b0); exact rfl; exact rfl; exact rfl; exact rfl; kernel_rfl) | ((with_reducible apply ld hs.b1); exact rfl; exact rfl; exact rfl; exact rfl; kernel_rfl) | ((with_reducible apply st hs.b0); exact rfl; exact rfl; exact rfl; exact rfl; exact rfl; exact rfl; kernel_rfl; exact rfl; clear hs; intro w hs) | ((with_reducible apply st hs.b1); exact rfl; exact rfl; exact rfl; exact rfl; exact rfl; exact rfl; kernel_rfl; exact rfl; clear hs; intro w hs) | ((with_reducible apply stc hs.b0); exact rfl; exact rfl; exact rfl; exact rfl; exact rfl; kernel_rfl; exact rfl; clear hs; intro w hs) | ((with_reducible apply stc hs.b1); exact rfl; exact rfl; exact rfl; exact rfl; exact rfl; kernel_rfl; exact rfl; clear hs; intro w hs) | ((with_reducible apply app hs.b1); exact rfl; exact rfl; exact rfl; exact rfl; exact slty26; exact rfl; exact rfl; decide; omega; unfold maxLen; omega; clear hs; intro g' c' w hs) | ((with_reducible refine wrap hs ?_); clear hs; intro w hs) | ((with_reducible refine wrapn hs ?_); clear hs; intro w hs) | ((with_reducible refine wrapd hs ?_); clear hs; intro w hs)))
         go_roundw
         case rel => exact ⟨3, m + 1, _, _, l ++ [q], by decide, by omega, rfl, rfl, Lib.hid (by rw [HL.out, HS.out, if_pos rfl]; rfl), Lib.hid (by rw [List.length_append, HLn.out]; rfl), by rw [show ints (l ++ [q]) = ints l ++ ints [q] from List.map_append]; exact hs⟩
         case measure => simp [intOf]
      · have B : (bits BinOp.and IntKind.u16 ((f : Int) / 8) 1 == 1) = true := HB.out
        skip
        as_aux_lemma =>
         go_wp2_with (first | (apply ixi; exact rfl; exact rfl; exact rfl; exact rfl; exact Try.underlying49; kernel_rfl; decide; decide; exact HG.out) | ((with_reducible refine isl ?_); first | ((with_reducible apply ld hs.b0); exact rfl; exact rfl; exact rfl; exact rfl; kernel_rfl) | ((with_reducible apply ld hs.b1); exact rfl; exact rfl; exact rfl; exact rfl; kernel_rfl) | ((with_reducible apply st hs.b0); exact rfl; exact rfl; exact rfl; exact rfl; exact rfl; exact rfl; kernel_rfl; exact rfl; clear hs; intro w hs) | ((with_reducible apply st hs.b1); exact rfl; exact rfl; exact rfl; exact rfl; exact rfl; exact rfl; kernel_rfl; exact rfl; clear hs; intro w hs) | ((with_reducible apply stc hs.b0); exact rfl; exact rfl; exact rfl; exact rfl; exact rfl; kernel_rfl; exact rfl; clear hs; intro w hs) | ((with_reducible apply stc hs.b1); exact rfl; exact rfl; exact rfl; exact rfl; exact rfl; kernel_rfl; exact rfl; clear hs; intro w hs) | ((with_reducible apply app hs.b1); exact rfl; exact rfl; exact rfl; exact rfl; exact slty26; exact rfl; exact rfl; decide; omega; unfold maxLen; omega; clear hs; intro g' c' w hs) | ((with_reducible refine wrap hs ?_); clear hs; intro w hs) | ((with_reducible refine wrapn hs ?_); clear hs; intro w hs) | ((with_reducible refine wrapd hs ?_); clear hs; intro w hs)))
         go_roundw
         case rel => exact ⟨4, m + 1, _, _, l ++ [q], by decide, by omega, rfl, rfl, Lib.hid (by rw [HL.out, HS.out, if_pos rfl]; rfl), Lib.hid (by rw [List.length_append, HLn.out]; rfl), by rw [show ints (l ++ [q]) = ints l ++ ints [q] from List.map_append]; exact hs⟩
         case measure => simp [intOf]
      · have B : (bits BinOp.and IntKind.u16 ((f : Int) / 16) 1 == 1) = true := HB.out
        skip
        as_aux_lemma =>
         go_wp2_with (first | (apply ixi; exact rfl; exact rfl; exact rfl; exact rfl; exact Try.underlying49; kernel_rfl; decide; decide; exact HG.out) | ((with_reducible refine isl ?_); first | ((with_reducible apply ld hs.b0); exact rfl; exact rfl; exact rfl; exact rfl; kernel_rfl) | ((with_reducible apply ld hs.b1); exact rfl; exact rfl; exact rfl; exact rfl; kernel_rfl) | ((with_reducible apply st hs.b0); exact rfl; exact rfl; exact rfl; exact rfl; exact rfl; exact rfl; kernel_rfl; exact rfl; clear hs; intro w hs) | ((with_reducible apply st hs.b1); exact rfl; exact rfl; exact rfl; exact rfl; exact rfl; exact rfl; kernel_rfl; exact rfl; clear hs; intro w hs) | ((with_reducible apply stc hs.b0); exact rfl; exact rfl; exact rfl; exact rfl; exact rfl; kernel_rfl; exact rfl; clear hs; intro w hs) | ((with_reducible apply stc hs.b1); exact rfl; exact rfl; exact rfl; exact rfl; exact rfl; kernel_rfl; exact rfl; clear hs; intro w hs) | ((with_reducible apply app hs.b1); exact rfl; exact rfl; exact rfl; exact rfl; exact slty26; exact rfl; exact rfl; decide; omega; unfold maxLen; omega; clear hs; intro g' c' w hs) | ((with_reducible refine wrap hs ?_); clear hs; intro w hs) | ((with_reducible refine wrapn hs ?_); clear hs; intro w hs) | ((with_reducible refine wrapd hs ?_); clear hs; intro w hs)))
         go_roundw
         case rel => exact ⟨5, m + 1, _, _, l ++ [q], by decide, by omega, rfl, rfl, Lib.hid (by rw [HL.out, HS.out, if_pos rfl]; rfl), Lib.hid (by rw [List.length_append, HLn.out]; rfl), by rw [show ints (l ++ [q]) = ints l ++ ints [q] from List.map_append]; exact hs⟩
         case measure => simp [intOf]
      · have B : (bits BinOp.and IntKind.u16 ((f : Int) / 32) 1 == 1) = true := HB.out
        skip
        as_aux_lemma =>
         go_wp2_with (first | (apply ixi; exact rfl; exact rfl; exact rfl; exact rfl; exact Try.underlying49; kernel_rfl; decide; decide; exact HG.out) | ((with_reducible refine isl ?_); first | ((with_reducible apply ld hs.b0); exact rfl; exact rfl; exact rfl; exact rfl; kernel_rfl) | ((with_reducible apply ld hs.b1); exact rfl; exact rfl; exact rfl; exact rfl; kernel_rfl) | ((with_reducible apply st hs.b0); exact rfl; exact rfl; exact rfl; exact rfl; exact rfl; exact rfl; kernel_rfl; exact rfl; clear hs; intro w hs) | ((with_reducible apply st hs.b1); exact rfl; exact rfl; exact rfl; exact rfl; exact rfl; exact rfl; kernel_rfl; exact rfl; clear hs; intro w hs) | ((with_reducible apply stc hs.b0); exact rfl; exact rfl; exact rfl; exact rfl; exact rfl; kernel_rfl; exact rfl; clear hs; intro w hs) | ((with_reducible apply stc hs.b1); exact rfl; exact rfl; exact rfl; exact rfl; exact rfl; kernel_rfl; exact rfl; clear hs; intro w hs) | ((with_reducible apply app hs.b1); exact rfl; exact rfl; exact rfl; exact rfl; exact slty26; exact rfl; exact rfl; decide; omega; unfold maxLen; omega; clear hs; intro g' c' w hs) | ((with_reducible refine wrap hs ?_); clear hs; intro w hs) | ((with_reducible refine wrapn hs ?_); clear hs; intro w hs) | ((with_reducible refine wrapd hs ?_); clear hs; intro w hs)))
         go_roundw
         case rel => exact ⟨6, m + 1, _, _, l ++ [q], by decide, by omega, rfl, rfl, Lib.hid (by rw [HL.out, HS.out, if_pos rfl]; rfl), Lib.hid (by rw [List.length_append, HLn.out]; rfl), by rw [show ints (l ++ [q]) = ints l ++ ints [q] from List.map_append]; exact hs⟩
         case measure => simp [intOf]
      · have B : (bits BinOp.and IntKind.u16 ((f : Int) / 64) 1 == 1) = true := HB.out
        skip
        as_aux_lemma =>
         go_wp2_with (first | (apply ixi; exact rfl; exact rfl; exact rfl; exact rfl; exact Try.underlying49; kernel_rfl; decide; decide; exact HG.out) | ((with_reducible refine isl ?_); first | ((with_reducible apply ld hs.b0); exact rfl; exact rfl; exact rfl; exact rfl; kernel_rfl) | ((with_reducible apply ld hs.b1); exact rfl; exact rfl; exact rfl; exact rfl; kernel_rfl) | ((with_reducible apply st hs.b0); exact rfl; exact rfl; exact rfl; exact rfl; exact rfl; exact rfl; kernel_rfl; exact rfl; clear hs; intro w hs) | ((with_reducible apply st hs.b1); exact rfl; exact rfl; exact rfl; exact rfl; exact rfl; exact rfl; kernel_rfl; exact rfl; clear hs; intro w hs) | ((with_reducible apply stc hs.b0); exact rfl; exact rfl; exact rfl; exact rfl; exact rfl; kernel_rfl; exact rfl; clear hs; intro w hs) | ((with_reducible apply stc hs.b1); exact rfl; exact rfl; exact rfl; exact rfl; exact rfl; kernel_rfl; exact rfl; clear hs; intro w hs) | ((with_reducible apply app hs.b1); exact rfl; exact rfl; exact rfl; exact rfl; exact slty26; exact rfl; exact rfl; decide; omega; unfold maxLen; omega; clear hs; intro g' c' w hs) | ((with_reducible refine wrap hs ?_); clear hs; intro w hs) | ((with_reducible refine wrapn hs ?_); clear hs; intro w hs) | ((with_reducible refine wrapd hs ?_); clear hs; intro w hs)))
         go_roundw
         case rel => exact ⟨7, m + 1, _, _, l ++ [q], by decide, by omega, rfl, rfl, Lib.hid (by rw [HL.out, HS.out, if_pos rfl]; rfl), Lib.hid (by rw [List.length_append, HLn.out]; rfl), by rw [show ints (l ++ [q]) = ints l ++ ints [q] from List.map_append]; exact hs⟩
         case measure => simp [intOf]
      · have B : (bits BinOp.and IntKind.u16 ((f : Int) / 128) 1 == 1) = true := HB.out
        skip
        as_aux_lemma =>
         go_wp2_with (first | (apply ixi; exact rfl; exact rfl; exact rfl; exact rfl; exact Try.underlying49; kernel_rfl; decide; decide; exact HG.out) | ((with_reducible refine isl ?_); first | ((with_reducible apply ld hs.b0); exact rfl; exact rfl; exact rfl; exact rfl; kernel_rfl) | ((with_reducible apply ld hs.b1); exact rfl; exact rfl; exact rfl; exact rfl; kernel_rfl) | ((with_reducible apply st hs.b0); exact rfl; exact rfl; exact rfl; exact rfl; exact rfl; exact rfl; kernel_rfl; exact rfl; clear hs; intro w hs) | ((with_reducible apply st hs.b1); exact rfl; exact rfl; exact rfl; exact rfl; exact rfl; exact rfl; kernel_rfl; exact rfl; clear hs; intro w hs) | ((with_reducible apply stc hs.b0); exact rfl; exact rfl; exact rfl; exact rfl; exact rfl; kernel_rfl; exact rfl; clear hs; intro w hs) | ((with_reducible apply stc hs.b1); exact rfl; exact rfl; exact rfl; exact rfl; exact rfl; kernel_rfl; exact rfl; clear hs; intro w hs) | ((with_reducible apply app hs.b1); exact rfl; exact rfl; exact rfl; exact rfl; exact slty26; exact rfl; exact rfl; decide; omega; unfold maxLen; omega; clear hs; intro g' c' w hs) | ((with_reducible refine wrap hs ?_); clear hs; intro w hs) | ((with_reducible refine wrapn hs ?_); clear hs; intro w hs) | ((with_reducible refine wrapd hs ?_); clear hs; intro w hs)))
         go_roundw
         case rel => exact ⟨8, m + 1, _, _, l ++ [q], by decide, by omega, rfl, rfl, Lib.hid (by rw [HL.out, HS.out, if_pos rfl]; rfl), Lib.hid (by rw [List.length_append, HLn.out]; rfl), by rw [show ints (l ++ [q]) = ints l ++ ints [q] from List.map_append]; exact hs⟩
         case measure => simp [intOf]
    · obtain rfl : j = 8 := by omega
      have HLL := Lib.hid (show numbers ⟨fg, bg, f⟩ = l ++ (colN fg 0 ++ colN bg 10) by rw [HN.out, HL.out])
      as_aux_lemma =>
        go_wp2_with (first | (go_at_call 23; refine (colour_t fg 0 cr1 (.inl rfl) _ rfl _ _ _ rfl rfl rfl hs).mono ?_; clear hs; rintro e w hc; obtain ⟨ca, ccp, rfl, hs⟩ := hc.elim; clear hc) | (go_at_call 23; refine (colour_t bg 10 cr2 (.inr rfl) _ rfl _ _ _ rfl rfl rfl hs).mono ?_; clear hs; rintro e w hc; obtain ⟨ca, ccp, rfl, hs⟩ := hc.elim; clear hc) | (apply appr hs.b1; exact rfl; exact rfl; exact rfl; exact rfl; exact slty26; exact hs.own_reads.1; exact ints_ok; (rw [List.length_map]; have := C1.out; omega); (rw [List.length_map]; have := C1.out; unfold maxLen; omega); clear hs; intro a5 c5 w hs; generalize hq : m + (ints (colN fg 0)).length = q5 at hs ⊢; have Hq5 := Lib.hid hq; have Lq5 : q5 ≤ 14 := (by rw [← hq, List.length_map]; have := C1.out; omega); clear hq) | (apply appr hs.b1; exact rfl; exact rfl; exact rfl; exact rfl; exact slty26; exact hs.own_reads.1; exact ints_ok; (rw [List.length_map]; have := C2.out; omega); (rw [List.length_map]; have := C2.out; unfold maxLen; omega); clear hs; intro a6 c6 w hs; generalize hq : q5 + (ints (colN bg 10)).length = q6 at hs ⊢; have Hq6 := Lib.hid hq; have Lq6 : q6 ≤ 19 := (by rw [← hq, List.length_map]; have := C2.out; omega); clear hq) | ((with_reducible refine isl ?_); first | ((with_reducible apply ld hs.b0); exact rfl; exact rfl; exact rfl; exact rfl; kernel_rfl) | ((with_reducible apply ld hs.b1); exact rfl; exact rfl; exact rfl; exact rfl; kernel_rfl) | ((with_reducible apply ld hs.b2); exact rfl; exact rfl; exact rfl; exact rfl; kernel_rfl) | ((with_reducible apply ld hs.b3); exact rfl; exact rfl; exact rfl; exact rfl; kernel_rfl) | ((with_reducible apply st hs.b0); exact rfl; exact rfl; exact rfl; exact rfl; exact rfl; exact rfl; kernel_rfl; exact rfl; clear hs; intro w hs) | ((with_reducible apply st hs.b1); exact rfl; exact rfl; exact rfl; exact rfl; exact rfl; exact rfl; kernel_rfl; exact rfl; clear hs; intro w hs) | ((with_reducible apply st hs.b2); exact rfl; exact rfl; exact rfl; exact rfl; exact rfl; exact rfl; kernel_rfl; exact rfl; clear hs; intro w hs) | ((with_reducible apply st hs.b3); exact rfl; exact rfl; exact rfl; exact rfl; exact rfl; exact rfl; kernel_rfl; exact rfl; clear hs; intro w hs) | ((with_reducible apply stc hs.b0); exact rfl; exact rfl; exact rfl; exact rfl; exact rfl; kernel_rfl; exact rfl; clear hs; intro w hs) | ((with_reducible apply stc hs.b1); exact rfl; exact rfl; exact rfl; exact rfl; exact rfl; kernel_rfl; exact rfl; clear hs; intro w hs) | ((with_reducible apply stc hs.b2); exact rfl; exact rfl; exact rfl; exact rfl; exact rfl; kernel_rfl; exact rfl; clear hs; intro w hs) | ((with_reducible apply stc hs.b3); exact rfl; exact rfl; exact rfl; exact rfl; exact rfl; kernel_rfl; exact rfl; clear hs; intro w hs) | ((with_reducible refine wrap hs ?_); clear hs; intro w hs) | ((with_reducible refine wrapn hs ?_); clear hs; intro w hs) | ((with_reducible refine wrapd hs ?_); clear hs; intro w hs)))
        refine end_ret rfl (results_tmp2 rfl _ _ _) ?_
        refine ⟨a6, c6, q6, ?_, rfl, ?_⟩
        · rw [HLL.out, ← Hq6.out, ← Hq5.out, HLn.out]; simp; omega
        · rw [HLL.out]
          have hs := hs.b1.drop.b1.drop.b1.drop
          rw [show ints (l ++ (colN fg 0 ++ colN bg 10)) = ints l ++ ints (colN fg 0) ++ ints (colN bg 10) by simp]
          exact hs
theorem flag_is (n f how : Int) (h : flagV n = (f, how)) (w : World) : Calls Try.prog 17 #[.int .i64 n] w fun e w' => e = .returned (.tuple #[.int .u16 f, .int .i64 how]) ∧ w' = w := by
  have := flag17 n w
  rwa [h] at this
def idx (q : Nat) : Nat := if q ≤ 6 then q - 1 else q - 2
theorem numbers_t (c g : Int) (h : cr c) (hg : g = 0 ∨ g = 10) (l : List Int) (hl : colN c g = l) (hs : sat W H w) : Calls Try.prog 24 #[.int .u32 c, .int .i64 g] w (ColR W H l) := hl ▸ numbers24 c g h hg hs
theorem no0 : no 0 = 1 := by unfold no; rfl
theorem no1 : no 1 = 2 := by unfold no; rfl
theorem no2 : no 2 = 3 := by unfold no; rfl
theorem no3 : no 3 = 4 := by unfold no; rfl
theorem no4 : no 4 = 5 := by unfold no; rfl
theorem no5 : no 5 = 7 := by unfold no; rfl
theorem no6 : no 6 = 8 := by unfold no; rfl
theorem no7 : no 7 = 9 := by unfold no; rfl
theorem idx1 : idx 1 = 0 := rfl
theorem idx2 : idx 2 = 1 := rfl
theorem idx3 : idx 3 = 2 := rfl
theorem idx4 : idx 4 = 3 := rfl
theorem idx5 : idx 5 = 4 := rfl
theorem idx6 : idx 6 = 5 := rfl
theorem idx7 : idx 7 = 5 := rfl
theorem idx8 : idx 8 = 6 := rfl
theorem idx9 : idx 9 = 7 := rfl
theorem idx10 : idx 10 = 8 := rfl
theorem flag1 : flagV 1 = (1, 1) := rfl
theorem flag2 : flagV 2 = (2, 1) := rfl
theorem flag3 : flagV 3 = (4, 1) := rfl
theorem flag4 : flagV 4 = (8, 1) := rfl
theorem flag5 : flagV 5 = (16, 1) := rfl
theorem flag6 : flagV 6 = (0, 0) := rfl
theorem flag7 : flagV 7 = (32, 1) := rfl
theorem flag8 : flagV 8 = (64, 1) := rfl
theorem flag9 : flagV 9 = (128, 1) := rfl
attribute [local irreducible] idx flagV
set_option maxHeartbeats 4000000 in
set_option maxRecDepth 8000 in
theorem numbers14 (a : At) (h : wf a) (hm : may a) (hs : sat W H w) : Calls Try.prog 14 #[atV a] w fun e w' => ∃ ad cp n, n = (numbers a).length ∧ e = .returned (.slice ad n cp) ∧ sat W (own 3 1 (.slice ad n cp) n (ints (numbers a)) :: H) w' := by
  obtain ⟨f, hf, hl⟩ := fl_nat h
  unfold may at hm
  obtain ⟨m1, m2, m3⟩ := hm
  unfold wf at h
  obtain ⟨h1, h2, _⟩ := h
  have cr1 : cr a.fg := ⟨h1.1, m2⟩
  have cr2 : cr a.bg := ⟨h2.1, m3⟩
  have hf8 : f < 256 := by omega
  have HN : Hid (numbers a = 0 :: numsF f 8 ++ (colN a.fg 0 ++ colN a.bg 10)) := Lib.hid (by unfold numbers; rw [hf]; rfl)
  have C1 := Lib.hid (colN_len a.fg 0)
  have C2 := Lib.hid (colN_len a.bg 10)
  clear m1 m2 m3 h1 h2
  obtain ⟨fg, bg, fl⟩ := a
  simp only at hf cr1 cr2 HN C1 C2
  subst hf
  go_enter Try.func14, Try.ntmps14
  go_wp2_with (first | ((with_reducible refine isl ?_); first | ((with_reducible apply lds 3 hs.b0); exact rfl; exact rfl; exact rfl; kernel_rfl; exact rfl; exact rfl) | ((with_reducible apply lds 3 hs.b1); exact rfl; exact rfl; exact rfl; kernel_rfl; exact rfl; exact rfl) | ((with_reducible apply sts hs.b0); exact rfl; exact rfl; exact rfl; exact rfl; (show rowTy _ _ 3 = true; kernel_rfl); exact Nat.le_refl _; exact rfl; exact rfl; clear hs; intro w hs) | ((with_reducible apply sts hs.b1); exact rfl; exact rfl; exact rfl; exact rfl; (show rowTy _ _ 3 = true; kernel_rfl); exact Nat.le_refl _; exact rfl; exact rfl; clear hs; intro w hs) | ((with_reducible apply ld hs.b0); exact rfl; exact rfl; exact rfl; exact rfl; kernel_rfl) | ((with_reducible apply ld hs.b1); exact rfl; exact rfl; exact rfl; exact rfl; kernel_rfl) | ((with_reducible apply st hs.b0); exact rfl; exact rfl; exact rfl; exact rfl; exact rfl; exact rfl; kernel_rfl; exact rfl; clear hs; intro w hs) | ((with_reducible apply st hs.b1); exact rfl; exact rfl; exact rfl; exact rfl; exact rfl; exact rfl; kernel_rfl; exact rfl; clear hs; intro w hs) | ((with_reducible apply stc hs.b0); exact rfl; exact rfl; exact rfl; exact rfl; exact rfl; kernel_rfl; exact rfl; clear hs; intro w hs) | ((with_reducible apply stc hs.b1); exact rfl; exact rfl; exact rfl; exact rfl; exact rfl; kernel_rfl; exact rfl; clear hs; intro w hs) | ((with_reducible refine wrap hs ?_); clear hs; (first | (have _t := z1; clear _t; generalize w.heap.size = z2) | generalize w.heap.size = z1); intro w hs) | ((with_reducible refine wrap hs ?_); clear hs; intro w hs) | ((with_reducible refine wrapn hs ?_); clear hs; intro w hs) | ((with_reducible refine wrapd hs ?_); clear hs; intro w hs)))
  have hs := hs.made (T := 3) (l := [.int .i64 0])
  generalize World.alloc w _ = w1 at hs ⊢
  generalize w.heap.size = z2 at hs ⊢
  have hs := hs.cel_own (by decide)
  go_loopw [3, 4, 5, 6, 12] (fun sv qv _ _ _ wr => ∃ (q m : Nat) (ad : Option Addr) (cp : Nat) (l : List Int), 1 ≤ q ∧ q ≤ 10 ∧ m ≤ 9 ∧ qv = .int .i64 q ∧ sv = .slice ad m cp ∧ Hid (l = 0 :: numsF f (idx q)) ∧ Hid (m = l.length) ∧ sat W (own 3 1 (.slice ad m cp) m (ints l) :: cel z1 25 (atL ⟨fg, bg, f⟩) :: H) wr) (fun _ q _ _ _ _ => 10 - (intOf q).toNat)
  case atStart => exact ⟨1, 1, _, _, [0], by decide, by decide, by decide, rfl, rfl, Lib.hid (by rw [idx1, numsF_zero]), rfl, hs⟩
  case round =>
    clear hs
    obtain ⟨q, m, ad, cp, l, hq1, hq, hm, rfl, rfl, HL, HLn, hs⟩ := hrel
    have HM : Hid (∀ i, idx q = i → m ≤ i + 1) := Lib.hid (by rintro i rfl; rw [HLn.out, HL.out, List.length_cons]; have := numsF_len f (idx q); omega)
    have hc : q = 1 ∨ q = 2 ∨ q = 3 ∨ q = 4 ∨ q = 5 ∨ q = 6 ∨ q = 7 ∨ q = 8 ∨ q = 9 ∨ q = 10 := by omega
    rcases hc with rfl | rfl | rfl | rfl | rfl | rfl | rfl | rfl | rfl | rfl
    · have HB := Lib.hid (bit14 0 (by decide) f hf8)
      have HS := Lib.hid (numsF_succ f 0)
      have hm9 : m ≤ 1 := HM.out _ idx1
      cases hb : (f / 2 ^ 0 % 2 == 1)
      · rw [hb] at HB HS
        clear hb
        have B : (bits BinOp.and IntKind.u16 (f : Int) 1 != 0) = false := HB.out
        as_aux_lemma =>
          go_wp2_with (first | (go_at_call 17; refine (flag_is _ 1 1 flag1 _).mono ?_; rintro e w' ⟨rfl, rfl⟩) | ((with_reducible refine isl ?_); first | ((with_reducible apply ld hs.b0); exact rfl; exact rfl; exact rfl; exact rfl; kernel_rfl) | ((with_reducible apply ld hs.b1); exact rfl; exact rfl; exact rfl; exact rfl; kernel_rfl) | ((with_reducible apply st hs.b0); exact rfl; exact rfl; exact rfl; exact rfl; exact rfl; exact rfl; kernel_rfl; exact rfl; clear hs; intro w hs) | ((with_reducible apply st hs.b1); exact rfl; exact rfl; exact rfl; exact rfl; exact rfl; exact rfl; kernel_rfl; exact rfl; clear hs; intro w hs) | ((with_reducible apply stc hs.b0); exact rfl; exact rfl; exact rfl; exact rfl; exact rfl; kernel_rfl; exact rfl; clear hs; intro w hs) | ((with_reducible apply stc hs.b1); exact rfl; exact rfl; exact rfl; exact rfl; exact rfl; kernel_rfl; exact rfl; clear hs; intro w hs) | ((with_reducible apply app hs.b1); exact rfl; exact rfl; exact rfl; exact rfl; exact slty26; exact rfl; exact rfl; decide; omega; unfold maxLen; omega; clear hs; intro g' c' w hs) | ((with_reducible refine wrap hs ?_); clear hs; intro w hs) | ((with_reducible refine wrapn hs ?_); clear hs; intro w hs) | ((with_reducible refine wrapd hs ?_); clear hs; intro w hs)))
          go_roundw
          case rel => exact ⟨2, m, ad, cp, l, by decide, by decide, hm, rfl, rfl, Lib.hid (by rw [HL.out, idx1, idx2, HS.out, if_neg (by decide), List.append_nil]), HLn, hs⟩
          case measure => simp [intOf]
      · rw [hb] at HB HS
        clear hb
        have B : (bits BinOp.and IntKind.u16 (f : Int) 1 != 0) = true := HB.out
        as_aux_lemma =>
          go_wp2_with (first | (go_at_call 17; refine (flag_is _ 1 1 flag1 _).mono ?_; rintro e w' ⟨rfl, rfl⟩) | ((with_reducible refine isl ?_); first | ((with_reducible apply ld hs.b0); exact rfl; exact rfl; exact rfl; exact rfl; kernel_rfl) | ((with_reducible apply ld hs.b1); exact rfl; exact rfl; exact rfl; exact rfl; kernel_rfl) | ((with_reducible apply st hs.b0); exact rfl; exact rfl; exact rfl; exact rfl; exact rfl; exact rfl; kernel_rfl; exact rfl; clear hs; intro w hs) | ((with_reducible apply st hs.b1); exact rfl; exact rfl; exact rfl; exact rfl; exact rfl; exact rfl; kernel_rfl; exact rfl; clear hs; intro w hs) | ((with_reducible apply stc hs.b0); exact rfl; exact rfl; exact rfl; exact rfl; exact rfl; kernel_rfl; exact rfl; clear hs; intro w hs) | ((with_reducible apply stc hs.b1); exact rfl; exact rfl; exact rfl; exact rfl; exact rfl; kernel_rfl; exact rfl; clear hs; intro w hs) | ((with_reducible apply app hs.b1); exact rfl; exact rfl; exact rfl; exact rfl; exact slty26; exact rfl; exact rfl; decide; omega; unfold maxLen; omega; clear hs; intro g' c' w hs) | ((with_reducible refine wrap hs ?_); clear hs; intro w hs) | ((with_reducible refine wrapn hs ?_); clear hs; intro w hs) | ((with_reducible refine wrapd hs ?_); clear hs; intro w hs)))
          go_roundw
          case rel => exact ⟨2, m + 1, _, _, l ++ [1], by decide, by decide, by omega, rfl, rfl, Lib.hid (by rw [HL.out, idx1, idx2, HS.out, if_pos trivial, no0]; rfl), Lib.hid (by rw [List.length_append, HLn.out]; rfl), by rw [show ints (l ++ [1]) = ints l ++ ints [1] from List.map_append]; exact hs⟩
          case measure => simp [intOf]
    · have HB := Lib.hid (bit14 1 (by decide) f hf8)
      have HS := Lib.hid (numsF_succ f 1)
      have hm9 : m ≤ 2 := HM.out _ idx2
      cases hb : (f / 2 ^ 1 % 2 == 1)
      · rw [hb] at HB HS
        clear hb
        have B : (bits BinOp.and IntKind.u16 (f : Int) 2 != 0) = false := HB.out
        as_aux_lemma =>
          go_wp2_with (first | (go_at_call 17; refine (flag_is _ 2 1 flag2 _).mono ?_; rintro e w' ⟨rfl, rfl⟩) | ((with_reducible refine isl ?_); first | ((with_reducible apply ld hs.b0); exact rfl; exact rfl; exact rfl; exact rfl; kernel_rfl) | ((with_reducible apply ld hs.b1); exact rfl; exact rfl; exact rfl; exact rfl; kernel_rfl) | ((with_reducible apply st hs.b0); exact rfl; exact rfl; exact rfl; exact rfl; exact rfl; exact rfl; kernel_rfl; exact rfl; clear hs; intro w hs) | ((with_reducible apply st hs.b1); exact rfl; exact rfl; exact rfl; exact rfl; exact rfl; exact rfl; kernel_rfl; exact rfl; clear hs; intro w hs) | ((with_reducible apply stc hs.b0); exact rfl; exact rfl; exact rfl; exact rfl; exact rfl; kernel_rfl; exact rfl; clear hs; intro w hs) | ((with_reducible apply stc hs.b1); exact rfl; exact rfl; exact rfl; exact rfl; exact rfl; kernel_rfl; exact rfl; clear hs; intro w hs) | ((with_reducible apply app hs.b1); exact rfl; exact rfl; exact rfl; exact rfl; exact slty26; exact rfl; exact rfl; decide; omega; unfold maxLen; omega; clear hs; intro g' c' w hs) | ((with_reducible refine wrap hs ?_); clear hs; intro w hs) | ((with_reducible refine wrapn hs ?_); clear hs; intro w hs) | ((with_reducible refine wrapd hs ?_); clear hs; intro w hs)))
          go_roundw
          case rel => exact ⟨3, m, ad, cp, l, by decide, by decide, hm, rfl, rfl, Lib.hid (by rw [HL.out, idx2, idx3, HS.out, if_neg (by decide), List.append_nil]), HLn, hs⟩
          case measure => simp [intOf]
      · rw [hb] at HB HS
        clear hb
        have B : (bits BinOp.and IntKind.u16 (f : Int) 2 != 0) = true := HB.out
        as_aux_lemma =>
          go_wp2_with (first | (go_at_call 17; refine (flag_is _ 2 1 flag2 _).mono ?_; rintro e w' ⟨rfl, rfl⟩) | ((with_reducible refine isl ?_); first | ((with_reducible apply ld hs.b0); exact rfl; exact rfl; exact rfl; exact rfl; kernel_rfl) | ((with_reducible apply ld hs.b1); exact rfl; exact rfl; exact rfl; exact rfl; kernel_rfl) | ((with_reducible apply st hs.b0); exact rfl; exact rfl; exact rfl; exact rfl; exact rfl; exact rfl; kernel_rfl; exact rfl; clear hs; intro w hs) | ((with_reducible apply st hs.b1); exact rfl; exact rfl; exact rfl; exact rfl; exact rfl; exact rfl; kernel_rfl; exact rfl; clear hs; intro w hs) | ((with_reducible apply stc hs.b0); exact rfl; exact rfl; exact rfl; exact rfl; exact rfl; kernel_rfl; exact rfl; clear hs; intro w hs) | ((with_reducible apply stc hs.b1); exact rfl; exact rfl; exact rfl; exact rfl; exact rfl; kernel_rfl; exact rfl; clear hs; intro w hs) | ((with_reducible apply app hs.b1); exact rfl; exact rfl; exact rfl; exact rfl; exact slty26; exact rfl; exact rfl; decide; omega; unfold maxLen; omega; clear hs; intro g' c' w hs) | ((with_reducible refine wrap hs ?_); clear hs; intro w hs) | ((with_reducible refine wrapn hs ?_); clear hs; intro w hs) | ((with_reducible refine wrapd hs ?_); clear hs; intro w hs)))
          go_roundw
          case rel => exact ⟨3, m + 1, _, _, l ++ [2], by decide, by decide, by omega, rfl, rfl, Lib.hid (by rw [HL.out, idx2, idx3, HS.out, if_pos trivial, no1]; rfl), Lib.hid (by rw [List.length_append, HLn.out]; rfl), by rw [show ints (l ++ [2]) = ints l ++ ints [2] from List.map_append]; exact hs⟩
          case measure => simp [intOf]
    · have HB := Lib.hid (bit14 2 (by decide) f hf8)
      have HS := Lib.hid (numsF_succ f 2)
      have hm9 : m ≤ 3 := HM.out _ idx3
      cases hb : (f / 2 ^ 2 % 2 == 1)
      · rw [hb] at HB HS
        clear hb
        have B : (bits BinOp.and IntKind.u16 (f : Int) 4 != 0) = false := HB.out
        as_aux_lemma =>
          go_wp2_with (first | (go_at_call 17; refine (flag_is _ 4 1 flag3 _).mono ?_; rintro e w' ⟨rfl, rfl⟩) | ((with_reducible refine isl ?_); first | ((with_reducible apply ld hs.b0); exact rfl; exact rfl; exact rfl; exact rfl; kernel_rfl) | ((with_reducible apply ld hs.b1); exact rfl; exact rfl; exact rfl; exact rfl; kernel_rfl) | ((with_reducible apply st hs.b0); exact rfl; exact rfl; exact rfl; exact rfl; exact rfl; exact rfl; kernel_rfl; exact rfl; clear hs; intro w hs) | ((with_reducible apply st hs.b1); exact rfl; exact rfl; exact rfl; exact rfl; exact rfl; exact rfl; kernel_rfl; exact rfl; clear hs; intro w hs) | ((with_reducible apply stc hs.b0); exact rfl; exact rfl; exact rfl; exact rfl; exact rfl; kernel_rfl; exact rfl; clear hs; intro w hs) | ((with_reducible apply stc hs.b1); exact rfl; exact rfl; exact rfl; exact rfl; exact rfl; kernel_rfl; exact rfl; clear hs; intro w hs) | ((with_reducible apply app hs.b1); exact rfl; exact rfl; exact rfl; exact rfl; exact slty26; exact rfl; exact rfl; decide; omega; unfold maxLen; omega; clear hs; intro g' c' w hs) | ((with_reducible refine wrap hs ?_); clear hs; intro w hs) | ((with_reducible refine wrapn hs ?_); clear hs; intro w hs) | ((with_reducible refine wrapd hs ?_); clear hs; intro w hs)))
          go_roundw
          case rel => exact ⟨4, m, ad, cp, l, by decide, by decide, hm, rfl, rfl, Lib.hid (by rw [HL.out, idx3, idx4, HS.out, if_neg (by decide), List.append_nil]), HLn, hs⟩
          case measure => simp [intOf]
      · rw [hb] at HB HS
        clear hb
        have B : (bits BinOp.and IntKind.u16 (f : Int) 4 != 0) = true := HB.out
        as_aux_lemma =>
          go_wp2_with (first | (go_at_call 17; refine (flag_is _ 4 1 flag3 _).mono ?_; rintro e w' ⟨rfl, rfl⟩) | ((with_reducible refine isl ?_); first | ((with_reducible apply ld hs.b0); exact rfl; exact rfl; exact rfl; exact rfl; kernel_rfl) | ((with_reducible apply ld hs.b1); exact rfl; exact rfl; exact rfl; exact rfl; kernel_rfl) | ((with_reducible apply st hs.b0); exact rfl; exact rfl; exact rfl; exact rfl; exact rfl; exact rfl; kernel_rfl; exact rfl; clear hs; intro w hs) | ((with_reducible apply st hs.b1); exact rfl; exact rfl; exact rfl; exact rfl; exact rfl; exact rfl; kernel_rfl; exact rfl; clear hs; intro w hs) | ((with_reducible apply stc hs.b0); exact rfl; exact rfl; exact rfl; exact rfl; exact rfl; kernel_rfl; exact rfl; clear hs; intro w hs) | ((with_reducible apply stc hs.b1); exact rfl; exact rfl; exact rfl; exact rfl; exact rfl; kernel_rfl; exact rfl; clear hs; intro w hs) | ((with_reducible apply app hs.b1); exact rfl; exact rfl; exact rfl; exact rfl; exact slty26; exact rfl; exact rfl; decide; omega; unfold maxLen; omega; clear hs; intro g' c' w hs) | ((with_reducible refine wrap hs ?_); clear hs; intro w hs) | ((with_reducible refine wrapn hs ?_); clear hs; intro w hs) | ((with_reducible refine wrapd hs ?_); clear hs; intro w hs)))
          go_roundw
          case rel => exact ⟨4, m + 1, _, _, l ++ [3], by decide, by decide, by omega, rfl, rfl, Lib.hid (by rw [HL.out, idx3, idx4, HS.out, if_pos trivial, no2]; rfl), Lib.hid (by rw [List.length_append, HLn.out]; rfl), by rw [show ints (l ++ [3]) = ints l ++ ints [3] from List.map_append]; exact hs⟩
          case measure => simp [intOf]
    · have HB := Lib.hid (bit14 3 (by decide) f hf8)
      have HS := Lib.hid (numsF_succ f 3)
      have hm9 : m ≤ 4 := HM.out _ idx4
      cases hb : (f / 2 ^ 3 % 2 == 1)
      · rw [hb] at HB HS
        clear hb
        have B : (bits BinOp.and IntKind.u16 (f : Int) 8 != 0) = false := HB.out
        as_aux_lemma =>
          go_wp2_with (first | (go_at_call 17; refine (flag_is _ 8 1 flag4 _).mono ?_; rintro e w' ⟨rfl, rfl⟩) | ((with_reducible refine isl ?_); first | ((with_reducible apply ld hs.b0); exact rfl; exact rfl; exact rfl; exact rfl; kernel_rfl) | ((with_reducible apply ld hs.b1); exact rfl; exact rfl; exact rfl; exact rfl; kernel_rfl) | ((with_reducible apply st hs.b0); exact rfl; exact rfl; exact rfl; exact rfl; exact rfl; exact rfl; kernel_rfl; exact rfl; clear hs; intro w hs) | ((with_reducible apply st hs.b1); exact rfl; exact rfl; exact rfl; exact rfl; exact rfl; exact rfl; kernel_rfl; exact rfl; clear hs; intro w hs) | ((with_reducible apply stc hs.b0); exact rfl; exact rfl; exact rfl; exact rfl; exact rfl; kernel_rfl; exact rfl; clear hs; intro w hs) | ((with_reducible apply stc hs.b1); exact rfl; exact rfl; exact rfl; exact rfl; exact rfl; kernel_rfl; exact rfl; clear hs; intro w hs) | ((with_reducible apply app hs.b1); exact rfl; exact rfl; exact rfl; exact rfl; exact slty26; exact rfl; exact rfl; decide; omega; unfold maxLen; omega; clear hs; intro g' c' w hs) | ((with_reducible refine wrap hs ?_); clear hs; intro w hs) | ((with_reducible refine wrapn hs ?_); clear hs; intro w hs) | ((with_reducible refine wrapd hs ?_); clear hs; intro w hs)))
          go_roundw
          case rel => exact ⟨5, m, ad, cp, l, by decide, by decide, hm, rfl, rfl, Lib.hid (by rw [HL.out, idx4, idx5, HS.out, if_neg (by decide), List.append_nil]), HLn, hs⟩
          case measure => simp [intOf]
      · rw [hb] at HB HS
        clear hb
        have B : (bits BinOp.and IntKind.u16 (f : Int) 8 != 0) = true := HB.out
        as_aux_lemma =>
          go_wp2_with (first | (go_at_call 17; refine (flag_is _ 8 1 flag4 _).mono ?_; rintro e w' ⟨rfl, rfl⟩) | ((with_reducible refine isl ?_); first | ((with_reducible apply ld hs.b0); exact rfl; exact rfl; exact rfl; exact rfl; kernel_rfl) | ((with_reducible apply ld hs.b1); exact rfl; exact rfl; exact rfl; exact rfl; kernel_rfl) | ((with_reducible apply st hs.b0); exact rfl; exact rfl; exact rfl; exact rfl; exact rfl; exact rfl; kernel_rfl; exact rfl; clear hs; intro w hs) | ((with_reducible apply st hs.b1); exact rfl; exact rfl; exact rfl; exact rfl; exact rfl; exact rfl; kernel_rfl; exact rfl; clear hs; intro w hs) | ((with_reducible apply stc hs.b0); exact rfl; exact rfl; exact rfl; exact rfl; exact rfl; kernel_rfl; exact rfl; clear hs; intro w hs) | ((with_reducible apply stc hs.b1); exact rfl; exact rfl; exact rfl; exact rfl; exact rfl; kernel_rfl; exact rfl; clear hs; intro w hs) | ((with_reducible apply app hs.b1); exact rfl; exact rfl; exact rfl; exact rfl; exact slty26; exact rfl; exact rfl; decide; omega; unfold maxLen; omega; clear hs; intro g' c' w hs) | ((with_reducible refine wrap hs ?_); clear hs; intro w hs) | ((with_reducible refine wrapn hs ?_); clear hs; intro w hs) | ((with_reducible refine wrapd hs ?_); clear hs; intro w hs)))
          go_roundw
          case rel => exact ⟨5, m + 1, _, _, l ++ [4], by decide, by decide, by omega, rfl, rfl, Lib.hid (by rw [HL.out, idx4, idx5, HS.out, if_pos trivial, no3]; rfl), Lib.hid (by rw [List.length_append, HLn.out]; rfl), by rw [show ints (l ++ [4]) = ints l ++ ints [4] from List.map_append]; exact hs⟩
          case measure => simp [intOf]
    · have HB := Lib.hid (bit14 4 (by decide) f hf8)
      have HS := Lib.hid (numsF_succ f 4)
      have hm9 : m ≤ 5 := HM.out _ idx5
      cases hb : (f / 2 ^ 4 % 2 == 1)
      · rw [hb] at HB HS
        clear hb
        have B : (bits BinOp.and IntKind.u16 (f : Int) 16 != 0) = false := HB.out
        as_aux_lemma =>
          go_wp2_with (first | (go_at_call 17; refine (flag_is _ 16 1 flag5 _).mono ?_; rintro e w' ⟨rfl, rfl⟩) | ((with_reducible refine isl ?_); first | ((with_reducible apply ld hs.b0); exact rfl; exact rfl; exact rfl; exact rfl; kernel_rfl) | ((with_reducible apply ld hs.b1); exact rfl; exact rfl; exact rfl; exact rfl; kernel_rfl) | ((with_reducible apply st hs.b0); exact rfl; exact rfl; exact rfl; exact rfl; exact rfl; exact rfl; kernel_rfl; exact rfl; clear hs; intro w hs) | ((with_reducible apply st hs.b1); exact rfl; exact rfl; exact rfl; exact rfl; exact rfl; exact rfl; kernel_rfl; exact rfl; clear hs; intro w hs) | ((with_reducible apply stc hs.b0); exact rfl; exact rfl; exact rfl; exact rfl; exact rfl; kernel_rfl; exact rfl; clear hs; intro w hs) | ((with_reducible apply stc hs.b1); exact rfl; exact rfl; exact rfl; exact rfl; exact rfl; kernel_rfl; exact rfl; clear hs; intro w hs) | ((with_reducible apply app hs.b1); exact rfl; exact rfl; exact rfl; exact rfl; exact slty26; exact rfl; exact rfl; decide; omega; unfold maxLen; omega; clear hs; intro g' c' w hs) | ((with_reducible refine wrap hs ?_); clear hs; intro w hs) | ((with_reducible refine wrapn hs ?_); clear hs; intro w hs) | ((with_reducible refine wrapd hs ?_); clear hs; intro w hs)))
          go_roundw
          case rel => exact ⟨6, m, ad, cp, l, by decide, by decide, hm, rfl, rfl, Lib.hid (by rw [HL.out, idx5, idx6, HS.out, if_neg (by decide), List.append_nil]), HLn, hs⟩
          case measure => simp [intOf]
      · rw [hb] at HB HS
        clear hb
        have B : (bits BinOp.and IntKind.u16 (f : Int) 16 != 0) = true := HB.out
        as_aux_lemma =>
          go_wp2_with (first | (go_at_call 17; refine (flag_is _ 16 1 flag5 _).mono ?_; rintro e w' ⟨rfl, rfl⟩) | ((with_reducible refine isl ?_); first | ((with_reducible apply ld hs.b0); exact rfl; exact rfl; exact rfl; exact rfl; kernel_rfl) | ((with_reducible apply ld hs.b1); exact rfl; exact rfl; exact rfl; exact rfl; kernel_rfl) | ((with_reducible apply st hs.b0); exact rfl; exact rfl; exact rfl; exact rfl; exact rfl; exact rfl; kernel_rfl; exact rfl; clear hs; intro w hs) | ((with_reducible apply st hs.b1); exact rfl; exact rfl; exact rfl; exact rfl; exact rfl; exact rfl; kernel_rfl; exact rfl; clear hs; intro w hs) | ((with_reducible apply stc hs.b0); exact rfl; exact rfl; exact rfl; exact rfl; exact rfl; kernel_rfl; exact rfl; clear hs; intro w hs) | ((with_reducible apply stc hs.b1); exact rfl; exact rfl; exact rfl; exact rfl; exact rfl; kernel_rfl; exact rfl; clear hs; intro w hs) | ((with_reducible apply app hs.b1); exact rfl; exact rfl; exact rfl; exact rfl; exact slty26; exact rfl; exact rfl; decide; omega; unfold maxLen; omega; clear hs; intro g' c' w hs) | ((with_reducible refine wrap hs ?_); clear hs; intro w hs) | ((with_reducible refine wrapn hs ?_); clear hs; intro w hs) | ((with_reducible refine wrapd hs ?_); clear hs; intro w hs)))
          go_roundw
          case rel => exact ⟨6, m + 1, _, _, l ++ [5], by decide, by decide, by omega, rfl, rfl, Lib.hid (by rw [HL.out, idx5, idx6, HS.out, if_pos trivial, no4]; rfl), Lib.hid (by rw [List.length_append, HLn.out]; rfl), by rw [show ints (l ++ [5]) = ints l ++ ints [5] from List.map_append]; exact hs⟩
          case measure => simp [intOf]
    · as_aux_lemma =>
        go_wp2_with (first | (go_at_call 17; refine (flag_is _ 0 0 flag6 _).mono ?_; rintro e w' ⟨rfl, rfl⟩) | ((with_reducible refine isl ?_); first | ((with_reducible apply ld hs.b0); exact rfl; exact rfl; exact rfl; exact rfl; kernel_rfl) | ((with_reducible apply ld hs.b1); exact rfl; exact rfl; exact rfl; exact rfl; kernel_rfl) | ((with_reducible apply st hs.b0); exact rfl; exact rfl; exact rfl; exact rfl; exact rfl; exact rfl; kernel_rfl; exact rfl; clear hs; intro w hs) | ((with_reducible apply st hs.b1); exact rfl; exact rfl; exact rfl; exact rfl; exact rfl; exact rfl; kernel_rfl; exact rfl; clear hs; intro w hs) | ((with_reducible apply stc hs.b0); exact rfl; exact rfl; exact rfl; exact rfl; exact rfl; kernel_rfl; exact rfl; clear hs; intro w hs) | ((with_reducible apply stc hs.b1); exact rfl; exact rfl; exact rfl; exact rfl; exact rfl; kernel_rfl; exact rfl; clear hs; intro w hs) | ((with_reducible refine wrap hs ?_); clear hs; intro w hs) | ((with_reducible refine wrapn hs ?_); clear hs; intro w hs) | ((with_reducible refine wrapd hs ?_); clear hs; intro w hs)))
        go_roundw
        case rel => exact ⟨7, m, ad, cp, l, by decide, by decide, hm, rfl, rfl, Lib.hid (by rw [HL.out, idx6, idx7]), HLn, hs⟩
        case measure => simp [intOf]
    · have HB := Lib.hid (bit14 5 (by decide) f hf8)
      have HS := Lib.hid (numsF_succ f 5)
      have hm9 : m ≤ 6 := HM.out _ idx7
      cases hb : (f / 2 ^ 5 % 2 == 1)
      · rw [hb] at HB HS
        clear hb
        have B : (bits BinOp.and IntKind.u16 (f : Int) 32 != 0) = false := HB.out
        as_aux_lemma =>
          go_wp2_with (first | (go_at_call 17; refine (flag_is _ 32 1 flag7 _).mono ?_; rintro e w' ⟨rfl, rfl⟩) | ((with_reducible refine isl ?_); first | ((with_reducible apply ld hs.b0); exact rfl; exact rfl; exact rfl; exact rfl; kernel_rfl) | ((with_reducible apply ld hs.b1); exact rfl; exact rfl; exact rfl; exact rfl; kernel_rfl) | ((with_reducible apply st hs.b0); exact rfl; exact rfl; exact rfl; exact rfl; exact rfl; exact rfl; kernel_rfl; exact rfl; clear hs; intro w hs) | ((with_reducible apply st hs.b1); exact rfl; exact rfl; exact rfl; exact rfl; exact rfl; exact rfl; kernel_rfl; exact rfl; clear hs; intro w hs) | ((with_reducible apply stc hs.b0); exact rfl; exact rfl; exact rfl; exact rfl; exact rfl; kernel_rfl; exact rfl; clear hs; intro w hs) | ((with_reducible apply stc hs.b1); exact rfl; exact rfl; exact rfl; exact rfl; exact rfl; kernel_rfl; exact rfl; clear hs; intro w hs) | ((with_reducible apply app hs.b1); exact rfl; exact rfl; exact rfl; exact rfl; exact slty26; exact rfl; exact rfl; decide; omega; unfold maxLen; omega; clear hs; intro g' c' w hs) | ((with_reducible refine wrap hs ?_); clear hs; intro w hs) | ((with_reducible refine wrapn hs ?_); clear hs; intro w hs) | ((with_reducible refine wrapd hs ?_); clear hs; intro w hs)))
          go_roundw
          case rel => exact ⟨8, m, ad, cp, l, by decide, by decide, hm, rfl, rfl, Lib.hid (by rw [HL.out, idx7, idx8, HS.out, if_neg (by decide), List.append_nil]), HLn, hs⟩
          case measure => simp [intOf]
      · rw [hb] at HB HS
        clear hb
        have B : (bits BinOp.and IntKind.u16 (f : Int) 32 != 0) = true := HB.out
        as_aux_lemma =>
          go_wp2_with (first | (go_at_call 17; refine (flag_is _ 32 1 flag7 _).mono ?_; rintro e w' ⟨rfl, rfl⟩) | ((with_reducible refine isl ?_); first | ((with_reducible apply ld hs.b0); exact rfl; exact rfl; exact rfl; exact rfl; kernel_rfl) | ((with_reducible apply ld hs.b1); exact rfl; exact rfl; exact rfl; exact rfl; kernel_rfl) | ((with_reducible apply st hs.b0); exact rfl; exact rfl; exact rfl; exact rfl; exact rfl; exact rfl; kernel_rfl; exact rfl; clear hs; intro w hs) | ((with_reducible apply st hs.b1); exact rfl; exact rfl; exact rfl; exact rfl; exact rfl; exact rfl; kernel_rfl; exact rfl; clear hs; intro w hs) | ((with_reducible apply stc hs.b0); exact rfl; exact rfl; exact rfl; exact rfl; exact rfl; kernel_rfl; exact rfl; clear hs; intro w hs) | ((with_reducible apply stc hs.b1); exact rfl; exact rfl; exact rfl; exact rfl; exact rfl; kernel_rfl; exact rfl; clear hs; intro w hs) | ((with_reducible apply app hs.b1); exact rfl; exact rfl; exact rfl; exact rfl; exact slty26; exact rfl; exact rfl; decide; omega; unfold maxLen; omega; clear hs; intro g' c' w hs) | ((with_reducible refine wrap hs ?_); clear hs; intro w hs) | ((with_reducible refine wrapn hs ?_); clear hs; intro w hs) | ((with_reducible refine wrapd hs ?_); clear hs; intro w hs)))
          go_roundw
          case rel => exact ⟨8, m + 1, _, _, l ++ [7], by decide, by decide, by omega, rfl, rfl, Lib.hid (by rw [HL.out, idx7, idx8, HS.out, if_pos trivial, no5]; rfl), Lib.hid (by rw [List.length_append, HLn.out]; rfl), by rw [show ints (l ++ [7]) = ints l ++ ints [7] from List.map_append]; exact hs⟩
          case measure => simp [intOf]
    · have HB := Lib.hid (bit14 6 (by decide) f hf8)
      have HS := Lib.hid (numsF_succ f 6)
      have hm9 : m ≤ 7 := HM.out _ idx8
      cases hb : (f / 2 ^ 6 % 2 == 1)
      · rw [hb] at HB HS
        clear hb
        have B : (bits BinOp.and IntKind.u16 (f : Int) 64 != 0) = false := HB.out
        as_aux_lemma =>
          go_wp2_with (first | (go_at_call 17; refine (flag_is _ 64 1 flag8 _).mono ?_; rintro e w' ⟨rfl, rfl⟩) | ((with_reducible refine isl ?_); first | ((with_reducible apply ld hs.b0); exact rfl; exact rfl; exact rfl; exact rfl; kernel_rfl) | ((with_reducible apply ld hs.b1); exact rfl; exact rfl; exact rfl; exact rfl; kernel_rfl) | ((with_reducible apply st hs.b0); exact rfl; exact rfl; exact rfl; exact rfl; exact rfl; exact rfl; kernel_rfl; exact rfl; clear hs; intro w hs) | ((with_reducible apply st hs.b1); exact rfl; exact rfl; exact rfl; exact rfl; exact rfl; exact rfl; kernel_rfl; exact rfl; clear hs; intro w hs) | ((with_reducible apply stc hs.b0); exact rfl; exact rfl; exact rfl; exact rfl; exact rfl; kernel_rfl; exact rfl; clear hs; intro w hs) | ((with_reducible apply stc hs.b1); exact rfl; exact rfl; exact rfl; exact rfl; exact rfl; kernel_rfl; exact rfl; clear hs; intro w hs) | ((with_reducible apply app hs.b1); exact rfl; exact rfl; exact rfl; exact rfl; exact slty26; exact rfl; exact rfl; decide; omega; unfold maxLen; omega; clear hs; intro g' c' w hs) | ((with_reducible refine wrap hs ?_); clear hs; intro w hs) | ((with_reducible refine wrapn hs ?_); clear hs; intro w hs) | ((with_reducible refine wrapd hs ?_); clear hs; intro w hs)))
          go_roundw
          case rel => exact ⟨9, m, ad, cp, l, by decide, by decide, hm, rfl, rfl, Lib.hid (by rw [HL.out, idx8, idx9, HS.out, if_neg (by decide), List.append_nil]), HLn, hs⟩
          case measure => simp [intOf]
      · rw [hb] at HB HS
        clear hb
        have B : (bits BinOp.and IntKind.u16 (f : Int) 64 != 0) = true := HB.out
        as_aux_lemma =>
          go_wp2_with (first | (go_at_call 17; refine (flag_is _ 64 1 flag8 _).mono ?_; rintro e w' ⟨rfl, rfl⟩) | ((with_reducible refine isl ?_); first | ((with_reducible apply ld hs.b0); exact rfl; exact rfl; exact rfl; exact rfl; kernel_rfl) | ((with_reducible apply ld hs.b1); exact rfl; exact rfl; exact rfl; exact rfl; kernel_rfl) | ((with_reducible apply st hs.b0); exact rfl; exact rfl; exact rfl; exact rfl; exact rfl; exact rfl; kernel_rfl; exact rfl; clear hs; intro w hs) | ((with_reducible apply st hs.b1); exact rfl; exact rfl; exact rfl; exact rfl; exact rfl; exact rfl; kernel_rfl; exact rfl; clear hs; intro w hs) | ((with_reducible apply stc hs.b0); exact rfl; exact rfl; exact rfl; exact rfl; exact rfl; kernel_rfl; exact rfl; clear hs; intro w hs) | ((with_reducible apply stc hs.b1); exact rfl; exact rfl; exact rfl; exact rfl; exact rfl; kernel_rfl; exact rfl; clear hs; intro w hs) | ((with_reducible apply app hs.b1); exact rfl; exact rfl; exact rfl; exact rfl; exact slty26; exact rfl; exact rfl; decide; omega; unfold maxLen; omega; clear hs; intro g' c' w hs) | ((with_reducible refine wrap hs ?_); clear hs; intro w hs) | ((with_reducible refine wrapn hs ?_); clear hs; intro w hs) | ((with_reducible refine wrapd hs ?_); clear hs; intro w hs)))
          go_roundw
          case rel => exact ⟨9, m + 1, _, _, l ++ [8], by decide, by decide, by omega, rfl, rfl, Lib.hid (by rw [HL.out, idx8, idx9, HS.out, if_pos trivial, no6]; rfl), Lib.hid (by rw [List.length_append, HLn.out]; rfl), by rw [show ints (l ++ [8]) = ints l ++ ints [8] from List.map_append]; exact hs⟩
          case measure => simp [intOf]
    · have HB := Lib.hid (bit14 7 (by decide) f hf8)
      have HS := Lib.hid (numsF_succ f 7)
      have hm9 : m ≤ 8 := HM.out _ idx9
      cases hb : (f / 2 ^ 7 % 2 == 1)
      · rw [hb] at HB HS
        clear hb
        have B : (bits BinOp.and IntKind.u16 (f : Int) 128 != 0) = false := HB.out
        as_aux_lemma =>
          go_wp2_with (first | (go_at_call 17; refine (flag_is _ 128 1 flag9 _).mono ?_; rintro e w' ⟨rfl, rfl⟩) | ((with_reducible refine isl ?_); first | ((with_reducible apply ld hs.b0); exact rfl; exact rfl; exact rfl; exact rfl; kernel_rfl) | ((with_reducible apply ld hs.b1); exact rfl; exact rfl; exact rfl; exact rfl; kernel_rfl) | ((with_reducible apply st hs.b0); exact rfl; exact rfl; exact rfl; exact rfl; exact rfl; exact rfl; kernel_rfl; exact rfl; clear hs; intro w hs) | ((with_reducible apply st hs.b1); exact rfl; exact rfl; exact rfl; exact rfl; exact rfl; exact rfl; kernel_rfl; exact rfl; clear hs; intro w hs) | ((with_reducible apply stc hs.b0); exact rfl; exact rfl; exact rfl; exact rfl; exact rfl; kernel_rfl; exact rfl; clear hs; intro w hs) | ((with_reducible apply stc hs.b1); exact rfl; exact rfl; exact rfl; exact rfl; exact rfl; kernel_rfl; exact rfl; clear hs; intro w hs) | ((with_reducible apply app hs.b1); exact rfl; exact rfl; exact rfl; exact rfl; exact slty26; exact rfl; exact rfl; decide; omega; unfold maxLen; omega; clear hs; intro g' c' w hs) | ((with_reducible refine wrap hs ?_); clear hs; intro w hs) | ((with_reducible refine wrapn hs ?_); clear hs; intro w hs) | ((with_reducible refine wrapd hs ?_); clear hs; intro w hs)))
          go_roundw
          case rel => exact ⟨10, m, ad, cp, l, by decide, by decide, hm, rfl, rfl, Lib.hid (by rw [HL.out, idx9, idx10, HS.out, if_neg (by decide), List.append_nil]), HLn, hs⟩
          case measure => simp [intOf]
      · rw [hb] at HB HS
        clear hb
        have B : (bits BinOp.and IntKind.u16 (f : Int) 128 != 0) = true := HB.out
        as_aux_lemma =>
          go_wp2_with (first | (go_at_call 17; refine (flag_is _ 128 1 flag9 _).mono ?_; rintro e w' ⟨rfl, rfl⟩) | ((with_reducible refine isl ?_); first | ((with_reducible apply ld hs.b0); exact rfl; exact rfl; exact rfl; exact rfl; kernel_rfl) | ((with_reducible apply ld hs.b1); exact rfl; exact rfl; exact rfl; exact rfl; kernel_rfl) | ((with_reducible apply st hs.b0); exact rfl; exact rfl; exact rfl; exact rfl; exact rfl; exact rfl; kernel_rfl; exact rfl; clear hs; intro w hs) | ((with_reducible apply st hs.b1); exact rfl; exact rfl; exact rfl; exact rfl; exact rfl; exact rfl; kernel_rfl; exact rfl; clear hs; intro w hs) | ((with_reducible apply stc hs.b0); exact rfl; exact rfl; exact rfl; exact rfl; exact rfl; kernel_rfl; exact rfl; clear hs; intro w hs) | ((with_reducible apply stc hs.b1); exact rfl; exact rfl; exact rfl; exact rfl; exact rfl; kernel_rfl; exact rfl; clear hs; intro w hs) | ((with_reducible apply app hs.b1); exact rfl; exact rfl; exact rfl; exact rfl; exact slty26; exact rfl; exact rfl; decide; omega; unfold maxLen; omega; clear hs; intro g' c' w hs) | ((with_reducible refine wrap hs ?_); clear hs; intro w hs) | ((with_reducible refine wrapn hs ?_); clear hs; intro w hs) | ((with_reducible refine wrapd hs ?_); clear hs; intro w hs)))
          go_roundw
          case rel => exact ⟨10, m + 1, _, _, l ++ [9], by decide, by decide, by omega, rfl, rfl, Lib.hid (by rw [HL.out, idx9, idx10, HS.out, if_pos trivial, no7]; rfl), Lib.hid (by rw [List.length_append, HLn.out]; rfl), by rw [show ints (l ++ [9]) = ints l ++ ints [9] from List.map_append]; exact hs⟩
          case measure => simp [intOf]
    · have HLL := Lib.hid (show numbers ⟨fg, bg, f⟩ = l ++ (colN fg 0 ++ colN bg 10) by rw [HN.out, HL.out, idx10])
      as_aux_lemma =>
        go_wp2_with (first | (go_at_call 24; refine (numbers_t fg 0 cr1 (.inl rfl) _ rfl hs).mono ?_; clear hs; rintro e w hc; obtain ⟨ca, ccp, rfl, hs⟩ := hc.elim; clear hc) | (go_at_call 24; refine (numbers_t bg 10 cr2 (.inr rfl) _ rfl hs).mono ?_; clear hs; rintro e w hc; obtain ⟨ca, ccp, rfl, hs⟩ := hc.elim; clear hc) | (apply appr hs.b1; exact rfl; exact rfl; exact rfl; exact rfl; exact slty26; exact hs.own_reads.1; exact ints_ok; (rw [List.length_map]; have := C1.out; omega); (rw [List.length_map]; have := C1.out; unfold maxLen; omega); clear hs; intro a5 c5 w hs; generalize hq : m + (ints (colN fg 0)).length = q5 at hs ⊢; have Hq5 := Lib.hid hq; have Lq5 : q5 ≤ 14 := (by rw [← hq, List.length_map]; have := C1.out; omega); clear hq) | (apply appr hs.b1; exact rfl; exact rfl; exact rfl; exact rfl; exact slty26; exact hs.own_reads.1; exact ints_ok; (rw [List.length_map]; have := C2.out; omega); (rw [List.length_map]; have := C2.out; unfold maxLen; omega); clear hs; intro a6 c6 w hs; generalize hq : q5 + (ints (colN bg 10)).length = q6 at hs ⊢; have Hq6 := Lib.hid hq; have Lq6 : q6 ≤ 19 := (by rw [← hq, List.length_map]; have := C2.out; omega); clear hq) | ((with_reducible refine isl ?_); first | ((with_reducible apply ld hs.b0); exact rfl; exact rfl; exact rfl; exact rfl; kernel_rfl) | ((with_reducible apply ld hs.b1); exact rfl; exact rfl; exact rfl; exact rfl; kernel_rfl) | ((with_reducible apply ld hs.b2); exact rfl; exact rfl; exact rfl; exact rfl; kernel_rfl) | ((with_reducible apply ld hs.b3); exact rfl; exact rfl; exact rfl; exact rfl; kernel_rfl) | ((with_reducible apply st hs.b0); exact rfl; exact rfl; exact rfl; exact rfl; exact rfl; exact rfl; kernel_rfl; exact rfl; clear hs; intro w hs) | ((with_reducible apply st hs.b1); exact rfl; exact rfl; exact rfl; exact rfl; exact rfl; exact rfl; kernel_rfl; exact rfl; clear hs; intro w hs) | ((with_reducible apply st hs.b2); exact rfl; exact rfl; exact rfl; exact rfl; exact rfl; exact rfl; kernel_rfl; exact rfl; clear hs; intro w hs) | ((with_reducible apply st hs.b3); exact rfl; exact rfl; exact rfl; exact rfl; exact rfl; exact rfl; kernel_rfl; exact rfl; clear hs; intro w hs) | ((with_reducible apply stc hs.b0); exact rfl; exact rfl; exact rfl; exact rfl; exact rfl; kernel_rfl; exact rfl; clear hs; intro w hs) | ((with_reducible apply stc hs.b1); exact rfl; exact rfl; exact rfl; exact rfl; exact rfl; kernel_rfl; exact rfl; clear hs; intro w hs) | ((with_reducible apply stc hs.b2); exact rfl; exact rfl; exact rfl; exact rfl; exact rfl; kernel_rfl; exact rfl; clear hs; intro w hs) | ((with_reducible apply stc hs.b3); exact rfl; exact rfl; exact rfl; exact rfl; exact rfl; kernel_rfl; exact rfl; clear hs; intro w hs) | ((with_reducible refine wrap hs ?_); clear hs; intro w hs) | ((with_reducible refine wrapn hs ?_); clear hs; intro w hs) | ((with_reducible refine wrapd hs ?_); clear hs; intro w hs)))
        go_ret
        refine ⟨a6, c6, q6, ?_, rfl, ?_⟩
        · rw [HLL.out, ← Hq6.out, ← Hq5.out, HLn.out]; simp; omega
        · rw [HLL.out]
          have hs := hs.b1.drop.b1.drop.b1.drop
          rw [show ints (l ++ (colN fg 0 ++ colN bg 10)) = ints l ++ ints (colN fg 0) ++ ints (colN bg 10) by simp]
          exact hs
end Go.Proofs.Ytkmbgnonpnhfcaa
