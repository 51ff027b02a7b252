import Derived.Test.YtninmdoeippcgaaM6
namespace Go.Proofs.Ytninmdoeippcgaa
open Go.RowKit Go.Mem Go.Modes Go.Maps
variable {W w : World} {H : List HProp}
theorem plc_none {p : Bool} {n : Int} (h : place p n = none) : plc p n = 0 := by unfold plc; rw [h]
theorem plc_some {p : Bool} {n : Int} {i : Nat} (h : place p n = some i) : plc p n = ((2 ^ i : Nat) : Int) := by unfold plc; rw [h]
theorem geti_w (m : M) (i : Nat) (h : i < 8) : ((wrap64 ((Modes.bits m : Int) / ((2 ^ i : Nat) : Int))).tmod 2 == 1) = m.get i := by
  have h1 : (0 : Int) ≤ (Modes.bits m : Int) / ((2 ^ i : Nat) : Int) := Int.ediv_nonneg (Int.natCast_nonneg _) (Int.natCast_nonneg _)
  have h2 : (Modes.bits m : Int) / ((2 ^ i : Nat) : Int) ≤ 255 := by
    have := Modes.bits_lt m
    rw [← Int.natCast_ediv]
    have : Modes.bits m / 2 ^ i ≤ Modes.bits m := Nat.div_le_self _ _
    omega
  rw [← bit_geti m i h]
  generalize (Modes.bits m : Int) / ((2 ^ i : Nat) : Int) = x at h1 h2
  have e : wrap64 x = x := by unfold wrap64; omega
  rw [e, Int.tmod_eq_emod_of_nonneg h1]
attribute [local irreducible] World.setCell World.setCells World.alloc World.drew World.drewN Calls sat cel own blk old mp wpQuiet tab setb acc
theorem bits_n {m : M} {nn : Nat} (h : Modes.bits m = nn) (hs : sat W H w) : Calls Try.prog 19 #[mV m] w fun e w' => e = .returned (.int .u8 (nn : Int)) ∧ sat W H w' := h ▸ bits19 m hs
set_option maxHeartbeats 2000000 in
theorem get11 (m : M) (p : Bool) (n : Int) (hs : sat W H w) : Calls Try.prog 11 #[mV m, .bool p, .int .i64 n] w fun e w' => e = .returned (.tuple #[.bool (Modes.get m p n).1, .bool (Modes.get m p n).2]) ∧ sat W H w' := by
  cases hp : place p n with
  | none =>
    have HP := Lib.hid (plc_none hp)
    rw [get_none hp]
    clear hp
    go_enter Try.func11, Try.ntmps11
    go_wp2_with (first | (go_at_call 18; refine (place_n HP.out w).mono ?_; rintro e w' ⟨rfl, rfl⟩) | (apply ld hs.b0; exact rfl; exact rfl; exact rfl; exact rfl; kernel_rfl) | (apply st hs.b0; exact rfl; exact rfl; exact rfl; exact rfl; exact rfl; exact rfl; kernel_rfl; exact rfl; clear hs; intro w hs) | (apply stc hs.b0; exact rfl; exact rfl; exact rfl; exact rfl; exact rfl; kernel_rfl; exact rfl; clear hs; intro w hs) | (refine wrap hs ?_; clear hs; (first | generalize w.heap.size = z1); intro w hs) | (refine wrap hs ?_; clear hs; intro w hs) | (refine wrapn hs ?_; clear hs; intro w hs) | (refine wrapd hs ?_; clear hs; intro w hs))
    refine end_ret rfl (results_tmp2 rfl _ _ _) ?_
    exact ⟨rfl, hs.drop⟩
  | some i =>
    have HP := Lib.hid (plc_some hp)
    have hi := place_lt hp
    have HG := Lib.hid (geti_w m i hi)
    have h3 := pow8 i hi
    rw [get_some hp]
    clear hp hi
    obtain ⟨q, hq⟩ : ∃ q : Nat, q = 2 ^ i := ⟨_, rfl⟩
    rw [← hq] at HP HG h3
    obtain ⟨h4, h5⟩ := h3
    clear hq
    obtain ⟨nn, hnn⟩ : ∃ nn, Modes.bits m = nn := ⟨_, rfl⟩
    have h6 := Modes.bits_lt m
    rw [hnn] at HG h6
    have HN := Lib.hid hnn
    clear hnn
    have e1 : ((q : Int) == 0) = false := by simp; omega
    have h7 : (0 : Int) < (q : Int) := by omega
    have h8 : (q : Int) ≤ 128 := by omega
    have h9 : (nn : Int) < 256 := by omega
    obtain ⟨a0, a1, a2, a3, a4, a5, a6, a7⟩ := m
    go_enter Try.func11, Try.ntmps11
    go_wp2_with (first | (go_at_call 18; refine (place_n HP.out w).mono ?_; rintro e w' ⟨rfl, rfl⟩) | (go_at_call 19; refine (bits_n HN.out hs).mono ?_; clear hs; rintro e w ⟨rfl, hs⟩) | (apply ldsw hs.b0; exact rfl; exact rfl; exact rfl; (show rowTy _ _ 8 = true; kernel_rfl)) | (apply ld hs.b0; exact rfl; exact rfl; exact rfl; exact rfl; kernel_rfl) | (apply st hs.b0; exact rfl; exact rfl; exact rfl; exact rfl; exact rfl; exact rfl; kernel_rfl; exact rfl; clear hs; intro w hs) | (apply stc hs.b0; exact rfl; exact rfl; exact rfl; exact rfl; exact rfl; kernel_rfl; exact rfl; clear hs; intro w hs) | (refine wrap hs ?_; clear hs; (first | generalize w.heap.size = z1); intro w hs) | (refine wrap hs ?_; clear hs; intro w hs) | (refine wrapn hs ?_; clear hs; intro w hs) | (refine wrapd hs ?_; clear hs; intro w hs))
    refine end_ret rfl (results_tmp2 rfl _ _ _) ?_
    rw [← HG.out]
    exact ⟨rfl, hs.drop⟩
set_option maxHeartbeats 2000000 in
theorem fn14 (p : Bool) (n : Int) (w : World) : Calls Try.prog 14 #[.bool p, .int .i64 n] w fun e w' => e = .returned (.bool (p && (n == 47 || n == 1047 || n == 1049))) ∧ w' = w := by
  cases p
  · go_enter Try.func14, Try.ntmps14
    go_wp2
    go_ret
    exact ⟨rfl, rfl⟩
  · by_cases h1 : n = 47
    · subst h1
      go_enter Try.func14, Try.ntmps14
      go_wp2
      go_ret
      exact ⟨rfl, rfl⟩
    · have b1 := beq_no h1
      by_cases h2 : n = 1047
      · subst h2
        go_enter Try.func14, Try.ntmps14
        go_wp2
        go_ret
        exact ⟨rfl, rfl⟩
      · have b2 := beq_no h2
        have HF := Lib.hid (show (true && (n == 47 || n == 1047 || n == 1049)) = (n == 1049) by rw [b1, b2]; rfl)
        clear h1 h2
        go_enter Try.func14, Try.ntmps14
        go_wp2
        go_ret
        exact ⟨ret_bool HF.out, rfl⟩
theorem of_n {n : Nat} {m : M} (h : n < 256) (e : ofBits n = m) (hs : sat W H w) : Calls Try.prog 20 #[.int .u8 n] w fun e w' => e = .returned (mV m) ∧ sat W H w' := e ▸ of20 n h hs
theorem of_k {x : Int} {n : Nat} {m : M} (ex : x = n) (h : n < 256) (e : ofBits n = m) (hs : sat W H w) : Calls Try.prog 20 #[.int .u8 x] w fun e w' => e = .returned (mV m) ∧ sat W H w' := ex ▸ of_n h e hs
theorem getr {m : M} {p : Bool} {n : Int} {x : Bool × Bool} (h : Modes.get m p n = x) (hs : sat W H w) : Calls Try.prog 11 #[mV m, .bool p, .int .i64 n] w fun e w' => e = .returned (.tuple #[.bool x.1, .bool x.2]) ∧ sat W H w' := h ▸ get11 m p n hs
set_option maxHeartbeats 4000000 in
theorem put8 (m : M) (p : Bool) (n : Int) (on : Bool) (hs : sat W H w) : Calls Try.prog 8 #[mV m, .bool p, .int .i64 n, .bool on] w fun e w' => e = .returned (.tuple #[mV (Modes.put m p n on).1, .bool (Modes.put m p n on).2]) ∧ sat W H w' := by
  cases hp : place p n with
  | none =>
    have HP := Lib.hid (plc_none hp)
    rw [put_none hp]
    clear hp
    obtain ⟨a0, a1, a2, a3, a4, a5, a6, a7⟩ := m
    go_enter Try.func8, Try.ntmps8
    go_wp2_with (first | (go_at_call 18; refine (place_n HP.out w).mono ?_; rintro e w' ⟨rfl, rfl⟩) | (apply stsw hs.b0; exact rfl; exact rfl; exact rfl; exact rfl; (show rowTy _ _ 8 = true; kernel_rfl); exact rfl; exact rfl; exact rfl; clear hs; intro w hs) | (apply stsw hs.b1; exact rfl; exact rfl; exact rfl; exact rfl; (show rowTy _ _ 8 = true; kernel_rfl); exact rfl; exact rfl; exact rfl; clear hs; intro w hs) | (apply ldsw hs.b0; exact rfl; exact rfl; exact rfl; (show rowTy _ _ 8 = true; kernel_rfl)) | (apply ldsw hs.b1; exact rfl; exact rfl; exact rfl; (show rowTy _ _ 8 = true; kernel_rfl)) | (apply ld hs.b0; exact rfl; exact rfl; exact rfl; exact rfl; kernel_rfl) | (apply ld hs.b1; exact rfl; exact rfl; exact rfl; exact rfl; kernel_rfl) | (apply st hs.b0; exact rfl; exact rfl; exact rfl; exact rfl; exact rfl; exact rfl; kernel_rfl; exact rfl; clear hs; intro w hs) | (apply st hs.b1; exact rfl; exact rfl; exact rfl; exact rfl; exact rfl; exact rfl; kernel_rfl; exact rfl; clear hs; intro w hs) | (apply stc hs.b0; exact rfl; exact rfl; exact rfl; exact rfl; exact rfl; kernel_rfl; exact rfl; clear hs; intro w hs) | (apply stc hs.b1; exact rfl; exact rfl; exact rfl; exact rfl; exact rfl; kernel_rfl; exact rfl; clear hs; intro w hs) | (refine wrap hs ?_; clear hs; (first | (have _t := z1; clear _t; generalize w.heap.size = z2) | generalize w.heap.size = z1); intro w hs) | (refine wrap hs ?_; clear hs; intro w hs) | (refine wrapn hs ?_; clear hs; intro w hs) | (refine wrapd hs ?_; clear hs; intro w hs))
    first
    | refine ret_cellt hs rfl rfl rfl rfl (show rowTy _ _ 8 = true by kernel_rfl) ⟨rfl, hs.drop.drop⟩
    | refine ret_cellt hs.b1 rfl rfl rfl rfl (show rowTy _ _ 8 = true by kernel_rfl) ⟨rfl, hs.drop.drop⟩
  | some i =>
    have HP := Lib.hid (plc_some hp)
    have hi := place_lt hp
    have HG := Lib.hid (get_some (m := m) hp)
    have h3 := pow8 i hi
    have hbd := bit_bd m i hi
    have hset := bit_set on m i hi
    rw [put_some hp]
    clear hp
    have hlt := Modes.bits_lt m
    generalize hx : m.set i on = x at hset ⊢
    generalize 2 ^ i = q at HP h3 hbd hset
    obtain ⟨nn, hnn⟩ : ∃ nn, Modes.bits m = nn := ⟨_, rfl⟩
    rw [hnn] at hbd hset hlt
    have HN := Lib.hid hnn
    generalize hg : m.get i = g at HG hbd hset
    clear hnn hg hx hi
    have e1 : ((q : Int) == 0) = false := by simp; omega
    obtain ⟨h4, h5⟩ := h3
    obtain ⟨b1, b2⟩ := hbd
    cases g <;> cases on
    all_goals
      have hset := hset
      simp at hset
      first | replace b1 := b1 rfl | clear b1
      first | replace b2 := b2 rfl | clear b2
    · have HE := Lib.hid hset
      clear hset
      obtain ⟨a0, a1, a2, a3, a4, a5, a6, a7⟩ := m
      obtain ⟨x0, x1, x2, x3, x4, x5, x6, x7⟩ := x
      go_enter Try.func8, Try.ntmps8
      go_wp2_with (first | (go_at_call 18; refine (place_n HP.out w).mono ?_; rintro e w' ⟨rfl, rfl⟩) | (go_at_call 11; refine (getr HG.out hs).mono ?_; clear hs; rintro e w ⟨rfl, hs⟩) | (go_at_call 19; refine (bits_n HN.out hs).mono ?_; clear hs; rintro e w ⟨rfl, hs⟩) | (go_at_call 20; refine (of_k (by omega) (by omega) HE.out hs).mono ?_; clear hs; rintro e w ⟨rfl, hs⟩) | (apply stsw hs.b0; exact rfl; exact rfl; exact rfl; exact rfl; (show rowTy _ _ 8 = true; kernel_rfl); exact rfl; exact rfl; exact rfl; clear hs; intro w hs) | (apply stsw hs.b1; exact rfl; exact rfl; exact rfl; exact rfl; (show rowTy _ _ 8 = true; kernel_rfl); exact rfl; exact rfl; exact rfl; clear hs; intro w hs) | (apply ldsw hs.b0; exact rfl; exact rfl; exact rfl; (show rowTy _ _ 8 = true; kernel_rfl)) | (apply ldsw hs.b1; exact rfl; exact rfl; exact rfl; (show rowTy _ _ 8 = true; kernel_rfl)) | (apply ld hs.b0; exact rfl; exact rfl; exact rfl; exact rfl; kernel_rfl) | (apply ld hs.b1; exact rfl; exact rfl; exact rfl; exact rfl; kernel_rfl) | (apply st hs.b0; exact rfl; exact rfl; exact rfl; exact rfl; exact rfl; exact rfl; kernel_rfl; exact rfl; clear hs; intro w hs) | (apply st hs.b1; exact rfl; exact rfl; exact rfl; exact rfl; exact rfl; exact rfl; kernel_rfl; exact rfl; clear hs; intro w hs) | (apply stc hs.b0; exact rfl; exact rfl; exact rfl; exact rfl; exact rfl; kernel_rfl; exact rfl; clear hs; intro w hs) | (apply stc hs.b1; exact rfl; exact rfl; exact rfl; exact rfl; exact rfl; kernel_rfl; exact rfl; clear hs; intro w hs) | (refine wrap hs ?_; clear hs; (first | (have _t := z1; clear _t; generalize w.heap.size = z2) | generalize w.heap.size = z1); intro w hs) | (refine wrap hs ?_; clear hs; intro w hs) | (refine wrapn hs ?_; clear hs; intro w hs) | (refine wrapd hs ?_; clear hs; intro w hs))
      first
      | refine ret_cellt hs rfl rfl rfl rfl (show rowTy _ _ 8 = true by kernel_rfl) ⟨rfl, hs.drop.drop⟩
      | refine ret_cellt hs.b1 rfl rfl rfl rfl (show rowTy _ _ 8 = true by kernel_rfl) ⟨rfl, hs.drop.drop⟩
    · have HE := Lib.hid hset
      clear hset
      obtain ⟨a0, a1, a2, a3, a4, a5, a6, a7⟩ := m
      obtain ⟨x0, x1, x2, x3, x4, x5, x6, x7⟩ := x
      go_enter Try.func8, Try.ntmps8
      go_wp2_with (first | (go_at_call 18; refine (place_n HP.out w).mono ?_; rintro e w' ⟨rfl, rfl⟩) | (go_at_call 11; refine (getr HG.out hs).mono ?_; clear hs; rintro e w ⟨rfl, hs⟩) | (go_at_call 19; refine (bits_n HN.out hs).mono ?_; clear hs; rintro e w ⟨rfl, hs⟩) | (go_at_call 20; refine (of_k (by omega) (by omega) HE.out hs).mono ?_; clear hs; rintro e w ⟨rfl, hs⟩) | (apply stsw hs.b0; exact rfl; exact rfl; exact rfl; exact rfl; (show rowTy _ _ 8 = true; kernel_rfl); exact rfl; exact rfl; exact rfl; clear hs; intro w hs) | (apply stsw hs.b1; exact rfl; exact rfl; exact rfl; exact rfl; (show rowTy _ _ 8 = true; kernel_rfl); exact rfl; exact rfl; exact rfl; clear hs; intro w hs) | (apply ldsw hs.b0; exact rfl; exact rfl; exact rfl; (show rowTy _ _ 8 = true; kernel_rfl)) | (apply ldsw hs.b1; exact rfl; exact rfl; exact rfl; (show rowTy _ _ 8 = true; kernel_rfl)) | (apply ld hs.b0; exact rfl; exact rfl; exact rfl; exact rfl; kernel_rfl) | (apply ld hs.b1; exact rfl; exact rfl; exact rfl; exact rfl; kernel_rfl) | (apply st hs.b0; exact rfl; exact rfl; exact rfl; exact rfl; exact rfl; exact rfl; kernel_rfl; exact rfl; clear hs; intro w hs) | (apply st hs.b1; exact rfl; exact rfl; exact rfl; exact rfl; exact rfl; exact rfl; kernel_rfl; exact rfl; clear hs; intro w hs) | (apply stc hs.b0; exact rfl; exact rfl; exact rfl; exact rfl; exact rfl; kernel_rfl; exact rfl; clear hs; intro w hs) | (apply stc hs.b1; exact rfl; exact rfl; exact rfl; exact rfl; exact rfl; kernel_rfl; exact rfl; clear hs; intro w hs) | (refine wrap hs ?_; clear hs; (first | (have _t := z1; clear _t; generalize w.heap.size = z2) | generalize w.heap.size = z1); intro w hs) | (refine wrap hs ?_; clear hs; intro w hs) | (refine wrapn hs ?_; clear hs; intro w hs) | (refine wrapd hs ?_; clear hs; intro w hs))
      first
      | refine ret_cellt hs rfl rfl rfl rfl (show rowTy _ _ 8 = true by kernel_rfl) ⟨rfl, hs.drop.drop⟩
      | refine ret_cellt hs.b1 rfl rfl rfl rfl (show rowTy _ _ 8 = true by kernel_rfl) ⟨rfl, hs.drop.drop⟩
    · have HE := Lib.hid hset
      clear hset
      obtain ⟨a0, a1, a2, a3, a4, a5, a6, a7⟩ := m
      obtain ⟨x0, x1, x2, x3, x4, x5, x6, x7⟩ := x
      go_enter Try.func8, Try.ntmps8
      go_wp2_with (first | (go_at_call 18; refine (place_n HP.out w).mono ?_; rintro e w' ⟨rfl, rfl⟩) | (go_at_call 11; refine (getr HG.out hs).mono ?_; clear hs; rintro e w ⟨rfl, hs⟩) | (go_at_call 19; refine (bits_n HN.out hs).mono ?_; clear hs; rintro e w ⟨rfl, hs⟩) | (go_at_call 20; refine (of_k (by omega) (by omega) HE.out hs).mono ?_; clear hs; rintro e w ⟨rfl, hs⟩) | (apply stsw hs.b0; exact rfl; exact rfl; exact rfl; exact rfl; (show rowTy _ _ 8 = true; kernel_rfl); exact rfl; exact rfl; exact rfl; clear hs; intro w hs) | (apply stsw hs.b1; exact rfl; exact rfl; exact rfl; exact rfl; (show rowTy _ _ 8 = true; kernel_rfl); exact rfl; exact rfl; exact rfl; clear hs; intro w hs) | (apply ldsw hs.b0; exact rfl; exact rfl; exact rfl; (show rowTy _ _ 8 = true; kernel_rfl)) | (apply ldsw hs.b1; exact rfl; exact rfl; exact rfl; (show rowTy _ _ 8 = true; kernel_rfl)) | (apply ld hs.b0; exact rfl; exact rfl; exact rfl; exact rfl; kernel_rfl) | (apply ld hs.b1; exact rfl; exact rfl; exact rfl; exact rfl; kernel_rfl) | (apply st hs.b0; exact rfl; exact rfl; exact rfl; exact rfl; exact rfl; exact rfl; kernel_rfl; exact rfl; clear hs; intro w hs) | (apply st hs.b1; exact rfl; exact rfl; exact rfl; exact rfl; exact rfl; exact rfl; kernel_rfl; exact rfl; clear hs; intro w hs) | (apply stc hs.b0; exact rfl; exact rfl; exact rfl; exact rfl; exact rfl; kernel_rfl; exact rfl; clear hs; intro w hs) | (apply stc hs.b1; exact rfl; exact rfl; exact rfl; exact rfl; exact rfl; kernel_rfl; exact rfl; clear hs; intro w hs) | (refine wrap hs ?_; clear hs; (first | (have _t := z1; clear _t; generalize w.heap.size = z2) | generalize w.heap.size = z1); intro w hs) | (refine wrap hs ?_; clear hs; intro w hs) | (refine wrapn hs ?_; clear hs; intro w hs) | (refine wrapd hs ?_; clear hs; intro w hs))
      first
      | refine ret_cellt hs rfl rfl rfl rfl (show rowTy _ _ 8 = true by kernel_rfl) ⟨rfl, hs.drop.drop⟩
      | refine ret_cellt hs.b1 rfl rfl rfl rfl (show rowTy _ _ 8 = true by kernel_rfl) ⟨rfl, hs.drop.drop⟩
    · have HE := Lib.hid hset
      clear hset
      obtain ⟨a0, a1, a2, a3, a4, a5, a6, a7⟩ := m
      obtain ⟨x0, x1, x2, x3, x4, x5, x6, x7⟩ := x
      go_enter Try.func8, Try.ntmps8
      go_wp2_with (first | (go_at_call 18; refine (place_n HP.out w).mono ?_; rintro e w' ⟨rfl, rfl⟩) | (go_at_call 11; refine (getr HG.out hs).mono ?_; clear hs; rintro e w ⟨rfl, hs⟩) | (go_at_call 19; refine (bits_n HN.out hs).mono ?_; clear hs; rintro e w ⟨rfl, hs⟩) | (go_at_call 20; refine (of_k (by omega) (by omega) HE.out hs).mono ?_; clear hs; rintro e w ⟨rfl, hs⟩) | (apply stsw hs.b0; exact rfl; exact rfl; exact rfl; exact rfl; (show rowTy _ _ 8 = true; kernel_rfl); exact rfl; exact rfl; exact rfl; clear hs; intro w hs) | (apply stsw hs.b1; exact rfl; exact rfl; exact rfl; exact rfl; (show rowTy _ _ 8 = true; kernel_rfl); exact rfl; exact rfl; exact rfl; clear hs; intro w hs) | (apply ldsw hs.b0; exact rfl; exact rfl; exact rfl; (show rowTy _ _ 8 = true; kernel_rfl)) | (apply ldsw hs.b1; exact rfl; exact rfl; exact rfl; (show rowTy _ _ 8 = true; kernel_rfl)) | (apply ld hs.b0; exact rfl; exact rfl; exact rfl; exact rfl; kernel_rfl) | (apply ld hs.b1; exact rfl; exact rfl; exact rfl; exact rfl; kernel_rfl) | (apply st hs.b0; exact rfl; exact rfl; exact rfl; exact rfl; exact rfl; exact rfl; kernel_rfl; exact rfl; clear hs; intro w hs) | (apply st hs.b1; exact rfl; exact rfl; exact rfl; exact rfl; exact rfl; exact rfl; kernel_rfl; exact rfl; clear hs; intro w hs) | (apply stc hs.b0; exact rfl; exact rfl; exact rfl; exact rfl; exact rfl; kernel_rfl; exact rfl; clear hs; intro w hs) | (apply stc hs.b1; exact rfl; exact rfl; exact rfl; exact rfl; exact rfl; kernel_rfl; exact rfl; clear hs; intro w hs) | (refine wrap hs ?_; clear hs; (first | (have _t := z1; clear _t; generalize w.heap.size = z2) | generalize w.heap.size = z1); intro w hs) | (refine wrap hs ?_; clear hs; intro w hs) | (refine wrapn hs ?_; clear hs; intro w hs) | (refine wrapd hs ?_; clear hs; intro w hs))
      first
      | refine ret_cellt hs rfl rfl rfl rfl (show rowTy _ _ 8 = true by kernel_rfl) ⟨rfl, hs.drop.drop⟩
      | refine ret_cellt hs.b1 rfl rfl rfl rfl (show rowTy _ _ 8 = true by kernel_rfl) ⟨rfl, hs.drop.drop⟩
end Go.Proofs.Ytninmdoeippcgaa
