import Derived.Test.YtppdggcefnlncaaF4
namespace Go.Proofs.Ytppdggcefnlncaa
open Go.RowKit Go.Mem Go.Front
variable {W w : World} {H : List HProp}
theorem last_n {l : List Step} {lr : Int} (h : lastR l.reverse = lr) (a : Option Addr) (n cap : Nat) (hl : SR 12 W H a n cap (l.map stepL)) (hs : sat W H w) : Calls Try.prog 19 #[.slice a n cap] w fun e w' => e = .returned (.int .u8 lr) ∧ sat W H w' := h ▸ last19 l a n cap hl hs
attribute [local irreducible] World.setCell World.setCells World.alloc World.drew World.drewN Calls sat cel own blk old wpQuiet World.rangeAt
set_option maxHeartbeats 4000000 in
theorem on12 (l : List Step) (a : Option Addr) (n cap : Nat) (hl : SR 12 W H a n cap (l.map stepL)) (hs : sat W H w) : Calls Try.prog 12 #[.slice a n cap] w fun e w' => e = .returned (.bool (onR l.reverse)) ∧ sat W H w' := by
  have HL := Lib.hid hl
  have hnc := hl.2.1
  have hcm := hl.2.2.1
  have HN := Lib.hid (show n = l.length by have := hl.1; rwa [List.length_map] at this)
  have HCM := Lib.hid hcm
  unfold maxLen at hcm
  clear hl
  go_enter Try.func12, Try.ntmps12
  go_wp2_with (first | ((with_reducible refine isl ?_); first | ((with_reducible refine wrap hs ?_); clear hs; intro w hs) | ((with_reducible refine wrapn hs ?_); clear hs; intro w hs) | ((with_reducible refine wrapd hs ?_); clear hs; intro w hs)))
  go_loopw [3, 4] (fun i _ wr => ∃ k : Nat, k ≤ n ∧ i = .int .i64 ((k : Int) - 1) ∧ Hid (onR (l.take k).reverse = onR l.reverse) ∧ sat W H wr) (fun i _ _ => (intOf i + 1).toNat)
  case atStart => exact ⟨n, Nat.le_refl _, rfl, Lib.hid (by rw [HN.out, List.take_length]), hs⟩
  case round =>
    clear hs
    obtain ⟨k, hk, rfl, HR, hs⟩ := hrel
    cases k with
    | zero =>
      go_wp2_with (first | ((with_reducible refine isl ?_); first | ((with_reducible refine wrap hs ?_); clear hs; intro w hs) | ((with_reducible refine wrapn hs ?_); clear hs; intro w hs) | ((with_reducible refine wrapd hs ?_); clear hs; intro w hs)))
      go_ret
      exact ⟨ret_bool HR.out.symm, hs⟩
    | succ j =>
      obtain ⟨x, hx, b, off, rfl, hc⟩ := HL.out.getm hs (show j < n by omega)
      have HC := Lib.hid hc
      have HT := Lib.hid (take_rev hx)
      have HK := Lib.hid (HL.out.takem (k := j) (c' := cap) (by omega) (by omega) HCM.out)
      clear hc hx
      obtain ⟨⟨k, i0, i1, i2, wd, rr, bl, la, fr, wr'⟩, ec, kd⟩ := x
      have e1 : (((j + 1 : Nat) : Int) - 1) = (j : Int) := by omega
      simp only [e1]
      clear e1
      by_cases h5 : k = 5
      · subst h5
        have HF := Lib.hid (show onR l.reverse = true by rw [← HR.out, HT.out]; simp [onR])
        go_wp2_with (first | (apply ldsc; exact rfl; exact rfl; exact rfl; (first | exact rangeAt_pre (m := 10) (HC.out _ hs) | exact rangeAt_pre (m := 10) (HC.out _ hs.drop)); exact row29) | (apply ldc; exact rfl; exact rfl; exact rfl; (first | exact rangeAt_cell (j := 0) (HC.out _ hs.drop) rfl | exact rangeAt_cell (j := 11) (HC.out _ hs.drop) rfl | exact rangeAt_cell (j := 0) (HC.out _ hs) rfl | exact rangeAt_cell (j := 11) (HC.out _ hs) rfl); kernel_rfl) | ((with_reducible refine isl ?_); first | ((with_reducible apply stsw hs); exact rfl; exact rfl; exact rfl; exact rfl; exact row29; exact rfl; exact rfl; exact rfl; clear hs; intro w hs) | ((with_reducible apply ld hs.b0); exact rfl; exact rfl; exact rfl; exact rfl; kernel_rfl) | ((with_reducible apply st hs.b0); exact rfl; exact rfl; exact rfl; exact rfl; exact rfl; exact rfl; kernel_rfl; exact rfl; clear hs; intro w hs) | ((with_reducible apply stc hs.b0); exact rfl; exact rfl; exact rfl; exact rfl; exact rfl; kernel_rfl; exact rfl; clear hs; intro w hs) | ((with_reducible refine wrap hs ?_); clear hs; (first | generalize w.heap.size = z4); intro w hs) | ((with_reducible refine wrap hs ?_); clear hs; intro w hs) | ((with_reducible refine wrapn hs ?_); clear hs; intro w hs) | ((with_reducible refine wrapd hs ?_); clear hs; intro w hs)))
        go_ret
        exact ⟨ret_bool HF.out, hs.drop⟩
      have b5 := beq_no h5
      by_cases h4 : k = 4
      · subst h4
        clear h5
        have HF := Lib.hid (show onR l.reverse = false by rw [← HR.out, HT.out]; simp [onR])
        go_wp2_with (first | (apply ldsc; exact rfl; exact rfl; exact rfl; (first | exact rangeAt_pre (m := 10) (HC.out _ hs) | exact rangeAt_pre (m := 10) (HC.out _ hs.drop)); exact row29) | (apply ldc; exact rfl; exact rfl; exact rfl; (first | exact rangeAt_cell (j := 0) (HC.out _ hs.drop) rfl | exact rangeAt_cell (j := 11) (HC.out _ hs.drop) rfl | exact rangeAt_cell (j := 0) (HC.out _ hs) rfl | exact rangeAt_cell (j := 11) (HC.out _ hs) rfl); kernel_rfl) | ((with_reducible refine isl ?_); first | ((with_reducible apply stsw hs); exact rfl; exact rfl; exact rfl; exact rfl; exact row29; exact rfl; exact rfl; exact rfl; clear hs; intro w hs) | ((with_reducible apply ld hs.b0); exact rfl; exact rfl; exact rfl; exact rfl; kernel_rfl) | ((with_reducible apply st hs.b0); exact rfl; exact rfl; exact rfl; exact rfl; exact rfl; exact rfl; kernel_rfl; exact rfl; clear hs; intro w hs) | ((with_reducible apply stc hs.b0); exact rfl; exact rfl; exact rfl; exact rfl; exact rfl; kernel_rfl; exact rfl; clear hs; intro w hs) | ((with_reducible refine wrap hs ?_); clear hs; (first | generalize w.heap.size = z4); intro w hs) | ((with_reducible refine wrap hs ?_); clear hs; intro w hs) | ((with_reducible refine wrapn hs ?_); clear hs; intro w hs) | ((with_reducible refine wrapd hs ?_); clear hs; intro w hs)))
        go_ret
        exact ⟨ret_bool HF.out, hs.drop⟩
      have b4 := beq_no h4
      by_cases h3 : k = 3
      · subst h3
        clear h5 h4
        cases fr
        · skip
          have HF := Lib.hid (show onR (l.take j).reverse = onR l.reverse by rw [← HR.out, HT.out]; simp [onR])
          go_wp2_with (first | (apply ldsc; exact rfl; exact rfl; exact rfl; (first | exact rangeAt_pre (m := 10) (HC.out _ hs) | exact rangeAt_pre (m := 10) (HC.out _ hs.drop)); exact row29) | (apply ldc; exact rfl; exact rfl; exact rfl; (first | exact rangeAt_cell (j := 0) (HC.out _ hs.drop) rfl | exact rangeAt_cell (j := 11) (HC.out _ hs.drop) rfl | exact rangeAt_cell (j := 0) (HC.out _ hs) rfl | exact rangeAt_cell (j := 11) (HC.out _ hs) rfl); kernel_rfl) | ((with_reducible refine isl ?_); first | ((with_reducible apply stsw hs); exact rfl; exact rfl; exact rfl; exact rfl; exact row29; exact rfl; exact rfl; exact rfl; clear hs; intro w hs) | ((with_reducible apply ld hs.b0); exact rfl; exact rfl; exact rfl; exact rfl; kernel_rfl) | ((with_reducible apply st hs.b0); exact rfl; exact rfl; exact rfl; exact rfl; exact rfl; exact rfl; kernel_rfl; exact rfl; clear hs; intro w hs) | ((with_reducible apply stc hs.b0); exact rfl; exact rfl; exact rfl; exact rfl; exact rfl; kernel_rfl; exact rfl; clear hs; intro w hs) | ((with_reducible refine wrap hs ?_); clear hs; (first | generalize w.heap.size = z4); intro w hs) | ((with_reducible refine wrap hs ?_); clear hs; intro w hs) | ((with_reducible refine wrapn hs ?_); clear hs; intro w hs) | ((with_reducible refine wrapd hs ?_); clear hs; intro w hs)))
          go_roundw
          case rel => exact ⟨j, by omega, rfl, HF, hs.drop⟩
          case measure => simp [intOf]
        · skip
          have HF := Lib.hid (show onR l.reverse = true by rw [← HR.out, HT.out]; simp [onR])
          go_wp2_with (first | (apply ldsc; exact rfl; exact rfl; exact rfl; (first | exact rangeAt_pre (m := 10) (HC.out _ hs) | exact rangeAt_pre (m := 10) (HC.out _ hs.drop)); exact row29) | (apply ldc; exact rfl; exact rfl; exact rfl; (first | exact rangeAt_cell (j := 0) (HC.out _ hs.drop) rfl | exact rangeAt_cell (j := 11) (HC.out _ hs.drop) rfl | exact rangeAt_cell (j := 0) (HC.out _ hs) rfl | exact rangeAt_cell (j := 11) (HC.out _ hs) rfl); kernel_rfl) | ((with_reducible refine isl ?_); first | ((with_reducible apply stsw hs); exact rfl; exact rfl; exact rfl; exact rfl; exact row29; exact rfl; exact rfl; exact rfl; clear hs; intro w hs) | ((with_reducible apply ld hs.b0); exact rfl; exact rfl; exact rfl; exact rfl; kernel_rfl) | ((with_reducible apply st hs.b0); exact rfl; exact rfl; exact rfl; exact rfl; exact rfl; exact rfl; kernel_rfl; exact rfl; clear hs; intro w hs) | ((with_reducible apply stc hs.b0); exact rfl; exact rfl; exact rfl; exact rfl; exact rfl; kernel_rfl; exact rfl; clear hs; intro w hs) | ((with_reducible refine wrap hs ?_); clear hs; (first | generalize w.heap.size = z4); intro w hs) | ((with_reducible refine wrap hs ?_); clear hs; intro w hs) | ((with_reducible refine wrapn hs ?_); clear hs; intro w hs) | ((with_reducible refine wrapd hs ?_); clear hs; intro w hs)))
          go_ret
          exact ⟨ret_bool HF.out, hs.drop⟩
      have b3 := beq_no h3
      by_cases h1 : k = 1
      · subst h1
        clear h5 h4 h3
        cases bl
        · skip
          have HF := Lib.hid (show onR l.reverse = false by rw [← HR.out, HT.out]; simp [onR])
          go_wp2_with (first | (apply ldsc; exact rfl; exact rfl; exact rfl; (first | exact rangeAt_pre (m := 10) (HC.out _ hs) | exact rangeAt_pre (m := 10) (HC.out _ hs.drop)); exact row29) | (apply ldc; exact rfl; exact rfl; exact rfl; (first | exact rangeAt_cell (j := 0) (HC.out _ hs.drop) rfl | exact rangeAt_cell (j := 11) (HC.out _ hs.drop) rfl | exact rangeAt_cell (j := 0) (HC.out _ hs) rfl | exact rangeAt_cell (j := 11) (HC.out _ hs) rfl); kernel_rfl) | ((with_reducible refine isl ?_); first | ((with_reducible apply stsw hs); exact rfl; exact rfl; exact rfl; exact rfl; exact row29; exact rfl; exact rfl; exact rfl; clear hs; intro w hs) | ((with_reducible apply ld hs.b0); exact rfl; exact rfl; exact rfl; exact rfl; kernel_rfl) | ((with_reducible apply st hs.b0); exact rfl; exact rfl; exact rfl; exact rfl; exact rfl; exact rfl; kernel_rfl; exact rfl; clear hs; intro w hs) | ((with_reducible apply stc hs.b0); exact rfl; exact rfl; exact rfl; exact rfl; exact rfl; kernel_rfl; exact rfl; clear hs; intro w hs) | ((with_reducible refine wrap hs ?_); clear hs; (first | generalize w.heap.size = z4); intro w hs) | ((with_reducible refine wrap hs ?_); clear hs; intro w hs) | ((with_reducible refine wrapn hs ?_); clear hs; intro w hs) | ((with_reducible refine wrapd hs ?_); clear hs; intro w hs)))
          go_ret
          exact ⟨ret_bool HF.out, hs.drop⟩
        · by_cases g2 : kd = 2
          · subst g2
            have HF := Lib.hid (show onR l.reverse = true by rw [← HR.out, HT.out]; simp [onR])
            go_wp2_with (first | (apply ldsc; exact rfl; exact rfl; exact rfl; (first | exact rangeAt_pre (m := 10) (HC.out _ hs) | exact rangeAt_pre (m := 10) (HC.out _ hs.drop)); exact row29) | (apply ldc; exact rfl; exact rfl; exact rfl; (first | exact rangeAt_cell (j := 0) (HC.out _ hs.drop) rfl | exact rangeAt_cell (j := 11) (HC.out _ hs.drop) rfl | exact rangeAt_cell (j := 0) (HC.out _ hs) rfl | exact rangeAt_cell (j := 11) (HC.out _ hs) rfl); kernel_rfl) | ((with_reducible refine isl ?_); first | ((with_reducible apply stsw hs); exact rfl; exact rfl; exact rfl; exact rfl; exact row29; exact rfl; exact rfl; exact rfl; clear hs; intro w hs) | ((with_reducible apply ld hs.b0); exact rfl; exact rfl; exact rfl; exact rfl; kernel_rfl) | ((with_reducible apply st hs.b0); exact rfl; exact rfl; exact rfl; exact rfl; exact rfl; exact rfl; kernel_rfl; exact rfl; clear hs; intro w hs) | ((with_reducible apply stc hs.b0); exact rfl; exact rfl; exact rfl; exact rfl; exact rfl; kernel_rfl; exact rfl; clear hs; intro w hs) | ((with_reducible refine wrap hs ?_); clear hs; (first | generalize w.heap.size = z4); intro w hs) | ((with_reducible refine wrap hs ?_); clear hs; intro w hs) | ((with_reducible refine wrapn hs ?_); clear hs; intro w hs) | ((with_reducible refine wrapd hs ?_); clear hs; intro w hs)))
            go_ret
            exact ⟨ret_bool HF.out, hs.drop⟩
          have c2 := beq_no g2
          by_cases g3 : kd = 3
          · subst g3
            have HF := Lib.hid (show onR l.reverse = false by rw [← HR.out, HT.out]; simp [onR])
            clear g2
            go_wp2_with (first | (apply ldsc; exact rfl; exact rfl; exact rfl; (first | exact rangeAt_pre (m := 10) (HC.out _ hs) | exact rangeAt_pre (m := 10) (HC.out _ hs.drop)); exact row29) | (apply ldc; exact rfl; exact rfl; exact rfl; (first | exact rangeAt_cell (j := 0) (HC.out _ hs.drop) rfl | exact rangeAt_cell (j := 11) (HC.out _ hs.drop) rfl | exact rangeAt_cell (j := 0) (HC.out _ hs) rfl | exact rangeAt_cell (j := 11) (HC.out _ hs) rfl); kernel_rfl) | ((with_reducible refine isl ?_); first | ((with_reducible apply stsw hs); exact rfl; exact rfl; exact rfl; exact rfl; exact row29; exact rfl; exact rfl; exact rfl; clear hs; intro w hs) | ((with_reducible apply ld hs.b0); exact rfl; exact rfl; exact rfl; exact rfl; kernel_rfl) | ((with_reducible apply st hs.b0); exact rfl; exact rfl; exact rfl; exact rfl; exact rfl; exact rfl; kernel_rfl; exact rfl; clear hs; intro w hs) | ((with_reducible apply stc hs.b0); exact rfl; exact rfl; exact rfl; exact rfl; exact rfl; kernel_rfl; exact rfl; clear hs; intro w hs) | ((with_reducible refine wrap hs ?_); clear hs; (first | generalize w.heap.size = z4); intro w hs) | ((with_reducible refine wrap hs ?_); clear hs; intro w hs) | ((with_reducible refine wrapn hs ?_); clear hs; intro w hs) | ((with_reducible refine wrapd hs ?_); clear hs; intro w hs)))
            go_ret
            exact ⟨ret_bool HF.out, hs.drop⟩
          · have c3 := beq_no g3
            have HF := Lib.hid (show onR (l.take j).reverse = onR l.reverse by rw [← HR.out, HT.out]; simp [onR, g2, g3])
            clear g2 g3
            go_wp2_with (first | (apply ldsc; exact rfl; exact rfl; exact rfl; (first | exact rangeAt_pre (m := 10) (HC.out _ hs) | exact rangeAt_pre (m := 10) (HC.out _ hs.drop)); exact row29) | (apply ldc; exact rfl; exact rfl; exact rfl; (first | exact rangeAt_cell (j := 0) (HC.out _ hs.drop) rfl | exact rangeAt_cell (j := 11) (HC.out _ hs.drop) rfl | exact rangeAt_cell (j := 0) (HC.out _ hs) rfl | exact rangeAt_cell (j := 11) (HC.out _ hs) rfl); kernel_rfl) | ((with_reducible refine isl ?_); first | ((with_reducible apply stsw hs); exact rfl; exact rfl; exact rfl; exact rfl; exact row29; exact rfl; exact rfl; exact rfl; clear hs; intro w hs) | ((with_reducible apply ld hs.b0); exact rfl; exact rfl; exact rfl; exact rfl; kernel_rfl) | ((with_reducible apply st hs.b0); exact rfl; exact rfl; exact rfl; exact rfl; exact rfl; exact rfl; kernel_rfl; exact rfl; clear hs; intro w hs) | ((with_reducible apply stc hs.b0); exact rfl; exact rfl; exact rfl; exact rfl; exact rfl; kernel_rfl; exact rfl; clear hs; intro w hs) | ((with_reducible refine wrap hs ?_); clear hs; (first | generalize w.heap.size = z4); intro w hs) | ((with_reducible refine wrap hs ?_); clear hs; intro w hs) | ((with_reducible refine wrapn hs ?_); clear hs; intro w hs) | ((with_reducible refine wrapd hs ?_); clear hs; intro w hs)))
            go_roundw
            case rel => exact ⟨j, by omega, rfl, HF, hs.drop⟩
            case measure => simp [intOf]
      have b1 := beq_no h1
      by_cases h2 : k = 2
      · subst h2
        clear h5 h4 h3 h1
        cases la
        · skip
          have HF := Lib.hid (show onR l.reverse = false by rw [← HR.out, HT.out]; simp [onR])
          go_wp2_with (first | (apply ldsc; exact rfl; exact rfl; exact rfl; (first | exact rangeAt_pre (m := 10) (HC.out _ hs) | exact rangeAt_pre (m := 10) (HC.out _ hs.drop)); exact row29) | (apply ldc; exact rfl; exact rfl; exact rfl; (first | exact rangeAt_cell (j := 0) (HC.out _ hs.drop) rfl | exact rangeAt_cell (j := 11) (HC.out _ hs.drop) rfl | exact rangeAt_cell (j := 0) (HC.out _ hs) rfl | exact rangeAt_cell (j := 11) (HC.out _ hs) rfl); kernel_rfl) | ((with_reducible refine isl ?_); first | ((with_reducible apply stsw hs); exact rfl; exact rfl; exact rfl; exact rfl; exact row29; exact rfl; exact rfl; exact rfl; clear hs; intro w hs) | ((with_reducible apply ld hs.b0); exact rfl; exact rfl; exact rfl; exact rfl; kernel_rfl) | ((with_reducible apply st hs.b0); exact rfl; exact rfl; exact rfl; exact rfl; exact rfl; exact rfl; kernel_rfl; exact rfl; clear hs; intro w hs) | ((with_reducible apply stc hs.b0); exact rfl; exact rfl; exact rfl; exact rfl; exact rfl; kernel_rfl; exact rfl; clear hs; intro w hs) | ((with_reducible refine wrap hs ?_); clear hs; (first | generalize w.heap.size = z4); intro w hs) | ((with_reducible refine wrap hs ?_); clear hs; intro w hs) | ((with_reducible refine wrapn hs ?_); clear hs; intro w hs) | ((with_reducible refine wrapd hs ?_); clear hs; intro w hs)))
          go_ret
          exact ⟨ret_bool HF.out, hs.drop⟩
        · by_cases g0 : lastR (l.take j).reverse = 0
          · have HLR := Lib.hid g0
            have HF := Lib.hid (show onR l.reverse = false by rw [← HR.out, HT.out]; simp [onR, g0])
            clear g0
            go_wp2_with (first | (go_at_call 19; refine (last_n HLR.out _ _ _ HK.out.more hs).mono ?_; clear hs; rintro e w ⟨rfl, hs⟩) | (apply ldsc; exact rfl; exact rfl; exact rfl; (first | exact rangeAt_pre (m := 10) (HC.out _ hs) | exact rangeAt_pre (m := 10) (HC.out _ hs.drop)); exact row29) | (apply ldc; exact rfl; exact rfl; exact rfl; (first | exact rangeAt_cell (j := 0) (HC.out _ hs.drop) rfl | exact rangeAt_cell (j := 11) (HC.out _ hs.drop) rfl | exact rangeAt_cell (j := 0) (HC.out _ hs) rfl | exact rangeAt_cell (j := 11) (HC.out _ hs) rfl); kernel_rfl) | ((with_reducible refine isl ?_); first | ((with_reducible apply stsw hs); exact rfl; exact rfl; exact rfl; exact rfl; exact row29; exact rfl; exact rfl; exact rfl; clear hs; intro w hs) | ((with_reducible apply ld hs.b0); exact rfl; exact rfl; exact rfl; exact rfl; kernel_rfl) | ((with_reducible apply st hs.b0); exact rfl; exact rfl; exact rfl; exact rfl; exact rfl; exact rfl; kernel_rfl; exact rfl; clear hs; intro w hs) | ((with_reducible apply stc hs.b0); exact rfl; exact rfl; exact rfl; exact rfl; exact rfl; kernel_rfl; exact rfl; clear hs; intro w hs) | ((with_reducible refine wrap hs ?_); clear hs; (first | generalize w.heap.size = z4); intro w hs) | ((with_reducible refine wrap hs ?_); clear hs; intro w hs) | ((with_reducible refine wrapn hs ?_); clear hs; intro w hs) | ((with_reducible refine wrapd hs ?_); clear hs; intro w hs)))
            go_ret
            exact ⟨ret_bool HF.out, hs.drop⟩
          · obtain ⟨lr, hlr⟩ : ∃ lr, lastR (l.take j).reverse = lr := ⟨_, rfl⟩
            have HLR := Lib.hid hlr
            have c0 : (lr == 0) = false := beq_no (by rw [← hlr]; exact g0)
            have HF := Lib.hid (show onR (l.take j).reverse = onR l.reverse by rw [← HR.out, HT.out]; simp [onR, g0])
            clear g0 hlr
            go_wp2_with (first | (go_at_call 19; refine (last_n HLR.out _ _ _ HK.out.more hs).mono ?_; clear hs; rintro e w ⟨rfl, hs⟩) | (apply ldsc; exact rfl; exact rfl; exact rfl; (first | exact rangeAt_pre (m := 10) (HC.out _ hs) | exact rangeAt_pre (m := 10) (HC.out _ hs.drop)); exact row29) | (apply ldc; exact rfl; exact rfl; exact rfl; (first | exact rangeAt_cell (j := 0) (HC.out _ hs.drop) rfl | exact rangeAt_cell (j := 11) (HC.out _ hs.drop) rfl | exact rangeAt_cell (j := 0) (HC.out _ hs) rfl | exact rangeAt_cell (j := 11) (HC.out _ hs) rfl); kernel_rfl) | ((with_reducible refine isl ?_); first | ((with_reducible apply stsw hs); exact rfl; exact rfl; exact rfl; exact rfl; exact row29; exact rfl; exact rfl; exact rfl; clear hs; intro w hs) | ((with_reducible apply ld hs.b0); exact rfl; exact rfl; exact rfl; exact rfl; kernel_rfl) | ((with_reducible apply st hs.b0); exact rfl; exact rfl; exact rfl; exact rfl; exact rfl; exact rfl; kernel_rfl; exact rfl; clear hs; intro w hs) | ((with_reducible apply stc hs.b0); exact rfl; exact rfl; exact rfl; exact rfl; exact rfl; kernel_rfl; exact rfl; clear hs; intro w hs) | ((with_reducible refine wrap hs ?_); clear hs; (first | generalize w.heap.size = z4); intro w hs) | ((with_reducible refine wrap hs ?_); clear hs; intro w hs) | ((with_reducible refine wrapn hs ?_); clear hs; intro w hs) | ((with_reducible refine wrapd hs ?_); clear hs; intro w hs)))
            go_roundw
            case rel => exact ⟨j, by omega, rfl, HF, hs.drop⟩
            case measure => simp [intOf]
      have b2 := beq_no h2
      have HF := Lib.hid (show onR (l.take j).reverse = onR l.reverse by rw [← HR.out, HT.out]; simp [onR, h5, h4, h3, h1, h2])
      clear h5 h4 h3 h1 h2
      go_wp2_with (first | (apply ldsc; exact rfl; exact rfl; exact rfl; (first | exact rangeAt_pre (m := 10) (HC.out _ hs) | exact rangeAt_pre (m := 10) (HC.out _ hs.drop)); exact row29) | (apply ldc; exact rfl; exact rfl; exact rfl; (first | exact rangeAt_cell (j := 0) (HC.out _ hs.drop) rfl | exact rangeAt_cell (j := 11) (HC.out _ hs.drop) rfl | exact rangeAt_cell (j := 0) (HC.out _ hs) rfl | exact rangeAt_cell (j := 11) (HC.out _ hs) rfl); kernel_rfl) | ((with_reducible refine isl ?_); first | ((with_reducible apply stsw hs); exact rfl; exact rfl; exact rfl; exact rfl; exact row29; exact rfl; exact rfl; exact rfl; clear hs; intro w hs) | ((with_reducible apply ld hs.b0); exact rfl; exact rfl; exact rfl; exact rfl; kernel_rfl) | ((with_reducible apply st hs.b0); exact rfl; exact rfl; exact rfl; exact rfl; exact rfl; exact rfl; kernel_rfl; exact rfl; clear hs; intro w hs) | ((with_reducible apply stc hs.b0); exact rfl; exact rfl; exact rfl; exact rfl; exact rfl; kernel_rfl; exact rfl; clear hs; intro w hs) | ((with_reducible refine wrap hs ?_); clear hs; (first | generalize w.heap.size = z4); intro w hs) | ((with_reducible refine wrap hs ?_); clear hs; intro w hs) | ((with_reducible refine wrapn hs ?_); clear hs; intro w hs) | ((with_reducible refine wrapd hs ?_); clear hs; intro w hs)))
      go_roundw
      case rel => exact ⟨j, by omega, rfl, HF, hs.drop⟩
      case measure => simp [intOf]
set_option maxHeartbeats 4000000 in
theorem kind11 (l : List Step) (e : Ev) (echo : Bool) (a : Option Addr) (n cap : Nat) (hl : SR 12 W H a n cap (l.map stepL)) (hs : sat W H w) : Calls Try.prog 11 #[.slice a n cap, evV e, .bool echo] w fun e' w' => e' = .returned (.int .u8 (kindR l.reverse e echo)) ∧ sat W H w' := by
  have HL := Lib.hid hl
  have H12 := fun (H : List HProp) (w : World) (hl : SR 12 W H a n cap (l.map stepL)) (hs : sat W H w) => on12 l a n cap hl hs
  have H19 := fun (H : List HProp) (w : World) (hl : SR 12 W H a n cap (l.map stepL)) (hs : sat W H w) => last19 l a n cap hl hs
  generalize hlr : lastR l.reverse = lr at H19
  generalize hon : onR l.reverse = on at H12
  have HOn := Lib.hid hon
  have HLr := Lib.hid hlr
  have G12 := Lib.hid H12
  have G19 := Lib.hid H19
  clear H12 H19 hl hon hlr
  obtain ⟨k, i0, i1, i2, wd, rr, bl, la, fr, wr'⟩ := e
  by_cases h1 : k = 1
  · subst h1
    cases echo
    · cases bl
      · skip
        have HF := Lib.hid (show kindR l.reverse ⟨1, i0, i1, i2, wd, rr, false, la, fr, wr'⟩ false = 3 by simp [kindR, HOn.out, HLr.out])
        go_enter Try.func11, Try.ntmps11
        go_wp2_with (first | (go_at_call 12; refine (G12.out _ _ HL.out.more hs).mono ?_; clear hs; rintro e w ⟨rfl, hs⟩) | (go_at_call 19; refine (G19.out _ _ HL.out.more hs).mono ?_; clear hs; rintro e w ⟨rfl, hs⟩) | ((with_reducible refine isl ?_); first | ((with_reducible apply ld hs.b0); exact rfl; exact rfl; exact rfl; exact rfl; kernel_rfl) | ((with_reducible apply st hs.b0); exact rfl; exact rfl; exact rfl; exact rfl; exact rfl; exact rfl; kernel_rfl; exact rfl; clear hs; intro w hs) | ((with_reducible apply stc hs.b0); exact rfl; exact rfl; exact rfl; exact rfl; exact rfl; kernel_rfl; exact rfl; clear hs; intro w hs) | ((with_reducible refine wrap hs ?_); clear hs; (first | generalize w.heap.size = z4); intro w hs) | ((with_reducible refine wrap hs ?_); clear hs; intro w hs) | ((with_reducible refine wrapn hs ?_); clear hs; intro w hs) | ((with_reducible refine wrapd hs ?_); clear hs; intro w hs)))
        go_ret
        exact ⟨ret_int HF.out, hs.drop⟩
      · cases on
        · skip
          have HF := Lib.hid (show kindR l.reverse ⟨1, i0, i1, i2, wd, rr, true, la, fr, wr'⟩ false = 3 by simp [kindR, HOn.out, HLr.out])
          go_enter Try.func11, Try.ntmps11
          go_wp2_with (first | (go_at_call 12; refine (G12.out _ _ HL.out.more hs).mono ?_; clear hs; rintro e w ⟨rfl, hs⟩) | (go_at_call 19; refine (G19.out _ _ HL.out.more hs).mono ?_; clear hs; rintro e w ⟨rfl, hs⟩) | ((with_reducible refine isl ?_); first | ((with_reducible apply ld hs.b0); exact rfl; exact rfl; exact rfl; exact rfl; kernel_rfl) | ((with_reducible apply st hs.b0); exact rfl; exact rfl; exact rfl; exact rfl; exact rfl; exact rfl; kernel_rfl; exact rfl; clear hs; intro w hs) | ((with_reducible apply stc hs.b0); exact rfl; exact rfl; exact rfl; exact rfl; exact rfl; kernel_rfl; exact rfl; clear hs; intro w hs) | ((with_reducible refine wrap hs ?_); clear hs; (first | generalize w.heap.size = z4); intro w hs) | ((with_reducible refine wrap hs ?_); clear hs; intro w hs) | ((with_reducible refine wrapn hs ?_); clear hs; intro w hs) | ((with_reducible refine wrapd hs ?_); clear hs; intro w hs)))
          go_ret
          exact ⟨ret_int HF.out, hs.drop⟩
        · skip
          have HF := Lib.hid (show kindR l.reverse ⟨1, i0, i1, i2, wd, rr, true, la, fr, wr'⟩ false = 2 by simp [kindR, HOn.out, HLr.out])
          go_enter Try.func11, Try.ntmps11
          go_wp2_with (first | (go_at_call 12; refine (G12.out _ _ HL.out.more hs).mono ?_; clear hs; rintro e w ⟨rfl, hs⟩) | (go_at_call 19; refine (G19.out _ _ HL.out.more hs).mono ?_; clear hs; rintro e w ⟨rfl, hs⟩) | ((with_reducible refine isl ?_); first | ((with_reducible apply ld hs.b0); exact rfl; exact rfl; exact rfl; exact rfl; kernel_rfl) | ((with_reducible apply st hs.b0); exact rfl; exact rfl; exact rfl; exact rfl; exact rfl; exact rfl; kernel_rfl; exact rfl; clear hs; intro w hs) | ((with_reducible apply stc hs.b0); exact rfl; exact rfl; exact rfl; exact rfl; exact rfl; kernel_rfl; exact rfl; clear hs; intro w hs) | ((with_reducible refine wrap hs ?_); clear hs; (first | generalize w.heap.size = z4); intro w hs) | ((with_reducible refine wrap hs ?_); clear hs; intro w hs) | ((with_reducible refine wrapn hs ?_); clear hs; intro w hs) | ((with_reducible refine wrapd hs ?_); clear hs; intro w hs)))
          go_ret
          exact ⟨ret_int HF.out, hs.drop⟩
    · skip
      have HF := Lib.hid (show kindR l.reverse ⟨1, i0, i1, i2, wd, rr, bl, la, fr, wr'⟩ true = 1 by simp [kindR, HOn.out, HLr.out])
      go_enter Try.func11, Try.ntmps11
      go_wp2_with (first | (go_at_call 12; refine (G12.out _ _ HL.out.more hs).mono ?_; clear hs; rintro e w ⟨rfl, hs⟩) | (go_at_call 19; refine (G19.out _ _ HL.out.more hs).mono ?_; clear hs; rintro e w ⟨rfl, hs⟩) | ((with_reducible refine isl ?_); first | ((with_reducible apply ld hs.b0); exact rfl; exact rfl; exact rfl; exact rfl; kernel_rfl) | ((with_reducible apply st hs.b0); exact rfl; exact rfl; exact rfl; exact rfl; exact rfl; exact rfl; kernel_rfl; exact rfl; clear hs; intro w hs) | ((with_reducible apply stc hs.b0); exact rfl; exact rfl; exact rfl; exact rfl; exact rfl; kernel_rfl; exact rfl; clear hs; intro w hs) | ((with_reducible refine wrap hs ?_); clear hs; (first | generalize w.heap.size = z4); intro w hs) | ((with_reducible refine wrap hs ?_); clear hs; intro w hs) | ((with_reducible refine wrapn hs ?_); clear hs; intro w hs) | ((with_reducible refine wrapd hs ?_); clear hs; intro w hs)))
      go_ret
      exact ⟨ret_int HF.out, hs.drop⟩
  have b1 := beq_no h1
  by_cases h2 : k = 2
  · subst h2
    clear h1
    cases la
    · skip
      have HF := Lib.hid (show kindR l.reverse ⟨2, i0, i1, i2, wd, rr, bl, false, fr, wr'⟩ echo = 3 by simp [kindR, HOn.out, HLr.out])
      go_enter Try.func11, Try.ntmps11
      go_wp2_with (first | (go_at_call 12; refine (G12.out _ _ HL.out.more hs).mono ?_; clear hs; rintro e w ⟨rfl, hs⟩) | (go_at_call 19; refine (G19.out _ _ HL.out.more hs).mono ?_; clear hs; rintro e w ⟨rfl, hs⟩) | ((with_reducible refine isl ?_); first | ((with_reducible apply ld hs.b0); exact rfl; exact rfl; exact rfl; exact rfl; kernel_rfl) | ((with_reducible apply st hs.b0); exact rfl; exact rfl; exact rfl; exact rfl; exact rfl; exact rfl; kernel_rfl; exact rfl; clear hs; intro w hs) | ((with_reducible apply stc hs.b0); exact rfl; exact rfl; exact rfl; exact rfl; exact rfl; kernel_rfl; exact rfl; clear hs; intro w hs) | ((with_reducible refine wrap hs ?_); clear hs; (first | generalize w.heap.size = z4); intro w hs) | ((with_reducible refine wrap hs ?_); clear hs; intro w hs) | ((with_reducible refine wrapn hs ?_); clear hs; intro w hs) | ((with_reducible refine wrapd hs ?_); clear hs; intro w hs)))
      go_ret
      exact ⟨ret_int HF.out, hs.drop⟩
    · by_cases g0 : lr = 0
      · subst g0
        have HF := Lib.hid (show kindR l.reverse ⟨2, i0, i1, i2, wd, rr, bl, true, fr, wr'⟩ echo = 3 by simp [kindR, HOn.out, HLr.out])
        go_enter Try.func11, Try.ntmps11
        go_wp2_with (first | (go_at_call 12; refine (G12.out _ _ HL.out.more hs).mono ?_; clear hs; rintro e w ⟨rfl, hs⟩) | (go_at_call 19; refine (G19.out _ _ HL.out.more hs).mono ?_; clear hs; rintro e w ⟨rfl, hs⟩) | ((with_reducible refine isl ?_); first | ((with_reducible apply ld hs.b0); exact rfl; exact rfl; exact rfl; exact rfl; kernel_rfl) | ((with_reducible apply st hs.b0); exact rfl; exact rfl; exact rfl; exact rfl; exact rfl; exact rfl; kernel_rfl; exact rfl; clear hs; intro w hs) | ((with_reducible apply stc hs.b0); exact rfl; exact rfl; exact rfl; exact rfl; exact rfl; kernel_rfl; exact rfl; clear hs; intro w hs) | ((with_reducible refine wrap hs ?_); clear hs; (first | generalize w.heap.size = z4); intro w hs) | ((with_reducible refine wrap hs ?_); clear hs; intro w hs) | ((with_reducible refine wrapn hs ?_); clear hs; intro w hs) | ((with_reducible refine wrapd hs ?_); clear hs; intro w hs)))
        go_ret
        exact ⟨ret_int HF.out, hs.drop⟩
      · have c0 : (lr != 0) = true := by simpa using g0
        have HF := Lib.hid (show kindR l.reverse ⟨2, i0, i1, i2, wd, rr, bl, true, fr, wr'⟩ echo = lr by simp [kindR, HOn.out, HLr.out, g0])
        clear g0
        go_enter Try.func11, Try.ntmps11
        go_wp2_with (first | (go_at_call 12; refine (G12.out _ _ HL.out.more hs).mono ?_; clear hs; rintro e w ⟨rfl, hs⟩) | (go_at_call 19; refine (G19.out _ _ HL.out.more hs).mono ?_; clear hs; rintro e w ⟨rfl, hs⟩) | ((with_reducible refine isl ?_); first | ((with_reducible apply ld hs.b0); exact rfl; exact rfl; exact rfl; exact rfl; kernel_rfl) | ((with_reducible apply st hs.b0); exact rfl; exact rfl; exact rfl; exact rfl; exact rfl; exact rfl; kernel_rfl; exact rfl; clear hs; intro w hs) | ((with_reducible apply stc hs.b0); exact rfl; exact rfl; exact rfl; exact rfl; exact rfl; kernel_rfl; exact rfl; clear hs; intro w hs) | ((with_reducible refine wrap hs ?_); clear hs; (first | generalize w.heap.size = z4); intro w hs) | ((with_reducible refine wrap hs ?_); clear hs; intro w hs) | ((with_reducible refine wrapn hs ?_); clear hs; intro w hs) | ((with_reducible refine wrapd hs ?_); clear hs; intro w hs)))
        go_ret
        exact ⟨ret_int HF.out, hs.drop⟩
  have b2 := beq_no h2
  have HF := Lib.hid (show kindR l.reverse ⟨k, i0, i1, i2, wd, rr, bl, la, fr, wr'⟩ echo = 0 by simp [kindR, HOn.out, HLr.out, h1, h2])
  clear h1 h2
  go_enter Try.func11, Try.ntmps11
  go_wp2_with (first | (go_at_call 12; refine (G12.out _ _ HL.out.more hs).mono ?_; clear hs; rintro e w ⟨rfl, hs⟩) | (go_at_call 19; refine (G19.out _ _ HL.out.more hs).mono ?_; clear hs; rintro e w ⟨rfl, hs⟩) | ((with_reducible refine isl ?_); first | ((with_reducible apply ld hs.b0); exact rfl; exact rfl; exact rfl; exact rfl; kernel_rfl) | ((with_reducible apply st hs.b0); exact rfl; exact rfl; exact rfl; exact rfl; exact rfl; exact rfl; kernel_rfl; exact rfl; clear hs; intro w hs) | ((with_reducible apply stc hs.b0); exact rfl; exact rfl; exact rfl; exact rfl; exact rfl; kernel_rfl; exact rfl; clear hs; intro w hs) | ((with_reducible refine wrap hs ?_); clear hs; (first | generalize w.heap.size = z4); intro w hs) | ((with_reducible refine wrap hs ?_); clear hs; intro w hs) | ((with_reducible refine wrapn hs ?_); clear hs; intro w hs) | ((with_reducible refine wrapd hs ?_); clear hs; intro w hs)))
  go_ret
  exact ⟨ret_int HF.out, hs.drop⟩
end Go.Proofs.Ytppdggcefnlncaa
