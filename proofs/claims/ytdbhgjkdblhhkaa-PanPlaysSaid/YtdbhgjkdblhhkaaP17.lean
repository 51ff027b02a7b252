import Derived.Test.YtdbhgjkdblhhkaaP16
namespace Go.Proofs.Ytdbhgjkdblhhkaa
open Go.RowKit Go.Mem
variable {W w : World} {H : List HProp}
theorem slty22 : SlTy Try.prog 22 5 1 1 := ⟨Try.underlying22, by obtain ⟨i0, hi, hz0, hz1, hz2⟩ := info_parts (show (Try.prog.info? 5).map (fun i => (i.zero, i.size, i.bytes)) = some (some (.int .u8 0), 1, 1) by kernel_rfl); exact ⟨i0, _, hi, hz0, hz1, hz2, rfl⟩, by decide⟩
section
variable {cells : List Int} {Hc : List HProp} {a : Option Addr} {n c wd off b : Nat}
theorem showL_len (cells : List Int) (wd o : Nat) : (showL cells wd o).length = wd := by unfold showL; simp; omega
theorem showL_at {k o : Nat} (hk : k < wd) : (showL cells wd o)[k]? = some (if o + k < cells.length then cells.getD (o + k) 0 else 0) := by
  unfold showL
  by_cases h : o + k < cells.length
  · rw [if_pos h, List.getElem?_append_left (by simp; omega), List.getElem?_take, if_pos hk, List.getElem?_drop, List.getElem?_eq_getElem h, List.getD_eq_getElem?_getD, List.getElem?_eq_getElem h]
    rfl
  · rw [if_neg h, List.getElem?_append_right (by simp; omega), List.getElem?_drop, List.getElem?_replicate, if_pos (by simp; omega)]
theorem showL_take {k o : Nat} {v : Int} (h : (showL cells wd o)[k]? = some v) : bytesV ((showL cells wd o).take k) ++ [.int .u8 v] = bytesV ((showL cells wd o).take (k + 1)) := by
  rw [List.take_add_one, h]; simp
attribute [local irreducible] World.setCell World.setCells World.alloc World.drew World.drewN Calls sat cel own blk old wpQuiet wpList
set_option maxHeartbeats 1000000 in
theorem rright21 (hw : 0 < wd) (hw2 : wd ≤ 80) (hr : RdC Hc a n c cells) (hg : n ≤ 1000) {o : Nat} (ho : lastOf cells wd hw (off : Int) = o) (hs : sat W (cel b 44 (winL wd off) :: (Hc ++ H)) w) :
    Calls Try.prog 21 #[.pointer (some ⟨b, 0, none⟩), .slice a n c] w fun e w' => (∃ x, (Pan.begs cells wd hw 0).find? (fun y => decide (o < y)) = some x ∧ e = .returned (.bool true) ∧ sat W (cel b 44 (winL wd x) :: (Hc ++ H)) w') ∨
      ((Pan.begs cells wd hw 0).find? (fun y => decide (o < y)) = none ∧ e = .returned (.bool false) ∧ sat W (cel b 44 (winL wd o) :: (Hc ++ H)) w') := by
  have hcl : cells.length ≤ 1000 := by have := (hr.len hs.drop.only).1; omega
  have hbl := begs_le (cells := cells) (wd := wd) (hw := hw) hcl
  obtain ⟨xs, hx⟩ : ∃ xs, Pan.begs cells wd hw 0 = xs := ⟨_, rfl⟩
  rw [hx] at hbl ⊢
  obtain ⟨m, hm⟩ : ∃ m, xs.length = m := ⟨_, rfl⟩
  rw [hm] at hbl
  have HR := Lib.hid hr
  have HX := Lib.hid hx
  have HM := Lib.hid hm
  have HO := Lib.hid ho
  clear hr hx hm ho
  go_enter Try.func21, Try.ntmps21
  go_wp2_with (first | (go_at_call 23; refine (rhold23 hw hw2 HR.out hg HO.out hs).mono ?_; clear hs; rintro e w ⟨rfl, hs⟩) | (go_at_call 19; refine (rbegins_t (Hc := _ :: Hc) (H := H) hw hw2 HR.out.more hg HX.out hs).mono ?_; clear hs; rintro e w ⟨a5, c5, rfl, hs⟩; rw [HM.out] at hs ⊢) | ((with_reducible refine isl ?_); first | ((with_reducible apply ld hs.b0); exact rfl; exact rfl; exact rfl; exact rfl; kernel_rfl) | ((with_reducible apply st hs.b0); exact rfl; exact rfl; exact rfl; exact rfl; exact rfl; exact rfl; kernel_rfl; exact rfl; clear hs; intro w hs) | ((with_reducible apply stc hs.b0); exact rfl; exact rfl; exact rfl; exact rfl; exact rfl; kernel_rfl; exact rfl; clear hs; intro w hs) | ((with_reducible refine wrap hs ?_); clear hs; intro w hs) | ((with_reducible refine wrapn hs ?_); clear hs; intro w hs) | ((with_reducible refine wrapd hs ?_); clear hs; intro w hs)))
  replace hs : sat W (own 3 1 (.slice a5 m c5) m (natsV xs) :: cel b 44 (winL wd o) :: (Hc ++ H)) w := hs
  go_loopw [6] (fun i wr => ∃ k : Nat, k ≤ m ∧ i = .int .i64 (k : Int) ∧ Hid (∀ y ∈ xs.take k, y ≤ o) ∧ sat W (own 3 1 (.slice a5 m c5) m (natsV xs) :: cel b 44 (winL wd o) :: (Hc ++ H)) wr) (fun i _ => ((m : Int) - intOf i).toNat)
  case atStart => exact ⟨0, Nat.zero_le _, rfl, Lib.hid (by simp), hs⟩
  case round =>
    clear hs
    obtain ⟨k, hk, rfl, HA, hs⟩ := hrel
    by_cases hkm : k < m
    · obtain ⟨g5, c6, e5⟩ := hs.own_some (by omega)
      cases e5
      obtain ⟨x, hx⟩ : ∃ x, xs[k]? = some x := ⟨_, List.getElem?_eq_getElem (by have := HM.out; omega)⟩
      have HV := Lib.hid (natsV_get hx)
      have z1 : (k : Int) < (m : Int) := by omega
      have z0 : (0 : Int) ≤ (k : Int) := by omega
      have ht : xs.take k ++ [x] = xs.take (k + 1) := by rw [List.take_add_one, hx]; rfl
      by_cases hxo : o < x
      · have HF := Lib.hid (show xs.find? (fun y => decide (o < y)) = some x by
          have h2 := find_stop o (xs.take k) x (xs.drop (k + 1)) HA.out hxo
          have h3 : xs.take k ++ x :: xs.drop (k + 1) = xs := by
            obtain ⟨h4, h5⟩ := List.getElem?_eq_some_iff.1 hx
            rw [← h5, ← List.drop_eq_getElem_cons h4, List.take_append_drop]
          rwa [h3] at h2)
        have z2 : (o : Int) < (x : Int) := by omega
        clear hx ht
        go_upto_region 6 with fail
        ((try simp only [Act.put, List.setIfInBounds_toArray, List.set_cons_succ, List.set_cons_zero]); refine region_sat hs (by kernel_rfl) (by kernel_rfl) ?_; intro X f hne hf hcl; (repeat (first | ((with_reducible apply ldoq (fun x => (hf x).b0)); exact rfl; exact rfl; exact rfl; exact HV.out; kernel_rfl; (try simp only [Act.put, List.setIfInBounds_toArray, List.set_cons_succ, List.set_cons_zero])) | ((with_reducible apply ldq (fun x => (hf x).b0)); exact rfl; exact rfl; exact rfl; exact rfl; kernel_rfl; (try simp only [Act.put, List.setIfInBounds_toArray, List.set_cons_succ, List.set_cons_zero])) | ((with_reducible apply ldq (fun x => (hf x).b1)); exact rfl; exact rfl; exact rfl; exact rfl; kernel_rfl; (try simp only [Act.put, List.setIfInBounds_toArray, List.set_cons_succ, List.set_cons_zero])) | go_big_quiet_step (fail))); refine wpQuiet_nil ?_; clear hcl hf hne hs f X; intro w hs)
        go_wp2_with (first | ((with_reducible refine isl ?_); first | ((with_reducible apply ldo hs.b0); exact rfl; exact rfl; exact rfl; exact HV.out; kernel_rfl) | ((with_reducible apply ld hs.b0); exact rfl; exact rfl; exact rfl; exact rfl; kernel_rfl) | ((with_reducible apply ld hs.b1); exact rfl; exact rfl; exact rfl; exact rfl; kernel_rfl) | ((with_reducible apply st hs.b0); exact rfl; exact rfl; exact rfl; exact rfl; exact rfl; exact rfl; kernel_rfl; exact rfl; clear hs; intro w hs) | ((with_reducible apply st hs.b1); exact rfl; exact rfl; exact rfl; exact rfl; exact rfl; exact rfl; kernel_rfl; exact rfl; clear hs; intro w hs) | ((with_reducible apply stc hs.b0); exact rfl; exact rfl; exact rfl; exact rfl; exact rfl; kernel_rfl; exact rfl; clear hs; intro w hs) | ((with_reducible apply stc hs.b1); exact rfl; exact rfl; exact rfl; exact rfl; exact rfl; kernel_rfl; exact rfl; clear hs; intro w hs) | ((with_reducible refine wrap hs ?_); clear hs; intro w hs) | ((with_reducible refine wrapn hs ?_); clear hs; intro w hs) | ((with_reducible refine wrapd hs ?_); clear hs; intro w hs)))
        go_ret
        exact .inl ⟨x, HF.out, rfl, by (refine sat_from ?_ hs; repeat (first | exact Sub.refl _ | exact Sub.nil _ | refine Sub.c0 ?_ | refine Sub.c1 ?_ | refine Sub.c2 ?_ | refine Sub.c3 ?_ | refine Sub.c4 ?_ | refine Sub.c5 ?_ | refine Sub.c6 ?_ | refine Sub.c7 ?_ | refine Sub.c8 ?_ | refine Sub.c9 ?_ | refine Sub.skip ?_))⟩
      · have HA2 := Lib.hid (show ∀ y ∈ xs.take (k + 1), y ≤ o by
          rw [← ht]
          intro y hy
          rcases List.mem_append.1 hy with h | h
          · exact HA.out y h
          · rw [List.mem_singleton.1 h]; omega)
        have z2 : ¬ (o : Int) < (x : Int) := by omega
        clear hx ht
        go_upto_region 6 with fail
        ((try simp only [Act.put, List.setIfInBounds_toArray, List.set_cons_succ, List.set_cons_zero]); refine region_sat hs (by kernel_rfl) (by kernel_rfl) ?_; intro X f hne hf hcl; (repeat (first | ((with_reducible apply ldoq (fun x => (hf x).b0)); exact rfl; exact rfl; exact rfl; exact HV.out; kernel_rfl; (try simp only [Act.put, List.setIfInBounds_toArray, List.set_cons_succ, List.set_cons_zero])) | ((with_reducible apply ldq (fun x => (hf x).b0)); exact rfl; exact rfl; exact rfl; exact rfl; kernel_rfl; (try simp only [Act.put, List.setIfInBounds_toArray, List.set_cons_succ, List.set_cons_zero])) | ((with_reducible apply ldq (fun x => (hf x).b1)); exact rfl; exact rfl; exact rfl; exact rfl; kernel_rfl; (try simp only [Act.put, List.setIfInBounds_toArray, List.set_cons_succ, List.set_cons_zero])) | go_big_quiet_step (fail))); refine wpQuiet_nil ?_; clear hcl hf hne hs f X; intro w hs)
        go_wp2_with (first | ((with_reducible refine isl ?_); first | ((with_reducible apply ld hs.b0); exact rfl; exact rfl; exact rfl; exact rfl; kernel_rfl) | ((with_reducible apply ld hs.b1); exact rfl; exact rfl; exact rfl; exact rfl; kernel_rfl) | ((with_reducible apply st hs.b0); exact rfl; exact rfl; exact rfl; exact rfl; exact rfl; exact rfl; kernel_rfl; exact rfl; clear hs; intro w hs) | ((with_reducible apply st hs.b1); exact rfl; exact rfl; exact rfl; exact rfl; exact rfl; exact rfl; kernel_rfl; exact rfl; clear hs; intro w hs) | ((with_reducible apply stc hs.b0); exact rfl; exact rfl; exact rfl; exact rfl; exact rfl; kernel_rfl; exact rfl; clear hs; intro w hs) | ((with_reducible apply stc hs.b1); exact rfl; exact rfl; exact rfl; exact rfl; exact rfl; kernel_rfl; exact rfl; clear hs; intro w hs) | ((with_reducible refine wrap hs ?_); clear hs; intro w hs) | ((with_reducible refine wrapn hs ?_); clear hs; intro w hs) | ((with_reducible refine wrapd hs ?_); clear hs; intro w hs)))
        go_roundw
        case rel => exact ⟨k + 1, by omega, by go_num, HA2, hs⟩
        case measure => simp [intOf]; omega
    · have hkm : k = m := by omega
      subst hkm
      have HF := Lib.hid (show xs.find? (fun y => decide (o < y)) = none by
        have h := HA.out
        rw [List.take_of_length_le (by rw [HM.out]; exact Nat.le_refl _)] at h
        exact find_none o xs h)
      go_wp2
      go_ret
      exact .inr ⟨HF.out, rfl, hs.drop⟩
set_option maxHeartbeats 1000000 in
theorem rshow24 (hw : 0 < wd) (hw2 : wd ≤ 80) (hr : RdC Hc a n c cells) (hg : n ≤ 1000) {o : Nat} (ho : lastOf cells wd hw (off : Int) = o) (hs : sat W (cel b 44 (winL wd off) :: (Hc ++ H)) w) :
    Calls Try.prog 24 #[.pointer (some ⟨b, 0, none⟩), .slice a n c] w fun e w' => ∃ a' c', e = .returned (.slice a' wd c') ∧ sat W (own 5 1 (.slice a' wd c') wd (bytesV (showL cells wd o)) :: cel b 44 (winL wd o) :: (Hc ++ H)) w' := by
  have hcl := (hr.len hs.drop.only).1
  have hon : o ≤ cells.length := by rw [← ho]; exact Pan.lastB_le _
  have HR := Lib.hid hr
  have HO := Lib.hid ho
  have HN := Lib.hid hcl
  have hon2 : o ≤ n := by omega
  clear hr ho hcl hon
  go_enter Try.func24, Try.ntmps24
  go_wp2_with (first | (go_at_call 23; refine (rhold23 hw hw2 HR.out hg HO.out hs).mono ?_; clear hs; rintro e w ⟨rfl, hs⟩) | ((with_reducible refine isl ?_); first | ((with_reducible apply ld hs.b0); exact rfl; exact rfl; exact rfl; exact rfl; kernel_rfl) | ((with_reducible apply st hs.b0); exact rfl; exact rfl; exact rfl; exact rfl; exact rfl; exact rfl; kernel_rfl; exact rfl; clear hs; intro w hs) | ((with_reducible apply stc hs.b0); exact rfl; exact rfl; exact rfl; exact rfl; exact rfl; kernel_rfl; exact rfl; clear hs; intro w hs) | ((with_reducible refine wrap hs ?_); clear hs; intro w hs) | ((with_reducible refine wrapn hs ?_); clear hs; intro w hs) | ((with_reducible refine wrapd hs ?_); clear hs; intro w hs)))
  have hs := hs.own_nil 5 1
  go_loopw [5, 6, 7] (fun s5 i _ wr => ∃ (k : Nat) (a1 : Option Addr) (c1 : Nat), k ≤ wd ∧ s5 = .slice a1 k c1 ∧ i = .int .i64 (k : Int) ∧ sat W (own 5 1 (.slice a1 k c1) k (bytesV ((showL cells wd o).take k)) :: cel b 44 (winL wd o) :: (Hc ++ H)) wr) (fun _ i _ _ => ((wd : Int) - intOf i).toNat)
  case atStart => exact ⟨0, none, 0, Nat.zero_le _, rfl, rfl, hs⟩
  case round =>
    clear hs
    obtain ⟨k, a1, c1, hk, rfl, rfl, hs⟩ := hrel
    by_cases hkw : k < wd
    · have z1 : (k : Int) < (wd : Int) := by omega
      have hv := showL_at (cells := cells) (o := o) hkw
      by_cases hin : o + k < n
      · obtain ⟨b1, o1, rfl, hc⟩ := HR.out.cell hs.drop.drop.only hin
        rw [if_pos (by rw [← HN.out]; exact hin)] at hv
        obtain ⟨x, hx⟩ : ∃ x, cells.getD (o + k) 0 = x := ⟨_, rfl⟩
        rw [hx] at hc hv
        have HT := Lib.hid (showL_take hv)
        have z2 : (o : Int) + (k : Int) < (n : Int) := by omega
        clear hv hx
        go_wp2_with (first | ((with_reducible refine isl ?_); first | ((with_reducible apply ld hs.b0); exact rfl; exact rfl; exact rfl; exact rfl; kernel_rfl) | ((with_reducible apply ld hs.b1); exact rfl; exact rfl; exact rfl; exact rfl; kernel_rfl) | ((with_reducible apply st hs.b0); exact rfl; exact rfl; exact rfl; exact rfl; exact rfl; exact rfl; kernel_rfl; exact rfl; clear hs; intro w hs) | ((with_reducible apply st hs.b1); exact rfl; exact rfl; exact rfl; exact rfl; exact rfl; exact rfl; kernel_rfl; exact rfl; clear hs; intro w hs) | ((with_reducible apply stc hs.b0); exact rfl; exact rfl; exact rfl; exact rfl; exact rfl; kernel_rfl; exact rfl; clear hs; intro w hs) | ((with_reducible apply stc hs.b1); exact rfl; exact rfl; exact rfl; exact rfl; exact rfl; kernel_rfl; exact rfl; clear hs; intro w hs) | ((with_reducible apply app hs.b1); exact rfl; exact rfl; exact rfl; exact rfl; exact slty22; exact rfl; exact rfl; decide; omega; unfold maxLen; omega; clear hs; intro g5 c5 w hs; rw [HT.out] at hs) | ((with_reducible refine wrap hs ?_); clear hs; intro w hs) | ((with_reducible refine wrapn hs ?_); clear hs; intro w hs) | ((with_reducible refine wrapd hs ?_); clear hs; intro w hs)))
        go_roundw
        case rel => exact ⟨k + 1, _, _, by omega, rfl, by go_num, by (refine sat_from ?_ hs; repeat (first | exact Sub.refl _ | exact Sub.nil _ | refine Sub.c0 ?_ | refine Sub.c1 ?_ | refine Sub.c2 ?_ | refine Sub.c3 ?_ | refine Sub.c4 ?_ | refine Sub.c5 ?_ | refine Sub.c6 ?_ | refine Sub.c7 ?_ | refine Sub.c8 ?_ | refine Sub.c9 ?_ | refine Sub.skip ?_))⟩
        case measure => simp [intOf]; omega
      · rw [if_neg (by rw [← HN.out]; exact hin)] at hv
        have HT := Lib.hid (showL_take hv)
        have z2 : ¬ (o : Int) + (k : Int) < (n : Int) := by omega
        clear hv
        go_wp2_with (first | ((with_reducible refine isl ?_); first | ((with_reducible apply ld hs.b0); exact rfl; exact rfl; exact rfl; exact rfl; kernel_rfl) | ((with_reducible apply ld hs.b1); exact rfl; exact rfl; exact rfl; exact rfl; kernel_rfl) | ((with_reducible apply st hs.b0); exact rfl; exact rfl; exact rfl; exact rfl; exact rfl; exact rfl; kernel_rfl; exact rfl; clear hs; intro w hs) | ((with_reducible apply st hs.b1); exact rfl; exact rfl; exact rfl; exact rfl; exact rfl; exact rfl; kernel_rfl; exact rfl; clear hs; intro w hs) | ((with_reducible apply stc hs.b0); exact rfl; exact rfl; exact rfl; exact rfl; exact rfl; kernel_rfl; exact rfl; clear hs; intro w hs) | ((with_reducible apply stc hs.b1); exact rfl; exact rfl; exact rfl; exact rfl; exact rfl; kernel_rfl; exact rfl; clear hs; intro w hs) | ((with_reducible apply app hs.b1); exact rfl; exact rfl; exact rfl; exact rfl; exact slty22; exact rfl; exact rfl; decide; omega; unfold maxLen; omega; clear hs; intro g5 c5 w hs; rw [HT.out] at hs) | ((with_reducible refine wrap hs ?_); clear hs; intro w hs) | ((with_reducible refine wrapn hs ?_); clear hs; intro w hs) | ((with_reducible refine wrapd hs ?_); clear hs; intro w hs)))
        go_roundw
        case rel => exact ⟨k + 1, _, _, by omega, rfl, by go_num, by (refine sat_from ?_ hs; repeat (first | exact Sub.refl _ | exact Sub.nil _ | refine Sub.c0 ?_ | refine Sub.c1 ?_ | refine Sub.c2 ?_ | refine Sub.c3 ?_ | refine Sub.c4 ?_ | refine Sub.c5 ?_ | refine Sub.c6 ?_ | refine Sub.c7 ?_ | refine Sub.c8 ?_ | refine Sub.c9 ?_ | refine Sub.skip ?_))⟩
        case measure => simp [intOf]; omega
    · have hkw : k = wd := by omega
      subst hkw
      have HT := Lib.hid (show (showL cells k o).take k = showL cells k o from List.take_of_length_le (by rw [showL_len]; exact Nat.le_refl _))
      go_wp2_with (first | ((with_reducible refine isl ?_); first | ((with_reducible apply ld hs.b0); exact rfl; exact rfl; exact rfl; exact rfl; kernel_rfl) | ((with_reducible apply ld hs.b1); exact rfl; exact rfl; exact rfl; exact rfl; kernel_rfl) | ((with_reducible apply st hs.b0); exact rfl; exact rfl; exact rfl; exact rfl; exact rfl; exact rfl; kernel_rfl; exact rfl; clear hs; intro w hs) | ((with_reducible apply st hs.b1); exact rfl; exact rfl; exact rfl; exact rfl; exact rfl; exact rfl; kernel_rfl; exact rfl; clear hs; intro w hs) | ((with_reducible apply stc hs.b0); exact rfl; exact rfl; exact rfl; exact rfl; exact rfl; kernel_rfl; exact rfl; clear hs; intro w hs) | ((with_reducible apply stc hs.b1); exact rfl; exact rfl; exact rfl; exact rfl; exact rfl; kernel_rfl; exact rfl; clear hs; intro w hs) | ((with_reducible refine wrap hs ?_); clear hs; intro w hs) | ((with_reducible refine wrapn hs ?_); clear hs; intro w hs) | ((with_reducible refine wrapd hs ?_); clear hs; intro w hs)))
      go_ret
      rw [HT.out] at hs
      exact ⟨_, _, rfl, hs⟩
end
end Go.Proofs.Ytdbhgjkdblhhkaa
