import Derived.Test.YtappjlebkjmooaaP8a
namespace Go.Proofs.Ytappjlebkjmooaa
open Go.RowKit Go.Mem
variable {W w : World} {H : List HProp}
attribute [local irreducible] World.setCell World.alloc World.drew World.drewN Calls sat cel own blk old plist wpQuiet

set_option maxHeartbeats 2000000 in
theorem back_walk (a : Option Addr) (xs : List Int) (cap : Nat) (h1 : xs.length ≤ 60) (w0 : World) (ha : ArgInts .u16 w0 a xs) (hs : sat W (old w0 :: H) w) :
    Calls Try.prog 3 #[.slice a xs.length cap] w fun e w' => e = .returned (.bool true) ∧ sat W (old w0 :: H) w' := by
  have hx := range_u16 ha.wf
  have hbv := back_values xs (fun x h => bounds_u16 (ha.wf x h))
  have hc := ha.cells
  clear ha
  generalize hn : xs.length = n at *
  have hval : ∀ k, k < n → (values (backL xs n))[k]? = some (xs.getD k 0) ∨ 32 ≤ k := fun k hk => by
    by_cases h : k < 32
    · left; rw [hbv.2.1, List.getElem?_take_of_lt (by omega), List.getD_eq_getElem?_getD, List.getElem?_eq_getElem (by omega)]; rfl
    · right; omega
  clear hn
  have HC := Lib.hid hc
  have HX := Lib.hid hx
  have HB := Lib.hid hbv
  have HVAL := Lib.hid hval
  clear hc hx hbv hval
  have e1 : decide ((60 : Int) < (n : Int)) = false := by simp; omega
  go_enter Try.func3, Try.ntmps3
  go_wp2_with (first
    | (go_at_call 8; refine (new_any hs).mono ?_; clear hs; rintro e w ⟨b, rfl, hs⟩)
    | (refine wrap hs ?_; clear hs; intro w hs)
    | (refine wrapn hs ?_; clear hs; intro w hs)
    | (refine wrapd hs ?_; clear hs; intro w hs))
  go_loopw [4, 5, 15] (fun _ _ i wr => ∃ k : Nat, k ≤ n ∧ i = .int .i64 k ∧ sat W (plist b (backL xs k) :: old w0 :: H) wr) (fun _ _ i _ => n - (intOf i).toNat)
  case atStart => exact ⟨0, Nat.zero_le _, rfl, hs⟩
  case round =>
    clear hs
    obtain ⟨k, hk, rfl, hs⟩ := hrel
    by_cases hlt : k < n
    · obtain ⟨g, off, rfl, hc⟩ := HC.out (by omega)
      have hck := Lib.hid (hc k hlt)
      have hxk := HX.out k
      have HK : Hid (tellK (if 0 < k then next (backL xs k) else backL xs k) (xs[k]?.getD 0) 5 = backL xs (k + 1)) := by
        show _ = tellK (if 0 < k then next (backL xs k) else backL xs k) (xs.getD k 0) 5
        rw [List.getD_eq_getElem?_getD]
      rw [List.getD_eq_getElem?_getD] at hck
      generalize xs[k]?.getD 0 = y at *
      clear hc
      by_cases h0 : 0 < k
      · have HK2 := Lib.hid (show tellK (next (backL xs k)) y 5 = backL xs (k + 1) by have := HK.out; rw [if_pos h0] at this; exact this)
        go_wp2_with (first
    | (go_at_call 9; refine (next_any _ _ hs).mono ?_; clear hs; rintro e w ⟨rfl, hs⟩)
    | (go_at_call 10; refine (tell_any _ _ _ (by omega) (by omega) hs).mono ?_; clear hs; rintro e w ⟨rfl, hs⟩)
    | (apply ldold hs.b1; exact rfl; exact rfl; exact rfl; exact hck.out; kernel_rfl)
    | (refine wrap hs ?_; clear hs; intro w hs)
    | (refine wrapn hs ?_; clear hs; intro w hs)
    | (refine wrapd hs ?_; clear hs; intro w hs))
        go_roundw
        case rel => exact ⟨k + 1, by omega, by go_num, by rw [← HK2.out]; exact hs⟩
        case measure => simp [intOf]; omega
      · have HK2 := Lib.hid (show tellK (backL xs k) y 5 = backL xs (k + 1) by have := HK.out; rw [if_neg h0] at this; exact this)
        go_wp2_with (first
    | (go_at_call 9; refine (next_any _ _ hs).mono ?_; clear hs; rintro e w ⟨rfl, hs⟩)
    | (go_at_call 10; refine (tell_any _ _ _ (by omega) (by omega) hs).mono ?_; clear hs; rintro e w ⟨rfl, hs⟩)
    | (apply ldold hs.b1; exact rfl; exact rfl; exact rfl; exact hck.out; kernel_rfl)
    | (refine wrap hs ?_; clear hs; intro w hs)
    | (refine wrapn hs ?_; clear hs; intro w hs)
    | (refine wrapd hs ?_; clear hs; intro w hs))
        go_roundw
        case rel => exact ⟨k + 1, by omega, by go_num, by rw [← HK2.out]; exact hs⟩
        case measure => simp [intOf]; omega
    · obtain rfl : k = n := by omega
      clear hlt
      obtain ⟨m, hm⟩ : ∃ m, m = min k 32 := ⟨_, rfl⟩
      have hb := HB.out
      rw [← hm] at hb
      obtain ⟨hb1, hb2, hb3⟩ := hb
      generalize backL xs k = L at *
      have hvals : ∀ w1, sat W (plist b L :: old w0 :: H) w1 → Calls Try.prog 11 #[.pointer (some ⟨b, 0, none⟩)] w1 fun e w' => ∃ a' c', e = .returned (.slice a' m c') ∧ sat W (own 3 1 (.slice a' m c') m ((xs.take m).map (Value.int .i64)) :: plist b L :: old w0 :: H) w' := fun w1 h => by
        have := values_any b L h
        rw [hb1, hb2] at this
        refine this.mono fun e w' ⟨v, he, hs⟩ => ?_
        obtain ⟨a', c', rfl⟩ := hs.own_slice
        exact ⟨a', c', he, hs⟩
      have HVS := Lib.hid hvals
      have HB3 := Lib.hid hb3
      clear hb1 hb2 hb3 hvals HB HVAL
      have hcases : m = k ∧ k ≤ 32 ∨ m = 32 ∧ 32 < k := by omega
      have hmk : m ≤ k := by omega
      clear hm
      rcases hcases with ⟨rfl, h32⟩ | ⟨rfl, h32⟩
      all_goals
        go_wp2_with (first
    | (go_at_call 11; refine (HVS.out _ hs).mono ?_; clear hs; rintro e w ⟨a', c', rfl, hs⟩)
    | (refine wrap hs ?_; clear hs; intro w hs)
    | (refine wrapn hs ?_; clear hs; intro w hs)
    | (refine wrapd hs ?_; clear hs; intro w hs))
      · go_loopw [7, 39] (fun _ i wr => ∃ j : Nat, j ≤ m ∧ i = .int .i64 j ∧ sat W (own 3 1 (.slice a' m c') m ((xs.take m).map (Value.int .i64)) :: plist b L :: old w0 :: H) wr) (fun _ i _ => m - (intOf i).toNat)
        case atStart => exact ⟨0, Nat.zero_le _, rfl, hs⟩
        case round =>
          clear hs
          obtain ⟨j, hj, rfl, hs⟩ := hrel
          by_cases hlt : j < m
          · obtain ⟨g, off, rfl, hc⟩ := HC.out (by omega)
            obtain ⟨g2, c2, e⟩ := hs.own_some (by omega)
            cases e
            have hck := Lib.hid (hc j (by omega))
            have hl0 := hs.own_cases.1
            have HG : Hid (((xs.take m).map (Value.int .i64))[j]? = some (.int .i64 (xs.getD j 0))) := by
              have hl : (xs.take m).length = m := by simpa using hl0
              have := ints_get (k := .i64) (ys := xs.take m) (i := j) (by omega)
              rw [show (xs.take m).getD j 0 = xs.getD j 0 from by rw [List.getD_eq_getElem?_getD, List.getElem?_take_of_lt hlt, List.getD_eq_getElem?_getD]] at this
              exact this
            have hat := HB3.out j hlt
            have hxk := HX.out j
            rw [List.getD_eq_getElem?_getD] at hck HG hat
            generalize xs[j]?.getD 0 = y at *
            clear hc hl0
            by_cases hy : y = 0
            · subst hy
              have HAT : ∀ w, PIn w b L → Calls Try.prog 12 #[.pointer (some ⟨b, 0, none⟩), .int .i64 j, .int .i64 (-1)] w fun e w' => e = .returned (.int .i64 (-1)) ∧ ∃ n, w' = w.drewN n := fun w h => by
                have := at_any b L j (-1) w h
                rw [hat, if_pos rfl] at this; exact this
              have HA := Lib.hid HAT
              clear HAT hat
              go_wp2_with (first
    | ((try simp only [Act.put, List.setIfInBounds_toArray, List.set_cons_succ, List.set_cons_zero]); refine region_sat hs (by kernel_rfl) (by kernel_rfl) ?_; intro X f hne hf hcl; (repeat (first | (apply ldoq (fun x => (hf x).b0); exact rfl; exact rfl; exact rfl; exact HG.out; kernel_rfl; (try simp only [Act.put, List.setIfInBounds_toArray, List.set_cons_succ, List.set_cons_zero])) | (apply ldoldq (fun x => (hf x).b2); exact rfl; exact rfl; exact rfl; exact hck.out; kernel_rfl; (try simp only [Act.put, List.setIfInBounds_toArray, List.set_cons_succ, List.set_cons_zero])) | (go_big_quiet_want; go_big_quiet_op; refine ⟨_, fun x => (HA.out _ (PIn.of (hf x).b1)).mono (by rintro e w' ⟨rfl, n1, rfl⟩; exact ⟨rfl, hcl _ ((hf x).drewN _)⟩), ?_⟩; go_big_quiet_on) | go_big_quiet_step (fail))); refine wpQuiet_nil ?_; clear hcl hf hne hs f X; intro w hs)
    | (refine wrap hs ?_; clear hs; intro w hs)
    | (refine wrapn hs ?_; clear hs; intro w hs)
    | (refine wrapd hs ?_; clear hs; intro w hs))
              go_roundw
              case rel => exact ⟨j + 1, by omega, by go_num, hs⟩
              case measure => simp [intOf]; omega
            · have HAT : ∀ w, PIn w b L → Calls Try.prog 12 #[.pointer (some ⟨b, 0, none⟩), .int .i64 j, .int .i64 (-1)] w fun e w' => e = .returned (.int .i64 y) ∧ ∃ n, w' = w.drewN n := fun w h => by
                have := at_any b L j (-1) w h
                rw [hat, if_neg hy] at this; exact this
              have HA := Lib.hid HAT
              clear HAT hat
              go_wp2_with (first
    | ((try simp only [Act.put, List.setIfInBounds_toArray, List.set_cons_succ, List.set_cons_zero]); refine region_sat hs (by kernel_rfl) (by kernel_rfl) ?_; intro X f hne hf hcl; (repeat (first | (apply ldoq (fun x => (hf x).b0); exact rfl; exact rfl; exact rfl; exact HG.out; kernel_rfl; (try simp only [Act.put, List.setIfInBounds_toArray, List.set_cons_succ, List.set_cons_zero])) | (apply ldoldq (fun x => (hf x).b2); exact rfl; exact rfl; exact rfl; exact hck.out; kernel_rfl; (try simp only [Act.put, List.setIfInBounds_toArray, List.set_cons_succ, List.set_cons_zero])) | (go_big_quiet_want; go_big_quiet_op; refine ⟨_, fun x => (HA.out _ (PIn.of (hf x).b1)).mono (by rintro e w' ⟨rfl, n1, rfl⟩; exact ⟨rfl, hcl _ ((hf x).drewN _)⟩), ?_⟩; go_big_quiet_on) | go_big_quiet_step (fail))); refine wpQuiet_nil ?_; clear hcl hf hne hs f X; intro w hs)
    | (refine wrap hs ?_; clear hs; intro w hs)
    | (refine wrapn hs ?_; clear hs; intro w hs)
    | (refine wrapd hs ?_; clear hs; intro w hs))
              go_roundw
              case rel => exact ⟨j + 1, by omega, by go_num, hs⟩
              case measure => simp [intOf]; omega
          · go_wp2_with (first
    | (go_at_call 7; refine (known_any hs).mono ?_; clear hs; rintro e w ⟨rfl, hs⟩)
    | (refine wrap hs ?_; clear hs; intro w hs)
    | (refine wrapn hs ?_; clear hs; intro w hs)
    | (refine wrapd hs ?_; clear hs; intro w hs))
            go_ret
            exact ⟨rfl, hs.dropN 2⟩
      · go_loopw [7, 39] (fun _ i wr => ∃ j : Nat, j ≤ 32 ∧ i = .int .i64 j ∧ sat W (own 3 1 (.slice a' 32 c') 32 ((xs.take 32).map (Value.int .i64)) :: plist b L :: old w0 :: H) wr) (fun _ i _ => 32 - (intOf i).toNat)
        case atStart => exact ⟨0, Nat.zero_le _, rfl, hs⟩
        case round =>
          clear hs
          obtain ⟨j, hj, rfl, hs⟩ := hrel
          by_cases hlt : j < 32
          · obtain ⟨g, off, rfl, hc⟩ := HC.out (by omega)
            obtain ⟨g2, c2, e⟩ := hs.own_some (by omega)
            cases e
            have hck := Lib.hid (hc j (by omega))
            have hl0 := hs.own_cases.1
            have HG : Hid (((xs.take 32).map (Value.int .i64))[j]? = some (.int .i64 (xs.getD j 0))) := by
              have hl : (xs.take 32).length = 32 := by simpa using hl0
              have := ints_get (k := .i64) (ys := xs.take 32) (i := j) (by omega)
              rw [show (xs.take 32).getD j 0 = xs.getD j 0 from by rw [List.getD_eq_getElem?_getD, List.getElem?_take_of_lt hlt, List.getD_eq_getElem?_getD]] at this
              exact this
            have hat := HB3.out j hlt
            have hxk := HX.out j
            rw [List.getD_eq_getElem?_getD] at hck HG hat
            generalize xs[j]?.getD 0 = y at *
            clear hc hl0
            by_cases hy : y = 0
            · subst hy
              have HAT : ∀ w, PIn w b L → Calls Try.prog 12 #[.pointer (some ⟨b, 0, none⟩), .int .i64 j, .int .i64 (-1)] w fun e w' => e = .returned (.int .i64 (-1)) ∧ ∃ n, w' = w.drewN n := fun w h => by
                have := at_any b L j (-1) w h
                rw [hat, if_pos rfl] at this; exact this
              have HA := Lib.hid HAT
              clear HAT hat
              go_wp2_with (first
    | ((try simp only [Act.put, List.setIfInBounds_toArray, List.set_cons_succ, List.set_cons_zero]); refine region_sat hs (by kernel_rfl) (by kernel_rfl) ?_; intro X f hne hf hcl; (repeat (first | (apply ldoq (fun x => (hf x).b0); exact rfl; exact rfl; exact rfl; exact HG.out; kernel_rfl; (try simp only [Act.put, List.setIfInBounds_toArray, List.set_cons_succ, List.set_cons_zero])) | (apply ldoldq (fun x => (hf x).b2); exact rfl; exact rfl; exact rfl; exact hck.out; kernel_rfl; (try simp only [Act.put, List.setIfInBounds_toArray, List.set_cons_succ, List.set_cons_zero])) | (go_big_quiet_want; go_big_quiet_op; refine ⟨_, fun x => (HA.out _ (PIn.of (hf x).b1)).mono (by rintro e w' ⟨rfl, n1, rfl⟩; exact ⟨rfl, hcl _ ((hf x).drewN _)⟩), ?_⟩; go_big_quiet_on) | go_big_quiet_step (fail))); refine wpQuiet_nil ?_; clear hcl hf hne hs f X; intro w hs)
    | (refine wrap hs ?_; clear hs; intro w hs)
    | (refine wrapn hs ?_; clear hs; intro w hs)
    | (refine wrapd hs ?_; clear hs; intro w hs))
              go_roundw
              case rel => exact ⟨j + 1, by omega, by go_num, hs⟩
              case measure => simp [intOf]; omega
            · have HAT : ∀ w, PIn w b L → Calls Try.prog 12 #[.pointer (some ⟨b, 0, none⟩), .int .i64 j, .int .i64 (-1)] w fun e w' => e = .returned (.int .i64 y) ∧ ∃ n, w' = w.drewN n := fun w h => by
                have := at_any b L j (-1) w h
                rw [hat, if_neg hy] at this; exact this
              have HA := Lib.hid HAT
              clear HAT hat
              go_wp2_with (first
    | ((try simp only [Act.put, List.setIfInBounds_toArray, List.set_cons_succ, List.set_cons_zero]); refine region_sat hs (by kernel_rfl) (by kernel_rfl) ?_; intro X f hne hf hcl; (repeat (first | (apply ldoq (fun x => (hf x).b0); exact rfl; exact rfl; exact rfl; exact HG.out; kernel_rfl; (try simp only [Act.put, List.setIfInBounds_toArray, List.set_cons_succ, List.set_cons_zero])) | (apply ldoldq (fun x => (hf x).b2); exact rfl; exact rfl; exact rfl; exact hck.out; kernel_rfl; (try simp only [Act.put, List.setIfInBounds_toArray, List.set_cons_succ, List.set_cons_zero])) | (go_big_quiet_want; go_big_quiet_op; refine ⟨_, fun x => (HA.out _ (PIn.of (hf x).b1)).mono (by rintro e w' ⟨rfl, n1, rfl⟩; exact ⟨rfl, hcl _ ((hf x).drewN _)⟩), ?_⟩; go_big_quiet_on) | go_big_quiet_step (fail))); refine wpQuiet_nil ?_; clear hcl hf hne hs f X; intro w hs)
    | (refine wrap hs ?_; clear hs; intro w hs)
    | (refine wrapn hs ?_; clear hs; intro w hs)
    | (refine wrapd hs ?_; clear hs; intro w hs))
              go_roundw
              case rel => exact ⟨j + 1, by omega, by go_num, hs⟩
              case measure => simp [intOf]; omega
          · go_wp2_with (first
    | (go_at_call 7; refine (known_any hs).mono ?_; clear hs; rintro e w ⟨rfl, hs⟩)
    | (refine wrap hs ?_; clear hs; intro w hs)
    | (refine wrapn hs ?_; clear hs; intro w hs)
    | (refine wrapd hs ?_; clear hs; intro w hs))
            go_ret
            exact ⟨rfl, hs.dropN 2⟩

theorem back_top (a : Option Addr) (len cap : Nat) (zs : List Int) (w : World) (ha : IsRow .u16 w a len cap zs) :
    Calls Try.prog 3 #[.slice a len cap] w fun e w' => e = .returned (.bool true) ∧ Below w.heap.size w w' := by
  obtain ⟨xs, rfl, hx⟩ := ha.args
  by_cases h : 60 < xs.length
  · exact (back_guard a _ cap h hx.len (sat.start w)).mono fun e w' ⟨he, hs⟩ => ⟨he, hs.below⟩
  · exact (back_walk a xs cap (by omega) w hx (sat.start w)).mono fun e w' ⟨he, hs⟩ => ⟨he, hs.below⟩
end Go.Proofs.Ytappjlebkjmooaa
