import Derived.Test.YtappjlebkjmooaaP10
namespace Go.Proofs.Ytappjlebkjmooaa
open Go.RowKit Go.Mem
variable {W w : World} {H : List HProp}
attribute [local irreducible] World.setCell World.alloc World.drew World.drewN Calls sat cel own blk old plist wpQuiet rl

theorem plays_guard (a : Option Addr) (len cap : Nat) (m d : Int) (h : 300 < len) (hl : len ≤ maxLen) (hs : sat W H w) :
    Calls Try.prog 5 #[.slice a len cap, .int .i64 m, .int .i64 d] w fun e w' => e = .returned (.bool true) ∧ sat W H w' := by
  unfold maxLen at hl
  have e1 : decide ((300 : Int) < (len : Int)) = true := by simp; omega
  go_enter Try.func5, Try.ntmps5
  go_wp2_with (first
    | (go_at_call 7; refine (known_any hs).mono ?_; clear hs; rintro e w ⟨rfl, hs⟩)
    | (refine wrap hs ?_; clear hs; intro w hs)
    | (refine wrapn hs ?_; clear hs; intro w hs)
    | (refine wrapd hs ?_; clear hs; intro w hs))
  go_ret
  exact ⟨rfl, hs⟩

/-! ## The contracts, said of the document's list -/
theorem new_t (hs : sat W H w) : Calls Try.prog 8 #[] w fun e w' => ∃ b, e = .returned (.pointer (some ⟨b, 0, none⟩)) ∧ sat W (plist b (toPL [] false) :: H) w' := new_any hs
theorem clear_t (b : Nat) (L : PL) (hs : sat W (plist b L :: H) w) :
    Calls Try.prog 16 #[.pointer (some ⟨b, 0, none⟩)] w fun e w' => e = .returned (.tuple #[]) ∧ sat W (plist b (toPL [] false) :: H) w' := clear_any b L hs
theorem next_t (b : Nat) (xs ys : List Int) (over ov : Bool) (h : xs.length ≤ 32) (he : rnext xs over = (ys, ov)) (hs : sat W (plist b (toPL xs over) :: H) w) :
    Calls Try.prog 9 #[.pointer (some ⟨b, 0, none⟩)] w fun e w' => e = .returned (.tuple #[]) ∧ sat W (plist b (toPL ys ov) :: H) w' := by
  have := next_any b _ hs
  rw [toPL_next xs over h, he] at this; exact this
theorem digit_t (b : Nat) (xs ys : List Int) (over : Bool) (d : Int) (h : xs.length ≤ 32) (he : rdigit xs over d = ys) (hs : sat W (plist b (toPL xs over) :: H) w) :
    Calls Try.prog 13 #[.pointer (some ⟨b, 0, none⟩), .int .i64 d] w fun e w' => e = .returned (.tuple #[]) ∧ sat W (plist b (toPL ys over) :: H) w' := by
  have := digit_any b _ d hs
  rw [toPL_digit xs over d h, he] at this; exact this
theorem rnext_t (b : Nat) (xs ys : List Int) (over ov : Bool) (h : xs.length ≤ 32) (he : rnext xs over = (ys, ov)) (hs : sat W (rl b xs over :: H) w) :
    Calls Try.prog 15 #[.pointer (some ⟨b, 0, none⟩)] w fun e w' => e = .returned (.tuple #[]) ∧ sat W (rl b ys ov :: H) w' := by
  have := rnext_any b xs over h hs
  rw [he] at this; exact this
theorem rdigit_t (b : Nat) (xs ys : List Int) (over : Bool) (d : Int) (h : RInv xs) (he : rdigit xs over d = ys) (hs : sat W (rl b xs over :: H) w) :
    Calls Try.prog 18 #[.pointer (some ⟨b, 0, none⟩), .int .i64 d] w fun e w' => e = .returned (.tuple #[]) ∧ sat W (rl b ys over :: H) w' := by
  have := rdigit_any b xs over d (by have := h.1; omega) h.2 hs
  rw [he] at this; exact this
theorem values_t (b : Nat) (xs : List Int) (over : Bool) (hs : sat W (plist b (toPL xs over) :: H) w) :
    Calls Try.prog 11 #[.pointer (some ⟨b, 0, none⟩)] w fun e w' => ∃ a' c', e = .returned (.slice a' xs.length c') ∧ sat W (own 3 1 (.slice a' xs.length c') xs.length (xs.map (Value.int .i64)) :: plist b (toPL xs over) :: H) w' := by
  have := values_sl b _ hs
  rw [toPL_values] at this; exact this
theorem len_t (b : Nat) (xs : List Int) (over : Bool) (h : PIn w b (toPL xs over)) :
    Calls Try.prog 14 #[.pointer (some ⟨b, 0, none⟩)] w fun e w' => e = .returned (.int .i64 xs.length) ∧ ∃ n, w' = w.drewN n := len_any b _ w h
theorem at_t (b : Nat) (xs : List Int) (over : Bool) (i d : Int) (h : PIn w b (toPL xs over)) :
    Calls Try.prog 12 #[.pointer (some ⟨b, 0, none⟩), .int .i64 i, .int .i64 d] w fun e w' => e = .returned (.int .i64 (rat xs i d)) ∧ ∃ n, w' = w.drewN n := by
  have := at_any b _ i d w h
  rw [toPL_at] at this; exact this
theorem rl_new {b : Nat} {l : List Value} (hl : l = [.slice none 0 0, .bool false]) (hs : sat W (cel b 38 l :: H) w) : sat W (rl b [] false :: H) w := by
  subst hl
  exact rl_close (xs := []) (hs.own_nil 3 1).swap

theorem clear_u (b : Nat) (L : PL) {ys : List Int} {ov : Bool} (h1 : [] = ys) (h2 : false = ov) (hs : sat W (plist b L :: H) w) :
    Calls Try.prog 16 #[.pointer (some ⟨b, 0, none⟩)] w fun e w' => e = .returned (.tuple #[]) ∧ sat W (plist b (toPL ys ov) :: H) w' := by
  subst h1; subst h2; exact clear_any b L hs
theorem rl_newu {b : Nat} {l : List Value} {ys : List Int} {ov : Bool} (h1 : [] = ys) (h2 : false = ov) (hl : l = [.slice none 0 0, .bool false]) (hs : sat W (cel b 38 l :: H) w) : sat W (rl b ys ov :: H) w := by
  subst h1; subst h2; exact rl_new hl hs

set_option maxRecDepth 8000 in
set_option maxHeartbeats 4000000 in
theorem plays_walk (a : Option Addr) (xs0 : List Int) (cap : Nat) (m d : Int) (h1 : xs0.length ≤ 300) (w0 : World) (ha : ArgInts .i64 w0 a xs0) (hs : sat W (old w0 :: H) w) :
    Calls Try.prog 5 #[.slice a xs0.length cap, .int .i64 m, .int .i64 d] w fun e w' => e = .returned (.bool true) ∧ sat W (old w0 :: H) w' := by
  have hc := ha.cells
  clear ha
  generalize hn : xs0.length = n at *
  clear hn
  have HC := Lib.hid hc
  clear hc
  have e1 : decide ((300 : Int) < (n : Int)) = false := by simp; omega
  go_enter Try.func5, Try.ntmps5
  go_wp2_with (first
    | (go_at_call 8; refine (new_t hs).mono ?_; clear hs; rintro e w ⟨b, rfl, hs⟩)
    | (refine wrap hs ?_; clear hs; generalize w.heap.size = r; intro w hs; have hs := (rl_new rfl hs).swap)
    | (refine wrap hs ?_; clear hs; intro w hs)
    | (refine wrapn hs ?_; clear hs; intro w hs)
    | (refine wrapd hs ?_; clear hs; intro w hs))
  go_loopw [7, 8, 10, 11, 12, 13, 23] (fun p q _ _ _ _ i wr => ∃ (k b r : Nat) (ys : List Int) (ov : Bool), k ≤ n ∧ RInv ys ∧ p = .pointer (some ⟨b, 0, none⟩) ∧ q = .pointer (some ⟨r, 0, none⟩) ∧ i = .int .i64 k ∧ sat W (plist b (toPL ys ov) :: rl r ys ov :: old w0 :: H) wr) (fun _ _ _ _ _ _ i _ => n - (intOf i).toNat)
  case atStart => exact ⟨0, _, _, [], false, Nat.zero_le _, RInv.nil, rfl, rfl, rfl, hs⟩
  case round =>
    clear hs
    obtain ⟨k, b, r, xs, over, hk, HR, rfl, rfl, rfl, hs⟩ := hrel
    by_cases hlt : k < n
    · obtain ⟨g, off, rfl, hc⟩ := HC.out (by omega)
      have hck := Lib.hid (hc k hlt)
      generalize xs0.getD k 0 = y at *
      clear hc
      by_cases h10 : y = 10
      · subst h10
        obtain ⟨ys, ov, HE⟩ : ∃ ys ov, rnext xs over = (ys, ov) := ⟨_, _, rfl⟩
        have hys : RInv ys := by have := HR.next over; rw [HE] at this; exact this
        have hl := HR.1
        go_wp2_with (first
    | (go_at_call 9; refine (next_t _ _ _ _ _ hl HE hs).mono ?_; clear hs; rintro e w ⟨rfl, hs⟩)
    | (go_at_call 15; refine (rnext_t _ _ _ _ _ hl HE hs.b1).mono ?_; clear hs; rintro e w ⟨rfl, hs⟩)
    | (go_at_call 11; refine (values_t _ ys _ hs.b1).mono ?_; clear hs; rintro e w ⟨a1, c1, rfl, hs⟩; obtain ⟨v, hs⟩ := rl_open hs.b2; obtain ⟨a2, c2, rfl⟩ := hs.swap.own_slice; have hl2 := hys.1)
    | ((try simp only [Act.put, List.setIfInBounds_toArray, List.set_cons_succ, List.set_cons_zero]); refine region_sat hs (by kernel_rfl) (by kernel_rfl) ?_; intro X f hne hf hcl; (repeat (first | (apply ldq (fun x => (hf x).b0); exact rfl; exact rfl; exact rfl; exact rfl; kernel_rfl; (try simp only [Act.put, List.setIfInBounds_toArray, List.set_cons_succ, List.set_cons_zero])) | (go_big_quiet_want; go_big_quiet_op; refine ⟨_, fun x => (same_self _ _ ys _ ((hf x).b2.own_reads.1) ((hf x).b1.own_reads.1)).mono (by rintro e w' ⟨rfl, n1, rfl⟩; exact ⟨rfl, hcl _ ((hf x).drewN _)⟩), ?_⟩; go_big_quiet_on) | (go_big_quiet_want; go_big_quiet_op; refine ⟨_, fun x => (len_t _ ys _ (PIn.of (hf x).b3)).mono (by rintro e w' ⟨rfl, n1, rfl⟩; exact ⟨rfl, hcl _ ((hf x).drewN _)⟩), ?_⟩; go_big_quiet_on) | (go_big_quiet_want; go_big_quiet_op; refine ⟨_, fun x => (at_t _ ys _ _ _ (PIn.of (hf x).b3)).mono (by rintro e w' ⟨rfl, n1, rfl⟩; exact ⟨rfl, hcl _ ((hf x).drewN _)⟩), ?_⟩; go_big_quiet_on) | (go_big_quiet_want; go_big_quiet_op; refine ⟨_, fun x => (rat_q _ _ ys _ _ _ (by omega) (hf x)).mono (by rintro e w' ⟨rfl, n1, rfl⟩; exact ⟨rfl, hcl _ ((hf x).drewN _)⟩), ?_⟩; go_big_quiet_on) | go_big_quiet_step (fail))); refine wpQuiet_nil ?_; clear hcl hf hne hs f X; intro w hs)
    | (apply ldold hs.b2; exact rfl; exact rfl; exact rfl; exact hck.out; kernel_rfl)
    | (refine wrap hs ?_; clear hs; intro w hs)
    | (refine wrapn hs ?_; clear hs; intro w hs)
    | (refine wrapd hs ?_; clear hs; intro w hs))
        go_loopw [13, 112] (fun _ i wr => ∃ (j : Nat) (zs : List Int), j ≤ ys.length ∧ zs.length = ys.length ∧ i = .int .i64 j ∧ sat W (own 3 1 (.slice a1 ys.length c1) ys.length (zs.map (Value.int .i64)) :: cel r 38 [.slice a2 ys.length c2, .bool ov] :: own 3 1 (.slice a2 ys.length c2) ys.length (ys.map (Value.int .i64)) :: plist b (toPL ys ov) :: old w0 :: H) wr) (fun _ i _ => ys.length - (intOf i).toNat)
        case atStart => exact ⟨0, ys, Nat.zero_le _, rfl, rfl, hs.b2⟩
        case round =>
          clear hs
          obtain ⟨j, zs, hj, hz, rfl, hs⟩ := hrel
          by_cases hlt2 : j < ys.length
          · obtain ⟨g2, c3, e⟩ := hs.own_some (by omega)
            cases e
            have hjz : j < zs.length := by omega
            go_wp2_with (first
    | (apply ldo hs.b0; exact rfl; exact rfl; exact rfl; (first | exact rfl | exact ints_get (by omega)); kernel_rfl)
    | (apply sto hs.b0; exact rfl; exact rfl; exact rfl; exact rfl; exact rfl; (first | exact rfl | exact ints_some (by omega)); kernel_rfl; exact rfl; clear hs; intro w hs)
    | (refine wrap hs ?_; clear hs; intro w hs)
    | (refine wrapn hs ?_; clear hs; intro w hs)
    | (refine wrapd hs ?_; clear hs; intro w hs))
            go_roundw
            case rel => exact ⟨j + 1, zs.set j _, by omega, by simpa using hz, by go_num, by rw [List.map_set]; exact hs⟩
            case measure => simp [intOf]; omega
          · go_wp2_with (first
    | (refine wrap hs ?_; clear hs; intro w hs)
    | (refine wrapn hs ?_; clear hs; intro w hs)
    | (refine wrapd hs ?_; clear hs; intro w hs))
            go_roundw
            case rel => exact ⟨k + 1, _, _, ys, ov, by omega, hys, rfl, rfl, by go_num, (rl_close hs.drop).swap⟩
            case measure => simp [intOf]; omega
      · by_cases h11 : y = 11
        · subst h11
          obtain ⟨ys, ov, HE1, HE2⟩ : ∃ (ys : List Int) (ov : Bool), [] = ys ∧ false = ov := ⟨_, _, rfl, rfl⟩
          have hys : RInv ys := HE1 ▸ RInv.nil
          have HF1 := Lib.hid HE1
          have HF2 := Lib.hid HE2
          clear HE1 HE2
          go_wp2_with (first
    | (go_at_call 16; refine (clear_u _ _ HF1.out HF2.out hs).mono ?_; clear hs; rintro e w ⟨rfl, hs⟩)
    | (refine wrap hs ?_; clear hs; generalize w.heap.size = r; intro w hs; have hs := (rl_newu HF1.out HF2.out rfl hs).b2.drop)
    | (go_at_call 11; refine (values_t _ ys _ hs.b1).mono ?_; clear hs; rintro e w ⟨a1, c1, rfl, hs⟩; obtain ⟨v, hs⟩ := rl_open hs.b2; obtain ⟨a2, c2, rfl⟩ := hs.swap.own_slice; have hl2 := hys.1)
    | ((try simp only [Act.put, List.setIfInBounds_toArray, List.set_cons_succ, List.set_cons_zero]); refine region_sat hs (by kernel_rfl) (by kernel_rfl) ?_; intro X f hne hf hcl; (repeat (first | (apply ldq (fun x => (hf x).b0); exact rfl; exact rfl; exact rfl; exact rfl; kernel_rfl; (try simp only [Act.put, List.setIfInBounds_toArray, List.set_cons_succ, List.set_cons_zero])) | (go_big_quiet_want; go_big_quiet_op; refine ⟨_, fun x => (same_self _ _ ys _ ((hf x).b2.own_reads.1) ((hf x).b1.own_reads.1)).mono (by rintro e w' ⟨rfl, n1, rfl⟩; exact ⟨rfl, hcl _ ((hf x).drewN _)⟩), ?_⟩; go_big_quiet_on) | (go_big_quiet_want; go_big_quiet_op; refine ⟨_, fun x => (len_t _ ys _ (PIn.of (hf x).b3)).mono (by rintro e w' ⟨rfl, n1, rfl⟩; exact ⟨rfl, hcl _ ((hf x).drewN _)⟩), ?_⟩; go_big_quiet_on) | (go_big_quiet_want; go_big_quiet_op; refine ⟨_, fun x => (at_t _ ys _ _ _ (PIn.of (hf x).b3)).mono (by rintro e w' ⟨rfl, n1, rfl⟩; exact ⟨rfl, hcl _ ((hf x).drewN _)⟩), ?_⟩; go_big_quiet_on) | (go_big_quiet_want; go_big_quiet_op; refine ⟨_, fun x => (rat_q _ _ ys _ _ _ (by omega) (hf x)).mono (by rintro e w' ⟨rfl, n1, rfl⟩; exact ⟨rfl, hcl _ ((hf x).drewN _)⟩), ?_⟩; go_big_quiet_on) | go_big_quiet_step (fail))); refine wpQuiet_nil ?_; clear hcl hf hne hs f X; intro w hs)
    | (apply ldold hs.b2; exact rfl; exact rfl; exact rfl; exact hck.out; kernel_rfl)
    | (refine wrap hs ?_; clear hs; intro w hs)
    | (refine wrapn hs ?_; clear hs; intro w hs)
    | (refine wrapd hs ?_; clear hs; intro w hs))
          go_loopw [13, 112] (fun _ i wr => ∃ (j : Nat) (zs : List Int), j ≤ ys.length ∧ zs.length = ys.length ∧ i = .int .i64 j ∧ sat W (own 3 1 (.slice a1 ys.length c1) ys.length (zs.map (Value.int .i64)) :: cel r 38 [.slice a2 ys.length c2, .bool ov] :: own 3 1 (.slice a2 ys.length c2) ys.length (ys.map (Value.int .i64)) :: plist b (toPL ys ov) :: old w0 :: H) wr) (fun _ i _ => ys.length - (intOf i).toNat)
          case atStart => exact ⟨0, ys, Nat.zero_le _, rfl, rfl, hs.b2⟩
          case round =>
            clear hs
            obtain ⟨j, zs, hj, hz, rfl, hs⟩ := hrel
            by_cases hlt2 : j < ys.length
            · obtain ⟨g2, c3, e⟩ := hs.own_some (by omega)
              cases e
              have hjz : j < zs.length := by omega
              go_wp2_with (first
    | (apply ldo hs.b0; exact rfl; exact rfl; exact rfl; (first | exact rfl | exact ints_get (by omega)); kernel_rfl)
    | (apply sto hs.b0; exact rfl; exact rfl; exact rfl; exact rfl; exact rfl; (first | exact rfl | exact ints_some (by omega)); kernel_rfl; exact rfl; clear hs; intro w hs)
    | (refine wrap hs ?_; clear hs; intro w hs)
    | (refine wrapn hs ?_; clear hs; intro w hs)
    | (refine wrapd hs ?_; clear hs; intro w hs))
              go_roundw
              case rel => exact ⟨j + 1, zs.set j _, by omega, by simpa using hz, by go_num, by rw [List.map_set]; exact hs⟩
              case measure => simp [intOf]; omega
            · go_wp2_with (first
    | (refine wrap hs ?_; clear hs; intro w hs)
    | (refine wrapn hs ?_; clear hs; intro w hs)
    | (refine wrapd hs ?_; clear hs; intro w hs))
              go_roundw
              case rel => exact ⟨k + 1, _, _, ys, ov, by omega, hys, rfl, rfl, by go_num, (rl_close hs.drop).swap⟩
              case measure => simp [intOf]; omega
        · by_cases h12 : y = 12
          · subst h12
            generalize xs = ys at *; generalize over = ov at *
            have hys := HR
            go_wp2_with (first
    | (go_at_call 17; refine (copy_any _ _ hs).mono ?_; clear hs; rintro e w ⟨c, rfl, hs⟩)
    | (go_at_call 13; refine (digit_any _ _ _ hs.b1).mono ?_; clear hs; rintro e w ⟨rfl, hs⟩)
    | (go_at_call 9; refine (next_any _ _ hs).mono ?_; clear hs; rintro e w ⟨rfl, hs⟩)
    | (go_at_call 11; refine (values_t _ ys _ hs.drop).mono ?_; clear hs; rintro e w ⟨a1, c1, rfl, hs⟩; obtain ⟨v, hs⟩ := rl_open hs.b2; obtain ⟨a2, c2, rfl⟩ := hs.swap.own_slice; have hl2 := hys.1)
    | ((try simp only [Act.put, List.setIfInBounds_toArray, List.set_cons_succ, List.set_cons_zero]); refine region_sat hs (by kernel_rfl) (by kernel_rfl) ?_; intro X f hne hf hcl; (repeat (first | (apply ldq (fun x => (hf x).b0); exact rfl; exact rfl; exact rfl; exact rfl; kernel_rfl; (try simp only [Act.put, List.setIfInBounds_toArray, List.set_cons_succ, List.set_cons_zero])) | (go_big_quiet_want; go_big_quiet_op; refine ⟨_, fun x => (same_self _ _ ys _ ((hf x).b2.own_reads.1) ((hf x).b1.own_reads.1)).mono (by rintro e w' ⟨rfl, n1, rfl⟩; exact ⟨rfl, hcl _ ((hf x).drewN _)⟩), ?_⟩; go_big_quiet_on) | (go_big_quiet_want; go_big_quiet_op; refine ⟨_, fun x => (len_t _ ys _ (PIn.of (hf x).b3)).mono (by rintro e w' ⟨rfl, n1, rfl⟩; exact ⟨rfl, hcl _ ((hf x).drewN _)⟩), ?_⟩; go_big_quiet_on) | (go_big_quiet_want; go_big_quiet_op; refine ⟨_, fun x => (at_t _ ys _ _ _ (PIn.of (hf x).b3)).mono (by rintro e w' ⟨rfl, n1, rfl⟩; exact ⟨rfl, hcl _ ((hf x).drewN _)⟩), ?_⟩; go_big_quiet_on) | (go_big_quiet_want; go_big_quiet_op; refine ⟨_, fun x => (rat_q _ _ ys _ _ _ (by omega) (hf x)).mono (by rintro e w' ⟨rfl, n1, rfl⟩; exact ⟨rfl, hcl _ ((hf x).drewN _)⟩), ?_⟩; go_big_quiet_on) | go_big_quiet_step (fail))); refine wpQuiet_nil ?_; clear hcl hf hne hs f X; intro w hs)
    | (apply ldold hs.b2; exact rfl; exact rfl; exact rfl; exact hck.out; kernel_rfl)
    | (refine wrap hs ?_; clear hs; intro w hs)
    | (refine wrapn hs ?_; clear hs; intro w hs)
    | (refine wrapd hs ?_; clear hs; intro w hs))
            go_loopw [13, 112] (fun _ i wr => ∃ (j : Nat) (zs : List Int), j ≤ ys.length ∧ zs.length = ys.length ∧ i = .int .i64 j ∧ sat W (own 3 1 (.slice a1 ys.length c1) ys.length (zs.map (Value.int .i64)) :: cel r 38 [.slice a2 ys.length c2, .bool ov] :: own 3 1 (.slice a2 ys.length c2) ys.length (ys.map (Value.int .i64)) :: plist c (toPL ys ov) :: old w0 :: H) wr) (fun _ i _ => ys.length - (intOf i).toNat)
            case atStart => exact ⟨0, ys, Nat.zero_le _, rfl, rfl, hs.b2⟩
            case round =>
              clear hs
              obtain ⟨j, zs, hj, hz, rfl, hs⟩ := hrel
              by_cases hlt2 : j < ys.length
              · obtain ⟨g2, c3, e⟩ := hs.own_some (by omega)
                cases e
                have hjz : j < zs.length := by omega
                go_wp2_with (first
    | (apply ldo hs.b0; exact rfl; exact rfl; exact rfl; (first | exact rfl | exact ints_get (by omega)); kernel_rfl)
    | (apply sto hs.b0; exact rfl; exact rfl; exact rfl; exact rfl; exact rfl; (first | exact rfl | exact ints_some (by omega)); kernel_rfl; exact rfl; clear hs; intro w hs)
    | (refine wrap hs ?_; clear hs; intro w hs)
    | (refine wrapn hs ?_; clear hs; intro w hs)
    | (refine wrapd hs ?_; clear hs; intro w hs))
                go_roundw
                case rel => exact ⟨j + 1, zs.set j _, by omega, by simpa using hz, by go_num, by rw [List.map_set]; exact hs⟩
                case measure => simp [intOf]; omega
              · go_wp2_with (first
    | (refine wrap hs ?_; clear hs; intro w hs)
    | (refine wrapn hs ?_; clear hs; intro w hs)
    | (refine wrapd hs ?_; clear hs; intro w hs))
                go_roundw
                case rel => exact ⟨k + 1, _, _, ys, ov, by omega, hys, rfl, rfl, by go_num, (rl_close hs.drop).swap⟩
                case measure => simp [intOf]; omega
          · obtain ⟨ys, HE⟩ : ∃ ys, rdigit xs over y = ys := ⟨_, rfl⟩
            generalize over = ov at *
            have hys : RInv ys := HE ▸ HR.digit ov y
            have hl := HR.1
            go_wp2_with (first
    | (go_at_call 13; refine (digit_t _ _ _ _ _ hl HE hs).mono ?_; clear hs; rintro e w ⟨rfl, hs⟩)
    | (go_at_call 18; refine (rdigit_t _ _ _ _ _ HR HE hs.b1).mono ?_; clear hs; rintro e w ⟨rfl, hs⟩)
    | (go_at_call 11; refine (values_t _ ys _ hs.b1).mono ?_; clear hs; rintro e w ⟨a1, c1, rfl, hs⟩; obtain ⟨v, hs⟩ := rl_open hs.b2; obtain ⟨a2, c2, rfl⟩ := hs.swap.own_slice; have hl2 := hys.1)
    | ((try simp only [Act.put, List.setIfInBounds_toArray, List.set_cons_succ, List.set_cons_zero]); refine region_sat hs (by kernel_rfl) (by kernel_rfl) ?_; intro X f hne hf hcl; (repeat (first | (apply ldq (fun x => (hf x).b0); exact rfl; exact rfl; exact rfl; exact rfl; kernel_rfl; (try simp only [Act.put, List.setIfInBounds_toArray, List.set_cons_succ, List.set_cons_zero])) | (go_big_quiet_want; go_big_quiet_op; refine ⟨_, fun x => (same_self _ _ ys _ ((hf x).b2.own_reads.1) ((hf x).b1.own_reads.1)).mono (by rintro e w' ⟨rfl, n1, rfl⟩; exact ⟨rfl, hcl _ ((hf x).drewN _)⟩), ?_⟩; go_big_quiet_on) | (go_big_quiet_want; go_big_quiet_op; refine ⟨_, fun x => (len_t _ ys _ (PIn.of (hf x).b3)).mono (by rintro e w' ⟨rfl, n1, rfl⟩; exact ⟨rfl, hcl _ ((hf x).drewN _)⟩), ?_⟩; go_big_quiet_on) | (go_big_quiet_want; go_big_quiet_op; refine ⟨_, fun x => (at_t _ ys _ _ _ (PIn.of (hf x).b3)).mono (by rintro e w' ⟨rfl, n1, rfl⟩; exact ⟨rfl, hcl _ ((hf x).drewN _)⟩), ?_⟩; go_big_quiet_on) | (go_big_quiet_want; go_big_quiet_op; refine ⟨_, fun x => (rat_q _ _ ys _ _ _ (by omega) (hf x)).mono (by rintro e w' ⟨rfl, n1, rfl⟩; exact ⟨rfl, hcl _ ((hf x).drewN _)⟩), ?_⟩; go_big_quiet_on) | go_big_quiet_step (fail))); refine wpQuiet_nil ?_; clear hcl hf hne hs f X; intro w hs)
    | (apply ldold hs.b2; exact rfl; exact rfl; exact rfl; exact hck.out; kernel_rfl)
    | (refine wrap hs ?_; clear hs; intro w hs)
    | (refine wrapn hs ?_; clear hs; intro w hs)
    | (refine wrapd hs ?_; clear hs; intro w hs))
            go_loopw [13, 112] (fun _ i wr => ∃ (j : Nat) (zs : List Int), j ≤ ys.length ∧ zs.length = ys.length ∧ i = .int .i64 j ∧ sat W (own 3 1 (.slice a1 ys.length c1) ys.length (zs.map (Value.int .i64)) :: cel r 38 [.slice a2 ys.length c2, .bool ov] :: own 3 1 (.slice a2 ys.length c2) ys.length (ys.map (Value.int .i64)) :: plist b (toPL ys ov) :: old w0 :: H) wr) (fun _ i _ => ys.length - (intOf i).toNat)
            case atStart => exact ⟨0, ys, Nat.zero_le _, rfl, rfl, hs.b2⟩
            case round =>
              clear hs
              obtain ⟨j, zs, hj, hz, rfl, hs⟩ := hrel
              by_cases hlt2 : j < ys.length
              · obtain ⟨g2, c3, e⟩ := hs.own_some (by omega)
                cases e
                have hjz : j < zs.length := by omega
                go_wp2_with (first
    | (apply ldo hs.b0; exact rfl; exact rfl; exact rfl; (first | exact rfl | exact ints_get (by omega)); kernel_rfl)
    | (apply sto hs.b0; exact rfl; exact rfl; exact rfl; exact rfl; exact rfl; (first | exact rfl | exact ints_some (by omega)); kernel_rfl; exact rfl; clear hs; intro w hs)
    | (refine wrap hs ?_; clear hs; intro w hs)
    | (refine wrapn hs ?_; clear hs; intro w hs)
    | (refine wrapd hs ?_; clear hs; intro w hs))
                go_roundw
                case rel => exact ⟨j + 1, zs.set j _, by omega, by simpa using hz, by go_num, by rw [List.map_set]; exact hs⟩
                case measure => simp [intOf]; omega
              · go_wp2_with (first
    | (refine wrap hs ?_; clear hs; intro w hs)
    | (refine wrapn hs ?_; clear hs; intro w hs)
    | (refine wrapd hs ?_; clear hs; intro w hs))
                go_roundw
                case rel => exact ⟨k + 1, _, _, ys, ov, by omega, hys, rfl, rfl, by go_num, (rl_close hs.drop).swap⟩
                case measure => simp [intOf]; omega
    · clear HC
      have hs := hs.swap
      obtain ⟨v, hs⟩ := rl_open hs
      obtain ⟨a2, c2, rfl⟩ := hs.swap.own_slice
      go_wp2_with (first
    | (refine wrap hs ?_; clear hs; intro w hs)
    | (refine wrapn hs ?_; clear hs; intro w hs)
    | (refine wrapd hs ?_; clear hs; intro w hs))
      (go_region_held3 (fun w' => w'.cell? ⟨r, 0, none⟩ = some (.slice a2 xs.length c2)) (first | exact (hs.drew).cel_cell rfl | exact hs.cel_cell rfl | exact hs.b1.cel_cell rfl | exact hs.b2.cel_cell rfl | exact hs.b3.cel_cell rfl | exact (hs.drewN _).b2.cel_cell rfl) (first | (go_at_call 11; refine (values_t _ _ _ hs.drew.b2).mono ?_; clear hs; rintro e w ⟨a1, c1, rfl, hs⟩) | (go_at_call 19; refine (same_self _ _ xs _ (hs.b0.own_reads).1 hs.b3.own_reads.1).mono ?_; rintro e w' ⟨rfl, n1, rfl⟩) | (go_at_call 7; refine (known_any (hs.drewN _)).mono ?_; clear hs; rintro e w ⟨rfl, hs⟩)))

      all_goals (go_wp2_with (first
    | (refine wrap hs ?_; clear hs; intro w hs)
    | (refine wrapn hs ?_; clear hs; intro w hs)
    | (refine wrapd hs ?_; clear hs; intro w hs)); go_ret; exact ⟨rfl, by (first | exact hs.dropN 0 | exact hs.dropN 1 | exact hs.dropN 2 | exact hs.dropN 3 | exact hs.dropN 4 | exact hs.dropN 5 | exact hs.dropN 6 | exact hs.dropN 7 | exact hs.dropN 8 | exact hs.dropN 9 | exact hs.dropN 10 | exact hs.dropN 11 | exact hs.dropN 12 | exact hs.dropN 13 | exact hs.dropN 14 | exact hs.dropN 15)⟩)

theorem plays_top (a : Option Addr) (len cap : Nat) (zs : List Int) (m d : Int) (w : World) (ha : IsRow .i64 w a len cap zs) :
    Calls Try.prog 5 #[.slice a len cap, .int .i64 m, .int .i64 d] w fun e w' => e = .returned (.bool true) ∧ Below w.heap.size w w' := by
  obtain ⟨xs, rfl, hx⟩ := ha.args
  by_cases h : 300 < xs.length
  · exact (plays_guard a _ cap m d h hx.len (sat.start w)).mono fun e w' ⟨he, hs⟩ => ⟨he, hs.below⟩
  · exact (plays_walk a xs cap m d (by omega) w hx (sat.start w)).mono fun e w' ⟨he, hs⟩ => ⟨he, hs.below⟩
end Go.Proofs.Ytappjlebkjmooaa
