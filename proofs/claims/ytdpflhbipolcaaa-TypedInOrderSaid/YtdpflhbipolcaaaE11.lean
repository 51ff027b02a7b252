import Derived.Test.YtdpflhbipolcaaaE10
namespace Go.Proofs.Ytdpflhbipolcaaa
open Go.RowKit Go.Mem Go.Typed
variable {W w : World} {H : List HProp}
abbrev till (z : Int) (r : Int) : One := ⟨r, z⟩
theorem sel_till {m z : Int} (l : List Int) (h : m < z) : sel m (l.map (till z)) = l := by
  unfold sel
  rw [List.filter_map, List.map_map, List.filter_eq_self.2 (fun r _ => by simp only [Function.comp, decide_eq_true_eq]; exact h)]
  simp [Function.comp_def]
theorem sel_none {m z : Int} (l : List Int) (h : z ≤ m) : sel m (l.map (till z)) = [] := by
  unfold sel
  rw [List.filter_map, List.filter_eq_nil_iff.2 (fun r _ => by simp only [Function.comp, decide_eq_true_eq]; omega)]
  rfl
theorem exp_till {t z : Int} (l : List Int) (h : t < z) : expire t (l.map (till z)) = l.map (till z) := by
  cases l with
  | nil => rfl
  | cons r l => simp [expire, show ¬ z ≤ t by omega]
theorem exp_none {t z : Int} (h : z ≤ t) : ∀ l : List Int, expire t (l.map (till z)) = []
  | [] => rfl
  | r :: l => by simp [expire, h]; exact exp_none h l
theorem push_till {z : Int} (l : List Int) (r : Int) (h : l.length < 64) : push (l.map (till z)) ⟨r, z⟩ = (l ++ [r]).map (till z) := by
  unfold push
  rw [if_neg (by simp; omega)]
  simp
theorem take_nil (r t : Int) : take [] r t = ([], false) := rfl
theorem take_no {t z odd r : Int} (l : List Int) (h : t < z) (hr : odd ≠ r) : take ((r :: l).map (till z)) odd t = ((r :: l).map (till z), false) := by
  unfold take
  rw [exp_till _ h]
  simp [Ne.symm hr]
theorem take_yes {t z r : Int} (l : List Int) (h : t < z) : take ((r :: l).map (till z)) r t = (l.map (till z), true) := by
  unfold take
  rw [exp_till _ h]
  simp
theorem take_late {t z : Int} (r : Int) (l : List Int) (h : z ≤ t) : take (l.map (till z)) r t = ([], false) := by
  unfold take
  rw [exp_none h]
theorem TY.weak {b : Nat} {q : List One} {life now : Int} {A : HProp} (h : TY W b q life now (A :: H) w) : TY W b q life now H w := by
  obtain ⟨g, f, n, h1, h2, h3, hs⟩ := h
  exact ⟨g, f, n, h1, h2, h3, hs.swap.drop⟩
attribute [local irreducible] World.setCell World.setCells World.alloc World.drew World.drewN Calls sat cel own blk old wpQuiet wpList tyL ringC TY
variable {g : Nat → One} {f n : Nat} {life now : Int} {b z : Nat}
theorem order_guard (life t odd : Int) (a : Option Addr) (n c : Nat) (h : life < 1 ∨ 1000 < life ∨ t < 0 ∨ 549755813888 < t ∨ 64 < n) (hc : n ≤ maxLen) (hs : sat W H w) : Calls Try.prog 3 #[.int .i64 life, .int .i64 t, .slice a n c, .int .i32 odd] w fun e w' => e = .returned (.bool true) ∧ sat W H w' := by
  unfold maxLen at hc
  by_cases h0 : life < 1
  · clear h
    go_enter Try.func3, Try.ntmps3
    go_wp2_with (go_at_call 6; refine (known6 hs).mono ?_; clear hs; rintro e w ⟨rfl, hs⟩)
    go_ret
    exact ⟨rfl, hs⟩
  · skip
    by_cases h1 : 1000 < life
    · clear h
      go_enter Try.func3, Try.ntmps3
      go_wp2_with (go_at_call 6; refine (known6 hs).mono ?_; clear hs; rintro e w ⟨rfl, hs⟩)
      go_ret
      exact ⟨rfl, hs⟩
    · skip
      by_cases h2 : t < 0
      · clear h
        go_enter Try.func3, Try.ntmps3
        go_wp2_with (go_at_call 6; refine (known6 hs).mono ?_; clear hs; rintro e w ⟨rfl, hs⟩)
        go_ret
        exact ⟨rfl, hs⟩
      · skip
        by_cases h3 : 549755813888 < t
        · clear h
          go_enter Try.func3, Try.ntmps3
          go_wp2_with (go_at_call 6; refine (known6 hs).mono ?_; clear hs; rintro e w ⟨rfl, hs⟩)
          go_ret
          exact ⟨rfl, hs⟩
        · skip
          have h4 : 64 < n := by omega
          clear h
          go_enter Try.func3, Try.ntmps3
          go_wp2_with (go_at_call 6; refine (known6 hs).mono ?_; clear hs; rintro e w ⟨rfl, hs⟩)
          go_ret
          exact ⟨rfl, hs⟩
set_option maxRecDepth 8000 in
set_option maxHeartbeats 4000000 in
theorem order_walk (l : List Int) (w0 : World) (life t odd : Int) (a : Option Addr) (n c : Nat) (hl : SR 1 W (old w0 :: H) a n c (l.map fun x => [.int .i32 x])) (hg : n ≤ 64) (hl1 : 1 ≤ life) (hl2 : life ≤ 1000) (h0 : 0 ≤ t) (h1 : t ≤ 549755813888) (hs : sat W (old w0 :: H) w) :
    Calls Try.prog 3 #[.int .i64 life, .int .i64 t, .slice a n c, .int .i32 odd] w fun e w' => e = .returned (.bool true) ∧ sat W (old w0 :: H) w' := by
  have HL := Lib.hid hl
  have HN := Lib.hid (show n = l.length by have := hl.1; rwa [List.length_map] at this)
  clear hl
  have hlp : 0 < life := by omega
  obtain ⟨T, hT⟩ : ∃ T, T = t + life - 1 := ⟨_, rfl⟩
  have HTT := Lib.hid hT
  have hT1 : t ≤ T := by omega
  have hT2 : T ≤ 549755814888 := by omega
  have K1 := Lib.hid (show tick 0 t = t by unfold tick; omega)
  have K2 := Lib.hid (show tick t t = t by unfold tick; omega)
  have K3 := Lib.hid (show tick T T = T by unfold tick; omega)
  have K4 := Lib.hid (take_nil odd t)
  have K5 := Lib.hid (take_nil odd T)
  have K6 := Lib.hid (show tick t (t + life - 1) = T by rw [← hT]; unfold tick; omega)
  have K7 := Lib.hid (show tick T (t + life - 1) = T by rw [← hT]; unfold tick; omega)
  clear hT
  go_enter Try.func3, Try.ntmps3
  go_upto_block 0 with (first | (go_at_call 7; refine (new7 life hl1 hl2 hs).mono ?_; clear hs; rintro e w ⟨b, rfl, hs⟩) | (go_at_call 8; refine (take_t odd t hlp K1.out K4.out hs).mono ?_; clear hs; rintro e w ⟨rfl, hs⟩))
  go_cut [12, 56] from 57 to 64 (fun _ _ wx => TY W b (l.map (till (t + life))) life t (old w0 :: H) wx)
  case first =>
    go_wp2_with fail
    go_loopw [12, 56] (fun _ i wr => ∃ j : Nat, j ≤ n ∧ i = .int .i64 (j : Int) ∧ TY W b ((l.take j).map (till (t + life))) life t (old w0 :: H) wr) (fun _ i _ => ((n : Int) - intOf i).toNat)
    case atStart => exact ⟨0, Nat.zero_le _, rfl, hs⟩
    case round =>
      clear hs
      obtain ⟨j, hj, rfl, hs⟩ := hrel
      by_cases hjn : j < n
      · obtain ⟨x, hx, b1, o1, rfl, hc⟩ := HL.out.getb hs.sat hjn
        have hc := hc _ hs.sat
        have HP := Lib.hid (show push ((l.take j).map (till (t + life))) ⟨x, t + life⟩ = (l.take (j + 1)).map (till (t + life)) by rw [push_till _ _ (by simp; omega), take_snoc hx])
        clear hx
        go_wp2_with (go_at_call 9; refine (type_t x t hlp hl2 (by omega) (by omega) K2.out HP.out hs).mono ?_; clear hs hc; rintro e w ⟨rfl, hs⟩)
        go_roundw
        case rel => exact ⟨j + 1, by omega, by go_num, hs⟩
        case measure => simp [intOf]; omega
      · have hjn : j = n := by omega
        subst hjn
        go_wp2_with fail
        go_meet
        case rel =>
          rw [List.take_of_length_le (by rw [HN.out]; exact Nat.le_refl _)] at hs
          exact hs
  case rest =>
    clear hs
    have hs := hcut
    clear hcut
    go_upto_block 2 with fail
    go_cut [13, 14, 67] from 68 to 105 (fun _ _ _ wx => ∃ ln, (ln = t ∨ ln = T) ∧ TY W b ([]) life ln (old w0 :: H) wx)
    case first =>
      go_wp2_with fail
      go_loopw [13, 14, 67] (fun _ _ i wr => ∃ (j : Nat) (ln : Int), j ≤ n ∧ i = .int .i64 (j : Int) ∧ Hid (ln = t ∨ ln = T) ∧ TY W b ((l.drop j).map (till (t + life))) life ln (old w0 :: H) wr) (fun _ _ i _ => ((n : Int) - intOf i).toNat)
      case atStart => exact ⟨0, t, Nat.zero_le _, rfl, Lib.hid (.inl rfl), hs⟩
      case round =>
        clear hs
        obtain ⟨j, ln, hj, rfl, HLN, hs⟩ := hrel
        by_cases hjn : j < n
        · obtain ⟨x, hx, b1, o1, rfl, hc⟩ := HL.out.getb hs.sat hjn
          have hc := hc _ hs.sat
          have hd : l.drop j = x :: l.drop (j + 1) := by
            rw [List.getElem?_eq_some_iff] at hx
            obtain ⟨h1, h2⟩ := hx
            rw [← h2]; exact (List.drop_eq_getElem_cons h1)
          rw [hd] at hs
          have K8 := Lib.hid (show tick ln (t + life - 1) = T by have := HLN.out; have := HTT.out; unfold tick; omega)
          have hm : max t ln < t + life := by have := HLN.out; have := HTT.out; omega
          have hm2 : max t T < t + life := by have := HTT.out; omega
          have W1 := Lib.hid (sel_till (z := t + life) (x :: l.drop (j + 1)) hm)
          have W2 := Lib.hid (sel_till (z := t + life) (x :: l.drop (j + 1)) hm2)
          have hTz : T < t + life := by have := HTT.out; omega
          have Y1 := Lib.hid (take_yes (r := x) (l.drop (j + 1)) hTz)
          have hlen : (x :: l.drop (j + 1)).length = n - j := by rw [← hd, List.length_drop, HN.out]
          obtain ⟨q, hq⟩ : ∃ q : Nat, (x :: l.drop (j + 1)).length = q := ⟨_, rfl⟩
          have e1 : (n : Int) - (j : Int) = (q : Int) := by omega
          have HQ := Lib.hid hq
          by_cases ho : odd = x
          · subst ho
            clear hx hlen hq hm hm2 hd
            go_wp2_with (first | (go_at_call 10; refine (waits_t t hlp W1.out hs).mono ?_; clear hs; rintro e w ⟨a5, c5, rfl, hs⟩; replace hs := hs.weak; rw [HQ.out]) | (go_at_call 8; refine (take_t odd (t + life - 1) hlp K8.out Y1.out hs).mono ?_; clear hs; rintro e w ⟨rfl, hs⟩))
            go_roundw
            case rel => exact ⟨j + 1, T, by omega, by go_num, Lib.hid (.inr rfl), hs⟩
            case measure => simp [intOf]; omega
          · have b0 := un_bne ho
            have N1 := Lib.hid (take_no (l.drop (j + 1)) hTz ho)
            clear hx hlen hq hm hm2 hd ho
            go_wp2_with (first | (go_at_call 10; refine (waits_t t hlp W2.out hs).mono ?_; clear hs; rintro e w ⟨a5, c5, rfl, hs⟩; replace hs := hs.weak; rw [HQ.out]) | (go_at_call 8; refine (take_t odd (t + life - 1) hlp K8.out N1.out hs).mono ?_; clear hs; rintro e w ⟨rfl, hs⟩) | (go_at_call 8; refine (take_t x (t + life - 1) hlp K7.out Y1.out hs).mono ?_; clear hs; rintro e w ⟨rfl, hs⟩))
            go_roundw
            case rel => exact ⟨j + 1, T, by omega, by go_num, Lib.hid (.inr rfl), hs⟩
            case measure => simp [intOf]; omega
        · have hjn : j = n := by omega
          subst hjn
          rw [List.drop_eq_nil_of_le (by rw [HN.out]; exact Nat.le_refl _)] at hs
          go_wp2_with fail
          go_meet
          case rel => exact ⟨ln, HLN.out, hs⟩
    case rest =>
      clear hs
      obtain ⟨ln, hln, hs⟩ := hcut
      have K8 := Lib.hid (show tick ln (t + life - 1) = T by have := HTT.out; unfold tick; omega)
      clear hln
      go_upto_block 4 with (first | (go_at_call 8; refine (take_t odd (t + life - 1) hlp K8.out K5.out hs).mono ?_; clear hs; rintro e w ⟨rfl, hs⟩))
      go_cut [16, 115] from 116 to 126 (fun _ _ wx => TY W b (l.map (till (T + life))) life T (old w0 :: H) wx)
      case first =>
        go_wp2_with fail
        go_loopw [16, 115] (fun _ i wr => ∃ j : Nat, j ≤ n ∧ i = .int .i64 (j : Int) ∧ TY W b ((l.take j).map (till (T + life))) life T (old w0 :: H) wr) (fun _ i _ => ((n : Int) - intOf i).toNat)
        case atStart => exact ⟨0, Nat.zero_le _, rfl, hs⟩
        case round =>
          clear hs
          obtain ⟨j, hj, rfl, hs⟩ := hrel
          by_cases hjn : j < n
          · obtain ⟨x, hx, b1, o1, rfl, hc⟩ := HL.out.getb hs.sat hjn
            have hc := hc _ hs.sat
            have HP := Lib.hid (show push ((l.take j).map (till (T + life))) ⟨x, T + life⟩ = (l.take (j + 1)).map (till (T + life)) by rw [push_till _ _ (by simp; omega), take_snoc hx])
            clear hx
            go_wp2_with (go_at_call 9; refine (type_t x (t + life - 1) hlp hl2 (by omega) (by omega) K7.out HP.out hs).mono ?_; clear hs hc; rintro e w ⟨rfl, hs⟩)
            go_roundw
            case rel => exact ⟨j + 1, by omega, by go_num, hs⟩
            case measure => simp [intOf]; omega
          · have hjn : j = n := by omega
            subst hjn
            go_wp2_with fail
            go_meet
            case rel =>
              rw [List.take_of_length_le (by rw [HN.out]; exact Nat.le_refl _)] at hs
              exact hs
      case rest =>
        clear hs
        have hs := hcut
        clear hcut
        have V1 := Lib.hid (sel_till (z := T + life) l (show max (t + 2 * life - 2) T < T + life by have := HTT.out; omega))
        have V2 := Lib.hid (sel_none (z := T + life) l (show T + life ≤ max (t + 2 * life - 1) T by have := HTT.out; omega))
        have V3 := Lib.hid (take_late odd l (show T + life ≤ t + 2 * life - 1 by have := HTT.out; omega))
        have V4 := Lib.hid (show tick T (t + 2 * life - 1) = t + 2 * life - 1 by have := HTT.out; unfold tick; omega)
        go_wp2_with (first | (go_at_call 10; refine (waits_t (t + 2 * life - 2) hlp V1.out hs).mono ?_; clear hs; rintro e w ⟨a5, c5, rfl, hs⟩; replace hs := hs.weak; rw [← HN.out]) | (go_at_call 10; refine (waits_t (t + 2 * life - 1) hlp V2.out hs).mono ?_; clear hs; rintro e w ⟨a6, c6, rfl, hs⟩; replace hs := hs.weak) | (go_at_call 8; refine (take_t odd (t + 2 * life - 1) hlp V4.out V3.out hs).mono ?_; clear hs; rintro e w ⟨rfl, hs⟩) | (go_at_call 6; refine (known6 hs.sat).mono ?_; clear hs; rintro e w ⟨rfl, hs⟩))
        go_ret
        exact ⟨rfl, hs⟩
end Go.Proofs.Ytdpflhbipolcaaa
