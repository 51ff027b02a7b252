import Derived.Test.YtkmbgnonpnhfcaaS4
namespace Go.Proofs.Ytkmbgnonpnhfcaa
open Go.RowKit Go.Mem Go.Sgr
variable {W w : World} {H : List HProp}
def lenOf : Value → Nat | .slice _ n _ => n | _ => 0
theorem follows_none {l : List Int} (h : follows l = none) (a : Option Addr) (n cp : Nat) (w : World) (hr : Reads w (.slice a n cp) (ints l)) (hn : n ≤ cp) (hcp : cp ≤ maxLen) : Calls Try.prog 16 #[.slice a n cp] w fun e w' => e = .returned (.tuple #[.int .u32 0, .int .i64 (-1)]) ∧ w' = w := by
  have := follows16 l a n cp w hr hn hcp
  rwa [show fc l = 0 from by unfold fc; rw [h], show fk l = -1 from by unfold fk; rw [h]] at this
theorem follows_some {l : List Int} {c : Int} {k : Nat} (h : follows l = some (c, k)) (a : Option Addr) (n cp : Nat) (w : World) (hr : Reads w (.slice a n cp) (ints l)) (hn : n ≤ cp) (hcp : cp ≤ maxLen) : Calls Try.prog 16 #[.slice a n cp] w fun e w' => e = .returned (.tuple #[.int .u32 c, .int .i64 k]) ∧ w' = w := by
  have := follows16 l a n cp w hr hn hcp
  rwa [show fc l = c from by unfold fc; rw [h], show fk l = k from by unfold fk; rw [h]] at this
/-- A slice that stands in every world that meets H. -/
def SL (W : World) (H : List HProp) (a : Option Addr) (n c : Nat) (l : List Int) : Prop := n = l.length ∧ n ≤ c ∧ c ≤ maxLen ∧ ∀ w', sat W H w' → Reads w' (.slice a n c) (ints l)
theorem SL.cons {a : Option Addr} {n c : Nat} {x : Int} {l : List Int} (h : SL W H a n c (x :: l)) (hs : sat W H w) : ∃ b off, a = some ⟨b, off, none⟩ ∧ (∀ w', sat W H w' → w'.cell? ⟨b, off, none⟩ = some (.int .i64 x)) := by
  obtain ⟨_, _, _, hr⟩ := h
  obtain ⟨_, _, h1⟩ := reads_i64 (hr w hs)
  obtain ⟨b, off, rfl, _⟩ := h1 (by simp)
  refine ⟨b, off, rfl, fun w' hw => ?_⟩
  obtain ⟨_, _, h2⟩ := reads_i64 (hr w' hw)
  obtain ⟨b2, off2, e, h3⟩ := h2 (by simp)
  cases e
  exact h3 0 x rfl
theorem SL.drop {b off : Nat} {n c k : Nat} {l : List Int} (h : SL W H (some ⟨b, off, none⟩) n c l) (hk : k ≤ n) : SL W H (some ⟨b, off + k, none⟩) (n - k) (c - k) (l.drop k) := by
  obtain ⟨rfl, h1, h2, hr⟩ := h
  exact ⟨by simp, by omega, by omega, fun w' hw => reads_drop (hr w' hw) hk⟩
theorem SL.empty {a : Option Addr} {l : List Int} (h : l = []) : SL W H a 0 0 l := by
  subst h
  exact ⟨rfl, Nat.le_refl _, Nat.zero_le _, fun _ _ => ⟨Nat.zero_le _, a, 0, rfl, fun h => (h rfl).elim⟩⟩
theorem setC38 (a : At) {c : Int} (h : 0 < c) : setC a 38 c = ⟨c, a.bg, a.fl⟩ := by unfold setC; rw [if_neg (by omega), if_pos rfl]
theorem setC48 (a : At) {c : Int} (h : 0 < c) : setC a 48 c = ⟨a.fg, c, a.fl⟩ := by unfold setC; rw [if_neg (by omega), if_neg (by decide)]
attribute [local irreducible] World.setCell World.alloc World.drew World.drewN Calls sat cel own blk old wpQuiet flj no go plain follows SL wf
set_option maxHeartbeats 4000000 in
theorem apply8 (a : At) (h : wf a) (l : List Int) (ad : Option Addr) (n cp : Nat) (hl : SL W H ad n cp l) (hs : sat W H w) : Calls Try.prog 8 #[atV a, .slice ad n cp] w fun e w' => e = .returned (atV (apply a l)) ∧ sat W H w' := by
  have hnl : n = l.length ∧ n ≤ cp ∧ cp ≤ maxLen := by unfold SL at hl; exact ⟨hl.1, hl.2.1, hl.2.2.1⟩
  obtain ⟨e, hn2, hn3⟩ := hnl
  unfold maxLen at hn3
  by_cases h0 : n = 0
  · have HP : Hid (apply a l = zero) := Lib.hid (by unfold apply; rw [if_pos (List.length_eq_zero_iff.1 (by omega))])
    subst h0
    clear e
    go_enter Try.func8, Try.ntmps8
    go_wp2_with (first | ((with_reducible refine isl ?_); first | ((with_reducible apply lds 3 hs.b0); exact rfl; exact rfl; exact rfl; kernel_rfl; exact rfl; exact rfl) | ((with_reducible apply lds 3 hs.b1); exact rfl; exact rfl; exact rfl; kernel_rfl; exact rfl; exact rfl) | ((with_reducible apply sts hs.b0); exact rfl; exact rfl; exact rfl; exact rfl; (show rowTy _ _ 3 = true; kernel_rfl); exact Nat.le_refl _; exact rfl; exact rfl; clear hs; intro w hs) | ((with_reducible apply sts hs.b1); exact rfl; exact rfl; exact rfl; exact rfl; (show rowTy _ _ 3 = true; kernel_rfl); exact Nat.le_refl _; exact rfl; exact rfl; clear hs; intro w hs) | ((with_reducible refine wrap hs ?_); clear hs; intro w hs) | ((with_reducible refine wrapn hs ?_); clear hs; intro w hs) | ((with_reducible refine wrapd hs ?_); clear hs; intro w hs)))
    refine ret_cell hs rfl rfl rfl (by kernel_rfl) ?_
    exact ⟨by rw [HP.out]; rfl, hs.drop.drop⟩
  · have HP : Hid (apply a l = go a l) := Lib.hid (by unfold apply; rw [if_neg (by intro e2; rw [e2] at e; exact h0 e)]; unfold go; rfl)
    have f0 : ((n : Int) == 0) = false := by simpa using h0
    clear e
    go_enter Try.func8, Try.ntmps8
    go_wp2_with (first | ((with_reducible refine isl ?_); first | ((with_reducible refine wrap hs ?_); clear hs; (first | (have _t := z2; clear _t; generalize w.heap.size = z4) | generalize w.heap.size = z2); intro w hs) | ((with_reducible refine wrap hs ?_); clear hs; intro w hs) | ((with_reducible refine wrapn hs ?_); clear hs; intro w hs) | ((with_reducible refine wrapd hs ?_); clear hs; intro w hs)))
    go_loopw [1, 5, 6, 7] (fun sv _ _ _ wr => ∃ (l' : List Int) (a' : At) (ad' : Option Addr) (n' c' : Nat), sv = .slice ad' n' c' ∧ SL W H ad' n' c' l' ∧ Hid (go a l = go a' l') ∧ wf a' ∧ sat W (cel z2 25 (atL a') :: cel z4 25 (atL zero) :: H) wr) (fun sv _ _ _ _ => lenOf sv)
    case atStart => exact ⟨l, a, _, _, _, rfl, hl, Lib.hid rfl, h, hs.b1⟩
    case round =>
      clear hs hl hn2 hn3 h0 f0 h
      obtain ⟨l', a', ad', n', c', rfl, hl, HG, hw, hs⟩ := hrel
      have hnl : n' = l'.length ∧ n' ≤ c' ∧ c' ≤ maxLen := by unfold SL at hl; exact ⟨hl.1, hl.2.1, hl.2.2.1⟩
      obtain ⟨e, hn2, hn3⟩ := hnl
      unfold maxLen at hn3
      rcases l' with _ | ⟨x, t⟩
      · obtain rfl : n' = 0 := e
        have HP2 : Hid (apply a l = a') := Lib.hid (by rw [HP.out, HG.out, go_nil])
        go_wp2_with (first | ((with_reducible refine isl ?_); first | ((with_reducible apply lds 3 hs.b0); exact rfl; exact rfl; exact rfl; kernel_rfl; exact rfl; exact rfl) | ((with_reducible apply lds 3 hs.b1); exact rfl; exact rfl; exact rfl; kernel_rfl; exact rfl; exact rfl) | ((with_reducible apply sts hs.b0); exact rfl; exact rfl; exact rfl; exact rfl; (show rowTy _ _ 3 = true; kernel_rfl); exact Nat.le_refl _; exact rfl; exact rfl; clear hs; intro w hs) | ((with_reducible apply sts hs.b1); exact rfl; exact rfl; exact rfl; exact rfl; (show rowTy _ _ 3 = true; kernel_rfl); exact Nat.le_refl _; exact rfl; exact rfl; clear hs; intro w hs) | ((with_reducible refine wrap hs ?_); clear hs; intro w hs) | ((with_reducible refine wrapn hs ?_); clear hs; intro w hs) | ((with_reducible refine wrapd hs ?_); clear hs; intro w hs)))
        refine ret_cell hs rfl rfl rfl (by kernel_rfl) ?_
        exact ⟨by rw [HP2.out]; rfl, hs.drop.drop⟩
      · obtain ⟨b, off, rfl, HC⟩ := hl.cons hs.drop.drop
        rw [List.length_cons] at e
        have hd := hl.drop (k := 1) (by omega)
        simp only [List.drop_succ_cons, List.drop_zero] at hd
        have e1 : n' - 1 = t.length := by omega
        have E1 := Lib.hid e1
        clear e1
        obtain ⟨ad2, c2, hd2, he⟩ : ∃ ad2 c2, SL W H ad2 (n' - 1) c2 t ∧ ((c' = 1 ∧ ad2 = some ⟨b, off, none⟩ ∧ c2 = 0) ∨ (c' ≠ 1 ∧ ad2 = some ⟨b, off + 1, none⟩ ∧ c2 = c' - 1)) := by
          by_cases hc1 : c' = 1
          · refine ⟨some ⟨b, off, none⟩, 0, ?_, .inl ⟨hc1, rfl, rfl⟩⟩
            have : n' - 1 = 0 := by omega
            rw [this]
            exact SL.empty (List.length_eq_zero_iff.1 (by omega))
          · exact ⟨some ⟨b, off + 1, none⟩, c' - 1, hd, .inr ⟨hc1, rfl, rfl⟩⟩
        have hn1 : 0 < n' := by omega
        clear hd e
        by_cases hx : x = 38 ∨ x = 48
        · cases hf : follows t with
          | none =>
            have HP2 : Hid (apply a l = a') := Lib.hid (by rw [HP.out, HG.out, go_none a' x t hx hf])
            have HN := Lib.hid (fun (w : World) (hs : sat W H w) => follows_none hf ad2 (n' - 1) c2 w (by unfold SL at hd2; exact hd2.2.2.2 w hs) (by unfold SL at hd2; exact hd2.2.1) (by unfold SL at hd2; exact hd2.2.2.1))
            clear hf
            rcases he with ⟨hc1, rfl, rfl⟩ | ⟨hc1, rfl, rfl⟩
            all_goals
              rcases hx with rfl | rfl
              all_goals
                go_wp2_with (first | (apply ldc; exact rfl; exact rfl; exact rfl; exact HC _ hs.drop.drop; kernel_rfl) | (go_at_call 16; refine (HN.out _ hs.drop.drop).mono ?_; rintro e w' ⟨rfl, rfl⟩) | ((with_reducible refine isl ?_); first | ((with_reducible apply lds 3 hs.b0); exact rfl; exact rfl; exact rfl; kernel_rfl; exact rfl; exact rfl) | ((with_reducible apply lds 3 hs.b1); exact rfl; exact rfl; exact rfl; kernel_rfl; exact rfl; exact rfl) | ((with_reducible apply sts hs.b0); exact rfl; exact rfl; exact rfl; exact rfl; (show rowTy _ _ 3 = true; kernel_rfl); exact Nat.le_refl _; exact rfl; exact rfl; clear hs; intro w hs) | ((with_reducible apply sts hs.b1); exact rfl; exact rfl; exact rfl; exact rfl; (show rowTy _ _ 3 = true; kernel_rfl); exact Nat.le_refl _; exact rfl; exact rfl; clear hs; intro w hs) | ((with_reducible refine wrap hs ?_); clear hs; intro w hs) | ((with_reducible refine wrapn hs ?_); clear hs; intro w hs) | ((with_reducible refine wrapd hs ?_); clear hs; intro w hs)))
                refine ret_cell hs rfl rfl rfl (by kernel_rfl) ?_
                exact ⟨by rw [HP2.out]; rfl, hs.drop.drop⟩
          | some p =>
            obtain ⟨c, k⟩ := p
            obtain ⟨k1, k2⟩ := follows_len hf
            obtain ⟨cc0, cc1, _⟩ := follows_col hf
            have HG2 := Lib.hid (HG.out.trans (go_some a' x c k t hx hf))
            have HW := Lib.hid (setC_wf hw x c cc0 cc1)
            have HN := Lib.hid (fun (w : World) (hs : sat W H w) => follows_some hf ad2 (n' - 1) c2 w (by unfold SL at hd2; exact hd2.2.2.2 w hs) (by unfold SL at hd2; exact hd2.2.1) (by unfold SL at hd2; exact hd2.2.2.1))
            clear hf
            have kn : k ≤ n' - 1 := by rw [E1.out]; exact k1
            clear k1
            obtain ⟨hc0, rfl, rfl⟩ : c' ≠ 1 ∧ ad2 = some ⟨b, off + 1, none⟩ ∧ c2 = c' - 1 := by
              rcases he with ⟨hc1, _⟩ | he
              · omega
              · exact he
            have hd3 := hd2.drop (k := k) kn
            obtain ⟨ad3, c3, hd4, he⟩ : ∃ ad3 c3, SL W H ad3 (n' - 1 - k) c3 (t.drop k) ∧ ((k = c' - 1 ∧ ad3 = some ⟨b, off + 1, none⟩ ∧ c3 = 0) ∨ (k ≠ c' - 1 ∧ ad3 = some ⟨b, off + 1 + k, none⟩ ∧ c3 = c' - 1 - k)) := by
              by_cases hc1 : k = c' - 1
              · refine ⟨some ⟨b, off + 1, none⟩, 0, ?_, .inl ⟨hc1, rfl, rfl⟩⟩
                have e0 : n' - 1 - k = 0 := by omega
                rw [e0]
                exact SL.empty (List.length_eq_zero_iff.1 (by rw [List.length_drop, ← E1.out]; exact e0))
              · exact ⟨some ⟨b, off + 1 + k, none⟩, c' - 1 - k, hd3, .inr ⟨hc1, rfl, rfl⟩⟩
            clear hd3
            by_cases hz : c = 0
            · subst hz
              have e0 : setC a' x 0 = a' := by unfold setC; rw [if_pos rfl]
              rw [e0] at HW HG2
              clear e0
              rcases he with ⟨rfl, rfl, rfl⟩ | ⟨hc1, rfl, rfl⟩
              all_goals
                rcases hx with rfl | rfl
                all_goals
                  go_wp2_with (first | (apply ldc; exact rfl; exact rfl; exact rfl; exact HC _ hs.drop.drop; kernel_rfl) | (go_at_call 16; refine (HN.out _ hs.drop.drop).mono ?_; rintro e w' ⟨rfl, rfl⟩) | ((with_reducible refine isl ?_); first | ((with_reducible apply lds 3 hs.b0); exact rfl; exact rfl; exact rfl; kernel_rfl; exact rfl; exact rfl) | ((with_reducible apply lds 3 hs.b1); exact rfl; exact rfl; exact rfl; kernel_rfl; exact rfl; exact rfl) | ((with_reducible apply sts hs.b0); exact rfl; exact rfl; exact rfl; exact rfl; (show rowTy _ _ 3 = true; kernel_rfl); exact Nat.le_refl _; exact rfl; exact rfl; clear hs; intro w hs) | ((with_reducible apply sts hs.b1); exact rfl; exact rfl; exact rfl; exact rfl; (show rowTy _ _ 3 = true; kernel_rfl); exact Nat.le_refl _; exact rfl; exact rfl; clear hs; intro w hs) | ((with_reducible apply ld hs.b0); exact rfl; exact rfl; exact rfl; exact rfl; kernel_rfl) | ((with_reducible apply st hs.b0); exact rfl; exact rfl; exact rfl; exact rfl; exact rfl; exact rfl; kernel_rfl; exact rfl; clear hs; intro w hs) | ((with_reducible apply stc hs.b0); exact rfl; exact rfl; exact rfl; exact rfl; exact rfl; kernel_rfl; exact rfl; clear hs; intro w hs) | ((with_reducible refine wrap hs ?_); clear hs; intro w hs) | ((with_reducible refine wrapn hs ?_); clear hs; intro w hs) | ((with_reducible refine wrapd hs ?_); clear hs; intro w hs)))
                  go_roundw
                  case rel => exact ⟨_, a', _, _, _, rfl, hd4, HG2, HW.out, hs⟩
                  case measure => simp [lenOf]; omega
            · have hz2 : 0 < c := by omega
              clear hz
              rcases he with ⟨rfl, rfl, rfl⟩ | ⟨hc1, rfl, rfl⟩
              all_goals
                rcases hx with rfl | rfl
                all_goals
                  go_wp2_with (first | (apply ldc; exact rfl; exact rfl; exact rfl; exact HC _ hs.drop.drop; kernel_rfl) | (go_at_call 16; refine (HN.out _ hs.drop.drop).mono ?_; rintro e w' ⟨rfl, rfl⟩) | ((with_reducible refine isl ?_); first | ((with_reducible apply lds 3 hs.b0); exact rfl; exact rfl; exact rfl; kernel_rfl; exact rfl; exact rfl) | ((with_reducible apply lds 3 hs.b1); exact rfl; exact rfl; exact rfl; kernel_rfl; exact rfl; exact rfl) | ((with_reducible apply sts hs.b0); exact rfl; exact rfl; exact rfl; exact rfl; (show rowTy _ _ 3 = true; kernel_rfl); exact Nat.le_refl _; exact rfl; exact rfl; clear hs; intro w hs) | ((with_reducible apply sts hs.b1); exact rfl; exact rfl; exact rfl; exact rfl; (show rowTy _ _ 3 = true; kernel_rfl); exact Nat.le_refl _; exact rfl; exact rfl; clear hs; intro w hs) | ((with_reducible apply ld hs.b0); exact rfl; exact rfl; exact rfl; exact rfl; kernel_rfl) | ((with_reducible apply st hs.b0); exact rfl; exact rfl; exact rfl; exact rfl; exact rfl; exact rfl; kernel_rfl; exact rfl; clear hs; intro w hs) | ((with_reducible apply stc hs.b0); exact rfl; exact rfl; exact rfl; exact rfl; exact rfl; kernel_rfl; exact rfl; clear hs; intro w hs) | ((with_reducible refine wrap hs ?_); clear hs; intro w hs) | ((with_reducible refine wrapn hs ?_); clear hs; intro w hs) | ((with_reducible refine wrapd hs ?_); clear hs; intro w hs)))
                  go_roundw
                  case rel => exact ⟨_, _, _, _, _, rfl, hd4, HG2, HW.out, by first | (rw [setC38 a' hz2]; exact hs) | (rw [setC48 a' hz2]; exact hs)⟩
                  case measure => simp [lenOf]; omega
        · have HG2 := Lib.hid (HG.out.trans (go_plain a' x t hx))
          have hw2 := Lib.hid (plain_wf hw x)
          have g1 : (x != 38) = true := by simp; exact fun e => hx (.inl e)
          have g2 : (x != 48) = true := by simp; exact fun e => hx (.inr e)
          rcases he with ⟨hc1, rfl, rfl⟩ | ⟨hc1, rfl, rfl⟩
          all_goals
            go_wp2_with (first | (apply ldc; exact rfl; exact rfl; exact rfl; exact HC _ hs.drop.drop; kernel_rfl) | (go_at_call 15; refine (plain15 a' hw x hs).mono ?_; clear hs; rintro e w ⟨rfl, hs⟩) | ((with_reducible refine isl ?_); first | ((with_reducible apply lds 3 hs.b0); exact rfl; exact rfl; exact rfl; kernel_rfl; exact rfl; exact rfl) | ((with_reducible apply lds 3 hs.b1); exact rfl; exact rfl; exact rfl; kernel_rfl; exact rfl; exact rfl) | ((with_reducible apply sts hs.b0); exact rfl; exact rfl; exact rfl; exact rfl; (show rowTy _ _ 3 = true; kernel_rfl); exact Nat.le_refl _; exact rfl; exact rfl; clear hs; intro w hs) | ((with_reducible apply sts hs.b1); exact rfl; exact rfl; exact rfl; exact rfl; (show rowTy _ _ 3 = true; kernel_rfl); exact Nat.le_refl _; exact rfl; exact rfl; clear hs; intro w hs) | ((with_reducible refine wrap hs ?_); clear hs; intro w hs) | ((with_reducible refine wrapn hs ?_); clear hs; intro w hs) | ((with_reducible refine wrapd hs ?_); clear hs; intro w hs)))
            go_roundw
            case rel => exact ⟨t, plain a' x, _, _, _, rfl, hd2, HG2, hw2.out, hs⟩
            case measure => simp [lenOf]; omega
end Go.Proofs.Ytkmbgnonpnhfcaa
