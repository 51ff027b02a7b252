import Derived.Test.YtkmbgnonpnhfcaaS5
namespace Go.Proofs.Ytkmbgnonpnhfcaa
open Go.RowKit Go.Mem Go.Sgr
variable {W w : World} {H : List HProp}
theorem flag_is (n f how : Int) (h : flagV n = (f, how)) (w : World) : Calls Try.prog 17 #[.int .i64 n] w fun e w' => e = .returned (.tuple #[.int .u16 f, .int .i64 how]) ∧ w' = w := by
  have := flag17 n w
  rwa [h] at this
theorem base_is (n c : Int) (g : Bool) (h : baseV n = (c, g)) (w : World) : Calls Try.prog 18 #[.int .i64 n] w fun e w' => e = .returned (.tuple #[.int .u32 c, .bool g]) ∧ w' = w := by
  have := base18 n w
  rwa [h] at this
theorem on_small {n : Int} (h : on n ≠ 0) : n < 10 ∧ n ≠ 0 := by
  unfold on at h
  by_cases h1 : n < 10 ∧ n ≠ 0
  · exact h1
  · exfalso; apply h
    rw [if_neg (by omega), if_neg (by omega), if_neg (by omega), if_neg (by omega), if_neg (by omega), if_neg (by omega), if_neg (by omega), if_neg (by omega)]
theorem off_small {n : Int} (h : off n ≠ 0) : 22 ≤ n ∧ n < 30 := by
  unfold off at h
  by_cases h1 : 22 ≤ n ∧ n < 30
  · exact h1
  · exfalso; apply h
    rw [if_neg (by omega), if_neg (by omega), if_neg (by omega), if_neg (by omega), if_neg (by omega), if_neg (by omega), if_neg (by omega)]
theorem base_none {n : Int} (h : n < 30 ∨ n = 38 ∨ n = 48) : baseV n = (999, false) := by
  unfold baseV
  rw [if_neg (by omega), if_neg (by omega), if_neg (by omega), if_neg (by omega), if_neg (by omega), if_neg (by omega)]
/-- What the document's steps do to an attribute. -/
theorem plain_steps (a : At) (x : Int) (hx : ¬(x = 38 ∨ x = 48)) :
    (x = 0) ∨ (x ≠ 0 ∧ ∃ f, flagV x = (f, 1) ∧ baseV x = (999, false) ∧ plain a x = { a with fl := orF a.fl f }) ∨ (x ≠ 0 ∧ ∃ f, flagV x = (f, 2) ∧ baseV x = (999, false) ∧ plain a x = { a with fl := andnF a.fl f })
    ∨ (x ≠ 0 ∧ ∃ c, c ≠ 999 ∧ flagV x = (0, 0) ∧ baseV x = (c, false) ∧ plain a x = { a with fg := c }) ∨ (x ≠ 0 ∧ ∃ c, c ≠ 999 ∧ flagV x = (0, 0) ∧ baseV x = (c, true) ∧ plain a x = { a with bg := c }) ∨ (x ≠ 0 ∧ flagV x = (0, 0) ∧ baseV x = (999, false) ∧ plain a x = a) := by
  by_cases h0 : x = 0
  · exact .inl h0
  by_cases h1 : on x ≠ 0
  · refine .inr (.inl ⟨h0, on x, by unfold flagV; rw [if_pos h1], base_none (by have := on_small h1; omega), by unfold plain; rw [if_neg h0, if_pos h1]⟩)
  have e1 : on x = 0 := by simpa using h1
  by_cases h2 : off x ≠ 0
  · refine .inr (.inr (.inl ⟨h0, off x, by unfold flagV; rw [if_neg h1, if_pos h2], base_none (by have := off_small h2; omega), by unfold plain; rw [if_neg h0, if_neg h1, if_pos h2]⟩))
  have hf : flagV x = (0, 0) := by unfold flagV; rw [if_neg h1, if_neg h2]
  have hp : plain a x = if 30 ≤ x ∧ x ≤ 37 then { a with fg := x - 29 } else if 40 ≤ x ∧ x ≤ 47 then { a with bg := x - 39 } else if 90 ≤ x ∧ x ≤ 97 then { a with fg := x - 81 } else if 100 ≤ x ∧ x ≤ 107 then { a with bg := x - 91 }
    else if x = 39 then { a with fg := 0 } else if x = 49 then { a with bg := 0 } else a := by
    unfold plain; rw [if_neg h0, if_neg h1, if_neg h2]
  by_cases d1 : 30 ≤ x ∧ x ≤ 37
  · exact .inr (.inr (.inr (.inl ⟨h0, x - 29, by omega, hf, by unfold baseV; rw [if_pos d1], by rw [hp, if_pos d1]⟩)))
  by_cases d2 : 40 ≤ x ∧ x ≤ 47
  · exact .inr (.inr (.inr (.inr (.inl ⟨h0, x - 39, by omega, hf, by unfold baseV; rw [if_neg d1, if_pos d2], by rw [hp, if_neg d1, if_pos d2]⟩))))
  by_cases d3 : 90 ≤ x ∧ x ≤ 97
  · exact .inr (.inr (.inr (.inl ⟨h0, x - 81, by omega, hf, by unfold baseV; rw [if_neg d1, if_neg d2, if_pos d3], by rw [hp, if_neg d1, if_neg d2, if_pos d3]⟩)))
  by_cases d4 : 100 ≤ x ∧ x ≤ 107
  · exact .inr (.inr (.inr (.inr (.inl ⟨h0, x - 91, by omega, hf, by unfold baseV; rw [if_neg d1, if_neg d2, if_neg d3, if_pos d4], by rw [hp, if_neg d1, if_neg d2, if_neg d3, if_pos d4]⟩))))
  by_cases d5 : x = 39
  · exact .inr (.inr (.inr (.inl ⟨h0, 0, by omega, hf, by unfold baseV; rw [if_neg d1, if_neg d2, if_neg d3, if_neg d4, if_pos d5], by rw [hp, if_neg d1, if_neg d2, if_neg d3, if_neg d4, if_pos d5]⟩)))
  by_cases d6 : x = 49
  · exact .inr (.inr (.inr (.inr (.inl ⟨h0, 0, by omega, hf, by unfold baseV; rw [if_neg d1, if_neg d2, if_neg d3, if_neg d4, if_neg d5, if_pos d6], by rw [hp, if_neg d1, if_neg d2, if_neg d3, if_neg d4, if_neg d5, if_pos d6]⟩))))
  · exact .inr (.inr (.inr (.inr (.inr ⟨h0, hf, by unfold baseV; rw [if_neg d1, if_neg d2, if_neg d3, if_neg d4, if_neg d5, if_neg d6], by rw [hp, if_neg d1, if_neg d2, if_neg d3, if_neg d4, if_neg d5, if_neg d6]⟩))))
theorem SL.at {b off : Nat} {n c : Nat} {l : List Int} (h : SL W H (some ⟨b, off, none⟩) n c l) : ∀ i x, l[i]? = some x → ∀ w', sat W H w' → w'.cell? ⟨b, off + i, none⟩ = some (.int .i64 x) := by
  obtain ⟨_, _, _, hr⟩ := h
  intro i x hx w' hw
  obtain ⟨_, _, h2⟩ := reads_i64 (hr w' hw)
  obtain ⟨b2, off2, e, h3⟩ := h2 (by rcases l with _ | _; simp at hx; simp)
  cases e
  exact h3 i x hx
theorem SL.ptr {ad : Option Addr} {n c : Nat} {l : List Int} (h : SL W H ad n c l) (hs : sat W H w) (hn : 0 < n) : ∃ b off, ad = some ⟨b, off, none⟩ := by
  obtain ⟨rfl, _, _, hr⟩ := h
  obtain ⟨_, _, h1⟩ := reads_i64 (hr w hs)
  obtain ⟨b, off, rfl, _⟩ := h1 hn
  exact ⟨b, off, rfl⟩
theorem get_of_drop {l t : List Int} {p : Nat} {x : Int} (h : l.drop p = x :: t) : l[p]? = some x ∧ l.drop (p + 1) = t := by
  have h1 : p < l.length := by
    rcases Nat.lt_or_ge p l.length with h1 | h1
    · exact h1
    · rw [List.drop_of_length_le h1] at h; cases h
  rw [List.drop_eq_getElem_cons h1] at h
  cases h
  exact ⟨List.getElem?_eq_getElem h1, rfl⟩
theorem fol_nil : follows [] = none := rfl
theorem fol_one (k : Int) : follows [k] = none := rfl
theorem plain0 (a : At) : plain a 0 = zero := rfl
theorem fol_no {k : Int} (h5 : k ≠ 5) (h2 : k ≠ 2) (y : Int) (t : List Int) : follows (k :: y :: t) = none := by
  unfold follows
  simp only
  rw [if_neg h5]
  split
  · exact (h2 rfl).elim
  · rfl
theorem setC0 (a : At) (x : Int) : setC a x 0 = a := by unfold setC; rw [if_pos rfl]
theorem fol_2a (y : Int) : follows [2, y] = none := rfl
theorem fol_2b (y g : Int) : follows [2, y, g] = none := rfl
theorem flag0 : flagV 0 = (0, 0) := rfl
theorem base0 : baseV 0 = (999, false) := rfl
theorem flag38 : flagV 38 = (0, 0) := rfl
theorem base38 : baseV 38 = (999, false) := rfl
theorem flag48 : flagV 48 = (0, 0) := rfl
theorem base48 : baseV 48 = (999, false) := rfl
attribute [local irreducible] World.setCell World.alloc World.drew World.drewN Calls sat cel own blk old wpQuiet flj no go plain follows SL wf flagV baseV
set_option maxRecDepth 8000 in
set_option maxHeartbeats 40000000 in
theorem apply9 (a : At) (h : wf a) (l : List Int) (ad : Option Addr) (n cp : Nat) (hl : SL W H ad n cp l) (hlen : n ≤ 100000) (hs : sat W H w) : Calls Try.prog 9 #[atV a, .slice ad n cp] w fun e w' => e = .returned (atV (apply a l)) ∧ sat W H w' := by
  have hnl : n = l.length ∧ n ≤ cp ∧ cp ≤ maxLen := by unfold SL at hl; exact ⟨hl.1, hl.2.1, hl.2.2.1⟩
  obtain ⟨e, hn2, hn3⟩ := hnl
  unfold maxLen at hn3
  by_cases h0 : n = 0
  · have HP : Hid (apply a l = zero) := Lib.hid (by unfold apply; rw [if_pos (List.length_eq_zero_iff.1 (by omega))])
    subst h0
    clear e
    go_enter Try.func9, Try.ntmps9
    go_wp2_with (first
    | (apply lds 3 hs.b0; exact rfl; exact rfl; exact rfl; kernel_rfl; exact rfl; exact rfl)
    | (apply lds 3 hs.b1; exact rfl; exact rfl; exact rfl; kernel_rfl; exact rfl; exact rfl)
    | (apply sts hs.b0; exact rfl; exact rfl; exact rfl; exact rfl; (show rowTy _ _ 3 = true; kernel_rfl); exact Nat.le_refl _; exact rfl; exact rfl; clear hs; intro w hs)
    | (apply sts hs.b1; exact rfl; exact rfl; exact rfl; exact rfl; (show rowTy _ _ 3 = true; kernel_rfl); exact Nat.le_refl _; exact rfl; exact rfl; clear hs; intro w hs)
    | (refine wrap hs ?_; clear hs; intro w hs)
    | (refine wrapn hs ?_; clear hs; intro w hs)
    | (refine wrapd hs ?_; clear hs; intro w hs))
    refine ret_cell hs rfl rfl rfl (by kernel_rfl) ?_
    exact ⟨by rw [HP.out]; rfl, hs.drop.drop⟩
  · have HP : Hid (apply a l = go a l) := Lib.hid (by unfold apply; rw [if_neg (by intro e2; rw [e2] at e; exact h0 e)]; unfold go; rfl)
    have f0 : ((n : Int) == 0) = false := by simpa using h0
    obtain ⟨b, off, rfl⟩ := hl.ptr hs (by omega)
    have HC := Lib.hid hl.at
    have E := Lib.hid e
    clear e
    go_enter Try.func9, Try.ntmps9
    go_wp2_with (first
    | (refine wrap hs ?_; clear hs; (first | (have _t := z2; clear _t; generalize w.heap.size = z4) | generalize w.heap.size = z2); intro w hs)
    | (refine wrap hs ?_; clear hs; intro w hs)
    | (refine wrapn hs ?_; clear hs; intro w hs)
    | (refine wrapd hs ?_; clear hs; intro w hs))
    go_loopw [5, 6, 7, 8, 9, 10] (fun iv _ _ _ _ _ wr => ∃ (p : Nat) (a' : At), iv = .int .i64 p ∧ p ≤ n ∧ Hid (go a l = go a' (l.drop p)) ∧ wf a' ∧ sat W (cel z2 25 (atL a') :: cel z4 25 (atL zero) :: H) wr) (fun iv _ _ _ _ _ _ => n - (intOf iv).toNat)
    case atStart => exact ⟨0, a, rfl, Nat.zero_le _, Lib.hid rfl, h, hs.b1⟩
    case round =>
      clear hs hl h0 f0 h
      obtain ⟨p, a', rfl, hp, HG, hw, hs⟩ := hrel
      cases hd : l.drop p with
      | nil =>
        have hpn : ¬ p < n := by have := List.drop_eq_nil_iff.1 hd; rw [E.out]; omega
        have HP2 : Hid (apply a l = a') := Lib.hid (by rw [HP.out, HG.out, hd, go_nil])
        as_aux_lemma =>
          go_wp2_with (first
    | (apply lds 3 hs.b0; exact rfl; exact rfl; exact rfl; kernel_rfl; exact rfl; exact rfl)
    | (apply lds 3 hs.b1; exact rfl; exact rfl; exact rfl; kernel_rfl; exact rfl; exact rfl)
    | (apply sts hs.b0; exact rfl; exact rfl; exact rfl; exact rfl; (show rowTy _ _ 3 = true; kernel_rfl); exact Nat.le_refl _; exact rfl; exact rfl; clear hs; intro w hs)
    | (apply sts hs.b1; exact rfl; exact rfl; exact rfl; exact rfl; (show rowTy _ _ 3 = true; kernel_rfl); exact Nat.le_refl _; exact rfl; exact rfl; clear hs; intro w hs)
    | (refine wrap hs ?_; clear hs; intro w hs)
    | (refine wrapn hs ?_; clear hs; intro w hs)
    | (refine wrapd hs ?_; clear hs; intro w hs))
          refine ret_cell hs rfl rfl rfl (by kernel_rfl) ?_
          exact ⟨by rw [HP2.out]; rfl, hs.drop.drop⟩
      | cons x t =>
        obtain ⟨gx, hd2⟩ := get_of_drop hd
        have hpn : p < n := by rw [E.out]; exact (List.getElem?_eq_some_iff.1 gx).1
        rw [hd] at HG
        have HD := Lib.hid hd2
        have cx := Lib.hid (HC.out p x gx)
        clear gx hd hd2
        by_cases hx : x = 38 ∨ x = 48
        · rcases t with _ | ⟨k, _ | ⟨y, t⟩⟩
          · obtain ⟨n1, n2⟩ : p + 1 ≤ n ∧ n ≤ p + 1 := by have := congrArg List.length HD.out; rw [List.length_drop, List.length_nil] at this; rw [E.out] at hpn ⊢; omega
            have HP2 : Hid (apply a l = a') := Lib.hid (by rw [HP.out, HG.out, go_none a' x _ hx fol_nil])
            rcases hx with rfl | rfl
            all_goals
              as_aux_lemma =>
                go_wp2_with (first
    | (apply ldc; exact rfl; exact rfl; exact rfl; (first | exact cx.out _ hs.drop.drop | exact c1.out _ hs.drop.drop | exact c2.out _ hs.drop.drop | exact c3.out _ hs.drop.drop | exact c4.out _ hs.drop.drop); kernel_rfl)
    | (go_at_call 17; refine (flag_is _ 0 0 (by first | exact flag38 | exact flag48) _).mono ?_; rintro e w' ⟨rfl, rfl⟩)
    | (go_at_call 18; refine (base_is _ 999 false (by first | exact base38 | exact base48) _).mono ?_; rintro e w' ⟨rfl, rfl⟩)
    | (apply lds 3 hs.b0; exact rfl; exact rfl; exact rfl; kernel_rfl; exact rfl; exact rfl)
    | (apply lds 3 hs.b1; exact rfl; exact rfl; exact rfl; kernel_rfl; exact rfl; exact rfl)
    | (apply sts hs.b0; exact rfl; exact rfl; exact rfl; exact rfl; (show rowTy _ _ 3 = true; kernel_rfl); exact Nat.le_refl _; exact rfl; exact rfl; clear hs; intro w hs)
    | (apply sts hs.b1; exact rfl; exact rfl; exact rfl; exact rfl; (show rowTy _ _ 3 = true; kernel_rfl); exact Nat.le_refl _; exact rfl; exact rfl; clear hs; intro w hs)
    | (apply ld hs.b0; exact rfl; exact rfl; exact rfl; exact rfl; kernel_rfl)
    | (apply st hs.b0; exact rfl; exact rfl; exact rfl; exact rfl; exact rfl; exact rfl; kernel_rfl; exact rfl; clear hs; intro w hs)
    | (apply stc hs.b0; exact rfl; exact rfl; exact rfl; exact rfl; exact rfl; kernel_rfl; exact rfl; clear hs; intro w hs)
    | (refine wrap hs ?_; clear hs; intro w hs)
    | (refine wrapn hs ?_; clear hs; intro w hs)
    | (refine wrapd hs ?_; clear hs; intro w hs))
                refine ret_cell hs rfl rfl rfl (by kernel_rfl) ?_
                exact ⟨by rw [HP2.out]; rfl, hs.drop.drop⟩
          · obtain ⟨n1, n2⟩ : p + 2 ≤ n ∧ n ≤ p + 2 := by have := congrArg List.length HD.out; rw [List.length_drop, List.length_cons, List.length_nil] at this; rw [E.out] at hpn ⊢; omega
            have HP2 : Hid (apply a l = a') := Lib.hid (by rw [HP.out, HG.out, go_none a' x _ hx (fol_one _)])
            rcases hx with rfl | rfl
            all_goals
              as_aux_lemma =>
                go_wp2_with (first
    | (apply ldc; exact rfl; exact rfl; exact rfl; (first | exact cx.out _ hs.drop.drop | exact c1.out _ hs.drop.drop | exact c2.out _ hs.drop.drop | exact c3.out _ hs.drop.drop | exact c4.out _ hs.drop.drop); kernel_rfl)
    | (go_at_call 17; refine (flag_is _ 0 0 (by first | exact flag38 | exact flag48) _).mono ?_; rintro e w' ⟨rfl, rfl⟩)
    | (go_at_call 18; refine (base_is _ 999 false (by first | exact base38 | exact base48) _).mono ?_; rintro e w' ⟨rfl, rfl⟩)
    | (apply lds 3 hs.b0; exact rfl; exact rfl; exact rfl; kernel_rfl; exact rfl; exact rfl)
    | (apply lds 3 hs.b1; exact rfl; exact rfl; exact rfl; kernel_rfl; exact rfl; exact rfl)
    | (apply sts hs.b0; exact rfl; exact rfl; exact rfl; exact rfl; (show rowTy _ _ 3 = true; kernel_rfl); exact Nat.le_refl _; exact rfl; exact rfl; clear hs; intro w hs)
    | (apply sts hs.b1; exact rfl; exact rfl; exact rfl; exact rfl; (show rowTy _ _ 3 = true; kernel_rfl); exact Nat.le_refl _; exact rfl; exact rfl; clear hs; intro w hs)
    | (apply ld hs.b0; exact rfl; exact rfl; exact rfl; exact rfl; kernel_rfl)
    | (apply st hs.b0; exact rfl; exact rfl; exact rfl; exact rfl; exact rfl; exact rfl; kernel_rfl; exact rfl; clear hs; intro w hs)
    | (apply stc hs.b0; exact rfl; exact rfl; exact rfl; exact rfl; exact rfl; kernel_rfl; exact rfl; clear hs; intro w hs)
    | (refine wrap hs ?_; clear hs; intro w hs)
    | (refine wrapn hs ?_; clear hs; intro w hs)
    | (refine wrapd hs ?_; clear hs; intro w hs))
                refine ret_cell hs rfl rfl rfl (by kernel_rfl) ?_
                exact ⟨by rw [HP2.out]; rfl, hs.drop.drop⟩
          · obtain ⟨n1, hnt⟩ : p + 3 ≤ n ∧ Hid (n = p + 3 + t.length) := by have := congrArg List.length HD.out; rw [List.length_drop, List.length_cons, List.length_cons] at this; rw [E.out] at hpn ⊢; exact ⟨by omega, Lib.hid (by omega)⟩
            obtain ⟨gk, hd2⟩ := get_of_drop HD.out
            obtain ⟨gy, hd3⟩ := get_of_drop hd2
            have c1 := Lib.hid (HC.out _ k gk)
            have c2 := Lib.hid (HC.out _ y gy)
            have HD3 := Lib.hid hd3
            clear gk gy hd2 hd3 HD
            by_cases h5 : k = 5
            · subst h5
              by_cases hb : b255 y
              · have HY : Hid (decide (b255 y) = true) := Lib.hid (decide_eq_true hb)
                have HF := Lib.hid (follows_5 y t)
                rw [if_pos hb] at HF
                unfold b255 at hb
                have HG2 := Lib.hid (HG.out.trans ((go_some a' x _ _ _ hx HF.out).trans (by rw [show List.drop 2 (5 :: y :: t) = t from rfl])))
                have HW : Hid (wf (setC a' x (y + 1))) := Lib.hid (setC_wf hw x (y + 1) (by omega) (by omega))
                rcases hx with rfl | rfl
                all_goals
                  as_aux_lemma =>
                    go_wp2_with (first
    | (apply ldc; exact rfl; exact rfl; exact rfl; (first | exact cx.out _ hs.drop.drop | exact c1.out _ hs.drop.drop | exact c2.out _ hs.drop.drop | exact c3.out _ hs.drop.drop | exact c4.out _ hs.drop.drop); kernel_rfl)
    | (go_at_call 17; refine (flag_is _ 0 0 (by first | exact flag38 | exact flag48) _).mono ?_; rintro e w' ⟨rfl, rfl⟩)
    | (go_at_call 18; refine (base_is _ 999 false (by first | exact base38 | exact base48) _).mono ?_; rintro e w' ⟨rfl, rfl⟩)
    | (go_at_call 19; refine (byte19_is _ HY.out _).mono ?_; rintro e w' ⟨rfl, rfl⟩)
    | (apply lds 3 hs.b0; exact rfl; exact rfl; exact rfl; kernel_rfl; exact rfl; exact rfl)
    | (apply lds 3 hs.b1; exact rfl; exact rfl; exact rfl; kernel_rfl; exact rfl; exact rfl)
    | (apply sts hs.b0; exact rfl; exact rfl; exact rfl; exact rfl; (show rowTy _ _ 3 = true; kernel_rfl); exact Nat.le_refl _; exact rfl; exact rfl; clear hs; intro w hs)
    | (apply sts hs.b1; exact rfl; exact rfl; exact rfl; exact rfl; (show rowTy _ _ 3 = true; kernel_rfl); exact Nat.le_refl _; exact rfl; exact rfl; clear hs; intro w hs)
    | (apply ld hs.b0; exact rfl; exact rfl; exact rfl; exact rfl; kernel_rfl)
    | (apply st hs.b0; exact rfl; exact rfl; exact rfl; exact rfl; exact rfl; exact rfl; kernel_rfl; exact rfl; clear hs; intro w hs)
    | (apply stc hs.b0; exact rfl; exact rfl; exact rfl; exact rfl; exact rfl; kernel_rfl; exact rfl; clear hs; intro w hs)
    | (refine wrap hs ?_; clear hs; intro w hs)
    | (refine wrapn hs ?_; clear hs; intro w hs)
    | (refine wrapd hs ?_; clear hs; intro w hs))
                    go_roundw
                    case rel => exact ⟨p + 1 + 2, _, by go_num, by omega, Lib.hid (HG2.out.trans (by rw [HD3.out])), HW.out, by first | (rw [setC38 a' (by omega)]; exact hs) | (rw [setC48 a' (by omega)]; exact hs) | exact hs⟩
                    case measure => simp [intOf]; omega
              · have HY : Hid (decide (b255 y) = false) := Lib.hid (decide_eq_false hb)
                have HF := Lib.hid (follows_5 y t)
                rw [if_neg hb] at HF
                have HG2 := Lib.hid (HG.out.trans ((go_some a' x _ _ _ hx HF.out).trans (by rw [show List.drop 2 (5 :: y :: t) = t from rfl])))
                have HW : Hid (wf (setC a' x (0))) := Lib.hid (setC_wf hw x (0) (by omega) (by omega))
                rcases hx with rfl | rfl
                all_goals
                  as_aux_lemma =>
                    go_wp2_with (first
    | (apply ldc; exact rfl; exact rfl; exact rfl; (first | exact cx.out _ hs.drop.drop | exact c1.out _ hs.drop.drop | exact c2.out _ hs.drop.drop | exact c3.out _ hs.drop.drop | exact c4.out _ hs.drop.drop); kernel_rfl)
    | (go_at_call 17; refine (flag_is _ 0 0 (by first | exact flag38 | exact flag48) _).mono ?_; rintro e w' ⟨rfl, rfl⟩)
    | (go_at_call 18; refine (base_is _ 999 false (by first | exact base38 | exact base48) _).mono ?_; rintro e w' ⟨rfl, rfl⟩)
    | (go_at_call 19; refine (byte19_is _ HY.out _).mono ?_; rintro e w' ⟨rfl, rfl⟩)
    | (apply lds 3 hs.b0; exact rfl; exact rfl; exact rfl; kernel_rfl; exact rfl; exact rfl)
    | (apply lds 3 hs.b1; exact rfl; exact rfl; exact rfl; kernel_rfl; exact rfl; exact rfl)
    | (apply sts hs.b0; exact rfl; exact rfl; exact rfl; exact rfl; (show rowTy _ _ 3 = true; kernel_rfl); exact Nat.le_refl _; exact rfl; exact rfl; clear hs; intro w hs)
    | (apply sts hs.b1; exact rfl; exact rfl; exact rfl; exact rfl; (show rowTy _ _ 3 = true; kernel_rfl); exact Nat.le_refl _; exact rfl; exact rfl; clear hs; intro w hs)
    | (apply ld hs.b0; exact rfl; exact rfl; exact rfl; exact rfl; kernel_rfl)
    | (apply st hs.b0; exact rfl; exact rfl; exact rfl; exact rfl; exact rfl; exact rfl; kernel_rfl; exact rfl; clear hs; intro w hs)
    | (apply stc hs.b0; exact rfl; exact rfl; exact rfl; exact rfl; exact rfl; kernel_rfl; exact rfl; clear hs; intro w hs)
    | (refine wrap hs ?_; clear hs; intro w hs)
    | (refine wrapn hs ?_; clear hs; intro w hs)
    | (refine wrapd hs ?_; clear hs; intro w hs))
                    go_roundw
                    case rel => exact ⟨p + 1 + 2, _, by go_num, by omega, Lib.hid (HG2.out.trans (by rw [HD3.out])), HW.out, by rw [setC0]; exact hs⟩
                    case measure => simp [intOf]; omega
            · have f5 := beq_no h5
              by_cases h2 : k = 2
              · subst h2
                rcases t with _ | ⟨g, _ | ⟨bl, t⟩⟩
                · obtain ⟨n3, n4⟩ : p + 3 ≤ n ∧ n ≤ p + 3 := by have := hnt.out; rw [List.length_nil] at this; omega
                  have HP2 : Hid (apply a l = a') := Lib.hid (by rw [HP.out, HG.out, go_none a' x _ hx (fol_2a _)])
                  rcases hx with rfl | rfl
                  all_goals
                    as_aux_lemma =>
                      go_wp2_with (first
    | (apply ldc; exact rfl; exact rfl; exact rfl; (first | exact cx.out _ hs.drop.drop | exact c1.out _ hs.drop.drop | exact c2.out _ hs.drop.drop | exact c3.out _ hs.drop.drop | exact c4.out _ hs.drop.drop); kernel_rfl)
    | (go_at_call 17; refine (flag_is _ 0 0 (by first | exact flag38 | exact flag48) _).mono ?_; rintro e w' ⟨rfl, rfl⟩)
    | (go_at_call 18; refine (base_is _ 999 false (by first | exact base38 | exact base48) _).mono ?_; rintro e w' ⟨rfl, rfl⟩)
    | (apply lds 3 hs.b0; exact rfl; exact rfl; exact rfl; kernel_rfl; exact rfl; exact rfl)
    | (apply lds 3 hs.b1; exact rfl; exact rfl; exact rfl; kernel_rfl; exact rfl; exact rfl)
    | (apply sts hs.b0; exact rfl; exact rfl; exact rfl; exact rfl; (show rowTy _ _ 3 = true; kernel_rfl); exact Nat.le_refl _; exact rfl; exact rfl; clear hs; intro w hs)
    | (apply sts hs.b1; exact rfl; exact rfl; exact rfl; exact rfl; (show rowTy _ _ 3 = true; kernel_rfl); exact Nat.le_refl _; exact rfl; exact rfl; clear hs; intro w hs)
    | (apply ld hs.b0; exact rfl; exact rfl; exact rfl; exact rfl; kernel_rfl)
    | (apply st hs.b0; exact rfl; exact rfl; exact rfl; exact rfl; exact rfl; exact rfl; kernel_rfl; exact rfl; clear hs; intro w hs)
    | (apply stc hs.b0; exact rfl; exact rfl; exact rfl; exact rfl; exact rfl; kernel_rfl; exact rfl; clear hs; intro w hs)
    | (refine wrap hs ?_; clear hs; intro w hs)
    | (refine wrapn hs ?_; clear hs; intro w hs)
    | (refine wrapd hs ?_; clear hs; intro w hs))
                      refine ret_cell hs rfl rfl rfl (by kernel_rfl) ?_
                      exact ⟨by rw [HP2.out]; rfl, hs.drop.drop⟩
                · obtain ⟨n3, n4⟩ : p + 4 ≤ n ∧ n ≤ p + 4 := by have := hnt.out; rw [List.length_cons, List.length_nil] at this; omega
                  have HP2 : Hid (apply a l = a') := Lib.hid (by rw [HP.out, HG.out, go_none a' x _ hx (fol_2b _ _)])
                  rcases hx with rfl | rfl
                  all_goals
                    as_aux_lemma =>
                      go_wp2_with (first
    | (apply ldc; exact rfl; exact rfl; exact rfl; (first | exact cx.out _ hs.drop.drop | exact c1.out _ hs.drop.drop | exact c2.out _ hs.drop.drop | exact c3.out _ hs.drop.drop | exact c4.out _ hs.drop.drop); kernel_rfl)
    | (go_at_call 17; refine (flag_is _ 0 0 (by first | exact flag38 | exact flag48) _).mono ?_; rintro e w' ⟨rfl, rfl⟩)
    | (go_at_call 18; refine (base_is _ 999 false (by first | exact base38 | exact base48) _).mono ?_; rintro e w' ⟨rfl, rfl⟩)
    | (apply lds 3 hs.b0; exact rfl; exact rfl; exact rfl; kernel_rfl; exact rfl; exact rfl)
    | (apply lds 3 hs.b1; exact rfl; exact rfl; exact rfl; kernel_rfl; exact rfl; exact rfl)
    | (apply sts hs.b0; exact rfl; exact rfl; exact rfl; exact rfl; (show rowTy _ _ 3 = true; kernel_rfl); exact Nat.le_refl _; exact rfl; exact rfl; clear hs; intro w hs)
    | (apply sts hs.b1; exact rfl; exact rfl; exact rfl; exact rfl; (show rowTy _ _ 3 = true; kernel_rfl); exact Nat.le_refl _; exact rfl; exact rfl; clear hs; intro w hs)
    | (apply ld hs.b0; exact rfl; exact rfl; exact rfl; exact rfl; kernel_rfl)
    | (apply st hs.b0; exact rfl; exact rfl; exact rfl; exact rfl; exact rfl; exact rfl; kernel_rfl; exact rfl; clear hs; intro w hs)
    | (apply stc hs.b0; exact rfl; exact rfl; exact rfl; exact rfl; exact rfl; kernel_rfl; exact rfl; clear hs; intro w hs)
    | (refine wrap hs ?_; clear hs; intro w hs)
    | (refine wrapn hs ?_; clear hs; intro w hs)
    | (refine wrapd hs ?_; clear hs; intro w hs))
                      refine ret_cell hs rfl rfl rfl (by kernel_rfl) ?_
                      exact ⟨by rw [HP2.out]; rfl, hs.drop.drop⟩
                · have n3 : p + 5 ≤ n := by have := hnt.out; rw [List.length_cons, List.length_cons] at this; omega
                  obtain ⟨gg, hd2⟩ := get_of_drop HD3.out
                  obtain ⟨gb, hd3⟩ := get_of_drop hd2
                  have c3 := Lib.hid (HC.out _ g gg)
                  have c4 := Lib.hid (HC.out _ bl gb)
                  have HD4 := Lib.hid hd3
                  clear gg gb hd2 hd3 HD3
                  by_cases hb1 : b255 y
                  · have HY1 : Hid (decide (b255 y) = true) := Lib.hid (decide_eq_true hb1)
                    by_cases hb2 : b255 g
                    · have HY2 : Hid (decide (b255 g) = true) := Lib.hid (decide_eq_true hb2)
                      by_cases hb3 : b255 bl
                      · have HY3 : Hid (decide (b255 bl) = true) := Lib.hid (decide_eq_true hb3)
                        have HF := Lib.hid (follows_2 y g bl t)
                        rw [if_pos ⟨hb1, hb2, hb3⟩] at HF
                        unfold b255 at hb1 hb2 hb3
                        have HG2 := Lib.hid (HG.out.trans ((go_some a' x _ _ _ hx HF.out).trans (by rw [show List.drop 4 (2 :: y :: g :: bl :: t) = t from rfl])))
                        have HW : Hid (wf (setC a' x (16777216 + y * 65536 + g * 256 + bl))) := Lib.hid (setC_wf hw x (16777216 + y * 65536 + g * 256 + bl) (by omega) (by omega))
                        rcases hx with rfl | rfl
                        all_goals
                          as_aux_lemma =>
                            go_wp2_with (first
    | (apply ldc; exact rfl; exact rfl; exact rfl; (first | exact cx.out _ hs.drop.drop | exact c1.out _ hs.drop.drop | exact c2.out _ hs.drop.drop | exact c3.out _ hs.drop.drop | exact c4.out _ hs.drop.drop); kernel_rfl)
    | (go_at_call 17; refine (flag_is _ 0 0 (by first | exact flag38 | exact flag48) _).mono ?_; rintro e w' ⟨rfl, rfl⟩)
    | (go_at_call 18; refine (base_is _ 999 false (by first | exact base38 | exact base48) _).mono ?_; rintro e w' ⟨rfl, rfl⟩)
    | (go_at_call 19; (first | refine (byte19_is _ HY1.out _).mono ?_ | refine (byte19_is _ HY2.out _).mono ?_ | refine (byte19_is _ HY3.out _).mono ?_); rintro e w' ⟨rfl, rfl⟩)
    | (apply lds 3 hs.b0; exact rfl; exact rfl; exact rfl; kernel_rfl; exact rfl; exact rfl)
    | (apply lds 3 hs.b1; exact rfl; exact rfl; exact rfl; kernel_rfl; exact rfl; exact rfl)
    | (apply sts hs.b0; exact rfl; exact rfl; exact rfl; exact rfl; (show rowTy _ _ 3 = true; kernel_rfl); exact Nat.le_refl _; exact rfl; exact rfl; clear hs; intro w hs)
    | (apply sts hs.b1; exact rfl; exact rfl; exact rfl; exact rfl; (show rowTy _ _ 3 = true; kernel_rfl); exact Nat.le_refl _; exact rfl; exact rfl; clear hs; intro w hs)
    | ((try simp only [Act.put, List.setIfInBounds_toArray, List.set_cons_succ, List.set_cons_zero]); refine region_sat hs (by kernel_rfl) (by kernel_rfl) ?_; intro X f hne hf hcl; (repeat (first | (apply ldcq; exact rfl; exact rfl; exact rfl; (first | exact fun x => c2.out _ (hf x).drop.drop | exact fun x => c3.out _ (hf x).drop.drop | exact fun x => c4.out _ (hf x).drop.drop); kernel_rfl; (try simp only [Act.put, List.setIfInBounds_toArray, List.set_cons_succ, List.set_cons_zero])) | go_big_quiet_step (fail))); refine wpQuiet_nil ?_; clear hcl hf hne hs f X; intro w hs)
    | (apply ld hs.b0; exact rfl; exact rfl; exact rfl; exact rfl; kernel_rfl)
    | (apply st hs.b0; exact rfl; exact rfl; exact rfl; exact rfl; exact rfl; exact rfl; kernel_rfl; exact rfl; clear hs; intro w hs)
    | (apply stc hs.b0; exact rfl; exact rfl; exact rfl; exact rfl; exact rfl; kernel_rfl; exact rfl; clear hs; intro w hs)
    | (refine wrap hs ?_; clear hs; intro w hs)
    | (refine wrapn hs ?_; clear hs; intro w hs)
    | (refine wrapd hs ?_; clear hs; intro w hs))
                            go_roundw
                            case rel => exact ⟨p + 1 + 4, _, by go_num, by omega, Lib.hid (HG2.out.trans (by rw [HD4.out])), HW.out, by first | (rw [setC38 a' (by omega)]; exact hs) | (rw [setC48 a' (by omega)]; exact hs) | exact hs⟩
                            case measure => simp [intOf]; omega
                      · have HY3 : Hid (decide (b255 bl) = false) := Lib.hid (decide_eq_false hb3)
                        have HF := Lib.hid (follows_2 y g bl t)
                        rw [if_neg (fun h => hb3 h.2.2)] at HF
                        have HG2 := Lib.hid (HG.out.trans ((go_some a' x _ _ _ hx HF.out).trans (by rw [show List.drop 4 (2 :: y :: g :: bl :: t) = t from rfl])))
                        have HW : Hid (wf (setC a' x (0))) := Lib.hid (setC_wf hw x (0) (by omega) (by omega))
                        rcases hx with rfl | rfl
                        all_goals
                          as_aux_lemma =>
                            go_wp2_with (first
    | (apply ldc; exact rfl; exact rfl; exact rfl; (first | exact cx.out _ hs.drop.drop | exact c1.out _ hs.drop.drop | exact c2.out _ hs.drop.drop | exact c3.out _ hs.drop.drop | exact c4.out _ hs.drop.drop); kernel_rfl)
    | (go_at_call 17; refine (flag_is _ 0 0 (by first | exact flag38 | exact flag48) _).mono ?_; rintro e w' ⟨rfl, rfl⟩)
    | (go_at_call 18; refine (base_is _ 999 false (by first | exact base38 | exact base48) _).mono ?_; rintro e w' ⟨rfl, rfl⟩)
    | (go_at_call 19; (first | refine (byte19_is _ HY1.out _).mono ?_ | refine (byte19_is _ HY2.out _).mono ?_ | refine (byte19_is _ HY3.out _).mono ?_); rintro e w' ⟨rfl, rfl⟩)
    | (apply lds 3 hs.b0; exact rfl; exact rfl; exact rfl; kernel_rfl; exact rfl; exact rfl)
    | (apply lds 3 hs.b1; exact rfl; exact rfl; exact rfl; kernel_rfl; exact rfl; exact rfl)
    | (apply sts hs.b0; exact rfl; exact rfl; exact rfl; exact rfl; (show rowTy _ _ 3 = true; kernel_rfl); exact Nat.le_refl _; exact rfl; exact rfl; clear hs; intro w hs)
    | (apply sts hs.b1; exact rfl; exact rfl; exact rfl; exact rfl; (show rowTy _ _ 3 = true; kernel_rfl); exact Nat.le_refl _; exact rfl; exact rfl; clear hs; intro w hs)
    | (apply ld hs.b0; exact rfl; exact rfl; exact rfl; exact rfl; kernel_rfl)
    | (apply st hs.b0; exact rfl; exact rfl; exact rfl; exact rfl; exact rfl; exact rfl; kernel_rfl; exact rfl; clear hs; intro w hs)
    | (apply stc hs.b0; exact rfl; exact rfl; exact rfl; exact rfl; exact rfl; kernel_rfl; exact rfl; clear hs; intro w hs)
    | (refine wrap hs ?_; clear hs; intro w hs)
    | (refine wrapn hs ?_; clear hs; intro w hs)
    | (refine wrapd hs ?_; clear hs; intro w hs))
                            go_roundw
                            case rel => exact ⟨p + 1 + 4, _, by go_num, by omega, Lib.hid (HG2.out.trans (by rw [HD4.out])), HW.out, by rw [setC0]; exact hs⟩
                            case measure => simp [intOf]; omega
                    · have HY2 : Hid (decide (b255 g) = false) := Lib.hid (decide_eq_false hb2)
                      have HF := Lib.hid (follows_2 y g bl t)
                      rw [if_neg (fun h => hb2 h.2.1)] at HF
                      have HY3 : True := trivial
                      have HG2 := Lib.hid (HG.out.trans ((go_some a' x _ _ _ hx HF.out).trans (by rw [show List.drop 4 (2 :: y :: g :: bl :: t) = t from rfl])))
                      have HW : Hid (wf (setC a' x (0))) := Lib.hid (setC_wf hw x (0) (by omega) (by omega))
                      rcases hx with rfl | rfl
                      all_goals
                        as_aux_lemma =>
                          go_wp2_with (first
    | (apply ldc; exact rfl; exact rfl; exact rfl; (first | exact cx.out _ hs.drop.drop | exact c1.out _ hs.drop.drop | exact c2.out _ hs.drop.drop | exact c3.out _ hs.drop.drop | exact c4.out _ hs.drop.drop); kernel_rfl)
    | (go_at_call 17; refine (flag_is _ 0 0 (by first | exact flag38 | exact flag48) _).mono ?_; rintro e w' ⟨rfl, rfl⟩)
    | (go_at_call 18; refine (base_is _ 999 false (by first | exact base38 | exact base48) _).mono ?_; rintro e w' ⟨rfl, rfl⟩)
    | (go_at_call 19; (first | refine (byte19_is _ HY1.out _).mono ?_ | refine (byte19_is _ HY2.out _).mono ?_ | refine (byte19_is _ HY3.out _).mono ?_); rintro e w' ⟨rfl, rfl⟩)
    | (apply lds 3 hs.b0; exact rfl; exact rfl; exact rfl; kernel_rfl; exact rfl; exact rfl)
    | (apply lds 3 hs.b1; exact rfl; exact rfl; exact rfl; kernel_rfl; exact rfl; exact rfl)
    | (apply sts hs.b0; exact rfl; exact rfl; exact rfl; exact rfl; (show rowTy _ _ 3 = true; kernel_rfl); exact Nat.le_refl _; exact rfl; exact rfl; clear hs; intro w hs)
    | (apply sts hs.b1; exact rfl; exact rfl; exact rfl; exact rfl; (show rowTy _ _ 3 = true; kernel_rfl); exact Nat.le_refl _; exact rfl; exact rfl; clear hs; intro w hs)
    | (apply ld hs.b0; exact rfl; exact rfl; exact rfl; exact rfl; kernel_rfl)
    | (apply st hs.b0; exact rfl; exact rfl; exact rfl; exact rfl; exact rfl; exact rfl; kernel_rfl; exact rfl; clear hs; intro w hs)
    | (apply stc hs.b0; exact rfl; exact rfl; exact rfl; exact rfl; exact rfl; kernel_rfl; exact rfl; clear hs; intro w hs)
    | (refine wrap hs ?_; clear hs; intro w hs)
    | (refine wrapn hs ?_; clear hs; intro w hs)
    | (refine wrapd hs ?_; clear hs; intro w hs))
                          go_roundw
                          case rel => exact ⟨p + 1 + 4, _, by go_num, by omega, Lib.hid (HG2.out.trans (by rw [HD4.out])), HW.out, by rw [setC0]; exact hs⟩
                          case measure => simp [intOf]; omega
                  · have HY1 : Hid (decide (b255 y) = false) := Lib.hid (decide_eq_false hb1)
                    have HF := Lib.hid (follows_2 y g bl t)
                    rw [if_neg (fun h => hb1 h.1)] at HF
                    have HG2 := Lib.hid (HG.out.trans ((go_some a' x _ _ _ hx HF.out).trans (by rw [show List.drop 4 (2 :: y :: g :: bl :: t) = t from rfl])))
                    have HW : Hid (wf (setC a' x (0))) := Lib.hid (setC_wf hw x (0) (by omega) (by omega))
                    rcases hx with rfl | rfl
                    all_goals
                      as_aux_lemma =>
                        go_wp2_with (first
    | (apply ldc; exact rfl; exact rfl; exact rfl; (first | exact cx.out _ hs.drop.drop | exact c1.out _ hs.drop.drop | exact c2.out _ hs.drop.drop | exact c3.out _ hs.drop.drop | exact c4.out _ hs.drop.drop); kernel_rfl)
    | (go_at_call 17; refine (flag_is _ 0 0 (by first | exact flag38 | exact flag48) _).mono ?_; rintro e w' ⟨rfl, rfl⟩)
    | (go_at_call 18; refine (base_is _ 999 false (by first | exact base38 | exact base48) _).mono ?_; rintro e w' ⟨rfl, rfl⟩)
    | (go_at_call 19; (first | refine (byte19_is _ HY1.out _).mono ?_ | refine (byte19_is _ HY2.out _).mono ?_ | refine (byte19_is _ HY3.out _).mono ?_); rintro e w' ⟨rfl, rfl⟩)
    | (apply lds 3 hs.b0; exact rfl; exact rfl; exact rfl; kernel_rfl; exact rfl; exact rfl)
    | (apply lds 3 hs.b1; exact rfl; exact rfl; exact rfl; kernel_rfl; exact rfl; exact rfl)
    | (apply sts hs.b0; exact rfl; exact rfl; exact rfl; exact rfl; (show rowTy _ _ 3 = true; kernel_rfl); exact Nat.le_refl _; exact rfl; exact rfl; clear hs; intro w hs)
    | (apply sts hs.b1; exact rfl; exact rfl; exact rfl; exact rfl; (show rowTy _ _ 3 = true; kernel_rfl); exact Nat.le_refl _; exact rfl; exact rfl; clear hs; intro w hs)
    | (apply ld hs.b0; exact rfl; exact rfl; exact rfl; exact rfl; kernel_rfl)
    | (apply st hs.b0; exact rfl; exact rfl; exact rfl; exact rfl; exact rfl; exact rfl; kernel_rfl; exact rfl; clear hs; intro w hs)
    | (apply stc hs.b0; exact rfl; exact rfl; exact rfl; exact rfl; exact rfl; kernel_rfl; exact rfl; clear hs; intro w hs)
    | (refine wrap hs ?_; clear hs; intro w hs)
    | (refine wrapn hs ?_; clear hs; intro w hs)
    | (refine wrapd hs ?_; clear hs; intro w hs))
                        go_roundw
                        case rel => exact ⟨p + 1 + 4, _, by go_num, by omega, Lib.hid (HG2.out.trans (by rw [HD4.out])), HW.out, by rw [setC0]; exact hs⟩
                        case measure => simp [intOf]; omega
              · have f2 := beq_no h2
                have HN := Lib.hid (fol_no h5 h2 y t)
                by_cases n3 : p + 5 ≤ n
                all_goals
                  have HP2 : Hid (apply a l = a') := Lib.hid (by rw [HP.out, HG.out, go_none a' x _ hx HN.out])
                  rcases hx with rfl | rfl
                  all_goals
                    as_aux_lemma =>
                      go_wp2_with (first
    | (apply ldc; exact rfl; exact rfl; exact rfl; (first | exact cx.out _ hs.drop.drop | exact c1.out _ hs.drop.drop | exact c2.out _ hs.drop.drop | exact c3.out _ hs.drop.drop | exact c4.out _ hs.drop.drop); kernel_rfl)
    | (go_at_call 17; refine (flag_is _ 0 0 (by first | exact flag38 | exact flag48) _).mono ?_; rintro e w' ⟨rfl, rfl⟩)
    | (go_at_call 18; refine (base_is _ 999 false (by first | exact base38 | exact base48) _).mono ?_; rintro e w' ⟨rfl, rfl⟩)
    | (apply lds 3 hs.b0; exact rfl; exact rfl; exact rfl; kernel_rfl; exact rfl; exact rfl)
    | (apply lds 3 hs.b1; exact rfl; exact rfl; exact rfl; kernel_rfl; exact rfl; exact rfl)
    | (apply sts hs.b0; exact rfl; exact rfl; exact rfl; exact rfl; (show rowTy _ _ 3 = true; kernel_rfl); exact Nat.le_refl _; exact rfl; exact rfl; clear hs; intro w hs)
    | (apply sts hs.b1; exact rfl; exact rfl; exact rfl; exact rfl; (show rowTy _ _ 3 = true; kernel_rfl); exact Nat.le_refl _; exact rfl; exact rfl; clear hs; intro w hs)
    | (apply ld hs.b0; exact rfl; exact rfl; exact rfl; exact rfl; kernel_rfl)
    | (apply st hs.b0; exact rfl; exact rfl; exact rfl; exact rfl; exact rfl; exact rfl; kernel_rfl; exact rfl; clear hs; intro w hs)
    | (apply stc hs.b0; exact rfl; exact rfl; exact rfl; exact rfl; exact rfl; kernel_rfl; exact rfl; clear hs; intro w hs)
    | (refine wrap hs ?_; clear hs; intro w hs)
    | (refine wrapn hs ?_; clear hs; intro w hs)
    | (refine wrapd hs ?_; clear hs; intro w hs))
                      refine ret_cell hs rfl rfl rfl (by kernel_rfl) ?_
                      exact ⟨by rw [HP2.out]; rfl, hs.drop.drop⟩

        · have HG2 := Lib.hid (HG.out.trans (go_plain a' x t hx))
          have hw2 := Lib.hid (plain_wf hw x)
          have g1 : (x != 38) = true := by simp; exact fun e => hx (.inl e)
          have g2 : (x != 48) = true := by simp; exact fun e => hx (.inr e)
          rcases plain_steps a' x hx with rfl | ⟨h0, f, hf, hb, hpl⟩ | ⟨h0, f, hf, hb, hpl⟩ | ⟨h0, c, hc, hf, hb, hpl⟩ | ⟨h0, c, hc, hf, hb, hpl⟩ | ⟨h0, hf, hb, hpl⟩
          · go_wp2_with (first
    | (apply ldc; exact rfl; exact rfl; exact rfl; exact cx.out _ hs.drop.drop; kernel_rfl)
    | (go_at_call 17; refine (flag_is 0 0 0 flag0 _).mono ?_; rintro e w' ⟨rfl, rfl⟩)
    | (go_at_call 18; refine (base_is 0 999 false base0 _).mono ?_; rintro e w' ⟨rfl, rfl⟩)
    | (apply lds 3 hs.b0; exact rfl; exact rfl; exact rfl; kernel_rfl; exact rfl; exact rfl)
    | (apply lds 3 hs.b1; exact rfl; exact rfl; exact rfl; kernel_rfl; exact rfl; exact rfl)
    | (apply sts hs.b0; exact rfl; exact rfl; exact rfl; exact rfl; (show rowTy _ _ 3 = true; kernel_rfl); exact Nat.le_refl _; exact rfl; exact rfl; clear hs; intro w hs)
    | (apply sts hs.b1; exact rfl; exact rfl; exact rfl; exact rfl; (show rowTy _ _ 3 = true; kernel_rfl); exact Nat.le_refl _; exact rfl; exact rfl; clear hs; intro w hs)
    | (apply ld hs.b0; exact rfl; exact rfl; exact rfl; exact rfl; kernel_rfl)
    | (apply st hs.b0; exact rfl; exact rfl; exact rfl; exact rfl; exact rfl; exact rfl; kernel_rfl; exact rfl; clear hs; intro w hs)
    | (apply stc hs.b0; exact rfl; exact rfl; exact rfl; exact rfl; exact rfl; kernel_rfl; exact rfl; clear hs; intro w hs)
    | (refine wrap hs ?_; clear hs; intro w hs)
    | (refine wrapn hs ?_; clear hs; intro w hs)
    | (refine wrapd hs ?_; clear hs; intro w hs))
            go_roundw
            case rel => exact ⟨p + 1, plain a' 0, by go_num, by omega, Lib.hid (by rw [HD.out]; exact HG2.out), hw2.out, by rw [plain0]; exact hs⟩
            case measure => simp [intOf]; omega
          all_goals
            have HF := Lib.hid hf
            have HB := Lib.hid hb
            have HL := Lib.hid hpl
            have f0 := beq_no h0
            clear hf hb hpl h0
            as_aux_lemma =>
              go_wp2_with (first
    | (apply ldc; exact rfl; exact rfl; exact rfl; exact cx.out _ hs.drop.drop; kernel_rfl)
    | (go_at_call 17; refine (flag_is _ _ _ HF.out _).mono ?_; rintro e w' ⟨rfl, rfl⟩)
    | (go_at_call 18; refine (base_is _ _ _ HB.out _).mono ?_; rintro e w' ⟨rfl, rfl⟩)
    | (apply lds 3 hs.b0; exact rfl; exact rfl; exact rfl; kernel_rfl; exact rfl; exact rfl)
    | (apply lds 3 hs.b1; exact rfl; exact rfl; exact rfl; kernel_rfl; exact rfl; exact rfl)
    | (apply sts hs.b0; exact rfl; exact rfl; exact rfl; exact rfl; (show rowTy _ _ 3 = true; kernel_rfl); exact Nat.le_refl _; exact rfl; exact rfl; clear hs; intro w hs)
    | (apply sts hs.b1; exact rfl; exact rfl; exact rfl; exact rfl; (show rowTy _ _ 3 = true; kernel_rfl); exact Nat.le_refl _; exact rfl; exact rfl; clear hs; intro w hs)
    | (apply ld hs.b0; exact rfl; exact rfl; exact rfl; exact rfl; kernel_rfl)
    | (apply st hs.b0; exact rfl; exact rfl; exact rfl; exact rfl; exact rfl; exact rfl; kernel_rfl; exact rfl; clear hs; intro w hs)
    | (apply stc hs.b0; exact rfl; exact rfl; exact rfl; exact rfl; exact rfl; kernel_rfl; exact rfl; clear hs; intro w hs)
    | (refine wrap hs ?_; clear hs; intro w hs)
    | (refine wrapn hs ?_; clear hs; intro w hs)
    | (refine wrapd hs ?_; clear hs; intro w hs))
              go_roundw
              case rel => exact ⟨p + 1, plain a' x, by go_num, by omega, Lib.hid (by rw [HD.out]; exact HG2.out), hw2.out, by rw [HL.out]; exact hs⟩
              case measure => simp [intOf]; omega
end Go.Proofs.Ytkmbgnonpnhfcaa
