import Derived.Test.YtaajgkccannjlaaT1
import Derived.Laws.BitsLemmas
namespace Go.Proofs.Ytaajgkccannjlaa
open Go.RowKit Go.Mem Go.Utf
variable {W w : World} {H : List HProp}
/-- What a decoder holds. -/
def Inv (d : D) : Prop := d.opn = 0 ∨ (1 ≤ d.opn ∧ 1 ≤ d.left ∧ d.opn + d.left ≤ 4 ∧ 0 ≤ d.r ∧ (d.opn = 1 → d.r < 32) ∧ (d.opn = 2 → d.r < 2048) ∧ (d.opn = 3 → d.r < 131072) ∧ 0 ≤ d.lo ∧ d.lo < 256 ∧ 0 ≤ d.hi ∧ d.hi < 256)
theorem first_Inv (x : Int) : Inv (first x).1 := by
  have hl : 0 ≤ lo x ∧ lo x < 256 ∧ 0 ≤ hi x ∧ hi x < 256 := by unfold lo hi; (repeat' split) <;> omega
  unfold first
  split
  · exact .inl rfl
  split
  · exact .inl rfl
  split
  · exact .inr ⟨by show (1 : Int) ≤ 1; decide, by first | (show (1 : Int) ≤ 1; decide) | (show (1 : Int) ≤ 2; decide) | (show (1 : Int) ≤ 3; decide), by first | (show (1 : Int) + 1 ≤ 4; decide) | (show (1 : Int) + 2 ≤ 4; decide) | (show (1 : Int) + 3 ≤ 4; decide), by show 0 ≤ x % 32; omega, fun _ => by show x % 32 < 32; omega, fun h => absurd h (by show ¬((1 : Int) = 2); decide), fun h => absurd h (by show ¬((1 : Int) = 3); decide), hl⟩
  split
  · exact .inr ⟨by show (1 : Int) ≤ 1; decide, by first | (show (1 : Int) ≤ 1; decide) | (show (1 : Int) ≤ 2; decide) | (show (1 : Int) ≤ 3; decide), by first | (show (1 : Int) + 1 ≤ 4; decide) | (show (1 : Int) + 2 ≤ 4; decide) | (show (1 : Int) + 3 ≤ 4; decide), by show 0 ≤ x % 16; omega, fun _ => by show x % 16 < 32; omega, fun h => absurd h (by show ¬((1 : Int) = 2); decide), fun h => absurd h (by show ¬((1 : Int) = 3); decide), hl⟩
  · exact .inr ⟨by show (1 : Int) ≤ 1; decide, by first | (show (1 : Int) ≤ 1; decide) | (show (1 : Int) ≤ 2; decide) | (show (1 : Int) ≤ 3; decide), by first | (show (1 : Int) + 1 ≤ 4; decide) | (show (1 : Int) + 2 ≤ 4; decide) | (show (1 : Int) + 3 ≤ 4; decide), by show 0 ≤ x % 8; omega, fun _ => by show x % 8 < 32; omega, fun h => absurd h (by show ¬((1 : Int) = 2); decide), fun h => absurd h (by show ¬((1 : Int) = 3); decide), hl⟩
theorem feed_Inv {d : D} (h : Inv d) (x : Int) : Inv (feed d x).1 := by
  unfold feed
  by_cases h0 : d.opn = 0
  · rw [if_pos h0]; exact first_Inv x
  rw [if_neg h0]
  split
  · exact first_Inv x
  split
  · rename_i h1 h2
    rcases h with h | ⟨a1, a2, a3, a4, a5, a6, a7, _⟩
    · exact (h0 h).elim
    refine .inr ⟨by show 1 ≤ d.opn + 1; omega, by show 1 ≤ d.left - 1; omega, by show d.opn + 1 + (d.left - 1) ≤ 4; omega, by show 0 ≤ d.r * 64 + x % 64; omega, fun h => ?_, fun h => ?_, fun h => ?_, by show (0 : Int) ≤ 128; decide, by show (128 : Int) < 256; decide, by show (0 : Int) ≤ 191; decide, by show (191 : Int) < 256; decide⟩
    all_goals
      replace h : d.opn + 1 = _ := h
      show d.r * 64 + x % 64 < _
      omega
  · exact .inl rfl
theorem new_Inv : Inv .new := .inl rfl
attribute [local irreducible] World.setCell World.alloc World.drew World.drewN Calls sat cel own blk old wpQuiet first
theorem slty25 : SlTy Try.prog 25 21 1 4 := ⟨Try.underlying25, by obtain ⟨i0, hi, hz0, hz1, hz2⟩ := info_parts (show (Try.prog.info? 21).map (fun i => (i.zero, i.size, i.bytes)) = some (some (.int .i32 0), 1, 4) by kernel_rfl); exact ⟨i0, _, hi, hz0, hz1, hz2, rfl⟩, by decide⟩
theorem br_mk {a : Option Addr} {n c : Nat} {l : List Int} (hn : n = l.length) (hs : sat W (own 21 1 (.slice a n c) n (runes l) :: H) w) : BR W H l (.returned (.slice a n c)) w := by subst hn; exact ⟨_, _, rfl, hs⟩
theorem runes_ok {l : List Int} : ∀ u ∈ runes l, u.oneCell' = true := by
  intro u hu; obtain ⟨n, _, rfl⟩ := List.mem_map.1 hu; rfl
theorem first_len (x : Int) : (first x).2.length ≤ 1 := (first_inv x).2.1
theorem first_t (b : Nat) (d : D) (x : Int) (e : D) (l : List Int) (h : first x = (e, l)) (h0 : 0 ≤ x) (h1 : x < 256) (hs : sat W (cel b 38 (dL d) :: H) w) : Calls Try.prog 22 #[.pointer (some ⟨b, 0, none⟩), .int .u8 x] w (BR W (cel b 38 (dL e) :: H) l) := by
  have := first22 b d x h0 h1 hs; rw [h] at this; exact this
attribute [local irreducible] BR
set_option maxHeartbeats 4000000 in
theorem feed16 (b : Nat) (d : D) (x : Int) (h0 : 0 ≤ x) (h1 : x < 256) (hi : Inv d) (hs : sat W (cel b 38 (dL d) :: H) w) : Calls Try.prog 16 #[.pointer (some ⟨b, 0, none⟩), .int .u8 x] w (BR W (cel b 38 (dL (feed d x).1) :: H) (feed d x).2) := by
  obtain ⟨e, l, hf⟩ : ∃ e l, first x = (e, l) := ⟨_, _, rfl⟩
  have hl : l.length ≤ 1 := by have := first_len x; rw [hf] at this; exact this
  obtain ⟨o, lf, r, f, t⟩ := d
  have HF := Lib.hid hf
  by_cases hz : o = 0
  · have HE : Hid (feed ⟨o, lf, r, f, t⟩ x = (e, l)) := Lib.hid (by unfold feed; rw [if_pos hz, hf])
    have e1 : (o == 0) = true := by simpa using hz
    clear hf hi
    as_aux_lemma =>
      go_enter Try.func16, Try.ntmps16
      go_wp2_with (first
    | (go_at_call 22; refine (first_t b _ x e l HF.out h0 h1 hs).mono ?_; clear hs; rintro e w hb; obtain ⟨a1, c1, rfl, hs⟩ := hb.elim; clear hb)
    | (apply ld hs.b0; exact rfl; exact rfl; exact rfl; exact rfl; kernel_rfl)
    | (apply st hs.b0; exact rfl; exact rfl; exact rfl; exact rfl; exact rfl; exact rfl; kernel_rfl; exact rfl; clear hs; intro w hs)
    | (apply stc hs.b0; exact rfl; exact rfl; exact rfl; exact rfl; exact rfl; kernel_rfl; exact rfl; clear hs; intro w hs)
    | (refine wrap hs ?_; clear hs; intro w hs)
    | (refine wrapn hs ?_; clear hs; intro w hs)
    | (refine wrapd hs ?_; clear hs; intro w hs))
      go_ret
      rw [HE.out]; unfold BR; exact ⟨_, _, rfl, hs⟩
  · have e1 : (o == 0) = false := by simpa using hz
    have hi2 : 1 ≤ o ∧ 1 ≤ lf ∧ o + lf ≤ 4 ∧ 0 ≤ r ∧ r < 131072 ∧ 0 ≤ f ∧ f < 256 ∧ 0 ≤ t ∧ t < 256 := by
      rcases hi with h | ⟨a1, a2, a3, a4, a5, a6, a7, a8⟩
      · exact (hz h).elim
      · simp only at *
        have : o = 1 ∨ o = 2 ∨ o = 3 := by omega
        rcases this with rfl | rfl | rfl
        · have := a5 rfl; omega
        · have := a6 rfl; omega
        · have := a7 rfl; omega
    obtain ⟨i1, i2, i3, i4, i5, i6, i7, i8, i9⟩ := hi2
    clear hi
    by_cases hr : x < f ∨ t < x
    · have HE : Hid (feed ⟨o, lf, r, f, t⟩ x = (e, bad :: l)) := Lib.hid (by unfold feed; rw [if_neg hz, if_pos hr, hf])
      clear hf
      have hr2 : x < f ∨ (f ≤ x ∧ t < x) := by omega
      clear hr
      have g1 : x < f → decide (x < f) = true := fun h => decide_eq_true h
      have g2 : f ≤ x → decide (x < f) = false := fun h => decide_eq_false (by omega)
      have G1 := Lib.hid g1; have G2 := Lib.hid g2; clear g1 g2
      rcases hr2 with hr | ⟨hr, hr2⟩
      all_goals
        first | have k1 := G1.out hr | have k1 := G2.out hr
        try have k2 : decide (t < x) = true := decide_eq_true hr2
        as_aux_lemma =>
        go_enter Try.func16, Try.ntmps16
        go_wp2_with (first
    | (go_at_call 22; refine (first_t b _ x e l HF.out h0 h1 hs.b1).mono ?_; clear hs; rintro e w hb; obtain ⟨a1, c1, rfl, hs⟩ := hb.elim; clear hb)
    | (apply appr (hs.b2.cel_own (l := [.int .i32 65533]) (by simp [maxLen])); exact rfl; exact rfl; exact rfl; exact rfl; exact slty25; exact hs.own_reads.1; exact runes_ok; (rw [List.length_map]; simp; omega); (rw [List.length_map]; unfold maxLen; simp; omega); clear hs; intro a5 c5 w hs)
    | (apply ld hs.b0; exact rfl; exact rfl; exact rfl; exact rfl; kernel_rfl)
    | (apply st hs.b0; exact rfl; exact rfl; exact rfl; exact rfl; exact rfl; exact rfl; kernel_rfl; exact rfl; clear hs; intro w hs)
    | (apply stc hs.b0; exact rfl; exact rfl; exact rfl; exact rfl; exact rfl; kernel_rfl; exact rfl; clear hs; intro w hs)
    | (refine wrap hs ?_; clear hs; intro w hs)
    | (refine wrapn hs ?_; clear hs; intro w hs)
    | (refine wrapd hs ?_; clear hs; intro w hs))
        go_ret
        rw [HE.out]
        have hs := hs.b1.drop
        rw [show [Value.int .i32 65533].length + (runes l).length = 1 + l.length from by rw [List.length_map]; rfl] at hs
        exact br_mk (l := bad :: l) (by rw [List.length_cons]; omega) hs
    · have mo : bits .or .i32 (r * 64) (x % 64) = r * 64 + x % 64 := i32_or6 (x := r * 64) (y := x % 64) (by omega) (by omega) (by omega) (by omega) (by omega)
      have m6 : bits .and .u8 x 63 = x % 64 := mask 6 x 63 rfl (by decide) (by decide) h0 h1
      have h3 : decide (x < f) = false := decide_eq_false (by omega)
      have h4 : decide (t < x) = false := decide_eq_false (by omega)
      by_cases hm : 0 < lf - 1
      · have HE : Hid (feed ⟨o, lf, r, f, t⟩ x = (⟨o + 1, lf - 1, r * 64 + x % 64, 128, 191⟩, [])) := Lib.hid (by unfold feed; rw [if_neg hz, if_neg hr, if_pos hm])
        clear hf hr HF hl
        as_aux_lemma =>
        go_enter Try.func16, Try.ntmps16
        go_wp2_with (first
    | (apply ld hs.b0; exact rfl; exact rfl; exact rfl; exact rfl; kernel_rfl)
    | (apply st hs.b0; exact rfl; exact rfl; exact rfl; exact rfl; exact rfl; exact rfl; kernel_rfl; exact rfl; clear hs; intro w hs)
    | (apply stc hs.b0; exact rfl; exact rfl; exact rfl; exact rfl; exact rfl; kernel_rfl; exact rfl; clear hs; intro w hs)
    | (refine wrap hs ?_; clear hs; intro w hs)
    | (refine wrapn hs ?_; clear hs; intro w hs)
    | (refine wrapd hs ?_; clear hs; intro w hs))
        have c0 : w.cell? ⟨b, 0, none⟩ = some (.int .i64 o) := hs.cel_cell rfl
        have c1 : w.cell? ⟨b, 1, none⟩ = some (.int .i64 lf) := hs.cel_cell rfl
        have c3 : w.cell? ⟨b, 3, none⟩ = some (.int .u8 f) := hs.cel_cell rfl
        have c4 : w.cell? ⟨b, 4, none⟩ = some (.int .u8 t) := hs.cel_cell rfl
        have fz : w.frozen? ⟨b, 0, none⟩ = false ∧ w.frozen? ⟨b, 1, none⟩ = false ∧ w.frozen? ⟨b, 3, none⟩ = false ∧ w.frozen? ⟨b, 4, none⟩ = false := by
          unfold cel at hs; exact ⟨hs.frozen, hs.frozen, hs.frozen, hs.frozen⟩
        obtain ⟨z0, z1, z3, z4⟩ := fz
        go_region
        have hs := ((((hs.cel_set (i := 0) (.int .i64 (o + 1))).cel_set (i := 1) (.int .i64 (lf - 1))).cel_set (i := 3) (.int .u8 128)).cel_set (i := 4) (.int .u8 191)).drew
        generalize World.drew _ = w2 at hs ⊢
        go_wp2_with (first
    | (apply ld hs.b0; exact rfl; exact rfl; exact rfl; exact rfl; kernel_rfl)
    | (apply st hs.b0; exact rfl; exact rfl; exact rfl; exact rfl; exact rfl; exact rfl; kernel_rfl; exact rfl; clear hs; intro w hs)
    | (apply stc hs.b0; exact rfl; exact rfl; exact rfl; exact rfl; exact rfl; kernel_rfl; exact rfl; clear hs; intro w hs)
    | (refine wrap hs ?_; clear hs; intro w hs)
    | (refine wrapn hs ?_; clear hs; intro w hs)
    | (refine wrapd hs ?_; clear hs; intro w hs))
        go_ret
        rw [HE.out]; exact br_nil hs
      · have HE : Hid (feed ⟨o, lf, r, f, t⟩ x = (⟨0, lf - 1, r * 64 + x % 64, 128, 191⟩, [r * 64 + x % 64])) := Lib.hid (by unfold feed; rw [if_neg hz, if_neg hr, if_neg hm])
        clear hf hr HF hl
        as_aux_lemma =>
        go_enter Try.func16, Try.ntmps16
        go_wp2_with (first
    | (apply ld hs.b0; exact rfl; exact rfl; exact rfl; exact rfl; kernel_rfl)
    | (apply st hs.b0; exact rfl; exact rfl; exact rfl; exact rfl; exact rfl; exact rfl; kernel_rfl; exact rfl; clear hs; intro w hs)
    | (apply stc hs.b0; exact rfl; exact rfl; exact rfl; exact rfl; exact rfl; kernel_rfl; exact rfl; clear hs; intro w hs)
    | (refine wrap hs ?_; clear hs; intro w hs)
    | (refine wrapn hs ?_; clear hs; intro w hs)
    | (refine wrapd hs ?_; clear hs; intro w hs))
        have c0 : w.cell? ⟨b, 0, none⟩ = some (.int .i64 o) := hs.cel_cell rfl
        have c1 : w.cell? ⟨b, 1, none⟩ = some (.int .i64 lf) := hs.cel_cell rfl
        have c3 : w.cell? ⟨b, 3, none⟩ = some (.int .u8 f) := hs.cel_cell rfl
        have c4 : w.cell? ⟨b, 4, none⟩ = some (.int .u8 t) := hs.cel_cell rfl
        have fz : w.frozen? ⟨b, 0, none⟩ = false ∧ w.frozen? ⟨b, 1, none⟩ = false ∧ w.frozen? ⟨b, 3, none⟩ = false ∧ w.frozen? ⟨b, 4, none⟩ = false := by
          unfold cel at hs; exact ⟨hs.frozen, hs.frozen, hs.frozen, hs.frozen⟩
        obtain ⟨z0, z1, z3, z4⟩ := fz
        go_region
        have hs := ((((hs.cel_set (i := 0) (.int .i64 (o + 1))).cel_set (i := 1) (.int .i64 (lf - 1))).cel_set (i := 3) (.int .u8 128)).cel_set (i := 4) (.int .u8 191)).drew
        generalize World.drew _ = w2 at hs ⊢
        go_wp2_with (first
    | (apply ld hs.b0; exact rfl; exact rfl; exact rfl; exact rfl; kernel_rfl)
    | (apply st hs.b0; exact rfl; exact rfl; exact rfl; exact rfl; exact rfl; exact rfl; kernel_rfl; exact rfl; clear hs; intro w hs)
    | (apply stc hs.b0; exact rfl; exact rfl; exact rfl; exact rfl; exact rfl; kernel_rfl; exact rfl; clear hs; intro w hs)
    | (refine wrap hs ?_; clear hs; intro w hs)
    | (refine wrapn hs ?_; clear hs; intro w hs)
    | (refine wrapd hs ?_; clear hs; intro w hs))
        go_ret
        rw [HE.out]; exact br_one rfl hs.made
end Go.Proofs.Ytaajgkccannjlaa
