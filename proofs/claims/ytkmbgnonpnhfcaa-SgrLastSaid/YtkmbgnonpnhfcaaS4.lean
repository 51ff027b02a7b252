import Derived.Test.YtkmbgnonpnhfcaaS3
namespace Go.Proofs.Ytkmbgnonpnhfcaa
open Go.RowKit Go.Mem Go.Sgr
variable {W w : World} {H : List HProp}
abbrev ints (l : List Int) : List Value := l.map (Value.int .i64)
def fc (l : List Int) : Int := match follows l with | none => 0 | some (c, _) => c
def fk (l : List Int) : Int := match follows l with | none => -1 | some (_, k) => k
theorem reads_i64 {l : List Int} {w : World} {ad : Option Addr} {n c : Nat} (h : Reads w (.slice ad n c) (ints l)) : n = l.length ∧ l.length ≤ maxLen ∧ (0 < l.length → ∃ b off, ad = some ⟨b, off, none⟩ ∧ ∀ i x, l[i]? = some x → w.cell? ⟨b, off + i, none⟩ = some (.int .i64 x)) := by
  obtain ⟨h0, a1, c1, e, h1⟩ := h
  cases e
  rw [List.length_map] at *
  refine ⟨rfl, h0, fun hl => ?_⟩
  obtain ⟨b, off, e, h2⟩ := h1 (by intro e; cases l with | nil => simp at hl | cons => simp at e)
  exact ⟨b, off, e, fun i x hx => h2 i _ (by simp [hx])⟩
theorem reads_drop {l : List Int} {w : World} {b off n c c' k : Nat} (h : Reads w (.slice (some ⟨b, off, none⟩) n c) (ints l)) (hk : k ≤ l.length) : Reads w (.slice (some ⟨b, off + k, none⟩) (l.length - k) c') (ints (l.drop k)) := by
  obtain ⟨_, hl, hc⟩ := reads_i64 h
  refine ⟨by rw [List.length_map, List.length_drop]; omega, some ⟨b, off + k, none⟩, c', by rw [List.length_map, List.length_drop], fun hne => ⟨b, off + k, rfl, fun i u hu => ?_⟩⟩
  have hpos : 0 < l.length := by
    cases l with
    | nil => simp at hne
    | cons => simp
  obtain ⟨b2, off2, e, h2⟩ := hc hpos
  cases e
  rw [List.getElem?_map, List.getElem?_drop] at hu
  cases hx : l[k + i]? with
  | none => rw [hx] at hu; cases hu
  | some x =>
    rw [hx] at hu
    cases hu
    rw [Nat.add_assoc]; exact h2 _ _ hx
def LD (w : World) (b off : Nat) (x : Int) : Prop := w.cell? ⟨b, off, none⟩ = some (.int .i64 x)
attribute [local irreducible] World.setCell World.alloc World.drew World.drewN Calls sat cel own blk old wpQuiet flj no
set_option maxHeartbeats 1000000 in
theorem follows16 (l : List Int) (a : Option Addr) (n cp : Nat) (w : World) (hr : Reads w (.slice a n cp) (ints l)) (hn : n ≤ cp) (hcp : cp ≤ maxLen) : Calls Try.prog 16 #[.slice a n cp] w fun e w' => e = .returned (.tuple #[.int .u32 (fc l), .int .i64 (fk l)]) ∧ w' = w := by
  obtain ⟨rfl, hmax, hc⟩ := reads_i64 hr
  unfold maxLen at hmax hcp
  clear hr
  rcases l with _ | ⟨k, _ | ⟨x, t⟩⟩
  · go_enter Try.func16, Try.ntmps16
    go_wp2
    refine end_ret rfl (results_tmp2 rfl _ _ _) ?_
    exact ⟨rfl, rfl⟩
  · have f1 : decide ((1 : Int) ≥ 2) = false := by decide
    go_enter Try.func16, Try.ntmps16
    go_wp2
    refine end_ret rfl (results_tmp2 rfl _ _ _) ?_
    exact ⟨rfl, rfl⟩
  · obtain ⟨b, off, ea, HC⟩ := hc (by simp)
    clear hc
    subst ea
    have c0 := Lib.hid (HC 0 k rfl)
    have c1 := Lib.hid (HC 1 x rfl)
    simp only [Nat.add_zero] at c0
    simp only [List.length_cons] at hn hmax
    have HF : Hid (∀ p, follows (k :: x :: t) = p → fc (k :: x :: t) = (match p with | none => 0 | some (c, _) => c) ∧ fk (k :: x :: t) = (match p with | none => -1 | some (_, k) => (k : Int))) := Lib.hid (by rintro p rfl; exact ⟨rfl, rfl⟩)
    generalize fc (k :: x :: t) = rc at *
    generalize fk (k :: x :: t) = rk at *
    by_cases h5 : k = 5
    · subst h5
      by_cases hb : b255 x
      · obtain ⟨e1, e2⟩ := HF.out _ (follows_5 x t)
        rw [if_pos hb] at e1
        have E1 := Lib.hid e1; have E2 := Lib.hid e2; clear e1 e2 HF
        obtain ⟨h1, h2⟩ := hb
        go_enter Try.func16, Try.ntmps16
        go_wp2_with (first | (apply ldc; exact rfl; exact rfl; exact rfl; (first | exact c0.out | exact c1.out); kernel_rfl) | ((with_reducible refine isl ?_); first | ((with_reducible refine wrap hs ?_); clear hs; intro w hs) | ((with_reducible refine wrapn hs ?_); clear hs; intro w hs) | ((with_reducible refine wrapd hs ?_); clear hs; intro w hs)))
        refine end_ret rfl (results_tmp2 rfl _ _ _) ?_
        exact ⟨by rw [E1.out, E2.out]; rfl, rfl⟩
      · obtain ⟨e1, e2⟩ := HF.out _ (follows_5 x t)
        rw [if_neg hb] at e1
        have E1 := Lib.hid e1; have E2 := Lib.hid e2; clear e1 e2 HF
        have hb2 : x < 0 ∨ (0 ≤ x ∧ 255 < x) := by unfold b255 at hb; omega
        rcases hb2 with hb2 | ⟨hb2, hb3⟩
        all_goals
          go_enter Try.func16, Try.ntmps16
          go_wp2_with (first | (apply ldc; exact rfl; exact rfl; exact rfl; (first | exact c0.out | exact c1.out); kernel_rfl) | ((with_reducible refine isl ?_); first | ((with_reducible refine wrap hs ?_); clear hs; intro w hs) | ((with_reducible refine wrapn hs ?_); clear hs; intro w hs) | ((with_reducible refine wrapd hs ?_); clear hs; intro w hs)))
          refine end_ret rfl (results_tmp2 rfl _ _ _) ?_
          exact ⟨by rw [E1.out, E2.out]; rfl, rfl⟩
    · have f5 := beq_no h5
      by_cases h2 : k = 2
      · subst h2
        rcases t with _ | ⟨g, _ | ⟨bl, t⟩⟩
        · obtain ⟨e1, e2⟩ := HF.out none rfl
          have E1 := Lib.hid e1; have E2 := Lib.hid e2; clear e1 e2 HF
          go_enter Try.func16, Try.ntmps16
          go_wp2_with (first | (apply ldc; exact rfl; exact rfl; exact rfl; (first | exact c0.out | exact c1.out); kernel_rfl) | ((with_reducible refine isl ?_); first | ((with_reducible refine wrap hs ?_); clear hs; intro w hs) | ((with_reducible refine wrapn hs ?_); clear hs; intro w hs) | ((with_reducible refine wrapd hs ?_); clear hs; intro w hs)))
          refine end_ret rfl (results_tmp2 rfl _ _ _) ?_
          exact ⟨by rw [E1.out, E2.out]; rfl, rfl⟩
        · obtain ⟨e1, e2⟩ := HF.out none rfl
          have E1 := Lib.hid e1; have E2 := Lib.hid e2; clear e1 e2 HF
          go_enter Try.func16, Try.ntmps16
          go_wp2_with (first | (apply ldc; exact rfl; exact rfl; exact rfl; (first | exact c0.out | exact c1.out); kernel_rfl) | ((with_reducible refine isl ?_); first | ((with_reducible refine wrap hs ?_); clear hs; intro w hs) | ((with_reducible refine wrapn hs ?_); clear hs; intro w hs) | ((with_reducible refine wrapd hs ?_); clear hs; intro w hs)))
          refine end_ret rfl (results_tmp2 rfl _ _ _) ?_
          exact ⟨by rw [E1.out, E2.out]; rfl, rfl⟩
        · simp only [List.length_cons] at hn hmax
          have c2 := Lib.hid (HC 2 g rfl)
          have c3 := Lib.hid (HC 3 bl rfl)
          have c2' : Hid (w.cell? ⟨b, off + 1 + 1, none⟩ = some (.int .i64 g)) := c2
          have c3' : Hid (w.cell? ⟨b, off + 1 + 2, none⟩ = some (.int .i64 bl)) := c3
          clear c2 c3
          obtain ⟨e1, e2⟩ := HF.out _ (follows_2 x g bl t)
          have E1 := Lib.hid e1; have E2 := Lib.hid e2; clear e1 e2 HF
          go_enter Try.func16, Try.ntmps16
          go_wp2_with (first | (apply ldc; exact rfl; exact rfl; exact rfl; (first | exact c0.out | exact c1.out); kernel_rfl) | ((with_reducible refine isl ?_); first | ((with_reducible refine wrap hs ?_); clear hs; intro w hs) | ((with_reducible refine wrapn hs ?_); clear hs; intro w hs) | ((with_reducible refine wrapd hs ?_); clear hs; intro w hs)))
          go_loopw [5, 6, 7, 43] (fun cv _ _ iv wr => ∃ (j : Nat) (c : Int), iv = .int .i64 j ∧ cv = .int .u32 c ∧ wr = w ∧ ((j = 0 ∧ c = 16777216) ∨ (j = 1 ∧ b255 x ∧ c = 16777216 + x * 65536) ∨ (j = 2 ∧ b255 x ∧ b255 g ∧ c = 16777216 + x * 65536 + g * 256) ∨ (j = 3 ∧ b255 x ∧ b255 g ∧ b255 bl ∧ c = 16777216 + x * 65536 + g * 256 + bl))) (fun _ _ _ i _ => 3 - (intOf i).toNat)
          case atStart => exact ⟨0, _, rfl, rfl, rfl, .inl ⟨rfl, rfl⟩⟩
          case round =>
            obtain ⟨j, c, rfl, rfl, rfl, hj⟩ := hrel
            rcases hj with ⟨rfl, rfl⟩ | ⟨rfl, b1, rfl⟩ | ⟨rfl, b1, b2, rfl⟩ | ⟨rfl, b1, b2, b3, rfl⟩
            · by_cases hb : b255 x
              · have HB := Lib.hid hb
                skip
                unfold b255 at hb
                go_wp2_with (first | (apply ldc; exact rfl; exact rfl; exact rfl; exact c1.out; kernel_rfl) | ((with_reducible refine isl ?_); first | ((with_reducible refine wrap hs ?_); clear hs; intro w hs) | ((with_reducible refine wrapn hs ?_); clear hs; intro w hs) | ((with_reducible refine wrapd hs ?_); clear hs; intro w hs)))
                go_roundw
                case rel => exact ⟨1, _, rfl, rfl, by trivial, (.inr (.inl ⟨rfl, HB.out, by first | rfl | omega⟩))⟩
                case measure => simp [intOf]
              · have hb2 : x < 0 ∨ (0 ≤ x ∧ 255 < x) := by unfold b255 at hb; omega
                have HE : Hid (rc = 0) := Lib.hid (by rw [E1.out, if_neg]; intro hh; exact hb (by first | exact hh.1 | exact hh.2.1 | exact hh.2.2))
                skip
                rcases hb2 with hb2 | ⟨hb2, hb3⟩
                all_goals
                  go_wp2_with (first | (apply ldc; exact rfl; exact rfl; exact rfl; exact c1.out; kernel_rfl) | ((with_reducible refine isl ?_); first | ((with_reducible refine wrap hs ?_); clear hs; intro w hs) | ((with_reducible refine wrapn hs ?_); clear hs; intro w hs) | ((with_reducible refine wrapd hs ?_); clear hs; intro w hs)))
                  refine end_ret rfl (results_tmp2 rfl _ _ _) ?_
                  exact ⟨by rw [HE.out, E2.out]; rfl, rfl⟩
            · by_cases hb : b255 g
              · have HB := Lib.hid hb
                have B1 := Lib.hid b1; unfold b255 at b1
                unfold b255 at hb
                go_wp2_with (first | (apply ldc; exact rfl; exact rfl; exact rfl; exact c2'.out; kernel_rfl) | ((with_reducible refine isl ?_); first | ((with_reducible refine wrap hs ?_); clear hs; intro w hs) | ((with_reducible refine wrapn hs ?_); clear hs; intro w hs) | ((with_reducible refine wrapd hs ?_); clear hs; intro w hs)))
                go_roundw
                case rel => exact ⟨2, _, rfl, rfl, by trivial, (.inr (.inr (.inl ⟨rfl, B1.out, HB.out, by first | rfl | omega⟩)))⟩
                case measure => simp [intOf]
              · have hb2 : g < 0 ∨ (0 ≤ g ∧ 255 < g) := by unfold b255 at hb; omega
                have HE : Hid (rc = 0) := Lib.hid (by rw [E1.out, if_neg]; intro hh; exact hb (by first | exact hh.1 | exact hh.2.1 | exact hh.2.2))
                unfold b255 at b1
                rcases hb2 with hb2 | ⟨hb2, hb3⟩
                all_goals
                  go_wp2_with (first | (apply ldc; exact rfl; exact rfl; exact rfl; exact c2'.out; kernel_rfl) | ((with_reducible refine isl ?_); first | ((with_reducible refine wrap hs ?_); clear hs; intro w hs) | ((with_reducible refine wrapn hs ?_); clear hs; intro w hs) | ((with_reducible refine wrapd hs ?_); clear hs; intro w hs)))
                  refine end_ret rfl (results_tmp2 rfl _ _ _) ?_
                  exact ⟨by rw [HE.out, E2.out]; rfl, rfl⟩
            · by_cases hb : b255 bl
              · have HB := Lib.hid hb
                have B1 := Lib.hid b1; unfold b255 at b1; have B2 := Lib.hid b2; unfold b255 at b2
                unfold b255 at hb
                go_wp2_with (first | (apply ldc; exact rfl; exact rfl; exact rfl; exact c3'.out; kernel_rfl) | ((with_reducible refine isl ?_); first | ((with_reducible refine wrap hs ?_); clear hs; intro w hs) | ((with_reducible refine wrapn hs ?_); clear hs; intro w hs) | ((with_reducible refine wrapd hs ?_); clear hs; intro w hs)))
                go_roundw
                case rel => exact ⟨3, _, rfl, rfl, by trivial, (.inr (.inr (.inr ⟨rfl, B1.out, B2.out, HB.out, by first | rfl | omega⟩)))⟩
                case measure => simp [intOf]
              · have hb2 : bl < 0 ∨ (0 ≤ bl ∧ 255 < bl) := by unfold b255 at hb; omega
                have HE : Hid (rc = 0) := Lib.hid (by rw [E1.out, if_neg]; intro hh; exact hb (by first | exact hh.1 | exact hh.2.1 | exact hh.2.2))
                unfold b255 at b1; unfold b255 at b2
                rcases hb2 with hb2 | ⟨hb2, hb3⟩
                all_goals
                  go_wp2_with (first | (apply ldc; exact rfl; exact rfl; exact rfl; exact c3'.out; kernel_rfl) | ((with_reducible refine isl ?_); first | ((with_reducible refine wrap hs ?_); clear hs; intro w hs) | ((with_reducible refine wrapn hs ?_); clear hs; intro w hs) | ((with_reducible refine wrapd hs ?_); clear hs; intro w hs)))
                  refine end_ret rfl (results_tmp2 rfl _ _ _) ?_
                  exact ⟨by rw [HE.out, E2.out]; rfl, rfl⟩
            · have HE := Lib.hid (E1.out.trans (if_pos ⟨b1, b2, b3⟩))
              go_wp2_with (first | ((with_reducible refine isl ?_); first | ((with_reducible refine wrap hs ?_); clear hs; intro w hs) | ((with_reducible refine wrapn hs ?_); clear hs; intro w hs) | ((with_reducible refine wrapd hs ?_); clear hs; intro w hs)))
              refine end_ret rfl (results_tmp2 rfl _ _ _) ?_
              exact ⟨by rw [HE.out, E2.out]; rfl, rfl⟩
      · have f2 := beq_no h2
        have hn : follows (k :: x :: t) = none := by
          unfold follows
          simp only
          rw [if_neg h5]
          split
          · exact (h2 rfl).elim
          · rfl
        obtain ⟨e1, e2⟩ := HF.out _ hn
        have E1 := Lib.hid e1; have E2 := Lib.hid e2; clear e1 e2 HF hn
        by_cases h4 : 2 ≤ t.length
        all_goals
          go_enter Try.func16, Try.ntmps16
          go_wp2_with (first | (apply ldc; exact rfl; exact rfl; exact rfl; (first | exact c0.out | exact c1.out); kernel_rfl) | ((with_reducible refine isl ?_); first | ((with_reducible refine wrap hs ?_); clear hs; intro w hs) | ((with_reducible refine wrapn hs ?_); clear hs; intro w hs) | ((with_reducible refine wrapd hs ?_); clear hs; intro w hs)))
          refine end_ret rfl (results_tmp2 rfl _ _ _) ?_
          exact ⟨by rw [E1.out, E2.out]; rfl, rfl⟩
end Go.Proofs.Ytkmbgnonpnhfcaa
