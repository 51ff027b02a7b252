import Derived.Test.YtppdggcefnlncaaF5
import Derived.Deep.Cut
import Derived.Deep.CutRange
import Derived.Deep.DeepCutAuto
namespace Go.Proofs.Ytppdggcefnlncaa
open Go.RowKit Go.Mem Go.Front
variable {W w : World} {H : List HProp}
abbrev kE (k : Int) : Ev := ⟨k, 0, 0, 0, false, 0, false, false, false, false⟩
abbrev freshE : Ev := ⟨3, 0, 0, 0, false, 0, false, false, true, false⟩
theorem feed_t {s s' : St} {e : Ev} {echo : Bool} {k : Int} (h : feed s e echo = (s', k)) (hw : wfE e) (b : Nat) (hs : sat W (cel b 39 (stL s) :: H) w) : Calls Try.prog 9 #[.pointer (some ⟨b, 0, none⟩), evV e, .bool echo] w fun e' w' => e' = .returned (.int .u8 k) ∧ sat W (cel b 39 (stL s') :: H) w' := by
  have := feed9 s e echo hw b hs
  rwa [h] at this
theorem on_t {off on : Bool} {last : Int} (h : (!off) = on) (b : Nat) (hs : sat W (cel b 39 (stL ⟨off, last⟩) :: H) w) : Calls Try.prog 8 #[.pointer (some ⟨b, 0, none⟩)] w fun e' w' => e' = .returned (.bool on) ∧ sat W (cel b 39 (stL ⟨off, last⟩) :: H) w' := by
  have := on8 ⟨off, last⟩ b hs
  rwa [show (!(St.mk off last).off) = on from h] at this
theorem k1 : feed new (putE true) false = (⟨false, 2⟩, 2) := rfl
theorem k2 : feed ⟨false, 2⟩ (putE false) false = (⟨true, 3⟩, 3) := rfl
theorem k3 : feed ⟨true, 3⟩ (putE true) false = (⟨true, 3⟩, 3) := rfl
theorem k4 : feed ⟨true, 3⟩ freshE false = (⟨false, 3⟩, 0) := rfl
theorem k5 : feed ⟨false, 3⟩ (putE true) false = (⟨false, 2⟩, 2) := rfl
theorem wp (b : Bool) : wfE (putE b) := (show (0 : Int) ≤ 1 ∧ (1 : Int) < 256 from ⟨by decide, by decide⟩)
theorem wfr : wfE freshE := ⟨by decide, by decide⟩
theorem wk {k : Int} (h : 0 ≤ k) (h' : k < 256) : wfE (kE k) := ⟨h, h'⟩
attribute [local irreducible] World.setCell World.setCells World.alloc World.drew World.drewN Calls sat cel own blk old wpQuiet wpList World.rangeAt
set_option maxHeartbeats 1000000 in
theorem known6 (hs : sat W H w) : Calls Try.prog 6 #[] w fun e w' => e = .returned (.bool true) ∧ sat W H w' := by
  go_enter Try.func6, Try.ntmps6
  go_wp2_with (first | (go_at_call 7; refine (new7 hs).mono ?_; clear hs; rintro e w ⟨zf, rfl, hs⟩) | (go_at_call 13; refine (put13 _ hs).mono ?_; clear hs; rintro e w ⟨rfl, hs⟩) | (go_at_call 9; refine (feed_t k1 (wp _) zf hs).mono ?_; clear hs; rintro e w ⟨rfl, hs⟩) | (go_at_call 9; refine (feed_t k2 (wp _) zf hs).mono ?_; clear hs; rintro e w ⟨rfl, hs⟩) | (go_at_call 9; refine (feed_t k3 (wp _) zf hs).mono ?_; clear hs; rintro e w ⟨rfl, hs⟩) | (go_at_call 9; refine (feed_t k4 wfr zf hs).mono ?_; clear hs; rintro e w ⟨rfl, hs⟩) | (go_at_call 9; refine (feed_t k5 (wp _) zf hs).mono ?_; clear hs; rintro e w ⟨rfl, hs⟩) | (go_at_call 8; refine (on_t rfl zf hs).mono ?_; clear hs; rintro e w ⟨rfl, hs⟩) | ((with_reducible refine isl ?_); first | ((with_reducible apply ld hs.b0); exact rfl; exact rfl; exact rfl; exact rfl; kernel_rfl) | ((with_reducible apply ld hs.b1); exact rfl; exact rfl; exact rfl; exact rfl; kernel_rfl) | ((with_reducible apply st hs.b0); exact rfl; exact rfl; exact rfl; exact rfl; exact rfl; exact rfl; kernel_rfl; exact rfl; clear hs; intro w hs) | ((with_reducible apply st hs.b1); exact rfl; exact rfl; exact rfl; exact rfl; exact rfl; exact rfl; kernel_rfl; exact rfl; clear hs; intro w hs) | ((with_reducible apply stc hs.b0); exact rfl; exact rfl; exact rfl; exact rfl; exact rfl; kernel_rfl; exact rfl; clear hs; intro w hs) | ((with_reducible apply stc hs.b1); exact rfl; exact rfl; exact rfl; exact rfl; exact rfl; kernel_rfl; exact rfl; clear hs; intro w hs) | ((with_reducible refine wrap hs ?_); clear hs; intro w hs) | ((with_reducible refine wrapn hs ?_); clear hs; intro w hs) | ((with_reducible refine wrapd hs ?_); clear hs; intro w hs)))
  go_ret
  exact ⟨rfl, hs.drop⟩
theorem appends_guard (a : Option Addr) (n c : Nat) (v : Value) (h : 300 < n) (hc : n ≤ maxLen) (hs : sat W H w) : Calls Try.prog 3 #[.slice a n c, v] w fun e w' => e = .returned (.bool true) ∧ sat W H w' := by
  unfold maxLen at hc
  go_enter Try.func3, Try.ntmps3
  go_wp2_with (first | (go_at_call 6; refine (known6 hs).mono ?_; clear hs; rintro e w ⟨rfl, hs⟩) | ((with_reducible refine isl ?_); first | ((with_reducible refine wrap hs ?_); clear hs; intro w hs) | ((with_reducible refine wrapn hs ?_); clear hs; intro w hs) | ((with_reducible refine wrapd hs ?_); clear hs; intro w hs)))
  go_ret
  exact ⟨rfl, hs⟩
def Bd (s : St) : Prop := 0 ≤ s.last ∧ s.last ≤ 3
set_option maxRecDepth 4000 in
set_option maxHeartbeats 10000000 in
theorem appends_walk (l : List Ev) (m : List Bool) (w0 : World) (a : Option Addr) (n c : Nat) (b2 : Option Addr) (n2 c2 : Nat) (hl : SR 10 W (old w0 :: H) a n c (l.map evL)) (hm : SR 1 W (old w0 :: H) b2 n2 c2 (m.map fun b => [.bool b])) (hok : ∀ e ∈ l, wfE e) (hg : n ≤ 300) (hs : sat W (old w0 :: H) w) : Calls Try.prog 3 #[.slice a n c, .slice b2 n2 c2] w fun e w' => e = .returned (.bool true) ∧ sat W (old w0 :: H) w' := by
  have HL := Lib.hid hl
  have HM := Lib.hid hm
  have HOK := Lib.hid hok
  have hn2 : n2 ≤ maxLen := Nat.le_trans hm.2.1 hm.2.2.1
  unfold maxLen at hn2
  clear hl hm hok
  go_enter Try.func3, Try.ntmps3
  go_wp2_with (first | (go_at_call 7; refine (new7 hs).mono ?_; clear hs; rintro e w ⟨zf, rfl, hs⟩) | ((with_reducible refine isl ?_); first | ((with_reducible refine wrap hs ?_); clear hs; intro w hs) | ((with_reducible refine wrapn hs ?_); clear hs; intro w hs) | ((with_reducible refine wrapd hs ?_); clear hs; intro w hs)))
  go_loopw [6, 7, 8, 9, 10, 18] (fun _ _ _ _ _ i wr => ∃ (j : Nat) (s : St), j ≤ n ∧ i = .int .i64 (j : Int) ∧ Hid (Bd s) ∧ sat W (cel zf 39 (stL s) :: old w0 :: H) wr) (fun _ _ _ _ _ i _ => ((n : Int) - intOf i).toNat)
  case atStart => exact ⟨0, new, Nat.zero_le _, rfl, Lib.hid ⟨by decide, by decide⟩, hs⟩
  case round =>
    clear hs
    obtain ⟨j, ⟨off, last⟩, hj, rfl, HB, hs⟩ := hrel
    by_cases hjn : j < n
    · obtain ⟨e, he, b, o, rfl, hc⟩ := HL.out.getm hs.drop hjn
      have HC := Lib.hid hc
      have HW := Lib.hid (HOK.out e (List.mem_of_getElem? he))
      clear hc he
      obtain ⟨ec, hec⟩ : ∃ ec : Bool, (j < n2 → ∃ b o, b2 = some ⟨b, o, none⟩ ∧ ∀ w', sat W (old w0 :: H) w' → w'.cell? ⟨b, o + j, none⟩ = some (.bool ec)) ∧ (¬ j < n2 → ec = false) := by
        by_cases h : j < n2
        · obtain ⟨x, _, b, o, e, h2⟩ := HM.out.getb hs.drop h
          exact ⟨x, fun _ => ⟨b, o, e, h2⟩, fun h' => absurd h h'⟩
        · exact ⟨false, fun h' => absurd h' h, fun _ => rfl⟩
      obtain ⟨k, i0, i1, i2, wd, rr, bl, la, fr, wr'⟩ := e
      go_upto_region 7 with (first | (apply ldsc; exact rfl; exact rfl; exact rfl; exact HC.out _ (by (first | exact hs.dropN 0 | exact hs.dropN 1 | exact hs.dropN 2 | exact hs.dropN 3 | exact hs.dropN 4 | exact hs.dropN 5 | exact hs.dropN 6 | exact hs.dropN 7 | exact hs.dropN 8 | exact hs.dropN 9 | exact hs.dropN 10 | exact hs.dropN 11 | exact hs.dropN 12 | exact hs.dropN 13 | exact hs.dropN 14 | exact hs.dropN 15)); exact row29) | ((with_reducible refine isl ?_); first | ((with_reducible apply stsw hs); exact rfl; exact rfl; exact rfl; exact rfl; exact row29; exact rfl; exact rfl; exact rfl; clear hs; intro w hs) | ((with_reducible refine wrap hs ?_); clear hs; generalize wr.heap.size = z7; intro w hs) | ((with_reducible apply ld hs.b0); exact rfl; exact rfl; exact rfl; exact rfl; kernel_rfl) | ((with_reducible apply st hs.b0); exact rfl; exact rfl; exact rfl; exact rfl; exact rfl; exact rfl; kernel_rfl; exact rfl; clear hs; intro w hs) | ((with_reducible apply stc hs.b0); exact rfl; exact rfl; exact rfl; exact rfl; exact rfl; kernel_rfl; exact rfl; clear hs; intro w hs) | ((with_reducible refine wrap hs ?_); clear hs; intro w hs) | ((with_reducible refine wrapn hs ?_); clear hs; intro w hs) | ((with_reducible refine wrapd hs ?_); clear hs; intro w hs)))
      (try simp only [Act.put, List.setIfInBounds_toArray, List.set_cons_succ, List.set_cons_zero])
      go_cut [8] from 23 to 117 (fun s8 wx => s8 = .bool ec ∧ sat W (cel z7 29 (evL ⟨k, i0, i1, i2, wd, rr, bl, la, fr, wr'⟩) :: cel zf 39 (stL ⟨off, last⟩) :: old w0 :: H) wx)
      case first =>
        by_cases hj2 : j < n2
        · obtain ⟨b, o, rfl, hb⟩ := hec.1 hj2
          have HE := Lib.hid hb
          clear hb hec
          go_wp2_with (first | (apply ldc; exact rfl; exact rfl; exact rfl; exact HE.out _ (by (first | exact hs.dropN 0 | exact hs.dropN 1 | exact hs.dropN 2 | exact hs.dropN 3 | exact hs.dropN 4 | exact hs.dropN 5 | exact hs.dropN 6 | exact hs.dropN 7 | exact hs.dropN 8 | exact hs.dropN 9 | exact hs.dropN 10 | exact hs.dropN 11 | exact hs.dropN 12 | exact hs.dropN 13 | exact hs.dropN 14 | exact hs.dropN 15)); kernel_rfl) | ((with_reducible refine isl ?_); first | ((with_reducible refine wrap hs ?_); clear hs; intro w hs) | ((with_reducible refine wrapn hs ?_); clear hs; intro w hs) | ((with_reducible refine wrapd hs ?_); clear hs; intro w hs)))
          go_meet
          case rel => exact ⟨rfl, hs⟩
        · have := hec.2 hj2
          subst this
          clear hec
          go_wp2_with (first | ((with_reducible refine isl ?_); first | ((with_reducible refine wrap hs ?_); clear hs; intro w hs) | ((with_reducible refine wrapn hs ?_); clear hs; intro w hs) | ((with_reducible refine wrapd hs ?_); clear hs; intro w hs)))
          go_meet
          case rel => exact ⟨rfl, hs⟩
      case rest =>
        clear hs hec
        obtain ⟨rfl, hs⟩ := hcut
        by_cases h1 : k = 1
        · subst h1
          cases ec
          · skip
            cases off
            · skip
              cases bl
              · skip
                have HF := Lib.hid (show feed ⟨false, last⟩ ⟨1, i0, i1, i2, wd, rr, false, la, fr, wr'⟩ false = (⟨true, 3⟩, 3) from rfl)
                have HB' := Lib.hid (show Bd ⟨true, 3⟩ by have := HB.out; unfold Bd at *; simp only at *; omega)
                as_aux_lemma =>
                  go_wp2_with (first | (go_at_call 8; refine (on_t (off := false) (on := true) rfl zf hs.b1).mono ?_; clear hs; rintro e w ⟨rfl, hs⟩; replace hs := hs.b1) | (go_at_call 8; refine (on_t (off := true) (on := false) rfl zf hs.b1).mono ?_; clear hs; rintro e w ⟨rfl, hs⟩; replace hs := hs.b1) | (go_at_call 9; refine (feed_t HF.out HW.out zf hs.b1).mono ?_; clear hs; rintro e w ⟨rfl, hs⟩; replace hs := hs.b1) | ((with_reducible refine isl ?_); first | ((with_reducible apply ldsw hs); exact rfl; exact rfl; exact rfl; exact row29) | ((with_reducible apply ld hs.b0); exact rfl; exact rfl; exact rfl; exact rfl; kernel_rfl) | ((with_reducible apply ld hs.b1); exact rfl; exact rfl; exact rfl; exact rfl; kernel_rfl) | ((with_reducible apply st hs.b0); exact rfl; exact rfl; exact rfl; exact rfl; exact rfl; exact rfl; kernel_rfl; exact rfl; clear hs; intro w hs) | ((with_reducible apply st hs.b1); exact rfl; exact rfl; exact rfl; exact rfl; exact rfl; exact rfl; kernel_rfl; exact rfl; clear hs; intro w hs) | ((with_reducible apply stc hs.b0); exact rfl; exact rfl; exact rfl; exact rfl; exact rfl; kernel_rfl; exact rfl; clear hs; intro w hs) | ((with_reducible apply stc hs.b1); exact rfl; exact rfl; exact rfl; exact rfl; exact rfl; kernel_rfl; exact rfl; clear hs; intro w hs) | ((with_reducible refine wrap hs ?_); clear hs; intro w hs) | ((with_reducible refine wrapn hs ?_); clear hs; intro w hs) | ((with_reducible refine wrapd hs ?_); clear hs; intro w hs)))
                  go_roundw
                  case rel => exact ⟨j + 1, ⟨true, 3⟩, by omega, by go_num, HB', hs.drop⟩
                  case measure => simp [intOf]; omega
              · skip
                have HF := Lib.hid (show feed ⟨false, last⟩ ⟨1, i0, i1, i2, wd, rr, true, la, fr, wr'⟩ false = (⟨false, 2⟩, 2) from rfl)
                have HB' := Lib.hid (show Bd ⟨false, 2⟩ by have := HB.out; unfold Bd at *; simp only at *; omega)
                as_aux_lemma =>
                  go_wp2_with (first | (go_at_call 8; refine (on_t (off := false) (on := true) rfl zf hs.b1).mono ?_; clear hs; rintro e w ⟨rfl, hs⟩; replace hs := hs.b1) | (go_at_call 8; refine (on_t (off := true) (on := false) rfl zf hs.b1).mono ?_; clear hs; rintro e w ⟨rfl, hs⟩; replace hs := hs.b1) | (go_at_call 9; refine (feed_t HF.out HW.out zf hs.b1).mono ?_; clear hs; rintro e w ⟨rfl, hs⟩; replace hs := hs.b1) | ((with_reducible refine isl ?_); first | ((with_reducible apply ldsw hs); exact rfl; exact rfl; exact rfl; exact row29) | ((with_reducible apply ld hs.b0); exact rfl; exact rfl; exact rfl; exact rfl; kernel_rfl) | ((with_reducible apply ld hs.b1); exact rfl; exact rfl; exact rfl; exact rfl; kernel_rfl) | ((with_reducible apply st hs.b0); exact rfl; exact rfl; exact rfl; exact rfl; exact rfl; exact rfl; kernel_rfl; exact rfl; clear hs; intro w hs) | ((with_reducible apply st hs.b1); exact rfl; exact rfl; exact rfl; exact rfl; exact rfl; exact rfl; kernel_rfl; exact rfl; clear hs; intro w hs) | ((with_reducible apply stc hs.b0); exact rfl; exact rfl; exact rfl; exact rfl; exact rfl; kernel_rfl; exact rfl; clear hs; intro w hs) | ((with_reducible apply stc hs.b1); exact rfl; exact rfl; exact rfl; exact rfl; exact rfl; kernel_rfl; exact rfl; clear hs; intro w hs) | ((with_reducible refine wrap hs ?_); clear hs; intro w hs) | ((with_reducible refine wrapn hs ?_); clear hs; intro w hs) | ((with_reducible refine wrapd hs ?_); clear hs; intro w hs)))
                  go_roundw
                  case rel => exact ⟨j + 1, ⟨false, 2⟩, by omega, by go_num, HB', hs.drop⟩
                  case measure => simp [intOf]; omega
            · skip
              cases bl
              · skip
                have HF := Lib.hid (show feed ⟨true, last⟩ ⟨1, i0, i1, i2, wd, rr, false, la, fr, wr'⟩ false = (⟨true, 3⟩, 3) from rfl)
                have HB' := Lib.hid (show Bd ⟨true, 3⟩ by have := HB.out; unfold Bd at *; simp only at *; omega)
                as_aux_lemma =>
                  go_wp2_with (first | (go_at_call 8; refine (on_t (off := false) (on := true) rfl zf hs.b1).mono ?_; clear hs; rintro e w ⟨rfl, hs⟩; replace hs := hs.b1) | (go_at_call 8; refine (on_t (off := true) (on := false) rfl zf hs.b1).mono ?_; clear hs; rintro e w ⟨rfl, hs⟩; replace hs := hs.b1) | (go_at_call 9; refine (feed_t HF.out HW.out zf hs.b1).mono ?_; clear hs; rintro e w ⟨rfl, hs⟩; replace hs := hs.b1) | ((with_reducible refine isl ?_); first | ((with_reducible apply ldsw hs); exact rfl; exact rfl; exact rfl; exact row29) | ((with_reducible apply ld hs.b0); exact rfl; exact rfl; exact rfl; exact rfl; kernel_rfl) | ((with_reducible apply ld hs.b1); exact rfl; exact rfl; exact rfl; exact rfl; kernel_rfl) | ((with_reducible apply st hs.b0); exact rfl; exact rfl; exact rfl; exact rfl; exact rfl; exact rfl; kernel_rfl; exact rfl; clear hs; intro w hs) | ((with_reducible apply st hs.b1); exact rfl; exact rfl; exact rfl; exact rfl; exact rfl; exact rfl; kernel_rfl; exact rfl; clear hs; intro w hs) | ((with_reducible apply stc hs.b0); exact rfl; exact rfl; exact rfl; exact rfl; exact rfl; kernel_rfl; exact rfl; clear hs; intro w hs) | ((with_reducible apply stc hs.b1); exact rfl; exact rfl; exact rfl; exact rfl; exact rfl; kernel_rfl; exact rfl; clear hs; intro w hs) | ((with_reducible refine wrap hs ?_); clear hs; intro w hs) | ((with_reducible refine wrapn hs ?_); clear hs; intro w hs) | ((with_reducible refine wrapd hs ?_); clear hs; intro w hs)))
                  go_roundw
                  case rel => exact ⟨j + 1, ⟨true, 3⟩, by omega, by go_num, HB', hs.drop⟩
                  case measure => simp [intOf]; omega
              · skip
                have HF := Lib.hid (show feed ⟨true, last⟩ ⟨1, i0, i1, i2, wd, rr, true, la, fr, wr'⟩ false = (⟨true, 3⟩, 3) from rfl)
                have HB' := Lib.hid (show Bd ⟨true, 3⟩ by have := HB.out; unfold Bd at *; simp only at *; omega)
                as_aux_lemma =>
                  go_wp2_with (first | (go_at_call 8; refine (on_t (off := false) (on := true) rfl zf hs.b1).mono ?_; clear hs; rintro e w ⟨rfl, hs⟩; replace hs := hs.b1) | (go_at_call 8; refine (on_t (off := true) (on := false) rfl zf hs.b1).mono ?_; clear hs; rintro e w ⟨rfl, hs⟩; replace hs := hs.b1) | (go_at_call 9; refine (feed_t HF.out HW.out zf hs.b1).mono ?_; clear hs; rintro e w ⟨rfl, hs⟩; replace hs := hs.b1) | ((with_reducible refine isl ?_); first | ((with_reducible apply ldsw hs); exact rfl; exact rfl; exact rfl; exact row29) | ((with_reducible apply ld hs.b0); exact rfl; exact rfl; exact rfl; exact rfl; kernel_rfl) | ((with_reducible apply ld hs.b1); exact rfl; exact rfl; exact rfl; exact rfl; kernel_rfl) | ((with_reducible apply st hs.b0); exact rfl; exact rfl; exact rfl; exact rfl; exact rfl; exact rfl; kernel_rfl; exact rfl; clear hs; intro w hs) | ((with_reducible apply st hs.b1); exact rfl; exact rfl; exact rfl; exact rfl; exact rfl; exact rfl; kernel_rfl; exact rfl; clear hs; intro w hs) | ((with_reducible apply stc hs.b0); exact rfl; exact rfl; exact rfl; exact rfl; exact rfl; kernel_rfl; exact rfl; clear hs; intro w hs) | ((with_reducible apply stc hs.b1); exact rfl; exact rfl; exact rfl; exact rfl; exact rfl; kernel_rfl; exact rfl; clear hs; intro w hs) | ((with_reducible refine wrap hs ?_); clear hs; intro w hs) | ((with_reducible refine wrapn hs ?_); clear hs; intro w hs) | ((with_reducible refine wrapd hs ?_); clear hs; intro w hs)))
                  go_roundw
                  case rel => exact ⟨j + 1, ⟨true, 3⟩, by omega, by go_num, HB', hs.drop⟩
                  case measure => simp [intOf]; omega
          · skip
            cases off
            · skip
              cases bl
              · skip
                have HF := Lib.hid (show feed ⟨false, last⟩ ⟨1, i0, i1, i2, wd, rr, false, la, fr, wr'⟩ true = (⟨true, 1⟩, 1) from rfl)
                have HB' := Lib.hid (show Bd ⟨true, 1⟩ by have := HB.out; unfold Bd at *; simp only at *; omega)
                as_aux_lemma =>
                  go_wp2_with (first | (go_at_call 8; refine (on_t (off := false) (on := true) rfl zf hs.b1).mono ?_; clear hs; rintro e w ⟨rfl, hs⟩; replace hs := hs.b1) | (go_at_call 8; refine (on_t (off := true) (on := false) rfl zf hs.b1).mono ?_; clear hs; rintro e w ⟨rfl, hs⟩; replace hs := hs.b1) | (go_at_call 9; refine (feed_t HF.out HW.out zf hs.b1).mono ?_; clear hs; rintro e w ⟨rfl, hs⟩; replace hs := hs.b1) | ((with_reducible refine isl ?_); first | ((with_reducible apply ldsw hs); exact rfl; exact rfl; exact rfl; exact row29) | ((with_reducible apply ld hs.b0); exact rfl; exact rfl; exact rfl; exact rfl; kernel_rfl) | ((with_reducible apply ld hs.b1); exact rfl; exact rfl; exact rfl; exact rfl; kernel_rfl) | ((with_reducible apply st hs.b0); exact rfl; exact rfl; exact rfl; exact rfl; exact rfl; exact rfl; kernel_rfl; exact rfl; clear hs; intro w hs) | ((with_reducible apply st hs.b1); exact rfl; exact rfl; exact rfl; exact rfl; exact rfl; exact rfl; kernel_rfl; exact rfl; clear hs; intro w hs) | ((with_reducible apply stc hs.b0); exact rfl; exact rfl; exact rfl; exact rfl; exact rfl; kernel_rfl; exact rfl; clear hs; intro w hs) | ((with_reducible apply stc hs.b1); exact rfl; exact rfl; exact rfl; exact rfl; exact rfl; kernel_rfl; exact rfl; clear hs; intro w hs) | ((with_reducible refine wrap hs ?_); clear hs; intro w hs) | ((with_reducible refine wrapn hs ?_); clear hs; intro w hs) | ((with_reducible refine wrapd hs ?_); clear hs; intro w hs)))
                  go_roundw
                  case rel => exact ⟨j + 1, ⟨true, 1⟩, by omega, by go_num, HB', hs.drop⟩
                  case measure => simp [intOf]; omega
              · skip
                have HF := Lib.hid (show feed ⟨false, last⟩ ⟨1, i0, i1, i2, wd, rr, true, la, fr, wr'⟩ true = (⟨false, 1⟩, 1) from rfl)
                have HB' := Lib.hid (show Bd ⟨false, 1⟩ by have := HB.out; unfold Bd at *; simp only at *; omega)
                as_aux_lemma =>
                  go_wp2_with (first | (go_at_call 8; refine (on_t (off := false) (on := true) rfl zf hs.b1).mono ?_; clear hs; rintro e w ⟨rfl, hs⟩; replace hs := hs.b1) | (go_at_call 8; refine (on_t (off := true) (on := false) rfl zf hs.b1).mono ?_; clear hs; rintro e w ⟨rfl, hs⟩; replace hs := hs.b1) | (go_at_call 9; refine (feed_t HF.out HW.out zf hs.b1).mono ?_; clear hs; rintro e w ⟨rfl, hs⟩; replace hs := hs.b1) | ((with_reducible refine isl ?_); first | ((with_reducible apply ldsw hs); exact rfl; exact rfl; exact rfl; exact row29) | ((with_reducible apply ld hs.b0); exact rfl; exact rfl; exact rfl; exact rfl; kernel_rfl) | ((with_reducible apply ld hs.b1); exact rfl; exact rfl; exact rfl; exact rfl; kernel_rfl) | ((with_reducible apply st hs.b0); exact rfl; exact rfl; exact rfl; exact rfl; exact rfl; exact rfl; kernel_rfl; exact rfl; clear hs; intro w hs) | ((with_reducible apply st hs.b1); exact rfl; exact rfl; exact rfl; exact rfl; exact rfl; exact rfl; kernel_rfl; exact rfl; clear hs; intro w hs) | ((with_reducible apply stc hs.b0); exact rfl; exact rfl; exact rfl; exact rfl; exact rfl; kernel_rfl; exact rfl; clear hs; intro w hs) | ((with_reducible apply stc hs.b1); exact rfl; exact rfl; exact rfl; exact rfl; exact rfl; kernel_rfl; exact rfl; clear hs; intro w hs) | ((with_reducible refine wrap hs ?_); clear hs; intro w hs) | ((with_reducible refine wrapn hs ?_); clear hs; intro w hs) | ((with_reducible refine wrapd hs ?_); clear hs; intro w hs)))
                  go_roundw
                  case rel => exact ⟨j + 1, ⟨false, 1⟩, by omega, by go_num, HB', hs.drop⟩
                  case measure => simp [intOf]; omega
            · skip
              cases bl
              · skip
                have HF := Lib.hid (show feed ⟨true, last⟩ ⟨1, i0, i1, i2, wd, rr, false, la, fr, wr'⟩ true = (⟨true, 1⟩, 1) from rfl)
                have HB' := Lib.hid (show Bd ⟨true, 1⟩ by have := HB.out; unfold Bd at *; simp only at *; omega)
                as_aux_lemma =>
                  go_wp2_with (first | (go_at_call 8; refine (on_t (off := false) (on := true) rfl zf hs.b1).mono ?_; clear hs; rintro e w ⟨rfl, hs⟩; replace hs := hs.b1) | (go_at_call 8; refine (on_t (off := true) (on := false) rfl zf hs.b1).mono ?_; clear hs; rintro e w ⟨rfl, hs⟩; replace hs := hs.b1) | (go_at_call 9; refine (feed_t HF.out HW.out zf hs.b1).mono ?_; clear hs; rintro e w ⟨rfl, hs⟩; replace hs := hs.b1) | ((with_reducible refine isl ?_); first | ((with_reducible apply ldsw hs); exact rfl; exact rfl; exact rfl; exact row29) | ((with_reducible apply ld hs.b0); exact rfl; exact rfl; exact rfl; exact rfl; kernel_rfl) | ((with_reducible apply ld hs.b1); exact rfl; exact rfl; exact rfl; exact rfl; kernel_rfl) | ((with_reducible apply st hs.b0); exact rfl; exact rfl; exact rfl; exact rfl; exact rfl; exact rfl; kernel_rfl; exact rfl; clear hs; intro w hs) | ((with_reducible apply st hs.b1); exact rfl; exact rfl; exact rfl; exact rfl; exact rfl; exact rfl; kernel_rfl; exact rfl; clear hs; intro w hs) | ((with_reducible apply stc hs.b0); exact rfl; exact rfl; exact rfl; exact rfl; exact rfl; kernel_rfl; exact rfl; clear hs; intro w hs) | ((with_reducible apply stc hs.b1); exact rfl; exact rfl; exact rfl; exact rfl; exact rfl; kernel_rfl; exact rfl; clear hs; intro w hs) | ((with_reducible refine wrap hs ?_); clear hs; intro w hs) | ((with_reducible refine wrapn hs ?_); clear hs; intro w hs) | ((with_reducible refine wrapd hs ?_); clear hs; intro w hs)))
                  go_roundw
                  case rel => exact ⟨j + 1, ⟨true, 1⟩, by omega, by go_num, HB', hs.drop⟩
                  case measure => simp [intOf]; omega
              · skip
                have HF := Lib.hid (show feed ⟨true, last⟩ ⟨1, i0, i1, i2, wd, rr, true, la, fr, wr'⟩ true = (⟨true, 1⟩, 1) from rfl)
                have HB' := Lib.hid (show Bd ⟨true, 1⟩ by have := HB.out; unfold Bd at *; simp only at *; omega)
                as_aux_lemma =>
                  go_wp2_with (first | (go_at_call 8; refine (on_t (off := false) (on := true) rfl zf hs.b1).mono ?_; clear hs; rintro e w ⟨rfl, hs⟩; replace hs := hs.b1) | (go_at_call 8; refine (on_t (off := true) (on := false) rfl zf hs.b1).mono ?_; clear hs; rintro e w ⟨rfl, hs⟩; replace hs := hs.b1) | (go_at_call 9; refine (feed_t HF.out HW.out zf hs.b1).mono ?_; clear hs; rintro e w ⟨rfl, hs⟩; replace hs := hs.b1) | ((with_reducible refine isl ?_); first | ((with_reducible apply ldsw hs); exact rfl; exact rfl; exact rfl; exact row29) | ((with_reducible apply ld hs.b0); exact rfl; exact rfl; exact rfl; exact rfl; kernel_rfl) | ((with_reducible apply ld hs.b1); exact rfl; exact rfl; exact rfl; exact rfl; kernel_rfl) | ((with_reducible apply st hs.b0); exact rfl; exact rfl; exact rfl; exact rfl; exact rfl; exact rfl; kernel_rfl; exact rfl; clear hs; intro w hs) | ((with_reducible apply st hs.b1); exact rfl; exact rfl; exact rfl; exact rfl; exact rfl; exact rfl; kernel_rfl; exact rfl; clear hs; intro w hs) | ((with_reducible apply stc hs.b0); exact rfl; exact rfl; exact rfl; exact rfl; exact rfl; kernel_rfl; exact rfl; clear hs; intro w hs) | ((with_reducible apply stc hs.b1); exact rfl; exact rfl; exact rfl; exact rfl; exact rfl; kernel_rfl; exact rfl; clear hs; intro w hs) | ((with_reducible refine wrap hs ?_); clear hs; intro w hs) | ((with_reducible refine wrapn hs ?_); clear hs; intro w hs) | ((with_reducible refine wrapd hs ?_); clear hs; intro w hs)))
                  go_roundw
                  case rel => exact ⟨j + 1, ⟨true, 1⟩, by omega, by go_num, HB', hs.drop⟩
                  case measure => simp [intOf]; omega
        by_cases h2 : k = 2
        · subst h2
          clear h1
          cases off
          · skip
            cases la
            · skip
              have HF := Lib.hid (show feed ⟨false, last⟩ ⟨2, i0, i1, i2, wd, rr, bl, false, fr, wr'⟩ ec = (⟨true, last⟩, 3) from rfl)
              have HB' := Lib.hid (show Bd ⟨true, last⟩ by have := HB.out; unfold Bd at *; simp only at *; omega)
              as_aux_lemma =>
                go_wp2_with (first | (go_at_call 8; refine (on_t (off := false) (on := true) rfl zf hs.b1).mono ?_; clear hs; rintro e w ⟨rfl, hs⟩; replace hs := hs.b1) | (go_at_call 8; refine (on_t (off := true) (on := false) rfl zf hs.b1).mono ?_; clear hs; rintro e w ⟨rfl, hs⟩; replace hs := hs.b1) | (go_at_call 9; refine (feed_t HF.out HW.out zf hs.b1).mono ?_; clear hs; rintro e w ⟨rfl, hs⟩; replace hs := hs.b1) | ((with_reducible refine isl ?_); first | ((with_reducible apply ldsw hs); exact rfl; exact rfl; exact rfl; exact row29) | ((with_reducible apply ld hs.b0); exact rfl; exact rfl; exact rfl; exact rfl; kernel_rfl) | ((with_reducible apply ld hs.b1); exact rfl; exact rfl; exact rfl; exact rfl; kernel_rfl) | ((with_reducible apply st hs.b0); exact rfl; exact rfl; exact rfl; exact rfl; exact rfl; exact rfl; kernel_rfl; exact rfl; clear hs; intro w hs) | ((with_reducible apply st hs.b1); exact rfl; exact rfl; exact rfl; exact rfl; exact rfl; exact rfl; kernel_rfl; exact rfl; clear hs; intro w hs) | ((with_reducible apply stc hs.b0); exact rfl; exact rfl; exact rfl; exact rfl; exact rfl; kernel_rfl; exact rfl; clear hs; intro w hs) | ((with_reducible apply stc hs.b1); exact rfl; exact rfl; exact rfl; exact rfl; exact rfl; kernel_rfl; exact rfl; clear hs; intro w hs) | ((with_reducible refine wrap hs ?_); clear hs; intro w hs) | ((with_reducible refine wrapn hs ?_); clear hs; intro w hs) | ((with_reducible refine wrapd hs ?_); clear hs; intro w hs)))
                go_roundw
                case rel => exact ⟨j + 1, ⟨true, last⟩, by omega, by go_num, HB', hs.drop⟩
                case measure => simp [intOf]; omega
            · skip
              obtain rfl | rfl | rfl | rfl : last = 0 ∨ last = 1 ∨ last = 2 ∨ last = 3 := by have := HB.out; unfold Bd at this; simp only at this; omega
              · skip
                have HF := Lib.hid (show feed ⟨false, 0⟩ ⟨2, i0, i1, i2, wd, rr, bl, true, fr, wr'⟩ ec = (⟨true, 0⟩, 3) from rfl)
                have HB' := Lib.hid (show Bd ⟨true, 0⟩ by have := HB.out; unfold Bd at *; simp only at *; omega)
                as_aux_lemma =>
                  go_wp2_with (first | (go_at_call 8; refine (on_t (off := false) (on := true) rfl zf hs.b1).mono ?_; clear hs; rintro e w ⟨rfl, hs⟩; replace hs := hs.b1) | (go_at_call 8; refine (on_t (off := true) (on := false) rfl zf hs.b1).mono ?_; clear hs; rintro e w ⟨rfl, hs⟩; replace hs := hs.b1) | (go_at_call 9; refine (feed_t HF.out HW.out zf hs.b1).mono ?_; clear hs; rintro e w ⟨rfl, hs⟩; replace hs := hs.b1) | ((with_reducible refine isl ?_); first | ((with_reducible apply ldsw hs); exact rfl; exact rfl; exact rfl; exact row29) | ((with_reducible apply ld hs.b0); exact rfl; exact rfl; exact rfl; exact rfl; kernel_rfl) | ((with_reducible apply ld hs.b1); exact rfl; exact rfl; exact rfl; exact rfl; kernel_rfl) | ((with_reducible apply st hs.b0); exact rfl; exact rfl; exact rfl; exact rfl; exact rfl; exact rfl; kernel_rfl; exact rfl; clear hs; intro w hs) | ((with_reducible apply st hs.b1); exact rfl; exact rfl; exact rfl; exact rfl; exact rfl; exact rfl; kernel_rfl; exact rfl; clear hs; intro w hs) | ((with_reducible apply stc hs.b0); exact rfl; exact rfl; exact rfl; exact rfl; exact rfl; kernel_rfl; exact rfl; clear hs; intro w hs) | ((with_reducible apply stc hs.b1); exact rfl; exact rfl; exact rfl; exact rfl; exact rfl; kernel_rfl; exact rfl; clear hs; intro w hs) | ((with_reducible refine wrap hs ?_); clear hs; intro w hs) | ((with_reducible refine wrapn hs ?_); clear hs; intro w hs) | ((with_reducible refine wrapd hs ?_); clear hs; intro w hs)))
                  go_roundw
                  case rel => exact ⟨j + 1, ⟨true, 0⟩, by omega, by go_num, HB', hs.drop⟩
                  case measure => simp [intOf]; omega
              · skip
                have HF := Lib.hid (show feed ⟨false, 1⟩ ⟨2, i0, i1, i2, wd, rr, bl, true, fr, wr'⟩ ec = (⟨false, 1⟩, 1) from rfl)
                have HB' := Lib.hid (show Bd ⟨false, 1⟩ by have := HB.out; unfold Bd at *; simp only at *; omega)
                as_aux_lemma =>
                  go_wp2_with (first | (go_at_call 8; refine (on_t (off := false) (on := true) rfl zf hs.b1).mono ?_; clear hs; rintro e w ⟨rfl, hs⟩; replace hs := hs.b1) | (go_at_call 8; refine (on_t (off := true) (on := false) rfl zf hs.b1).mono ?_; clear hs; rintro e w ⟨rfl, hs⟩; replace hs := hs.b1) | (go_at_call 9; refine (feed_t HF.out HW.out zf hs.b1).mono ?_; clear hs; rintro e w ⟨rfl, hs⟩; replace hs := hs.b1) | ((with_reducible refine isl ?_); first | ((with_reducible apply ldsw hs); exact rfl; exact rfl; exact rfl; exact row29) | ((with_reducible apply ld hs.b0); exact rfl; exact rfl; exact rfl; exact rfl; kernel_rfl) | ((with_reducible apply ld hs.b1); exact rfl; exact rfl; exact rfl; exact rfl; kernel_rfl) | ((with_reducible apply st hs.b0); exact rfl; exact rfl; exact rfl; exact rfl; exact rfl; exact rfl; kernel_rfl; exact rfl; clear hs; intro w hs) | ((with_reducible apply st hs.b1); exact rfl; exact rfl; exact rfl; exact rfl; exact rfl; exact rfl; kernel_rfl; exact rfl; clear hs; intro w hs) | ((with_reducible apply stc hs.b0); exact rfl; exact rfl; exact rfl; exact rfl; exact rfl; kernel_rfl; exact rfl; clear hs; intro w hs) | ((with_reducible apply stc hs.b1); exact rfl; exact rfl; exact rfl; exact rfl; exact rfl; kernel_rfl; exact rfl; clear hs; intro w hs) | ((with_reducible refine wrap hs ?_); clear hs; intro w hs) | ((with_reducible refine wrapn hs ?_); clear hs; intro w hs) | ((with_reducible refine wrapd hs ?_); clear hs; intro w hs)))
                  go_roundw
                  case rel => exact ⟨j + 1, ⟨false, 1⟩, by omega, by go_num, HB', hs.drop⟩
                  case measure => simp [intOf]; omega
              · skip
                have HF := Lib.hid (show feed ⟨false, 2⟩ ⟨2, i0, i1, i2, wd, rr, bl, true, fr, wr'⟩ ec = (⟨false, 2⟩, 2) from rfl)
                have HB' := Lib.hid (show Bd ⟨false, 2⟩ by have := HB.out; unfold Bd at *; simp only at *; omega)
                as_aux_lemma =>
                  go_wp2_with (first | (go_at_call 8; refine (on_t (off := false) (on := true) rfl zf hs.b1).mono ?_; clear hs; rintro e w ⟨rfl, hs⟩; replace hs := hs.b1) | (go_at_call 8; refine (on_t (off := true) (on := false) rfl zf hs.b1).mono ?_; clear hs; rintro e w ⟨rfl, hs⟩; replace hs := hs.b1) | (go_at_call 9; refine (feed_t HF.out HW.out zf hs.b1).mono ?_; clear hs; rintro e w ⟨rfl, hs⟩; replace hs := hs.b1) | ((with_reducible refine isl ?_); first | ((with_reducible apply ldsw hs); exact rfl; exact rfl; exact rfl; exact row29) | ((with_reducible apply ld hs.b0); exact rfl; exact rfl; exact rfl; exact rfl; kernel_rfl) | ((with_reducible apply ld hs.b1); exact rfl; exact rfl; exact rfl; exact rfl; kernel_rfl) | ((with_reducible apply st hs.b0); exact rfl; exact rfl; exact rfl; exact rfl; exact rfl; exact rfl; kernel_rfl; exact rfl; clear hs; intro w hs) | ((with_reducible apply st hs.b1); exact rfl; exact rfl; exact rfl; exact rfl; exact rfl; exact rfl; kernel_rfl; exact rfl; clear hs; intro w hs) | ((with_reducible apply stc hs.b0); exact rfl; exact rfl; exact rfl; exact rfl; exact rfl; kernel_rfl; exact rfl; clear hs; intro w hs) | ((with_reducible apply stc hs.b1); exact rfl; exact rfl; exact rfl; exact rfl; exact rfl; kernel_rfl; exact rfl; clear hs; intro w hs) | ((with_reducible refine wrap hs ?_); clear hs; intro w hs) | ((with_reducible refine wrapn hs ?_); clear hs; intro w hs) | ((with_reducible refine wrapd hs ?_); clear hs; intro w hs)))
                  go_roundw
                  case rel => exact ⟨j + 1, ⟨false, 2⟩, by omega, by go_num, HB', hs.drop⟩
                  case measure => simp [intOf]; omega
              · skip
                have HF := Lib.hid (show feed ⟨false, 3⟩ ⟨2, i0, i1, i2, wd, rr, bl, true, fr, wr'⟩ ec = (⟨false, 3⟩, 3) from rfl)
                have HB' := Lib.hid (show Bd ⟨false, 3⟩ by have := HB.out; unfold Bd at *; simp only at *; omega)
                as_aux_lemma =>
                  go_wp2_with (first | (go_at_call 8; refine (on_t (off := false) (on := true) rfl zf hs.b1).mono ?_; clear hs; rintro e w ⟨rfl, hs⟩; replace hs := hs.b1) | (go_at_call 8; refine (on_t (off := true) (on := false) rfl zf hs.b1).mono ?_; clear hs; rintro e w ⟨rfl, hs⟩; replace hs := hs.b1) | (go_at_call 9; refine (feed_t HF.out HW.out zf hs.b1).mono ?_; clear hs; rintro e w ⟨rfl, hs⟩; replace hs := hs.b1) | ((with_reducible refine isl ?_); first | ((with_reducible apply ldsw hs); exact rfl; exact rfl; exact rfl; exact row29) | ((with_reducible apply ld hs.b0); exact rfl; exact rfl; exact rfl; exact rfl; kernel_rfl) | ((with_reducible apply ld hs.b1); exact rfl; exact rfl; exact rfl; exact rfl; kernel_rfl) | ((with_reducible apply st hs.b0); exact rfl; exact rfl; exact rfl; exact rfl; exact rfl; exact rfl; kernel_rfl; exact rfl; clear hs; intro w hs) | ((with_reducible apply st hs.b1); exact rfl; exact rfl; exact rfl; exact rfl; exact rfl; exact rfl; kernel_rfl; exact rfl; clear hs; intro w hs) | ((with_reducible apply stc hs.b0); exact rfl; exact rfl; exact rfl; exact rfl; exact rfl; kernel_rfl; exact rfl; clear hs; intro w hs) | ((with_reducible apply stc hs.b1); exact rfl; exact rfl; exact rfl; exact rfl; exact rfl; kernel_rfl; exact rfl; clear hs; intro w hs) | ((with_reducible refine wrap hs ?_); clear hs; intro w hs) | ((with_reducible refine wrapn hs ?_); clear hs; intro w hs) | ((with_reducible refine wrapd hs ?_); clear hs; intro w hs)))
                  go_roundw
                  case rel => exact ⟨j + 1, ⟨false, 3⟩, by omega, by go_num, HB', hs.drop⟩
                  case measure => simp [intOf]; omega
          · skip
            cases la
            · skip
              have HF := Lib.hid (show feed ⟨true, last⟩ ⟨2, i0, i1, i2, wd, rr, bl, false, fr, wr'⟩ ec = (⟨true, last⟩, 3) from rfl)
              have HB' := Lib.hid (show Bd ⟨true, last⟩ by have := HB.out; unfold Bd at *; simp only at *; omega)
              as_aux_lemma =>
                go_wp2_with (first | (go_at_call 8; refine (on_t (off := false) (on := true) rfl zf hs.b1).mono ?_; clear hs; rintro e w ⟨rfl, hs⟩; replace hs := hs.b1) | (go_at_call 8; refine (on_t (off := true) (on := false) rfl zf hs.b1).mono ?_; clear hs; rintro e w ⟨rfl, hs⟩; replace hs := hs.b1) | (go_at_call 9; refine (feed_t HF.out HW.out zf hs.b1).mono ?_; clear hs; rintro e w ⟨rfl, hs⟩; replace hs := hs.b1) | ((with_reducible refine isl ?_); first | ((with_reducible apply ldsw hs); exact rfl; exact rfl; exact rfl; exact row29) | ((with_reducible apply ld hs.b0); exact rfl; exact rfl; exact rfl; exact rfl; kernel_rfl) | ((with_reducible apply ld hs.b1); exact rfl; exact rfl; exact rfl; exact rfl; kernel_rfl) | ((with_reducible apply st hs.b0); exact rfl; exact rfl; exact rfl; exact rfl; exact rfl; exact rfl; kernel_rfl; exact rfl; clear hs; intro w hs) | ((with_reducible apply st hs.b1); exact rfl; exact rfl; exact rfl; exact rfl; exact rfl; exact rfl; kernel_rfl; exact rfl; clear hs; intro w hs) | ((with_reducible apply stc hs.b0); exact rfl; exact rfl; exact rfl; exact rfl; exact rfl; kernel_rfl; exact rfl; clear hs; intro w hs) | ((with_reducible apply stc hs.b1); exact rfl; exact rfl; exact rfl; exact rfl; exact rfl; kernel_rfl; exact rfl; clear hs; intro w hs) | ((with_reducible refine wrap hs ?_); clear hs; intro w hs) | ((with_reducible refine wrapn hs ?_); clear hs; intro w hs) | ((with_reducible refine wrapd hs ?_); clear hs; intro w hs)))
                go_roundw
                case rel => exact ⟨j + 1, ⟨true, last⟩, by omega, by go_num, HB', hs.drop⟩
                case measure => simp [intOf]; omega
            · skip
              obtain rfl | rfl | rfl | rfl : last = 0 ∨ last = 1 ∨ last = 2 ∨ last = 3 := by have := HB.out; unfold Bd at this; simp only at this; omega
              · skip
                have HF := Lib.hid (show feed ⟨true, 0⟩ ⟨2, i0, i1, i2, wd, rr, bl, true, fr, wr'⟩ ec = (⟨true, 0⟩, 3) from rfl)
                have HB' := Lib.hid (show Bd ⟨true, 0⟩ by have := HB.out; unfold Bd at *; simp only at *; omega)
                as_aux_lemma =>
                  go_wp2_with (first | (go_at_call 8; refine (on_t (off := false) (on := true) rfl zf hs.b1).mono ?_; clear hs; rintro e w ⟨rfl, hs⟩; replace hs := hs.b1) | (go_at_call 8; refine (on_t (off := true) (on := false) rfl zf hs.b1).mono ?_; clear hs; rintro e w ⟨rfl, hs⟩; replace hs := hs.b1) | (go_at_call 9; refine (feed_t HF.out HW.out zf hs.b1).mono ?_; clear hs; rintro e w ⟨rfl, hs⟩; replace hs := hs.b1) | ((with_reducible refine isl ?_); first | ((with_reducible apply ldsw hs); exact rfl; exact rfl; exact rfl; exact row29) | ((with_reducible apply ld hs.b0); exact rfl; exact rfl; exact rfl; exact rfl; kernel_rfl) | ((with_reducible apply ld hs.b1); exact rfl; exact rfl; exact rfl; exact rfl; kernel_rfl) | ((with_reducible apply st hs.b0); exact rfl; exact rfl; exact rfl; exact rfl; exact rfl; exact rfl; kernel_rfl; exact rfl; clear hs; intro w hs) | ((with_reducible apply st hs.b1); exact rfl; exact rfl; exact rfl; exact rfl; exact rfl; exact rfl; kernel_rfl; exact rfl; clear hs; intro w hs) | ((with_reducible apply stc hs.b0); exact rfl; exact rfl; exact rfl; exact rfl; exact rfl; kernel_rfl; exact rfl; clear hs; intro w hs) | ((with_reducible apply stc hs.b1); exact rfl; exact rfl; exact rfl; exact rfl; exact rfl; kernel_rfl; exact rfl; clear hs; intro w hs) | ((with_reducible refine wrap hs ?_); clear hs; intro w hs) | ((with_reducible refine wrapn hs ?_); clear hs; intro w hs) | ((with_reducible refine wrapd hs ?_); clear hs; intro w hs)))
                  go_roundw
                  case rel => exact ⟨j + 1, ⟨true, 0⟩, by omega, by go_num, HB', hs.drop⟩
                  case measure => simp [intOf]; omega
              · skip
                have HF := Lib.hid (show feed ⟨true, 1⟩ ⟨2, i0, i1, i2, wd, rr, bl, true, fr, wr'⟩ ec = (⟨true, 1⟩, 1) from rfl)
                have HB' := Lib.hid (show Bd ⟨true, 1⟩ by have := HB.out; unfold Bd at *; simp only at *; omega)
                as_aux_lemma =>
                  go_wp2_with (first | (go_at_call 8; refine (on_t (off := false) (on := true) rfl zf hs.b1).mono ?_; clear hs; rintro e w ⟨rfl, hs⟩; replace hs := hs.b1) | (go_at_call 8; refine (on_t (off := true) (on := false) rfl zf hs.b1).mono ?_; clear hs; rintro e w ⟨rfl, hs⟩; replace hs := hs.b1) | (go_at_call 9; refine (feed_t HF.out HW.out zf hs.b1).mono ?_; clear hs; rintro e w ⟨rfl, hs⟩; replace hs := hs.b1) | ((with_reducible refine isl ?_); first | ((with_reducible apply ldsw hs); exact rfl; exact rfl; exact rfl; exact row29) | ((with_reducible apply ld hs.b0); exact rfl; exact rfl; exact rfl; exact rfl; kernel_rfl) | ((with_reducible apply ld hs.b1); exact rfl; exact rfl; exact rfl; exact rfl; kernel_rfl) | ((with_reducible apply st hs.b0); exact rfl; exact rfl; exact rfl; exact rfl; exact rfl; exact rfl; kernel_rfl; exact rfl; clear hs; intro w hs) | ((with_reducible apply st hs.b1); exact rfl; exact rfl; exact rfl; exact rfl; exact rfl; exact rfl; kernel_rfl; exact rfl; clear hs; intro w hs) | ((with_reducible apply stc hs.b0); exact rfl; exact rfl; exact rfl; exact rfl; exact rfl; kernel_rfl; exact rfl; clear hs; intro w hs) | ((with_reducible apply stc hs.b1); exact rfl; exact rfl; exact rfl; exact rfl; exact rfl; kernel_rfl; exact rfl; clear hs; intro w hs) | ((with_reducible refine wrap hs ?_); clear hs; intro w hs) | ((with_reducible refine wrapn hs ?_); clear hs; intro w hs) | ((with_reducible refine wrapd hs ?_); clear hs; intro w hs)))
                  go_roundw
                  case rel => exact ⟨j + 1, ⟨true, 1⟩, by omega, by go_num, HB', hs.drop⟩
                  case measure => simp [intOf]; omega
              · skip
                have HF := Lib.hid (show feed ⟨true, 2⟩ ⟨2, i0, i1, i2, wd, rr, bl, true, fr, wr'⟩ ec = (⟨true, 2⟩, 2) from rfl)
                have HB' := Lib.hid (show Bd ⟨true, 2⟩ by have := HB.out; unfold Bd at *; simp only at *; omega)
                as_aux_lemma =>
                  go_wp2_with (first | (go_at_call 8; refine (on_t (off := false) (on := true) rfl zf hs.b1).mono ?_; clear hs; rintro e w ⟨rfl, hs⟩; replace hs := hs.b1) | (go_at_call 8; refine (on_t (off := true) (on := false) rfl zf hs.b1).mono ?_; clear hs; rintro e w ⟨rfl, hs⟩; replace hs := hs.b1) | (go_at_call 9; refine (feed_t HF.out HW.out zf hs.b1).mono ?_; clear hs; rintro e w ⟨rfl, hs⟩; replace hs := hs.b1) | ((with_reducible refine isl ?_); first | ((with_reducible apply ldsw hs); exact rfl; exact rfl; exact rfl; exact row29) | ((with_reducible apply ld hs.b0); exact rfl; exact rfl; exact rfl; exact rfl; kernel_rfl) | ((with_reducible apply ld hs.b1); exact rfl; exact rfl; exact rfl; exact rfl; kernel_rfl) | ((with_reducible apply st hs.b0); exact rfl; exact rfl; exact rfl; exact rfl; exact rfl; exact rfl; kernel_rfl; exact rfl; clear hs; intro w hs) | ((with_reducible apply st hs.b1); exact rfl; exact rfl; exact rfl; exact rfl; exact rfl; exact rfl; kernel_rfl; exact rfl; clear hs; intro w hs) | ((with_reducible apply stc hs.b0); exact rfl; exact rfl; exact rfl; exact rfl; exact rfl; kernel_rfl; exact rfl; clear hs; intro w hs) | ((with_reducible apply stc hs.b1); exact rfl; exact rfl; exact rfl; exact rfl; exact rfl; kernel_rfl; exact rfl; clear hs; intro w hs) | ((with_reducible refine wrap hs ?_); clear hs; intro w hs) | ((with_reducible refine wrapn hs ?_); clear hs; intro w hs) | ((with_reducible refine wrapd hs ?_); clear hs; intro w hs)))
                  go_roundw
                  case rel => exact ⟨j + 1, ⟨true, 2⟩, by omega, by go_num, HB', hs.drop⟩
                  case measure => simp [intOf]; omega
              · skip
                have HF := Lib.hid (show feed ⟨true, 3⟩ ⟨2, i0, i1, i2, wd, rr, bl, true, fr, wr'⟩ ec = (⟨true, 3⟩, 3) from rfl)
                have HB' := Lib.hid (show Bd ⟨true, 3⟩ by have := HB.out; unfold Bd at *; simp only at *; omega)
                as_aux_lemma =>
                  go_wp2_with (first | (go_at_call 8; refine (on_t (off := false) (on := true) rfl zf hs.b1).mono ?_; clear hs; rintro e w ⟨rfl, hs⟩; replace hs := hs.b1) | (go_at_call 8; refine (on_t (off := true) (on := false) rfl zf hs.b1).mono ?_; clear hs; rintro e w ⟨rfl, hs⟩; replace hs := hs.b1) | (go_at_call 9; refine (feed_t HF.out HW.out zf hs.b1).mono ?_; clear hs; rintro e w ⟨rfl, hs⟩; replace hs := hs.b1) | ((with_reducible refine isl ?_); first | ((with_reducible apply ldsw hs); exact rfl; exact rfl; exact rfl; exact row29) | ((with_reducible apply ld hs.b0); exact rfl; exact rfl; exact rfl; exact rfl; kernel_rfl) | ((with_reducible apply ld hs.b1); exact rfl; exact rfl; exact rfl; exact rfl; kernel_rfl) | ((with_reducible apply st hs.b0); exact rfl; exact rfl; exact rfl; exact rfl; exact rfl; exact rfl; kernel_rfl; exact rfl; clear hs; intro w hs) | ((with_reducible apply st hs.b1); exact rfl; exact rfl; exact rfl; exact rfl; exact rfl; exact rfl; kernel_rfl; exact rfl; clear hs; intro w hs) | ((with_reducible apply stc hs.b0); exact rfl; exact rfl; exact rfl; exact rfl; exact rfl; kernel_rfl; exact rfl; clear hs; intro w hs) | ((with_reducible apply stc hs.b1); exact rfl; exact rfl; exact rfl; exact rfl; exact rfl; kernel_rfl; exact rfl; clear hs; intro w hs) | ((with_reducible refine wrap hs ?_); clear hs; intro w hs) | ((with_reducible refine wrapn hs ?_); clear hs; intro w hs) | ((with_reducible refine wrapd hs ?_); clear hs; intro w hs)))
                  go_roundw
                  case rel => exact ⟨j + 1, ⟨true, 3⟩, by omega, by go_num, HB', hs.drop⟩
                  case measure => simp [intOf]; omega
        by_cases h3 : k = 3
        · subst h3
          clear h1 h2
          cases off
          · skip
            cases fr
            · skip
              have HF := Lib.hid (show feed ⟨false, last⟩ ⟨3, i0, i1, i2, wd, rr, bl, la, false, wr'⟩ ec = (⟨false, last⟩, 0) from rfl)
              have HB' := Lib.hid (show Bd ⟨false, last⟩ by have := HB.out; unfold Bd at *; simp only at *; omega)
              as_aux_lemma =>
                go_wp2_with (first | (go_at_call 8; refine (on_t (off := false) (on := true) rfl zf hs.b1).mono ?_; clear hs; rintro e w ⟨rfl, hs⟩; replace hs := hs.b1) | (go_at_call 8; refine (on_t (off := true) (on := false) rfl zf hs.b1).mono ?_; clear hs; rintro e w ⟨rfl, hs⟩; replace hs := hs.b1) | (go_at_call 9; refine (feed_t HF.out HW.out zf hs.b1).mono ?_; clear hs; rintro e w ⟨rfl, hs⟩; replace hs := hs.b1) | ((with_reducible refine isl ?_); first | ((with_reducible apply ldsw hs); exact rfl; exact rfl; exact rfl; exact row29) | ((with_reducible apply ld hs.b0); exact rfl; exact rfl; exact rfl; exact rfl; kernel_rfl) | ((with_reducible apply ld hs.b1); exact rfl; exact rfl; exact rfl; exact rfl; kernel_rfl) | ((with_reducible apply st hs.b0); exact rfl; exact rfl; exact rfl; exact rfl; exact rfl; exact rfl; kernel_rfl; exact rfl; clear hs; intro w hs) | ((with_reducible apply st hs.b1); exact rfl; exact rfl; exact rfl; exact rfl; exact rfl; exact rfl; kernel_rfl; exact rfl; clear hs; intro w hs) | ((with_reducible apply stc hs.b0); exact rfl; exact rfl; exact rfl; exact rfl; exact rfl; kernel_rfl; exact rfl; clear hs; intro w hs) | ((with_reducible apply stc hs.b1); exact rfl; exact rfl; exact rfl; exact rfl; exact rfl; kernel_rfl; exact rfl; clear hs; intro w hs) | ((with_reducible refine wrap hs ?_); clear hs; intro w hs) | ((with_reducible refine wrapn hs ?_); clear hs; intro w hs) | ((with_reducible refine wrapd hs ?_); clear hs; intro w hs)))
                go_roundw
                case rel => exact ⟨j + 1, ⟨false, last⟩, by omega, by go_num, HB', hs.drop⟩
                case measure => simp [intOf]; omega
            · skip
              have HF := Lib.hid (show feed ⟨false, last⟩ ⟨3, i0, i1, i2, wd, rr, bl, la, true, wr'⟩ ec = (⟨false, last⟩, 0) from rfl)
              have HB' := Lib.hid (show Bd ⟨false, last⟩ by have := HB.out; unfold Bd at *; simp only at *; omega)
              as_aux_lemma =>
                go_wp2_with (first | (go_at_call 8; refine (on_t (off := false) (on := true) rfl zf hs.b1).mono ?_; clear hs; rintro e w ⟨rfl, hs⟩; replace hs := hs.b1) | (go_at_call 8; refine (on_t (off := true) (on := false) rfl zf hs.b1).mono ?_; clear hs; rintro e w ⟨rfl, hs⟩; replace hs := hs.b1) | (go_at_call 9; refine (feed_t HF.out HW.out zf hs.b1).mono ?_; clear hs; rintro e w ⟨rfl, hs⟩; replace hs := hs.b1) | ((with_reducible refine isl ?_); first | ((with_reducible apply ldsw hs); exact rfl; exact rfl; exact rfl; exact row29) | ((with_reducible apply ld hs.b0); exact rfl; exact rfl; exact rfl; exact rfl; kernel_rfl) | ((with_reducible apply ld hs.b1); exact rfl; exact rfl; exact rfl; exact rfl; kernel_rfl) | ((with_reducible apply st hs.b0); exact rfl; exact rfl; exact rfl; exact rfl; exact rfl; exact rfl; kernel_rfl; exact rfl; clear hs; intro w hs) | ((with_reducible apply st hs.b1); exact rfl; exact rfl; exact rfl; exact rfl; exact rfl; exact rfl; kernel_rfl; exact rfl; clear hs; intro w hs) | ((with_reducible apply stc hs.b0); exact rfl; exact rfl; exact rfl; exact rfl; exact rfl; kernel_rfl; exact rfl; clear hs; intro w hs) | ((with_reducible apply stc hs.b1); exact rfl; exact rfl; exact rfl; exact rfl; exact rfl; kernel_rfl; exact rfl; clear hs; intro w hs) | ((with_reducible refine wrap hs ?_); clear hs; intro w hs) | ((with_reducible refine wrapn hs ?_); clear hs; intro w hs) | ((with_reducible refine wrapd hs ?_); clear hs; intro w hs)))
                go_roundw
                case rel => exact ⟨j + 1, ⟨false, last⟩, by omega, by go_num, HB', hs.drop⟩
                case measure => simp [intOf]; omega
          · skip
            cases fr
            · skip
              have HF := Lib.hid (show feed ⟨true, last⟩ ⟨3, i0, i1, i2, wd, rr, bl, la, false, wr'⟩ ec = (⟨true, last⟩, 0) from rfl)
              have HB' := Lib.hid (show Bd ⟨true, last⟩ by have := HB.out; unfold Bd at *; simp only at *; omega)
              as_aux_lemma =>
                go_wp2_with (first | (go_at_call 8; refine (on_t (off := false) (on := true) rfl zf hs.b1).mono ?_; clear hs; rintro e w ⟨rfl, hs⟩; replace hs := hs.b1) | (go_at_call 8; refine (on_t (off := true) (on := false) rfl zf hs.b1).mono ?_; clear hs; rintro e w ⟨rfl, hs⟩; replace hs := hs.b1) | (go_at_call 9; refine (feed_t HF.out HW.out zf hs.b1).mono ?_; clear hs; rintro e w ⟨rfl, hs⟩; replace hs := hs.b1) | ((with_reducible refine isl ?_); first | ((with_reducible apply ldsw hs); exact rfl; exact rfl; exact rfl; exact row29) | ((with_reducible apply ld hs.b0); exact rfl; exact rfl; exact rfl; exact rfl; kernel_rfl) | ((with_reducible apply ld hs.b1); exact rfl; exact rfl; exact rfl; exact rfl; kernel_rfl) | ((with_reducible apply st hs.b0); exact rfl; exact rfl; exact rfl; exact rfl; exact rfl; exact rfl; kernel_rfl; exact rfl; clear hs; intro w hs) | ((with_reducible apply st hs.b1); exact rfl; exact rfl; exact rfl; exact rfl; exact rfl; exact rfl; kernel_rfl; exact rfl; clear hs; intro w hs) | ((with_reducible apply stc hs.b0); exact rfl; exact rfl; exact rfl; exact rfl; exact rfl; kernel_rfl; exact rfl; clear hs; intro w hs) | ((with_reducible apply stc hs.b1); exact rfl; exact rfl; exact rfl; exact rfl; exact rfl; kernel_rfl; exact rfl; clear hs; intro w hs) | ((with_reducible refine wrap hs ?_); clear hs; intro w hs) | ((with_reducible refine wrapn hs ?_); clear hs; intro w hs) | ((with_reducible refine wrapd hs ?_); clear hs; intro w hs)))
                go_roundw
                case rel => exact ⟨j + 1, ⟨true, last⟩, by omega, by go_num, HB', hs.drop⟩
                case measure => simp [intOf]; omega
            · skip
              have HF := Lib.hid (show feed ⟨true, last⟩ ⟨3, i0, i1, i2, wd, rr, bl, la, true, wr'⟩ ec = (⟨false, last⟩, 0) from rfl)
              have HB' := Lib.hid (show Bd ⟨false, last⟩ by have := HB.out; unfold Bd at *; simp only at *; omega)
              as_aux_lemma =>
                go_wp2_with (first | (go_at_call 8; refine (on_t (off := false) (on := true) rfl zf hs.b1).mono ?_; clear hs; rintro e w ⟨rfl, hs⟩; replace hs := hs.b1) | (go_at_call 8; refine (on_t (off := true) (on := false) rfl zf hs.b1).mono ?_; clear hs; rintro e w ⟨rfl, hs⟩; replace hs := hs.b1) | (go_at_call 9; refine (feed_t HF.out HW.out zf hs.b1).mono ?_; clear hs; rintro e w ⟨rfl, hs⟩; replace hs := hs.b1) | ((with_reducible refine isl ?_); first | ((with_reducible apply ldsw hs); exact rfl; exact rfl; exact rfl; exact row29) | ((with_reducible apply ld hs.b0); exact rfl; exact rfl; exact rfl; exact rfl; kernel_rfl) | ((with_reducible apply ld hs.b1); exact rfl; exact rfl; exact rfl; exact rfl; kernel_rfl) | ((with_reducible apply st hs.b0); exact rfl; exact rfl; exact rfl; exact rfl; exact rfl; exact rfl; kernel_rfl; exact rfl; clear hs; intro w hs) | ((with_reducible apply st hs.b1); exact rfl; exact rfl; exact rfl; exact rfl; exact rfl; exact rfl; kernel_rfl; exact rfl; clear hs; intro w hs) | ((with_reducible apply stc hs.b0); exact rfl; exact rfl; exact rfl; exact rfl; exact rfl; kernel_rfl; exact rfl; clear hs; intro w hs) | ((with_reducible apply stc hs.b1); exact rfl; exact rfl; exact rfl; exact rfl; exact rfl; kernel_rfl; exact rfl; clear hs; intro w hs) | ((with_reducible refine wrap hs ?_); clear hs; intro w hs) | ((with_reducible refine wrapn hs ?_); clear hs; intro w hs) | ((with_reducible refine wrapd hs ?_); clear hs; intro w hs)))
                go_roundw
                case rel => exact ⟨j + 1, ⟨false, last⟩, by omega, by go_num, HB', hs.drop⟩
                case measure => simp [intOf]; omega
        by_cases h4 : k = 4
        · subst h4
          clear h1 h2 h3
          cases off
          · skip
            have HF := Lib.hid (show feed ⟨false, last⟩ ⟨4, i0, i1, i2, wd, rr, bl, la, fr, wr'⟩ ec = (⟨true, last⟩, 0) from rfl)
            have HB' := Lib.hid (show Bd ⟨true, last⟩ by have := HB.out; unfold Bd at *; simp only at *; omega)
            as_aux_lemma =>
              go_wp2_with (first | (go_at_call 8; refine (on_t (off := false) (on := true) rfl zf hs.b1).mono ?_; clear hs; rintro e w ⟨rfl, hs⟩; replace hs := hs.b1) | (go_at_call 8; refine (on_t (off := true) (on := false) rfl zf hs.b1).mono ?_; clear hs; rintro e w ⟨rfl, hs⟩; replace hs := hs.b1) | (go_at_call 9; refine (feed_t HF.out HW.out zf hs.b1).mono ?_; clear hs; rintro e w ⟨rfl, hs⟩; replace hs := hs.b1) | ((with_reducible refine isl ?_); first | ((with_reducible apply ldsw hs); exact rfl; exact rfl; exact rfl; exact row29) | ((with_reducible apply ld hs.b0); exact rfl; exact rfl; exact rfl; exact rfl; kernel_rfl) | ((with_reducible apply ld hs.b1); exact rfl; exact rfl; exact rfl; exact rfl; kernel_rfl) | ((with_reducible apply st hs.b0); exact rfl; exact rfl; exact rfl; exact rfl; exact rfl; exact rfl; kernel_rfl; exact rfl; clear hs; intro w hs) | ((with_reducible apply st hs.b1); exact rfl; exact rfl; exact rfl; exact rfl; exact rfl; exact rfl; kernel_rfl; exact rfl; clear hs; intro w hs) | ((with_reducible apply stc hs.b0); exact rfl; exact rfl; exact rfl; exact rfl; exact rfl; kernel_rfl; exact rfl; clear hs; intro w hs) | ((with_reducible apply stc hs.b1); exact rfl; exact rfl; exact rfl; exact rfl; exact rfl; kernel_rfl; exact rfl; clear hs; intro w hs) | ((with_reducible refine wrap hs ?_); clear hs; intro w hs) | ((with_reducible refine wrapn hs ?_); clear hs; intro w hs) | ((with_reducible refine wrapd hs ?_); clear hs; intro w hs)))
              go_roundw
              case rel => exact ⟨j + 1, ⟨true, last⟩, by omega, by go_num, HB', hs.drop⟩
              case measure => simp [intOf]; omega
          · skip
            have HF := Lib.hid (show feed ⟨true, last⟩ ⟨4, i0, i1, i2, wd, rr, bl, la, fr, wr'⟩ ec = (⟨true, last⟩, 0) from rfl)
            have HB' := Lib.hid (show Bd ⟨true, last⟩ by have := HB.out; unfold Bd at *; simp only at *; omega)
            as_aux_lemma =>
              go_wp2_with (first | (go_at_call 8; refine (on_t (off := false) (on := true) rfl zf hs.b1).mono ?_; clear hs; rintro e w ⟨rfl, hs⟩; replace hs := hs.b1) | (go_at_call 8; refine (on_t (off := true) (on := false) rfl zf hs.b1).mono ?_; clear hs; rintro e w ⟨rfl, hs⟩; replace hs := hs.b1) | (go_at_call 9; refine (feed_t HF.out HW.out zf hs.b1).mono ?_; clear hs; rintro e w ⟨rfl, hs⟩; replace hs := hs.b1) | ((with_reducible refine isl ?_); first | ((with_reducible apply ldsw hs); exact rfl; exact rfl; exact rfl; exact row29) | ((with_reducible apply ld hs.b0); exact rfl; exact rfl; exact rfl; exact rfl; kernel_rfl) | ((with_reducible apply ld hs.b1); exact rfl; exact rfl; exact rfl; exact rfl; kernel_rfl) | ((with_reducible apply st hs.b0); exact rfl; exact rfl; exact rfl; exact rfl; exact rfl; exact rfl; kernel_rfl; exact rfl; clear hs; intro w hs) | ((with_reducible apply st hs.b1); exact rfl; exact rfl; exact rfl; exact rfl; exact rfl; exact rfl; kernel_rfl; exact rfl; clear hs; intro w hs) | ((with_reducible apply stc hs.b0); exact rfl; exact rfl; exact rfl; exact rfl; exact rfl; kernel_rfl; exact rfl; clear hs; intro w hs) | ((with_reducible apply stc hs.b1); exact rfl; exact rfl; exact rfl; exact rfl; exact rfl; kernel_rfl; exact rfl; clear hs; intro w hs) | ((with_reducible refine wrap hs ?_); clear hs; intro w hs) | ((with_reducible refine wrapn hs ?_); clear hs; intro w hs) | ((with_reducible refine wrapd hs ?_); clear hs; intro w hs)))
              go_roundw
              case rel => exact ⟨j + 1, ⟨true, last⟩, by omega, by go_num, HB', hs.drop⟩
              case measure => simp [intOf]; omega
        by_cases h5 : k = 5
        · subst h5
          clear h1 h2 h3 h4
          cases off
          · skip
            have HF := Lib.hid (show feed ⟨false, last⟩ ⟨5, i0, i1, i2, wd, rr, bl, la, fr, wr'⟩ ec = (⟨false, 0⟩, 0) from rfl)
            have HB' := Lib.hid (show Bd ⟨false, 0⟩ by have := HB.out; unfold Bd at *; simp only at *; omega)
            as_aux_lemma =>
              go_wp2_with (first | (go_at_call 8; refine (on_t (off := false) (on := true) rfl zf hs.b1).mono ?_; clear hs; rintro e w ⟨rfl, hs⟩; replace hs := hs.b1) | (go_at_call 8; refine (on_t (off := true) (on := false) rfl zf hs.b1).mono ?_; clear hs; rintro e w ⟨rfl, hs⟩; replace hs := hs.b1) | (go_at_call 9; refine (feed_t HF.out HW.out zf hs.b1).mono ?_; clear hs; rintro e w ⟨rfl, hs⟩; replace hs := hs.b1) | ((with_reducible refine isl ?_); first | ((with_reducible apply ldsw hs); exact rfl; exact rfl; exact rfl; exact row29) | ((with_reducible apply ld hs.b0); exact rfl; exact rfl; exact rfl; exact rfl; kernel_rfl) | ((with_reducible apply ld hs.b1); exact rfl; exact rfl; exact rfl; exact rfl; kernel_rfl) | ((with_reducible apply st hs.b0); exact rfl; exact rfl; exact rfl; exact rfl; exact rfl; exact rfl; kernel_rfl; exact rfl; clear hs; intro w hs) | ((with_reducible apply st hs.b1); exact rfl; exact rfl; exact rfl; exact rfl; exact rfl; exact rfl; kernel_rfl; exact rfl; clear hs; intro w hs) | ((with_reducible apply stc hs.b0); exact rfl; exact rfl; exact rfl; exact rfl; exact rfl; kernel_rfl; exact rfl; clear hs; intro w hs) | ((with_reducible apply stc hs.b1); exact rfl; exact rfl; exact rfl; exact rfl; exact rfl; kernel_rfl; exact rfl; clear hs; intro w hs) | ((with_reducible refine wrap hs ?_); clear hs; intro w hs) | ((with_reducible refine wrapn hs ?_); clear hs; intro w hs) | ((with_reducible refine wrapd hs ?_); clear hs; intro w hs)))
              go_roundw
              case rel => exact ⟨j + 1, ⟨false, 0⟩, by omega, by go_num, HB', hs.drop⟩
              case measure => simp [intOf]; omega
          · skip
            have HF := Lib.hid (show feed ⟨true, last⟩ ⟨5, i0, i1, i2, wd, rr, bl, la, fr, wr'⟩ ec = (⟨false, 0⟩, 0) from rfl)
            have HB' := Lib.hid (show Bd ⟨false, 0⟩ by have := HB.out; unfold Bd at *; simp only at *; omega)
            as_aux_lemma =>
              go_wp2_with (first | (go_at_call 8; refine (on_t (off := false) (on := true) rfl zf hs.b1).mono ?_; clear hs; rintro e w ⟨rfl, hs⟩; replace hs := hs.b1) | (go_at_call 8; refine (on_t (off := true) (on := false) rfl zf hs.b1).mono ?_; clear hs; rintro e w ⟨rfl, hs⟩; replace hs := hs.b1) | (go_at_call 9; refine (feed_t HF.out HW.out zf hs.b1).mono ?_; clear hs; rintro e w ⟨rfl, hs⟩; replace hs := hs.b1) | ((with_reducible refine isl ?_); first | ((with_reducible apply ldsw hs); exact rfl; exact rfl; exact rfl; exact row29) | ((with_reducible apply ld hs.b0); exact rfl; exact rfl; exact rfl; exact rfl; kernel_rfl) | ((with_reducible apply ld hs.b1); exact rfl; exact rfl; exact rfl; exact rfl; kernel_rfl) | ((with_reducible apply st hs.b0); exact rfl; exact rfl; exact rfl; exact rfl; exact rfl; exact rfl; kernel_rfl; exact rfl; clear hs; intro w hs) | ((with_reducible apply st hs.b1); exact rfl; exact rfl; exact rfl; exact rfl; exact rfl; exact rfl; kernel_rfl; exact rfl; clear hs; intro w hs) | ((with_reducible apply stc hs.b0); exact rfl; exact rfl; exact rfl; exact rfl; exact rfl; kernel_rfl; exact rfl; clear hs; intro w hs) | ((with_reducible apply stc hs.b1); exact rfl; exact rfl; exact rfl; exact rfl; exact rfl; kernel_rfl; exact rfl; clear hs; intro w hs) | ((with_reducible refine wrap hs ?_); clear hs; intro w hs) | ((with_reducible refine wrapn hs ?_); clear hs; intro w hs) | ((with_reducible refine wrapd hs ?_); clear hs; intro w hs)))
              go_roundw
              case rel => exact ⟨j + 1, ⟨false, 0⟩, by omega, by go_num, HB', hs.drop⟩
              case measure => simp [intOf]; omega
        have b1 := beq_no h1
        have b2 := beq_no h2
        have b3 := beq_no h3
        have b5 := beq_no h5
        cases off
        · skip
          have HF := Lib.hid (show feed ⟨false, last⟩ ⟨k, i0, i1, i2, wd, rr, bl, la, fr, wr'⟩ ec = (⟨false, last⟩, 0) from by simp [feed, h1, h2, h3, h4, h5])
          have HB' := Lib.hid (show Bd ⟨false, last⟩ by have := HB.out; unfold Bd at *; simp only at *; omega)
          clear h1 h2 h3 h4 h5
          as_aux_lemma =>
            go_wp2_with (first | (go_at_call 8; refine (on_t (off := false) (on := true) rfl zf hs.b1).mono ?_; clear hs; rintro e w ⟨rfl, hs⟩; replace hs := hs.b1) | (go_at_call 8; refine (on_t (off := true) (on := false) rfl zf hs.b1).mono ?_; clear hs; rintro e w ⟨rfl, hs⟩; replace hs := hs.b1) | (go_at_call 9; refine (feed_t HF.out HW.out zf hs.b1).mono ?_; clear hs; rintro e w ⟨rfl, hs⟩; replace hs := hs.b1) | ((with_reducible refine isl ?_); first | ((with_reducible apply ldsw hs); exact rfl; exact rfl; exact rfl; exact row29) | ((with_reducible apply ld hs.b0); exact rfl; exact rfl; exact rfl; exact rfl; kernel_rfl) | ((with_reducible apply ld hs.b1); exact rfl; exact rfl; exact rfl; exact rfl; kernel_rfl) | ((with_reducible apply st hs.b0); exact rfl; exact rfl; exact rfl; exact rfl; exact rfl; exact rfl; kernel_rfl; exact rfl; clear hs; intro w hs) | ((with_reducible apply st hs.b1); exact rfl; exact rfl; exact rfl; exact rfl; exact rfl; exact rfl; kernel_rfl; exact rfl; clear hs; intro w hs) | ((with_reducible apply stc hs.b0); exact rfl; exact rfl; exact rfl; exact rfl; exact rfl; kernel_rfl; exact rfl; clear hs; intro w hs) | ((with_reducible apply stc hs.b1); exact rfl; exact rfl; exact rfl; exact rfl; exact rfl; kernel_rfl; exact rfl; clear hs; intro w hs) | ((with_reducible refine wrap hs ?_); clear hs; intro w hs) | ((with_reducible refine wrapn hs ?_); clear hs; intro w hs) | ((with_reducible refine wrapd hs ?_); clear hs; intro w hs)))
            go_roundw
            case rel => exact ⟨j + 1, ⟨false, last⟩, by omega, by go_num, HB', hs.drop⟩
            case measure => simp [intOf]; omega
        · skip
          have HF := Lib.hid (show feed ⟨true, last⟩ ⟨k, i0, i1, i2, wd, rr, bl, la, fr, wr'⟩ ec = (⟨true, last⟩, 0) from by simp [feed, h1, h2, h3, h4, h5])
          have HB' := Lib.hid (show Bd ⟨true, last⟩ by have := HB.out; unfold Bd at *; simp only at *; omega)
          clear h1 h2 h3 h4 h5
          as_aux_lemma =>
            go_wp2_with (first | (go_at_call 8; refine (on_t (off := false) (on := true) rfl zf hs.b1).mono ?_; clear hs; rintro e w ⟨rfl, hs⟩; replace hs := hs.b1) | (go_at_call 8; refine (on_t (off := true) (on := false) rfl zf hs.b1).mono ?_; clear hs; rintro e w ⟨rfl, hs⟩; replace hs := hs.b1) | (go_at_call 9; refine (feed_t HF.out HW.out zf hs.b1).mono ?_; clear hs; rintro e w ⟨rfl, hs⟩; replace hs := hs.b1) | ((with_reducible refine isl ?_); first | ((with_reducible apply ldsw hs); exact rfl; exact rfl; exact rfl; exact row29) | ((with_reducible apply ld hs.b0); exact rfl; exact rfl; exact rfl; exact rfl; kernel_rfl) | ((with_reducible apply ld hs.b1); exact rfl; exact rfl; exact rfl; exact rfl; kernel_rfl) | ((with_reducible apply st hs.b0); exact rfl; exact rfl; exact rfl; exact rfl; exact rfl; exact rfl; kernel_rfl; exact rfl; clear hs; intro w hs) | ((with_reducible apply st hs.b1); exact rfl; exact rfl; exact rfl; exact rfl; exact rfl; exact rfl; kernel_rfl; exact rfl; clear hs; intro w hs) | ((with_reducible apply stc hs.b0); exact rfl; exact rfl; exact rfl; exact rfl; exact rfl; kernel_rfl; exact rfl; clear hs; intro w hs) | ((with_reducible apply stc hs.b1); exact rfl; exact rfl; exact rfl; exact rfl; exact rfl; kernel_rfl; exact rfl; clear hs; intro w hs) | ((with_reducible refine wrap hs ?_); clear hs; intro w hs) | ((with_reducible refine wrapn hs ?_); clear hs; intro w hs) | ((with_reducible refine wrapd hs ?_); clear hs; intro w hs)))
            go_roundw
            case rel => exact ⟨j + 1, ⟨true, last⟩, by omega, by go_num, HB', hs.drop⟩
            case measure => simp [intOf]; omega
    · have hjn : j = n := by omega
      subst hjn
      go_wp2_with (first | (go_at_call 6; refine (known6 hs).mono ?_; clear hs; rintro e w ⟨rfl, hs⟩) | ((with_reducible refine isl ?_); first | ((with_reducible refine wrap hs ?_); clear hs; intro w hs) | ((with_reducible refine wrapn hs ?_); clear hs; intro w hs) | ((with_reducible refine wrapd hs ?_); clear hs; intro w hs)))
      go_ret
      exact ⟨rfl, hs.drop⟩
end Go.Proofs.Ytppdggcefnlncaa
