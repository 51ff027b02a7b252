/- Law 9: SetMargins, New. -/
import Derived.Test.YtdcagaaanbgcoaaS6
namespace Go.Proofs.Ytdcagaaanbgcoaa
open Go.RowKit Go.Mem Go.Cells Go.Lines
variable {W w : World} {H : List HProp}
attribute [local irreducible] rowTy oneTy World.setCell World.setCells World.alloc World.drew World.drewN Calls sat cel own blk old wpQuiet wpList cmb cmb1 rwP cls rws wi wh fst_ World.rangeAt lrw lnP stP lsP dsP lvs frL downL upL pushs
section
variable {b s N cols most : Nat} {keeps : Bool} {top bot nx q : Int} {L SL : List LN} {at_ : At} {f k : Nat}
theorem sc_mk {n p : Nat} {a : Option Addr} (hn : L.length = n) (hs : sat W (cel b 46 [.pointer (some ⟨s, 0, none⟩), .bool keeps, .int .i64 cols, .slice a n p, .int .i64 top, .int .i64 bot] :: lnP 81 96 (.slice a n p) L :: H) w) : sat W (scP b s ⟨keeps, cols, top, bot, L⟩ :: H) w := by
  obtain ⟨ps, h1, h2, hs⟩ := ln_open hn hs.b1
  exact sc_close (Lib.hid ⟨h1, h2⟩) (by refine sb_from ?_ hs; repeat constructor)
/-- Margins that may be. -/
def MOK (n : Nat) (t b : Int) : Prop := (t = 0 ∧ b = (n : Int) - 1) ∨ (0 ≤ t ∧ t < b ∧ b < (n : Int))
theorem sset9 {t2 b2 : Int} {n p : Nat} {a : Option Addr} (h : 0 < n) (h5 : n ≤ 512) (hP : MOK n t2 b2) (hs : sat W (cel b 46 [.pointer (some ⟨s, 0, none⟩), .bool keeps, .int .i64 cols, .slice a n p, .int .i64 top, .int .i64 bot] :: H) w) :
    Calls Try.prog 9 #[.pointer (some ⟨b, 0, none⟩), .int .i64 t2, .int .i64 b2] w fun e w' => e = .returned (.int .i64 0) ∧ sat W (cel b 46 [.pointer (some ⟨s, 0, none⟩), .bool keeps, .int .i64 cols, .slice a n p, .int .i64 t2, .int .i64 b2] :: H) w' := by
  unfold MOK at hP
  by_cases hw : t2 = 0 ∧ b2 = (n : Int) - 1
  · obtain ⟨rfl, hb⟩ := hw
    have f1 : (b2 == (n : Int) - 1) = true := beq_iff_eq.2 hb
    have f2 : decide (b2 = (n : Int) - 1) = true := decide_eq_true hb
    clear hb hP
    go_enter Try.func9, Try.ntmps9
    go_wp2_with (first | (go_at_call 20; refine (srows20 h (by (apply sk_from (hs := hs); repeat constructor))).mono ?_; clear hs; rintro e w ⟨rfl, hs⟩) | (go_at_call 37; refine (sready37 h (by (apply sk_from (hs := hs); repeat constructor))).mono ?_; clear hs; rintro e w ⟨rfl, hs⟩) | ((with_reducible refine isl ?_); first | ((with_reducible apply ld hs.b0); exact rfl; exact rfl; exact rfl; exact rfl; kernel_rfl) | ((with_reducible apply st hs.b0); exact rfl; exact rfl; exact rfl; exact rfl; exact rfl; exact rfl; kernel_rfl; exact rfl; clear hs; intro w hs) | ((with_reducible apply stc hs.b0); exact rfl; exact rfl; exact rfl; exact rfl; exact rfl; kernel_rfl; exact rfl; clear hs; intro w hs) | ((with_reducible refine wrap hs ?_); clear hs; intro w hs) | ((with_reducible refine wrapn hs ?_); clear hs; intro w hs) | ((with_reducible refine wrapd hs ?_); clear hs; intro w hs)))
    go_ret
    exact ⟨rfl, by refine sb_from ?_ hs; repeat constructor⟩
  · have k1 : decide (t2 < 0) = false := decide_eq_false (by omega)
    have k2 : decide (b2 ≤ t2) = false := decide_eq_false (by omega)
    have k3 : decide ((n : Int) ≤ b2) = false := decide_eq_false (by omega)
    by_cases hz : t2 = 0
    · have f1 : (b2 == (n : Int) - 1) = false := beq_eq_false_iff_ne.2 (fun e => hw ⟨hz, e⟩)
      have f2 : decide (b2 = (n : Int) - 1) = false := decide_eq_false (fun e => hw ⟨hz, e⟩)
      subst hz
      clear hw hP
      go_enter Try.func9, Try.ntmps9
      go_wp2_with (first | (go_at_call 20; refine (srows20 h (by (apply sk_from (hs := hs); repeat constructor))).mono ?_; clear hs; rintro e w ⟨rfl, hs⟩) | (go_at_call 37; refine (sready37 h (by (apply sk_from (hs := hs); repeat constructor))).mono ?_; clear hs; rintro e w ⟨rfl, hs⟩) | ((with_reducible refine isl ?_); first | ((with_reducible apply ld hs.b0); exact rfl; exact rfl; exact rfl; exact rfl; kernel_rfl) | ((with_reducible apply st hs.b0); exact rfl; exact rfl; exact rfl; exact rfl; exact rfl; exact rfl; kernel_rfl; exact rfl; clear hs; intro w hs) | ((with_reducible apply stc hs.b0); exact rfl; exact rfl; exact rfl; exact rfl; exact rfl; kernel_rfl; exact rfl; clear hs; intro w hs) | ((with_reducible refine wrap hs ?_); clear hs; intro w hs) | ((with_reducible refine wrapn hs ?_); clear hs; intro w hs) | ((with_reducible refine wrapd hs ?_); clear hs; intro w hs)))
      go_ret
      exact ⟨rfl, by refine sb_from ?_ hs; repeat constructor⟩
    · have f1 : (t2 == 0) = false := beq_eq_false_iff_ne.2 hz
      have f2 : decide (t2 = 0) = false := decide_eq_false hz
      clear hw hP
      go_enter Try.func9, Try.ntmps9
      go_wp2_with (first | (go_at_call 20; refine (srows20 h (by (apply sk_from (hs := hs); repeat constructor))).mono ?_; clear hs; rintro e w ⟨rfl, hs⟩) | (go_at_call 37; refine (sready37 h (by (apply sk_from (hs := hs); repeat constructor))).mono ?_; clear hs; rintro e w ⟨rfl, hs⟩) | ((with_reducible refine isl ?_); first | ((with_reducible apply ld hs.b0); exact rfl; exact rfl; exact rfl; exact rfl; kernel_rfl) | ((with_reducible apply st hs.b0); exact rfl; exact rfl; exact rfl; exact rfl; exact rfl; exact rfl; kernel_rfl; exact rfl; clear hs; intro w hs) | ((with_reducible apply stc hs.b0); exact rfl; exact rfl; exact rfl; exact rfl; exact rfl; kernel_rfl; exact rfl; clear hs; intro w hs) | ((with_reducible refine wrap hs ?_); clear hs; intro w hs) | ((with_reducible refine wrapn hs ?_); clear hs; intro w hs) | ((with_reducible refine wrapd hs ?_); clear hs; intro w hs)))
      go_ret
      exact ⟨rfl, by refine sb_from ?_ hs; repeat constructor⟩
theorem sset9_no {t2 b2 : Int} {n p : Nat} {a : Option Addr} (h : 0 < n) (h5 : n ≤ 512) (hP : ¬ MOK n t2 b2) (hs : sat W (cel b 46 [.pointer (some ⟨s, 0, none⟩), .bool keeps, .int .i64 cols, .slice a n p, .int .i64 top, .int .i64 bot] :: H) w) :
    Calls Try.prog 9 #[.pointer (some ⟨b, 0, none⟩), .int .i64 t2, .int .i64 b2] w fun e w' => e = .returned (.int .i64 2) ∧ sat W (cel b 46 [.pointer (some ⟨s, 0, none⟩), .bool keeps, .int .i64 cols, .slice a n p, .int .i64 top, .int .i64 bot] :: H) w' := by
  unfold MOK at hP
  have hw : ¬ (t2 = 0 ∧ b2 = (n : Int) - 1) := fun h => hP (.inl h)
  have hx : ¬ (0 ≤ t2 ∧ t2 < b2 ∧ b2 < (n : Int)) := fun h => hP (.inr h)
  clear hP
  by_cases hz : t2 = 0
  · have f1 : (b2 == (n : Int) - 1) = false := beq_eq_false_iff_ne.2 (fun e => hw ⟨hz, e⟩)
    have f2 : decide (b2 = (n : Int) - 1) = false := decide_eq_false (fun e => hw ⟨hz, e⟩)
    subst hz
    clear hw
    by_cases h2 : b2 ≤ 0
    · have k2 : decide (b2 ≤ 0) = true := decide_eq_true h2
      go_enter Try.func9, Try.ntmps9
      go_wp2_with (first | (go_at_call 20; refine (srows20 h (by (apply sk_from (hs := hs); repeat constructor))).mono ?_; clear hs; rintro e w ⟨rfl, hs⟩) | (go_at_call 37; refine (sready37 h (by (apply sk_from (hs := hs); repeat constructor))).mono ?_; clear hs; rintro e w ⟨rfl, hs⟩) | ((with_reducible refine isl ?_); first | ((with_reducible apply ld hs.b0); exact rfl; exact rfl; exact rfl; exact rfl; kernel_rfl) | ((with_reducible apply st hs.b0); exact rfl; exact rfl; exact rfl; exact rfl; exact rfl; exact rfl; kernel_rfl; exact rfl; clear hs; intro w hs) | ((with_reducible apply stc hs.b0); exact rfl; exact rfl; exact rfl; exact rfl; exact rfl; kernel_rfl; exact rfl; clear hs; intro w hs) | ((with_reducible refine wrap hs ?_); clear hs; intro w hs) | ((with_reducible refine wrapn hs ?_); clear hs; intro w hs) | ((with_reducible refine wrapd hs ?_); clear hs; intro w hs)))
      go_ret
      exact ⟨rfl, by refine sb_from ?_ hs; repeat constructor⟩
    · have k2 : decide (b2 ≤ 0) = false := decide_eq_false h2
      have k3 : decide ((n : Int) ≤ b2) = true := decide_eq_true (by omega)
      go_enter Try.func9, Try.ntmps9
      go_wp2_with (first | (go_at_call 20; refine (srows20 h (by (apply sk_from (hs := hs); repeat constructor))).mono ?_; clear hs; rintro e w ⟨rfl, hs⟩) | (go_at_call 37; refine (sready37 h (by (apply sk_from (hs := hs); repeat constructor))).mono ?_; clear hs; rintro e w ⟨rfl, hs⟩) | ((with_reducible refine isl ?_); first | ((with_reducible apply ld hs.b0); exact rfl; exact rfl; exact rfl; exact rfl; kernel_rfl) | ((with_reducible apply st hs.b0); exact rfl; exact rfl; exact rfl; exact rfl; exact rfl; exact rfl; kernel_rfl; exact rfl; clear hs; intro w hs) | ((with_reducible apply stc hs.b0); exact rfl; exact rfl; exact rfl; exact rfl; exact rfl; kernel_rfl; exact rfl; clear hs; intro w hs) | ((with_reducible refine wrap hs ?_); clear hs; intro w hs) | ((with_reducible refine wrapn hs ?_); clear hs; intro w hs) | ((with_reducible refine wrapd hs ?_); clear hs; intro w hs)))
      go_ret
      exact ⟨rfl, by refine sb_from ?_ hs; repeat constructor⟩
  · have f1 : (t2 == 0) = false := beq_eq_false_iff_ne.2 hz
    have f2 : decide (t2 = 0) = false := decide_eq_false hz
    clear hw
    by_cases h1 : t2 < 0
    · have k1 : decide (t2 < 0) = true := decide_eq_true h1
      go_enter Try.func9, Try.ntmps9
      go_wp2_with (first | (go_at_call 20; refine (srows20 h (by (apply sk_from (hs := hs); repeat constructor))).mono ?_; clear hs; rintro e w ⟨rfl, hs⟩) | (go_at_call 37; refine (sready37 h (by (apply sk_from (hs := hs); repeat constructor))).mono ?_; clear hs; rintro e w ⟨rfl, hs⟩) | ((with_reducible refine isl ?_); first | ((with_reducible apply ld hs.b0); exact rfl; exact rfl; exact rfl; exact rfl; kernel_rfl) | ((with_reducible apply st hs.b0); exact rfl; exact rfl; exact rfl; exact rfl; exact rfl; exact rfl; kernel_rfl; exact rfl; clear hs; intro w hs) | ((with_reducible apply stc hs.b0); exact rfl; exact rfl; exact rfl; exact rfl; exact rfl; kernel_rfl; exact rfl; clear hs; intro w hs) | ((with_reducible refine wrap hs ?_); clear hs; intro w hs) | ((with_reducible refine wrapn hs ?_); clear hs; intro w hs) | ((with_reducible refine wrapd hs ?_); clear hs; intro w hs)))
      go_ret
      exact ⟨rfl, by refine sb_from ?_ hs; repeat constructor⟩
    · have k1 : decide (t2 < 0) = false := decide_eq_false h1
      by_cases h2 : b2 ≤ t2
      · have k2 : decide (b2 ≤ t2) = true := decide_eq_true h2
        go_enter Try.func9, Try.ntmps9
        go_wp2_with (first | (go_at_call 20; refine (srows20 h (by (apply sk_from (hs := hs); repeat constructor))).mono ?_; clear hs; rintro e w ⟨rfl, hs⟩) | (go_at_call 37; refine (sready37 h (by (apply sk_from (hs := hs); repeat constructor))).mono ?_; clear hs; rintro e w ⟨rfl, hs⟩) | ((with_reducible refine isl ?_); first | ((with_reducible apply ld hs.b0); exact rfl; exact rfl; exact rfl; exact rfl; kernel_rfl) | ((with_reducible apply st hs.b0); exact rfl; exact rfl; exact rfl; exact rfl; exact rfl; exact rfl; kernel_rfl; exact rfl; clear hs; intro w hs) | ((with_reducible apply stc hs.b0); exact rfl; exact rfl; exact rfl; exact rfl; exact rfl; kernel_rfl; exact rfl; clear hs; intro w hs) | ((with_reducible refine wrap hs ?_); clear hs; intro w hs) | ((with_reducible refine wrapn hs ?_); clear hs; intro w hs) | ((with_reducible refine wrapd hs ?_); clear hs; intro w hs)))
        go_ret
        exact ⟨rfl, by refine sb_from ?_ hs; repeat constructor⟩
      · have k2 : decide (b2 ≤ t2) = false := decide_eq_false h2
        have k3 : decide ((n : Int) ≤ b2) = true := decide_eq_true (by omega)
        go_enter Try.func9, Try.ntmps9
        go_wp2_with (first | (go_at_call 20; refine (srows20 h (by (apply sk_from (hs := hs); repeat constructor))).mono ?_; clear hs; rintro e w ⟨rfl, hs⟩) | (go_at_call 37; refine (sready37 h (by (apply sk_from (hs := hs); repeat constructor))).mono ?_; clear hs; rintro e w ⟨rfl, hs⟩) | ((with_reducible refine isl ?_); first | ((with_reducible apply ld hs.b0); exact rfl; exact rfl; exact rfl; exact rfl; kernel_rfl) | ((with_reducible apply st hs.b0); exact rfl; exact rfl; exact rfl; exact rfl; exact rfl; exact rfl; kernel_rfl; exact rfl; clear hs; intro w hs) | ((with_reducible apply stc hs.b0); exact rfl; exact rfl; exact rfl; exact rfl; exact rfl; kernel_rfl; exact rfl; clear hs; intro w hs) | ((with_reducible refine wrap hs ?_); clear hs; intro w hs) | ((with_reducible refine wrapn hs ?_); clear hs; intro w hs) | ((with_reducible refine wrapd hs ?_); clear hs; intro w hs)))
        go_ret
        exact ⟨rfl, by refine sb_from ?_ hs; repeat constructor⟩
theorem snew18 (hN : 1 ≤ N) (hN5 : N ≤ 512) (c0 : 1 ≤ cols) (c1 : cols ≤ 512) (hnx : 0 < nx) (hnb : nx + 512 ≤ 1000000) (hs : sat W (stP s most nx SL :: H) w) :
    Calls Try.prog 18 #[.int .i64 (N : Int), .int .i64 (cols : Int), .pointer (some ⟨s, 0, none⟩), .bool keeps] w fun e w' => ∃ b, e = .returned (.tuple #[.pointer (some ⟨b, 0, none⟩), .int .i64 0]) ∧ sat W (scP b s ⟨keeps, cols, 0, (N : Int) - 1, frL N nx (frC cols At.z)⟩ :: stP s most (nx + N) SL :: H) w' := by
  have HN := Lib.hid (show decide (1 ≤ (N : Int) ∧ (N : Int) ≤ 512) = true from decide_eq_true (by omega))
  have HC := Lib.hid (show decide (1 ≤ (cols : Int) ∧ (cols : Int) ≤ 512) = true from decide_eq_true (by omega))
  have hz : ¬ nx = 0 := by omega
  have hz2 : (nx == 0) = false := beq_eq_false_iff_ne.2 hz
  go_enter Try.func18, Try.ntmps18
  go_wp2_with (first | (go_at_call 44; refine (may44 (x := (N : Int)) hs).mono ?_; clear hs; rintro e w ⟨rfl, hs⟩; rw [HN.out]) | (go_at_call 44; refine (may44 (x := (cols : Int)) hs).mono ?_; clear hs; rintro e w ⟨rfl, hs⟩; rw [HC.out]) | (go_at_call 28; refine (next11_st hnx (by (apply sk_from (hs := hs); repeat constructor))).mono ?_; clear hs; rintro e w ⟨rfl, hs⟩) | (go_at_call 45; refine (fresh45 (n := N) (nx := nx) (cols := cols) (s := s) (most := most) (SL := SL) (at_ := At.z) hN5 c0 c1 hnx (by omega) (by (apply sk_from (hs := hs); repeat constructor))).mono ?_; clear hs; rintro e w ⟨g, rfl, hs⟩) | ((with_reducible refine isl ?_); first | ((with_reducible apply ld hs.b0); exact rfl; exact rfl; exact rfl; exact rfl; kernel_rfl) | ((with_reducible apply ld hs.b1); exact rfl; exact rfl; exact rfl; exact rfl; kernel_rfl) | ((with_reducible apply ld hs.b2); exact rfl; exact rfl; exact rfl; exact rfl; kernel_rfl) | ((with_reducible apply st hs.b0); exact rfl; exact rfl; exact rfl; exact rfl; exact rfl; exact rfl; kernel_rfl; exact rfl; clear hs; intro w hs) | ((with_reducible apply st hs.b1); exact rfl; exact rfl; exact rfl; exact rfl; exact rfl; exact rfl; kernel_rfl; exact rfl; clear hs; intro w hs) | ((with_reducible apply st hs.b2); exact rfl; exact rfl; exact rfl; exact rfl; exact rfl; exact rfl; kernel_rfl; exact rfl; clear hs; intro w hs) | ((with_reducible apply stc hs.b0); exact rfl; exact rfl; exact rfl; exact rfl; exact rfl; kernel_rfl; exact rfl; clear hs; intro w hs) | ((with_reducible apply stc hs.b1); exact rfl; exact rfl; exact rfl; exact rfl; exact rfl; kernel_rfl; exact rfl; clear hs; intro w hs) | ((with_reducible apply stc hs.b2); exact rfl; exact rfl; exact rfl; exact rfl; exact rfl; kernel_rfl; exact rfl; clear hs; intro w hs) | ((with_reducible refine wrap hs ?_); clear hs; (first | (have _t := z9; clear _t; generalize w.heap.size = z10) | generalize w.heap.size = z9); intro w hs) | ((with_reducible refine wrap hs ?_); clear hs; intro w hs) | ((with_reducible refine wrapn hs ?_); clear hs; intro w hs) | ((with_reducible refine wrapd hs ?_); clear hs; intro w hs)))
  refine end_ret rfl (results_tmp2 rfl _ _ _) ⟨z9, rfl, ?_⟩
  exact sc_mk (frL_len _ _ _) (by refine sb_from ?_ hs; repeat constructor)
end
end Go.Proofs.Ytdcagaaanbgcoaa
