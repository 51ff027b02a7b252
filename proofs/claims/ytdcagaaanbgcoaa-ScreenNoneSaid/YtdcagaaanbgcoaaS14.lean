/- Law 9: ScreenNone. -/
import Derived.Test.YtdcagaaanbgcoaaS13
namespace Go.Proofs.Ytdcagaaanbgcoaa
open Go.RowKit Go.Mem Go.Cells Go.Lines
variable {W w : World} {H : List HProp}
/-- A screen that is not there, or was not made. -/
def NR (v : Value) : HProp := fun h => v = .pointer none ∨ ∃ b, v = .pointer (some ⟨b, 0, none⟩) ∧ cel b 46 [.pointer none, .bool false, .int .i64 0, .slice none 0 0, .int .i64 0, .int .i64 0] h
theorem nr_cases {v : Value} (hs : sat W (NR v :: H) w) : (v = .pointer none ∧ sat W H w) ∨ ∃ b, v = .pointer (some ⟨b, 0, none⟩) ∧ sat W (cel b 46 [.pointer none, .bool false, .int .i64 0, .slice none 0 0, .int .i64 0, .int .i64 0] :: H) w := by
  obtain ⟨h1, h2, ap, s1, s2, hv, r⟩ := hs.2.2.2
  rcases hv with hv | ⟨b, hv, k⟩
  · exact .inl ⟨hv, hs.drop⟩
  · exact .inr ⟨b, hv, hs.1, hs.2.1, hs.2.2.1, h1, h2, ap, s1, s2, k, r⟩
theorem nr_nil (hs : sat W H w) : sat W (NR (.pointer none) :: H) w := (sat_tt hs).imp fun _ _ => .inl rfl
theorem nr_zero {b : Nat} (hs : sat W (cel b 46 [.pointer none, .bool false, .int .i64 0, .slice none 0 0, .int .i64 0, .int .i64 0] :: H) w) : sat W (NR (.pointer (some ⟨b, 0, none⟩)) :: H) w := hs.imp fun _ h => .inr ⟨b, rfl, h⟩
attribute [local irreducible] rowTy oneTy World.setCell World.setCells World.alloc World.drew World.drewN Calls sat cel own blk old wpQuiet wpList cmb cmb1 rwP cls rws wi wh fst_ World.rangeAt lrw lnP stP lsP dsP lvs frL downL upL pushs backL idv NR
theorem ready42_nil (hs : sat W H w) : Calls Try.prog 42 #[.pointer none] w fun e w' => e = .returned (.bool false) ∧ sat W H w' := by
  go_enter Try.func42, Try.ntmps42
  go_wp2_with fail
  go_ret
  exact ⟨rfl, hs⟩
theorem next28_nil (hs : sat W H w) : Calls Try.prog 28 #[.pointer none] w fun e w' => e = .returned (.int .i64 0) ∧ sat W H w' := by
  go_enter Try.func28, Try.ntmps28
  go_wp2_with (first | (go_at_call 42; refine (ready42_nil hs).mono ?_; clear hs; rintro e w ⟨rfl, hs⟩) | ((with_reducible refine isl ?_); first | ((with_reducible refine wrap hs ?_); clear hs; intro w hs) | ((with_reducible refine wrapn hs ?_); clear hs; intro w hs) | ((with_reducible refine wrapd hs ?_); clear hs; intro w hs)))
  go_ret
  exact ⟨rfl, hs⟩
theorem snew18_nil (hs : sat W H w) : Calls Try.prog 18 #[.int .i64 2, .int .i64 2, .pointer none, .bool true] w fun e w' => e = .returned (.tuple #[.pointer none, .int .i64 2]) ∧ sat W H w' := by
  have HN := Lib.hid (show decide (1 ≤ (2 : Int) ∧ (2 : Int) ≤ 512) = true from rfl)
  go_enter Try.func18, Try.ntmps18
  go_wp2_with (first | (go_at_call 44; refine (may44 (x := 2) hs).mono ?_; clear hs; rintro e w ⟨rfl, hs⟩; rw [HN.out]) | (go_at_call 28; refine (next28_nil hs).mono ?_; clear hs; rintro e w ⟨rfl, hs⟩) | ((with_reducible refine isl ?_); first | ((with_reducible refine wrap hs ?_); clear hs; intro w hs) | ((with_reducible refine wrapn hs ?_); clear hs; intro w hs) | ((with_reducible refine wrapd hs ?_); clear hs; intro w hs)))
  refine end_ret rfl (results_tmp2 rfl _ _ _) ⟨rfl, hs⟩
theorem ready37_nil (hs : sat W H w) : Calls Try.prog 37 #[.pointer none] w fun e w' => e = .returned (.bool false) ∧ sat W H w' := by
  go_enter Try.func37, Try.ntmps37
  go_wp2_with fail
  go_ret
  exact ⟨rfl, hs⟩
theorem ready37_zero {b : Nat} (hs : sat W (cel b 46 [.pointer none, .bool false, .int .i64 0, .slice none 0 0, .int .i64 0, .int .i64 0] :: H) w) : Calls Try.prog 37 #[.pointer (some ⟨b, 0, none⟩)] w fun e w' => e = .returned (.bool false) ∧ sat W (cel b 46 [.pointer none, .bool false, .int .i64 0, .slice none 0 0, .int .i64 0, .int .i64 0] :: H) w' := by
  go_enter Try.func37, Try.ntmps37
  go_wp2_with (first | ((with_reducible refine isl ?_); first | ((with_reducible apply ld hs.b0); exact rfl; exact rfl; exact rfl; exact rfl; kernel_rfl) | ((with_reducible apply st hs.b0); exact rfl; exact rfl; exact rfl; exact rfl; exact rfl; exact rfl; kernel_rfl; exact rfl; clear hs; intro w hs) | ((with_reducible apply stc hs.b0); exact rfl; exact rfl; exact rfl; exact rfl; exact rfl; kernel_rfl; exact rfl; clear hs; intro w hs) | ((with_reducible refine wrap hs ?_); clear hs; intro w hs) | ((with_reducible refine wrapn hs ?_); clear hs; intro w hs) | ((with_reducible refine wrapd hs ?_); clear hs; intro w hs)))
  go_ret
  exact ⟨rfl, hs⟩
theorem nready37 {v : Value} (hs : sat W (NR v :: H) w) : Calls Try.prog 37 #[v] w fun e w' => e = .returned (.bool false) ∧ sat W (NR v :: H) w' := by
  have h := nr_cases hs
  clear hs
  rcases h with ⟨rfl, hs⟩ | ⟨b, rfl, hs⟩
  · exact (ready37_nil hs).mono fun e w' ⟨he, hs⟩ => ⟨he, nr_nil hs⟩
  · exact (ready37_zero hs).mono fun e w' ⟨he, hs⟩ => ⟨he, nr_zero hs⟩
theorem nmargins10 {v : Value} (hs : sat W (NR v :: H) w) : Calls Try.prog 10 #[v] w fun e w' => e = .returned (.tuple #[.int .i64 0, .int .i64 0]) ∧ sat W (NR v :: H) w' := by
  go_enter Try.func10, Try.ntmps10
  go_wp2_with (first | (go_at_call 37; refine (nready37 (by (apply sk_from (hs := hs); repeat constructor))).mono ?_; clear hs; rintro e w ⟨rfl, hs⟩) | ((with_reducible refine isl ?_); first | ((with_reducible apply ld hs.b0); exact rfl; exact rfl; exact rfl; exact rfl; kernel_rfl) | ((with_reducible apply st hs.b0); exact rfl; exact rfl; exact rfl; exact rfl; exact rfl; exact rfl; kernel_rfl; exact rfl; clear hs; intro w hs) | ((with_reducible apply stc hs.b0); exact rfl; exact rfl; exact rfl; exact rfl; exact rfl; kernel_rfl; exact rfl; clear hs; intro w hs) | ((with_reducible refine wrap hs ?_); clear hs; intro w hs) | ((with_reducible refine wrapn hs ?_); clear hs; intro w hs) | ((with_reducible refine wrapd hs ?_); clear hs; intro w hs)))
  refine end_ret rfl (results_tmp2 rfl _ _ _) ⟨rfl, hs⟩
theorem nrows20 {v : Value} (hs : sat W (NR v :: H) w) : Calls Try.prog 20 #[v] w fun e w' => e = .returned (.int .i64 0) ∧ sat W (NR v :: H) w' := by
  go_enter Try.func20, Try.ntmps20
  go_wp2_with (first | (go_at_call 37; refine (nready37 (by (apply sk_from (hs := hs); repeat constructor))).mono ?_; clear hs; rintro e w ⟨rfl, hs⟩) | ((with_reducible refine isl ?_); first | ((with_reducible apply ld hs.b0); exact rfl; exact rfl; exact rfl; exact rfl; kernel_rfl) | ((with_reducible apply st hs.b0); exact rfl; exact rfl; exact rfl; exact rfl; exact rfl; exact rfl; kernel_rfl; exact rfl; clear hs; intro w hs) | ((with_reducible apply stc hs.b0); exact rfl; exact rfl; exact rfl; exact rfl; exact rfl; kernel_rfl; exact rfl; clear hs; intro w hs) | ((with_reducible refine wrap hs ?_); clear hs; intro w hs) | ((with_reducible refine wrapn hs ?_); clear hs; intro w hs) | ((with_reducible refine wrapd hs ?_); clear hs; intro w hs)))
  go_ret
  exact ⟨rfl, by refine sb_from ?_ hs; repeat constructor⟩
theorem ncols21 {v : Value} (hs : sat W (NR v :: H) w) : Calls Try.prog 21 #[v] w fun e w' => e = .returned (.int .i64 0) ∧ sat W (NR v :: H) w' := by
  go_enter Try.func21, Try.ntmps21
  go_wp2_with (first | (go_at_call 37; refine (nready37 (by (apply sk_from (hs := hs); repeat constructor))).mono ?_; clear hs; rintro e w ⟨rfl, hs⟩) | ((with_reducible refine isl ?_); first | ((with_reducible apply ld hs.b0); exact rfl; exact rfl; exact rfl; exact rfl; kernel_rfl) | ((with_reducible apply st hs.b0); exact rfl; exact rfl; exact rfl; exact rfl; exact rfl; exact rfl; kernel_rfl; exact rfl; clear hs; intro w hs) | ((with_reducible apply stc hs.b0); exact rfl; exact rfl; exact rfl; exact rfl; exact rfl; kernel_rfl; exact rfl; clear hs; intro w hs) | ((with_reducible refine wrap hs ?_); clear hs; intro w hs) | ((with_reducible refine wrapn hs ?_); clear hs; intro w hs) | ((with_reducible refine wrapd hs ?_); clear hs; intro w hs)))
  go_ret
  exact ⟨rfl, by refine sb_from ?_ hs; repeat constructor⟩
theorem nat48 {v : Value} {k : Int} (hs : sat W (NR v :: H) w) : Calls Try.prog 48 #[v, .int .i64 k] w fun e w' => e = .returned (.agg #[.int .i64 0, .pointer none]) ∧ sat W (NR v :: H) w' := by
  by_cases h1 : k < 0
  · have g1 : decide (k < 0) = true := decide_eq_true h1
    go_enter Try.func48, Try.ntmps48
    go_wp2_with (first | (go_at_call 20; refine (nrows20 (by (apply sk_from (hs := hs); repeat constructor))).mono ?_; clear hs; rintro e w ⟨rfl, hs⟩) | ((with_reducible refine isl ?_); first | ((with_reducible apply stsw hs.b0); exact rfl; exact rfl; exact rfl; exact rfl; exact row81; exact rfl; exact rfl; exact rfl; clear hs; intro w hs) | ((with_reducible apply stsw hs.b1); exact rfl; exact rfl; exact rfl; exact rfl; exact row81; exact rfl; exact rfl; exact rfl; clear hs; intro w hs) | ((with_reducible apply stsw hs.b2); exact rfl; exact rfl; exact rfl; exact rfl; exact row81; exact rfl; exact rfl; exact rfl; clear hs; intro w hs) | ((with_reducible apply stsw hs.b3); exact rfl; exact rfl; exact rfl; exact rfl; exact row81; exact rfl; exact rfl; exact rfl; clear hs; intro w hs) | ((with_reducible apply ld hs.b0); exact rfl; exact rfl; exact rfl; exact rfl; kernel_rfl) | ((with_reducible apply st hs.b0); exact rfl; exact rfl; exact rfl; exact rfl; exact rfl; exact rfl; kernel_rfl; exact rfl; clear hs; intro w hs) | ((with_reducible apply stc hs.b0); exact rfl; exact rfl; exact rfl; exact rfl; exact rfl; kernel_rfl; exact rfl; clear hs; intro w hs) | ((with_reducible refine wrap hs ?_); clear hs; (first | generalize w.heap.size = z4); intro w hs) | ((with_reducible refine wrap hs ?_); clear hs; intro w hs) | ((with_reducible refine wrapn hs ?_); clear hs; intro w hs) | ((with_reducible refine wrapd hs ?_); clear hs; intro w hs)))
    (first | refine ret_cell hs.b0 rfl rfl rfl row81 ?_ | refine ret_cell hs.b1 rfl rfl rfl row81 ?_ | refine ret_cell hs.b2 rfl rfl rfl row81 ?_ | refine ret_cell hs.b3 rfl rfl rfl row81 ?_ | refine ret_cell hs.b4 rfl rfl rfl row81 ?_ | refine ret_cell hs.b5 rfl rfl rfl row81 ?_)
    exact ⟨rfl, by refine sb_from ?_ hs; repeat constructor⟩
  · have g1 : decide (k < 0) = false := decide_eq_false h1
    have g2 : decide (0 ≤ k) = true := decide_eq_true (by omega)
    go_enter Try.func48, Try.ntmps48
    go_wp2_with (first | (go_at_call 20; refine (nrows20 (by (apply sk_from (hs := hs); repeat constructor))).mono ?_; clear hs; rintro e w ⟨rfl, hs⟩) | ((with_reducible refine isl ?_); first | ((with_reducible apply stsw hs.b0); exact rfl; exact rfl; exact rfl; exact rfl; exact row81; exact rfl; exact rfl; exact rfl; clear hs; intro w hs) | ((with_reducible apply stsw hs.b1); exact rfl; exact rfl; exact rfl; exact rfl; exact row81; exact rfl; exact rfl; exact rfl; clear hs; intro w hs) | ((with_reducible apply stsw hs.b2); exact rfl; exact rfl; exact rfl; exact rfl; exact row81; exact rfl; exact rfl; exact rfl; clear hs; intro w hs) | ((with_reducible apply stsw hs.b3); exact rfl; exact rfl; exact rfl; exact rfl; exact row81; exact rfl; exact rfl; exact rfl; clear hs; intro w hs) | ((with_reducible apply ld hs.b0); exact rfl; exact rfl; exact rfl; exact rfl; kernel_rfl) | ((with_reducible apply st hs.b0); exact rfl; exact rfl; exact rfl; exact rfl; exact rfl; exact rfl; kernel_rfl; exact rfl; clear hs; intro w hs) | ((with_reducible apply stc hs.b0); exact rfl; exact rfl; exact rfl; exact rfl; exact rfl; kernel_rfl; exact rfl; clear hs; intro w hs) | ((with_reducible refine wrap hs ?_); clear hs; (first | generalize w.heap.size = z4); intro w hs) | ((with_reducible refine wrap hs ?_); clear hs; intro w hs) | ((with_reducible refine wrapn hs ?_); clear hs; intro w hs) | ((with_reducible refine wrapd hs ?_); clear hs; intro w hs)))
    (first | refine ret_cell hs.b0 rfl rfl rfl row81 ?_ | refine ret_cell hs.b1 rfl rfl rfl row81 ?_ | refine ret_cell hs.b2 rfl rfl rfl row81 ?_ | refine ret_cell hs.b3 rfl rfl rfl row81 ?_ | refine ret_cell hs.b4 rfl rfl rfl row81 ?_ | refine ret_cell hs.b5 rfl rfl rfl row81 ?_)
    exact ⟨rfl, by refine sb_from ?_ hs; repeat constructor⟩
theorem nid22 {v : Value} {k : Int} (hs : sat W (NR v :: H) w) : Calls Try.prog 22 #[v, .int .i64 k] w fun e w' => e = .returned (.int .i64 0) ∧ sat W (NR v :: H) w' := by
  have hfd := fld81
  go_enter Try.func22, Try.ntmps22
  go_wp2_with (first | (go_at_call 48; refine (nat48 (by (apply sk_from (hs := hs); repeat constructor))).mono ?_; clear hs; rintro e w ⟨rfl, hs⟩) | ((with_reducible refine isl ?_); first | ((with_reducible apply ld hs.b0); exact rfl; exact rfl; exact rfl; exact rfl; kernel_rfl) | ((with_reducible apply st hs.b0); exact rfl; exact rfl; exact rfl; exact rfl; exact rfl; exact rfl; kernel_rfl; exact rfl; clear hs; intro w hs) | ((with_reducible apply stc hs.b0); exact rfl; exact rfl; exact rfl; exact rfl; exact rfl; kernel_rfl; exact rfl; clear hs; intro w hs) | ((with_reducible refine wrap hs ?_); clear hs; intro w hs) | ((with_reducible refine wrapn hs ?_); clear hs; intro w hs) | ((with_reducible refine wrapd hs ?_); clear hs; intro w hs)))
  go_ret
  exact ⟨rfl, by refine sb_from ?_ hs; repeat constructor⟩
theorem nrow23 {v : Value} {k : Int} (hs : sat W (NR v :: H) w) : Calls Try.prog 23 #[v, .int .i64 k] w fun e w' => e = .returned (.pointer none) ∧ sat W (NR v :: H) w' := by
  have hfd := fld81'
  go_enter Try.func23, Try.ntmps23
  go_wp2_with (first | (go_at_call 48; refine (nat48 (by (apply sk_from (hs := hs); repeat constructor))).mono ?_; clear hs; rintro e w ⟨rfl, hs⟩) | ((with_reducible refine isl ?_); first | ((with_reducible apply ld hs.b0); exact rfl; exact rfl; exact rfl; exact rfl; kernel_rfl) | ((with_reducible apply st hs.b0); exact rfl; exact rfl; exact rfl; exact rfl; exact rfl; exact rfl; kernel_rfl; exact rfl; clear hs; intro w hs) | ((with_reducible apply stc hs.b0); exact rfl; exact rfl; exact rfl; exact rfl; exact rfl; kernel_rfl; exact rfl; clear hs; intro w hs) | ((with_reducible refine wrap hs ?_); clear hs; intro w hs) | ((with_reducible refine wrapn hs ?_); clear hs; intro w hs) | ((with_reducible refine wrapd hs ?_); clear hs; intro w hs)))
  go_ret
  exact ⟨rfl, by refine sb_from ?_ hs; repeat constructor⟩
theorem nfind24 {v : Value} {id : Int} (hs : sat W (NR v :: H) w) : Calls Try.prog 24 #[v, .int .i64 id] w fun e w' => e = .returned (.int .i64 (-1)) ∧ sat W (NR v :: H) w' := by
  go_enter Try.func24, Try.ntmps24
  go_wp2_with (first | (go_at_call 20; refine (nrows20 (by (apply sk_from (hs := hs); repeat constructor))).mono ?_; clear hs; rintro e w ⟨rfl, hs⟩) | ((with_reducible refine isl ?_); first | ((with_reducible apply ld hs.b0); exact rfl; exact rfl; exact rfl; exact rfl; kernel_rfl) | ((with_reducible apply st hs.b0); exact rfl; exact rfl; exact rfl; exact rfl; exact rfl; exact rfl; kernel_rfl; exact rfl; clear hs; intro w hs) | ((with_reducible apply stc hs.b0); exact rfl; exact rfl; exact rfl; exact rfl; exact rfl; kernel_rfl; exact rfl; clear hs; intro w hs) | ((with_reducible refine wrap hs ?_); clear hs; intro w hs) | ((with_reducible refine wrapn hs ?_); clear hs; intro w hs) | ((with_reducible refine wrapd hs ?_); clear hs; intro w hs)))
  go_loopw [8] (fun i wx => i = .int .i64 0 ∧ sat W (NR v :: H) wx) (fun _ _ => 0)
  case atStart => exact ⟨rfl, hs⟩
  case round =>
    clear hs
    obtain ⟨rfl, hs⟩ := hrel
    go_wp2_with fail
    go_ret
    exact ⟨rfl, hs⟩
theorem nwithin43 {v : Value} {k : Int} (hs : sat W (NR v :: H) w) : Calls Try.prog 43 #[v, .int .i64 k] w fun e w' => e = .returned (.int .i64 1) ∧ sat W (NR v :: H) w' := by
  go_enter Try.func43, Try.ntmps43
  go_wp2_with (first | (go_at_call 37; refine (nready37 (by (apply sk_from (hs := hs); repeat constructor))).mono ?_; clear hs; rintro e w ⟨rfl, hs⟩) | ((with_reducible refine isl ?_); first | ((with_reducible apply ld hs.b0); exact rfl; exact rfl; exact rfl; exact rfl; kernel_rfl) | ((with_reducible apply st hs.b0); exact rfl; exact rfl; exact rfl; exact rfl; exact rfl; exact rfl; kernel_rfl; exact rfl; clear hs; intro w hs) | ((with_reducible apply stc hs.b0); exact rfl; exact rfl; exact rfl; exact rfl; exact rfl; kernel_rfl; exact rfl; clear hs; intro w hs) | ((with_reducible refine wrap hs ?_); clear hs; intro w hs) | ((with_reducible refine wrapn hs ?_); clear hs; intro w hs) | ((with_reducible refine wrapd hs ?_); clear hs; intro w hs)))
  go_ret
  exact ⟨rfl, by refine sb_from ?_ hs; repeat constructor⟩
theorem nset9 {v : Value} {k q : Int} (hs : sat W (NR v :: H) w) : Calls Try.prog 9 #[v, .int .i64 k, .int .i64 q] w fun e w' => e = .returned (.int .i64 1) ∧ sat W (NR v :: H) w' := by
  by_cases hk : k = 0
  · subst hk
    by_cases hq : q = -1
    · subst hq
      go_enter Try.func9, Try.ntmps9
      go_wp2_with (first | (go_at_call 20; refine (nrows20 (by (apply sk_from (hs := hs); repeat constructor))).mono ?_; clear hs; rintro e w ⟨rfl, hs⟩) | (go_at_call 37; refine (nready37 (by (apply sk_from (hs := hs); repeat constructor))).mono ?_; clear hs; rintro e w ⟨rfl, hs⟩) | ((with_reducible refine isl ?_); first | ((with_reducible apply ld hs.b0); exact rfl; exact rfl; exact rfl; exact rfl; kernel_rfl) | ((with_reducible apply st hs.b0); exact rfl; exact rfl; exact rfl; exact rfl; exact rfl; exact rfl; kernel_rfl; exact rfl; clear hs; intro w hs) | ((with_reducible apply stc hs.b0); exact rfl; exact rfl; exact rfl; exact rfl; exact rfl; kernel_rfl; exact rfl; clear hs; intro w hs) | ((with_reducible refine wrap hs ?_); clear hs; intro w hs) | ((with_reducible refine wrapn hs ?_); clear hs; intro w hs) | ((with_reducible refine wrapd hs ?_); clear hs; intro w hs)))
      go_ret
      exact ⟨rfl, by refine sb_from ?_ hs; repeat constructor⟩
    · have f1 : (q == -1) = false := beq_eq_false_iff_ne.2 hq
      have f2 : decide (q = -1) = false := decide_eq_false hq
      go_enter Try.func9, Try.ntmps9
      go_wp2_with (first | (go_at_call 20; refine (nrows20 (by (apply sk_from (hs := hs); repeat constructor))).mono ?_; clear hs; rintro e w ⟨rfl, hs⟩) | (go_at_call 37; refine (nready37 (by (apply sk_from (hs := hs); repeat constructor))).mono ?_; clear hs; rintro e w ⟨rfl, hs⟩) | ((with_reducible refine isl ?_); first | ((with_reducible apply ld hs.b0); exact rfl; exact rfl; exact rfl; exact rfl; kernel_rfl) | ((with_reducible apply st hs.b0); exact rfl; exact rfl; exact rfl; exact rfl; exact rfl; exact rfl; kernel_rfl; exact rfl; clear hs; intro w hs) | ((with_reducible apply stc hs.b0); exact rfl; exact rfl; exact rfl; exact rfl; exact rfl; kernel_rfl; exact rfl; clear hs; intro w hs) | ((with_reducible refine wrap hs ?_); clear hs; intro w hs) | ((with_reducible refine wrapn hs ?_); clear hs; intro w hs) | ((with_reducible refine wrapd hs ?_); clear hs; intro w hs)))
      go_ret
      exact ⟨rfl, by refine sb_from ?_ hs; repeat constructor⟩
  · have f1 : (k == 0) = false := beq_eq_false_iff_ne.2 hk
    have f2 : decide (k = 0) = false := decide_eq_false hk
    go_enter Try.func9, Try.ntmps9
    go_wp2_with (first | (go_at_call 20; refine (nrows20 (by (apply sk_from (hs := hs); repeat constructor))).mono ?_; clear hs; rintro e w ⟨rfl, hs⟩) | (go_at_call 37; refine (nready37 (by (apply sk_from (hs := hs); repeat constructor))).mono ?_; clear hs; rintro e w ⟨rfl, hs⟩) | ((with_reducible refine isl ?_); first | ((with_reducible apply ld hs.b0); exact rfl; exact rfl; exact rfl; exact rfl; kernel_rfl) | ((with_reducible apply st hs.b0); exact rfl; exact rfl; exact rfl; exact rfl; exact rfl; exact rfl; kernel_rfl; exact rfl; clear hs; intro w hs) | ((with_reducible apply stc hs.b0); exact rfl; exact rfl; exact rfl; exact rfl; exact rfl; kernel_rfl; exact rfl; clear hs; intro w hs) | ((with_reducible refine wrap hs ?_); clear hs; intro w hs) | ((with_reducible refine wrapn hs ?_); clear hs; intro w hs) | ((with_reducible refine wrapd hs ?_); clear hs; intro w hs)))
    go_ret
    exact ⟨rfl, by refine sb_from ?_ hs; repeat constructor⟩
theorem nup12 {v : Value} {k : Int} {a : At} (hs : sat W (NR v :: H) w) : Calls Try.prog 12 #[v, .int .i64 k, aV a] w fun e w' => e = .returned (.int .i64 1) ∧ sat W (NR v :: H) w' := by
  go_enter Try.func12, Try.ntmps12
  go_wp2_with (first | (go_at_call 37; refine (nready37 (by (apply sk_from (hs := hs); repeat constructor))).mono ?_; clear hs; rintro e w ⟨rfl, hs⟩) | ((with_reducible refine isl ?_); first | ((with_reducible apply ld hs.b0); exact rfl; exact rfl; exact rfl; exact rfl; kernel_rfl) | ((with_reducible apply st hs.b0); exact rfl; exact rfl; exact rfl; exact rfl; exact rfl; exact rfl; kernel_rfl; exact rfl; clear hs; intro w hs) | ((with_reducible apply stc hs.b0); exact rfl; exact rfl; exact rfl; exact rfl; exact rfl; kernel_rfl; exact rfl; clear hs; intro w hs) | ((with_reducible refine wrap hs ?_); clear hs; (first | generalize w.heap.size = z4); intro w hs) | ((with_reducible refine wrap hs ?_); clear hs; intro w hs) | ((with_reducible refine wrapn hs ?_); clear hs; intro w hs) | ((with_reducible refine wrapd hs ?_); clear hs; intro w hs)))
  go_ret
  exact ⟨rfl, by refine sb_from ?_ hs; repeat constructor⟩
theorem ndown13 {v : Value} {k : Int} {a : At} (hs : sat W (NR v :: H) w) : Calls Try.prog 13 #[v, .int .i64 k, aV a] w fun e w' => e = .returned (.int .i64 1) ∧ sat W (NR v :: H) w' := by
  go_enter Try.func13, Try.ntmps13
  go_wp2_with (first | (go_at_call 37; refine (nready37 (by (apply sk_from (hs := hs); repeat constructor))).mono ?_; clear hs; rintro e w ⟨rfl, hs⟩) | ((with_reducible refine isl ?_); first | ((with_reducible apply ld hs.b0); exact rfl; exact rfl; exact rfl; exact rfl; kernel_rfl) | ((with_reducible apply st hs.b0); exact rfl; exact rfl; exact rfl; exact rfl; exact rfl; exact rfl; kernel_rfl; exact rfl; clear hs; intro w hs) | ((with_reducible apply stc hs.b0); exact rfl; exact rfl; exact rfl; exact rfl; exact rfl; kernel_rfl; exact rfl; clear hs; intro w hs) | ((with_reducible refine wrap hs ?_); clear hs; (first | generalize w.heap.size = z4); intro w hs) | ((with_reducible refine wrap hs ?_); clear hs; intro w hs) | ((with_reducible refine wrapn hs ?_); clear hs; intro w hs) | ((with_reducible refine wrapd hs ?_); clear hs; intro w hs)))
  go_ret
  exact ⟨rfl, by refine sb_from ?_ hs; repeat constructor⟩
theorem nins16 {v : Value} {k q : Int} {a : At} (hs : sat W (NR v :: H) w) : Calls Try.prog 16 #[v, .int .i64 k, .int .i64 q, aV a] w fun e w' => e = .returned (.int .i64 1) ∧ sat W (NR v :: H) w' := by
  go_enter Try.func16, Try.ntmps16
  go_wp2_with (first | (go_at_call 43; refine (nwithin43 (by (apply sk_from (hs := hs); repeat constructor))).mono ?_; clear hs; rintro e w ⟨rfl, hs⟩) | ((with_reducible refine isl ?_); first | ((with_reducible apply ld hs.b0); exact rfl; exact rfl; exact rfl; exact rfl; kernel_rfl) | ((with_reducible apply st hs.b0); exact rfl; exact rfl; exact rfl; exact rfl; exact rfl; exact rfl; kernel_rfl; exact rfl; clear hs; intro w hs) | ((with_reducible apply stc hs.b0); exact rfl; exact rfl; exact rfl; exact rfl; exact rfl; kernel_rfl; exact rfl; clear hs; intro w hs) | ((with_reducible refine wrap hs ?_); clear hs; (first | generalize w.heap.size = z4); intro w hs) | ((with_reducible refine wrap hs ?_); clear hs; intro w hs) | ((with_reducible refine wrapn hs ?_); clear hs; intro w hs) | ((with_reducible refine wrapd hs ?_); clear hs; intro w hs)))
  go_ret
  exact ⟨rfl, by refine sb_from ?_ hs; repeat constructor⟩
theorem ndel17 {v : Value} {k q : Int} {a : At} (hs : sat W (NR v :: H) w) : Calls Try.prog 17 #[v, .int .i64 k, .int .i64 q, aV a] w fun e w' => e = .returned (.int .i64 1) ∧ sat W (NR v :: H) w' := by
  go_enter Try.func17, Try.ntmps17
  go_wp2_with (first | (go_at_call 43; refine (nwithin43 (by (apply sk_from (hs := hs); repeat constructor))).mono ?_; clear hs; rintro e w ⟨rfl, hs⟩) | ((with_reducible refine isl ?_); first | ((with_reducible apply ld hs.b0); exact rfl; exact rfl; exact rfl; exact rfl; kernel_rfl) | ((with_reducible apply st hs.b0); exact rfl; exact rfl; exact rfl; exact rfl; exact rfl; exact rfl; kernel_rfl; exact rfl; clear hs; intro w hs) | ((with_reducible apply stc hs.b0); exact rfl; exact rfl; exact rfl; exact rfl; exact rfl; kernel_rfl; exact rfl; clear hs; intro w hs) | ((with_reducible refine wrap hs ?_); clear hs; (first | generalize w.heap.size = z4); intro w hs) | ((with_reducible refine wrap hs ?_); clear hs; intro w hs) | ((with_reducible refine wrapn hs ?_); clear hs; intro w hs) | ((with_reducible refine wrapd hs ?_); clear hs; intro w hs)))
  go_ret
  exact ⟨rfl, by refine sb_from ?_ hs; repeat constructor⟩
theorem nresize19 {v : Value} {k q r : Int} (hs : sat W (NR v :: H) w) : Calls Try.prog 19 #[v, .int .i64 k, .int .i64 q, .int .i64 r] w fun e w' => e = .returned (.tuple #[.int .i64 0, .int .i64 1]) ∧ sat W (NR v :: H) w' := by
  go_enter Try.func19, Try.ntmps19
  go_wp2_with (first | (go_at_call 37; refine (nready37 (by (apply sk_from (hs := hs); repeat constructor))).mono ?_; clear hs; rintro e w ⟨rfl, hs⟩) | ((with_reducible refine isl ?_); first | ((with_reducible apply ld hs.b0); exact rfl; exact rfl; exact rfl; exact rfl; kernel_rfl) | ((with_reducible apply st hs.b0); exact rfl; exact rfl; exact rfl; exact rfl; exact rfl; exact rfl; kernel_rfl; exact rfl; clear hs; intro w hs) | ((with_reducible apply stc hs.b0); exact rfl; exact rfl; exact rfl; exact rfl; exact rfl; kernel_rfl; exact rfl; clear hs; intro w hs) | ((with_reducible refine wrap hs ?_); clear hs; intro w hs) | ((with_reducible refine wrapn hs ?_); clear hs; intro w hs) | ((with_reducible refine wrapd hs ?_); clear hs; intro w hs)))
  refine end_ret rfl (results_tmp2 rfl _ _ _) ⟨rfl, hs⟩
end Go.Proofs.Ytdcagaaanbgcoaa
