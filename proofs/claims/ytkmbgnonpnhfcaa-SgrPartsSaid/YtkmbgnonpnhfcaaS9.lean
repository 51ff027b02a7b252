import Derived.Test.YtkmbgnonpnhfcaaS8
namespace Go.Proofs.Ytkmbgnonpnhfcaa
open Go.RowKit Go.Mem Go.Sgr
variable {W w : World} {H : List HProp}
theorem SL.of_own {ad : Option Addr} {n cp : Nat} {l : List Int} (hs : sat W (own 3 1 (.slice ad n cp) n (ints l) :: H) w) : SL W (own 3 1 (.slice ad n cp) n (ints l) :: H) ad n cp l := by
  have hr := fun w' (h : sat W (own 3 1 (.slice ad n cp) n (ints l) :: H) w') => h.own_reads
  refine ⟨by have := (hr w hs).2; rwa [List.length_map] at this, ?_, ?_, fun w' h => (hr w' h).1⟩
  all_goals
    obtain ⟨hl, hc⟩ := hs.own_cases
    rcases hc with ⟨e, rfl, _⟩ | ⟨b, cap, cur, e, h1, h2, _⟩
    · cases e; simp
    · cases e; first | exact h1 | exact h2
attribute [local irreducible] World.setCell World.alloc World.drew World.drewN Calls sat cel own blk old wpQuiet flj no go plain follows SL wf apply numbers mayB may
theorem numbers13_no (a : At) (h : wf a) (hm : ¬ may a) (hs : sat W H w) : Calls Try.prog 13 #[atV a] w fun e w' => e = .returned (.tuple #[.slice none 0 0, .int .i64 2]) ∧ sat W H w' := by
  have HM : Hid (mayB a = false) := Lib.hid (by unfold mayB; exact decide_eq_false hm)
  have HW := Lib.hid h
  obtain ⟨fg, bg, fl⟩ := a
  go_enter Try.func13, Try.ntmps13
  go_wp2_with (first
    | (go_at_call 10; refine (may10 _ HW.out hs).mono ?_; clear hs; rintro e w ⟨rfl, hs⟩; rw [HM.out])
    | (apply lds 3 hs.b0; exact rfl; exact rfl; exact rfl; kernel_rfl; exact rfl; exact rfl)
    | (apply lds 3 hs.b1; exact rfl; exact rfl; exact rfl; kernel_rfl; exact rfl; exact rfl)
    | (apply sts hs.b0; exact rfl; exact rfl; exact rfl; exact rfl; (show rowTy _ _ 3 = true; kernel_rfl); exact Nat.le_refl _; exact rfl; exact rfl; clear hs; intro w hs)
    | (apply sts hs.b1; exact rfl; exact rfl; exact rfl; exact rfl; (show rowTy _ _ 3 = true; kernel_rfl); exact Nat.le_refl _; exact rfl; exact rfl; clear hs; intro w hs)
    | (apply ld hs.b0; exact rfl; exact rfl; exact rfl; exact rfl; kernel_rfl)
    | (apply ld hs.b1; exact rfl; exact rfl; exact rfl; exact rfl; kernel_rfl)
    | (apply st hs.b0; exact rfl; exact rfl; exact rfl; exact rfl; exact rfl; exact rfl; kernel_rfl; exact rfl; clear hs; intro w hs)
    | (apply st hs.b1; exact rfl; exact rfl; exact rfl; exact rfl; exact rfl; exact rfl; kernel_rfl; exact rfl; clear hs; intro w hs)
    | (apply stc hs.b0; exact rfl; exact rfl; exact rfl; exact rfl; exact rfl; kernel_rfl; exact rfl; clear hs; intro w hs)
    | (apply stc hs.b1; exact rfl; exact rfl; exact rfl; exact rfl; exact rfl; kernel_rfl; exact rfl; clear hs; intro w hs)
    | (refine wrap hs ?_; clear hs; (first | (have _t := z1; clear _t; generalize w.heap.size = z2) | generalize w.heap.size = z1); intro w hs)
    | (refine wrap hs ?_; clear hs; intro w hs)
    | (refine wrapn hs ?_; clear hs; intro w hs)
    | (refine wrapd hs ?_; clear hs; intro w hs))
  refine end_ret rfl (results_tmp2 rfl _ _ _) ?_
  exact ⟨rfl, hs.drop⟩
theorem may11_t (a : At) (h : wf a) {b : Bool} (e : mayB a = b) (hs : sat W H w) : Calls Try.prog 11 #[atV a] w fun e w' => e = .returned (.bool b) ∧ sat W H w' := e ▸ may11 a h hs
theorem may10_t (a : At) (h : wf a) {b : Bool} (e : mayB a = b) (hs : sat W H w) : Calls Try.prog 10 #[atV a] w fun e w' => e = .returned (.bool b) ∧ sat W H w' := e ▸ may10 a h hs
set_option maxHeartbeats 4000000 in
set_option maxRecDepth 8000 in
theorem tells_walk (a b : At) (ha : wf a) (hb : wf b) (hs : sat W H w) : Calls Try.prog 6 #[atV a, atV b] w fun e w' => e = .returned (.bool true) ∧ sat W H w' := by
  have HA := Lib.hid ha
  have HB := Lib.hid hb
  by_cases hm : may a
  · have HM : Hid (mayB a = true) := Lib.hid (by unfold mayB; exact decide_eq_true hm)
    have HMA := Lib.hid hm
    have HP := Lib.hid (apply_numbers b a ha hm)
    obtain ⟨fg, bg, fl⟩ := a
    obtain ⟨fg2, bg2, fl2⟩ := b
    clear ha hb hm
    go_enter Try.func6, Try.ntmps6
    go_wp2_with (first
    | (go_at_call 13; refine (numbers13 _ HA.out HMA.out hs).mono ?_; clear hs; rintro e w ⟨a1, c1, n1, hn1, rfl, hs⟩; have HN1 := Lib.hid hn1; clear hn1)
    | (go_at_call 11; refine (may11_t _ HA.out HM.out hs).mono ?_; clear hs; rintro e w ⟨rfl, hs⟩)
    | (apply lds 3 hs.b0; exact rfl; exact rfl; exact rfl; kernel_rfl; exact rfl; exact rfl)
    | (apply lds 3 hs.b1; exact rfl; exact rfl; exact rfl; kernel_rfl; exact rfl; exact rfl)
    | (apply lds 3 hs.b2; exact rfl; exact rfl; exact rfl; kernel_rfl; exact rfl; exact rfl)
    | (apply sts hs.b0; exact rfl; exact rfl; exact rfl; exact rfl; (show rowTy _ _ 3 = true; kernel_rfl); exact Nat.le_refl _; exact rfl; exact rfl; clear hs; intro w hs)
    | (apply sts hs.b1; exact rfl; exact rfl; exact rfl; exact rfl; (show rowTy _ _ 3 = true; kernel_rfl); exact Nat.le_refl _; exact rfl; exact rfl; clear hs; intro w hs)
    | (apply ld hs.b0; exact rfl; exact rfl; exact rfl; exact rfl; kernel_rfl)
    | (apply ld hs.b1; exact rfl; exact rfl; exact rfl; exact rfl; kernel_rfl)
    | (apply st hs.b0; exact rfl; exact rfl; exact rfl; exact rfl; exact rfl; exact rfl; kernel_rfl; exact rfl; clear hs; intro w hs)
    | (apply st hs.b1; exact rfl; exact rfl; exact rfl; exact rfl; exact rfl; exact rfl; kernel_rfl; exact rfl; clear hs; intro w hs)
    | (apply stc hs.b0; exact rfl; exact rfl; exact rfl; exact rfl; exact rfl; kernel_rfl; exact rfl; clear hs; intro w hs)
    | (apply stc hs.b1; exact rfl; exact rfl; exact rfl; exact rfl; exact rfl; kernel_rfl; exact rfl; clear hs; intro w hs)
    | (refine wrap hs ?_; clear hs; (first | (have _t := z1; clear _t; generalize w.heap.size = z2) | generalize w.heap.size = z1); intro w hs)
    | (refine wrap hs ?_; clear hs; intro w hs)
    | (refine wrapn hs ?_; clear hs; intro w hs)
    | (refine wrapd hs ?_; clear hs; intro w hs))
    go_region_held3 (fun w' => w'.cell? ⟨z1, 0, none⟩ = some (.int .u32 fg) ∧ w'.cell? ⟨z1, 1, none⟩ = some (.int .u32 bg) ∧ w'.cell? ⟨z1, 2, none⟩ = some (.int .u16 fl) ∧ w'.cell? ⟨z2, 0, none⟩ = some (.int .u32 fg2) ∧ w'.cell? ⟨z2, 1, none⟩ = some (.int .u32 bg2) ∧ w'.cell? ⟨z2, 2, none⟩ = some (.int .u16 fl2)) (first | exact ⟨hs.b2.cel_cell rfl, hs.b2.cel_cell rfl, hs.b2.cel_cell rfl, hs.b1.cel_cell rfl, hs.b1.cel_cell rfl, hs.b1.cel_cell rfl⟩ | exact ⟨hs.drew.b2.cel_cell rfl, hs.drew.b2.cel_cell rfl, hs.drew.b2.cel_cell rfl, hs.drew.b1.cel_cell rfl, hs.drew.b1.cel_cell rfl, hs.drew.b1.cel_cell rfl⟩ | exact ⟨(hs.drewN _).b2.cel_cell rfl, (hs.drewN _).b2.cel_cell rfl, (hs.drewN _).b2.cel_cell rfl, (hs.drewN _).b1.cel_cell rfl, (hs.drewN _).b1.cel_cell rfl, (hs.drewN _).b1.cel_cell rfl⟩ | exact ⟨hs.b3.cel_cell rfl, hs.b3.cel_cell rfl, hs.b3.cel_cell rfl, hs.b2.cel_cell rfl, hs.b2.cel_cell rfl, hs.b2.cel_cell rfl⟩ | exact ⟨hs.drew.b3.cel_cell rfl, hs.drew.b3.cel_cell rfl, hs.drew.b3.cel_cell rfl, hs.drew.b2.cel_cell rfl, hs.drew.b2.cel_cell rfl, hs.drew.b2.cel_cell rfl⟩ | exact ⟨(hs.drewN _).b3.cel_cell rfl, (hs.drewN _).b3.cel_cell rfl, (hs.drewN _).b3.cel_cell rfl, (hs.drewN _).b2.cel_cell rfl, (hs.drewN _).b2.cel_cell rfl, (hs.drewN _).b2.cel_cell rfl⟩) (first | (go_at_call 14; refine (numbers14 _ HA.out HMA.out hs).mono ?_; clear hs; rintro e w ⟨a2, c2, n2, hn2, rfl, hs⟩; have HN2 := Lib.hid hn2; clear hn2) | (go_at_call 14; refine (numbers14 _ HA.out HMA.out hs.drew).mono ?_; clear hs; rintro e w ⟨a2, c2, n2, hn2, rfl, hs⟩; have HN2 := Lib.hid hn2; clear hn2) | (go_at_call 12; refine (same_self _ _ (numbers ⟨fg, bg, fl⟩) _ (hs.b1.own_reads).1 (hs.own_reads).1).mono ?_; rintro e w' ⟨rfl, nn, rfl⟩; replace hs := ((hs).drewN nn).drop) | (go_at_call 12; refine (same_self _ _ (numbers ⟨fg, bg, fl⟩) _ (hs.drew.b1.own_reads).1 (hs.drew.own_reads).1).mono ?_; rintro e w' ⟨rfl, nn, rfl⟩; replace hs := ((hs.drew).drewN nn).drop) | (go_at_call 8; refine (apply_t _ HB.out _ _ HP.out _ _ _ (SL.of_own hs) hs).mono ?_; clear hs; rintro e w ⟨rfl, hs⟩) | (go_at_call 8; refine (apply_t _ HB.out _ _ HP.out _ _ _ (SL.of_own hs.drew) hs.drew).mono ?_; clear hs; rintro e w ⟨rfl, hs⟩) | (go_at_call 7; refine (known7 hs).mono ?_; clear hs; rintro e w ⟨rfl, hs⟩) | (go_at_call 7; refine (known7 hs.drew).mono ?_; clear hs; rintro e w ⟨rfl, hs⟩))
    go_wp2
    go_ret
    exact ⟨rfl, hs.drop.drop.drop⟩
  · have HM : Hid (mayB a = false) := Lib.hid (by unfold mayB; exact decide_eq_false hm)
    have HMA := Lib.hid hm
    obtain ⟨fg, bg, fl⟩ := a
    obtain ⟨fg2, bg2, fl2⟩ := b
    clear ha hb hm
    go_enter Try.func6, Try.ntmps6
    go_wp2_with (first
    | (go_at_call 13; refine (numbers13_no _ HA.out HMA.out hs).mono ?_; clear hs; rintro e w ⟨rfl, hs⟩)
    | (go_at_call 11; refine (may11_t _ HA.out HM.out hs).mono ?_; clear hs; rintro e w ⟨rfl, hs⟩)
    | (go_at_call 7; refine (known7 hs).mono ?_; clear hs; rintro e w ⟨rfl, hs⟩)
    | (apply lds 3 hs.b0; exact rfl; exact rfl; exact rfl; kernel_rfl; exact rfl; exact rfl)
    | (apply lds 3 hs.b1; exact rfl; exact rfl; exact rfl; kernel_rfl; exact rfl; exact rfl)
    | (apply sts hs.b0; exact rfl; exact rfl; exact rfl; exact rfl; (show rowTy _ _ 3 = true; kernel_rfl); exact Nat.le_refl _; exact rfl; exact rfl; clear hs; intro w hs)
    | (apply sts hs.b1; exact rfl; exact rfl; exact rfl; exact rfl; (show rowTy _ _ 3 = true; kernel_rfl); exact Nat.le_refl _; exact rfl; exact rfl; clear hs; intro w hs)
    | (apply ld hs.b0; exact rfl; exact rfl; exact rfl; exact rfl; kernel_rfl)
    | (apply ld hs.b1; exact rfl; exact rfl; exact rfl; exact rfl; kernel_rfl)
    | (apply st hs.b0; exact rfl; exact rfl; exact rfl; exact rfl; exact rfl; exact rfl; kernel_rfl; exact rfl; clear hs; intro w hs)
    | (apply st hs.b1; exact rfl; exact rfl; exact rfl; exact rfl; exact rfl; exact rfl; kernel_rfl; exact rfl; clear hs; intro w hs)
    | (apply stc hs.b0; exact rfl; exact rfl; exact rfl; exact rfl; exact rfl; kernel_rfl; exact rfl; clear hs; intro w hs)
    | (apply stc hs.b1; exact rfl; exact rfl; exact rfl; exact rfl; exact rfl; kernel_rfl; exact rfl; clear hs; intro w hs)
    | (refine wrap hs ?_; clear hs; (first | (have _t := z1; clear _t; generalize w.heap.size = z2) | generalize w.heap.size = z1); intro w hs)
    | (refine wrap hs ?_; clear hs; intro w hs)
    | (refine wrapn hs ?_; clear hs; intro w hs)
    | (refine wrapd hs ?_; clear hs; intro w hs))
    go_ret
    exact ⟨rfl, hs.drop.drop⟩
theorem wf_of {x y z : Int} (w0 : (Lit.int .u32 x).wf = true) (w1 : (Lit.int .u32 y).wf = true) (w2 : (Lit.int .u16 z).wf = true) : wf ⟨x, y, z⟩ := by
  simp [Lit.wf, IntKind.min, IntKind.max, IntKind.signed, IntKind.bits] at w0 w1 w2
  unfold wf; simp only; omega
theorem tells_top {x y z x' y' z' : Int} (w0 : (Lit.int .u32 x).wf = true) (w1 : (Lit.int .u32 y).wf = true) (w2 : (Lit.int .u16 z).wf = true) (w3 : (Lit.int .u32 x').wf = true) (w4 : (Lit.int .u32 y').wf = true) (w5 : (Lit.int .u16 z').wf = true) (w : World) :
    Calls Try.prog 6 #[.agg #[.int .u32 x, .int .u32 y, .int .u16 z], .agg #[.int .u32 x', .int .u32 y', .int .u16 z']] w fun e w' => e = .returned (.bool true) ∧ Below w.heap.size w w' :=
  (tells_walk ⟨x, y, z⟩ ⟨x', y', z'⟩ (wf_of w0 w1 w2) (wf_of w3 w4 w5) (sat.start w)).mono fun _ _ ⟨he, hs⟩ => ⟨he, hs.below⟩
end Go.Proofs.Ytkmbgnonpnhfcaa
