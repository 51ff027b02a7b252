import Derived.Test.YtjchjdlapacknaaA10
namespace Go.Proofs.Ytjchjdlapacknaa
open Go.RowKit Go.Mem Go.Maps
variable {W w : World} {H : List HProp}

def nameV (r : Int) : ByteArray × Int := match allNames r with
  | some (.agg #[.string s, .int _ n]) => (s, n)
  | _ => (⟨#[]⟩, 0)
theorem addM_form (level : Int) : ∀ (ps : List (UInt8 × ByteArray)) (m : Int → Option Value) (_ : ∀ x, m x = none ∨ ∃ s n, m x = some (.agg #[.string s, .int .i64 n])) (x : Int), addM level m ps x = none ∨ ∃ s n, addM level m ps x = some (.agg #[.string s, .int .i64 n])
  | [], _, hm, x => hm x
  | p :: ps, m, hm, x => addM_form level ps (upd m (p.1.toNat : Int) (named p level)) (fun y => by
      unfold upd
      split
      · exact .inr ⟨p.2, level, rfl⟩
      · exact hm y) x
theorem addM_other (level : Int) : ∀ (ps : List (UInt8 × ByteArray)) (m : Int → Option Value) (x : Int) (_ : ∀ p ∈ ps, x ≠ (p.1.toNat : Int)), addM level m ps x = m x
  | [], _, _, _ => rfl
  | p :: ps, m, x, h => by
    have ih := addM_other level ps (upd m (p.1.toNat : Int) (named p level)) x (fun q hq => h q (by simp [hq]))
    show addM level (upd m (p.1.toNat : Int) (named p level)) ps x = m x
    rw [ih]
    unfold upd
    rw [if_neg (h p (by simp))]
theorem allNames_get (r : Int) : (allNames r).getD (.agg #[.string ⟨#[]⟩, .int .i64 0]) = .agg #[.string (nameV r).1, .int .i64 (nameV r).2] := by
  unfold nameV
  have h : allNames r = none ∨ ∃ s n, allNames r = some (.agg #[.string s, .int .i64 n]) := addM_form 3 _ _ (addM_form 2 _ _ (addM_form 1 _ _ (fun _ => .inl rfl))) r
  rcases h with h | ⟨s, n, h⟩
  · rw [h]; rfl
  · rw [h]; rfl
def noSign (r : Int) : Prop := ¬ r = 33 ∧ ¬ r = 34 ∧ ¬ r = 35 ∧ ¬ r = 36 ∧ ¬ r = 37 ∧ ¬ r = 38 ∧ ¬ r = 39 ∧ ¬ r = 40 ∧ ¬ r = 41 ∧ ¬ r = 42 ∧ ¬ r = 43 ∧ ¬ r = 44 ∧ ¬ r = 45 ∧ ¬ r = 46 ∧ ¬ r = 47 ∧ ¬ r = 58 ∧ ¬ r = 59 ∧ ¬ r = 60 ∧ ¬ r = 61 ∧ ¬ r = 62 ∧ ¬ r = 63 ∧ ¬ r = 64 ∧ ¬ r = 91 ∧ ¬ r = 92 ∧ ¬ r = 93 ∧ ¬ r = 94 ∧ ¬ r = 95 ∧ ¬ r = 96 ∧ ¬ r = 123 ∧ ¬ r = 124 ∧ ¬ r = 125 ∧ ¬ r = 126
theorem name_none (r : Int) (h : noSign r) : nameV r = (⟨#[]⟩, 0) := by
  have e : allNames r = none := by
    unfold noSign at h
    unfold allNames
    rw [addM_other 3 names3 _ r (by simp [names3]; omega), addM_other 2 names2 _ r (by simp [names2]; omega), addM_other 1 names1 _ r (by simp [names1]; omega)]
  unfold nameV
  rw [e]
theorem name_33 : nameV 33 = (⟨#[98, 97, 110, 103]⟩, 1) := rfl
theorem name_34 : nameV 34 = (⟨#[113, 117, 111, 116, 101]⟩, 3) := rfl
theorem name_35 : nameV 35 = (⟨#[110, 117, 109, 98, 101, 114]⟩, 1) := rfl
theorem name_36 : nameV 36 = (⟨#[100, 111, 108, 108, 97, 114]⟩, 1) := rfl
theorem name_37 : nameV 37 = (⟨#[112, 101, 114, 99, 101, 110, 116]⟩, 1) := rfl
theorem name_38 : nameV 38 = (⟨#[97, 110, 100]⟩, 1) := rfl
theorem name_39 : nameV 39 = (⟨#[116, 105, 99, 107]⟩, 3) := rfl
theorem name_40 : nameV 40 = (⟨#[108, 101, 102, 116, 32, 112, 97, 114, 101, 110]⟩, 3) := rfl
theorem name_41 : nameV 41 = (⟨#[114, 105, 103, 104, 116, 32, 112, 97, 114, 101, 110]⟩, 3) := rfl
theorem name_42 : nameV 42 = (⟨#[115, 116, 97, 114]⟩, 1) := rfl
theorem name_43 : nameV 43 = (⟨#[112, 108, 117, 115]⟩, 1) := rfl
theorem name_44 : nameV 44 = (⟨#[99, 111, 109, 109, 97]⟩, 2) := rfl
theorem name_45 : nameV 45 = (⟨#[100, 97, 115, 104]⟩, 2) := rfl
theorem name_46 : nameV 46 = (⟨#[100, 111, 116]⟩, 1) := rfl
theorem name_47 : nameV 47 = (⟨#[115, 108, 97, 115, 104]⟩, 1) := rfl
theorem name_58 : nameV 58 = (⟨#[99, 111, 108, 111, 110]⟩, 2) := rfl
theorem name_59 : nameV 59 = (⟨#[115, 101, 109, 105, 99, 111, 108, 111, 110]⟩, 2) := rfl
theorem name_60 : nameV 60 = (⟨#[108, 101, 115, 115]⟩, 2) := rfl
theorem name_61 : nameV 61 = (⟨#[101, 113, 117, 97, 108, 115]⟩, 1) := rfl
theorem name_62 : nameV 62 = (⟨#[103, 114, 101, 97, 116, 101, 114]⟩, 2) := rfl
theorem name_63 : nameV 63 = (⟨#[113, 117, 101, 115, 116, 105, 111, 110]⟩, 1) := rfl
theorem name_64 : nameV 64 = (⟨#[97, 116]⟩, 1) := rfl
theorem name_91 : nameV 91 = (⟨#[108, 101, 102, 116, 32, 98, 114, 97, 99, 107, 101, 116]⟩, 3) := rfl
theorem name_92 : nameV 92 = (⟨#[98, 97, 99, 107, 115, 108, 97, 115, 104]⟩, 2) := rfl
theorem name_93 : nameV 93 = (⟨#[114, 105, 103, 104, 116, 32, 98, 114, 97, 99, 107, 101, 116]⟩, 3) := rfl
theorem name_94 : nameV 94 = (⟨#[99, 97, 114, 101, 116]⟩, 2) := rfl
theorem name_95 : nameV 95 = (⟨#[108, 105, 110, 101]⟩, 2) := rfl
theorem name_96 : nameV 96 = (⟨#[103, 114, 97, 118, 101]⟩, 3) := rfl
theorem name_123 : nameV 123 = (⟨#[108, 101, 102, 116, 32, 98, 114, 97, 99, 101]⟩, 3) := rfl
theorem name_124 : nameV 124 = (⟨#[98, 97, 114]⟩, 2) := rfl
theorem name_125 : nameV 125 = (⟨#[114, 105, 103, 104, 116, 32, 98, 114, 97, 99, 101]⟩, 3) := rfl
theorem name_126 : nameV 126 = (⟨#[116, 105, 108, 100, 101]⟩, 2) := rfl

attribute [local irreducible] World.setCell World.setCells World.alloc World.drew World.drewN Calls sat cel own blk old mp wpQuiet addM nameV allNames
theorem name20 (r : Int) (hr : (Lit.int .i32 r).wf = true) (hs : sat W H w) : Calls Try.prog 20 #[.int .i32 r] w fun e w' => e = .returned (.tuple #[.string (nameV r).1, .int .i64 (nameV r).2]) ∧ sat W H w' := by
  have HM := Lib.hid (allNames_get r)
  have HR := Lib.hid (keyOf_int_mk Try.underlying21 hr)
  generalize nameV r = nv at *
  obtain ⟨s, n⟩ := nv
  clear hr
  go_enter Try.func20, Try.ntmps20
  go_wp2_with (first
    | (go_at_call 39; refine (names39 hs).mono ?_; clear hs; rintro e w ⟨b, rfl, hs⟩)
    | (apply lk (y := r) (z := .agg #[.string ⟨#[]⟩, .int .i64 0]) hs.b0; exact rfl; exact rfl; exact rfl; exact rfl; exact keyed21; exact Try.underlying45; exact zero44 _; exact i32_inj; exact HR.out; rw [HM.out])
    | (apply sts hs.b0; exact rfl; exact rfl; exact rfl; exact rfl; (show rowTy _ _ 2 = true; kernel_rfl); exact Nat.le_refl _; exact rfl; exact rfl; clear hs; intro w hs)
    | ((try simp only [Act.put, List.setIfInBounds_toArray, List.set_cons_succ, List.set_cons_zero]); refine region_sat hs (by kernel_rfl) (by kernel_rfl) ?_; intro X f hne hf hcl; (repeat (first | (apply ldq (fun x => (hf x).b0); exact rfl; exact rfl; exact rfl; exact rfl; kernel_rfl; (try simp only [Act.put, List.setIfInBounds_toArray, List.set_cons_succ, List.set_cons_zero])) | (apply ldq (fun x => (hf x).b1); exact rfl; exact rfl; exact rfl; exact rfl; kernel_rfl; (try simp only [Act.put, List.setIfInBounds_toArray, List.set_cons_succ, List.set_cons_zero])) | go_big_quiet_step (fail))); refine wpQuiet_nil ?_; clear hcl hf hne hs f X; intro w hs)
    | (apply ld hs.b0; exact rfl; exact rfl; exact rfl; exact rfl; kernel_rfl)
    | (apply ld hs.b1; exact rfl; exact rfl; exact rfl; exact rfl; kernel_rfl)
    | (apply st hs.b0; exact rfl; exact rfl; exact rfl; exact rfl; exact rfl; exact rfl; kernel_rfl; exact rfl; clear hs; intro w hs)
    | (apply st hs.b1; exact rfl; exact rfl; exact rfl; exact rfl; exact rfl; exact rfl; kernel_rfl; exact rfl; clear hs; intro w hs)
    | (apply stc hs.b0; exact rfl; exact rfl; exact rfl; exact rfl; exact rfl; kernel_rfl; exact rfl; clear hs; intro w hs)
    | (apply stc hs.b1; exact rfl; exact rfl; exact rfl; exact rfl; exact rfl; kernel_rfl; exact rfl; clear hs; intro w hs)
    | (refine wrap hs ?_; clear hs; intro w hs)
    | (refine wrapn hs ?_; clear hs; intro w hs)
    | (refine wrapd hs ?_; clear hs; intro w hs))
  refine end_ret rfl (results_tmp2 rfl _ _ _) ?_
  exact ⟨rfl, hs.drop.drop⟩
set_option maxHeartbeats 2000000 in
theorem later40 (r : Int) (h : r = 58 ∨ r = 59 ∨ r = 60 ∨ r = 61 ∨ r = 62 ∨ r = 63 ∨ r = 64 ∨ r = 91 ∨ r = 92 ∨ r = 93 ∨ r = 94 ∨ r = 95 ∨ r = 96 ∨ r = 123 ∨ r = 124 ∨ r = 125 ∨ r = 126) (w : World) : Calls Try.prog 40 #[.int .i32 r] w fun e w' => e = .returned (.tuple #[.string (nameV r).1, .int .i64 (nameV r).2]) ∧ w' = w := by
  rcases h with rfl | rfl | rfl | rfl | rfl | rfl | rfl | rfl | rfl | rfl | rfl | rfl | rfl | rfl | rfl | rfl | rfl
  · rw [name_58]
    go_enter Try.func40, Try.ntmps40
    go_wp2
    refine end_ret rfl (results_tmp2 rfl _ _ _) ?_
    exact ⟨rfl, rfl⟩
  · rw [name_59]
    go_enter Try.func40, Try.ntmps40
    go_wp2
    refine end_ret rfl (results_tmp2 rfl _ _ _) ?_
    exact ⟨rfl, rfl⟩
  · rw [name_60]
    go_enter Try.func40, Try.ntmps40
    go_wp2
    refine end_ret rfl (results_tmp2 rfl _ _ _) ?_
    exact ⟨rfl, rfl⟩
  · rw [name_61]
    go_enter Try.func40, Try.ntmps40
    go_wp2
    refine end_ret rfl (results_tmp2 rfl _ _ _) ?_
    exact ⟨rfl, rfl⟩
  · rw [name_62]
    go_enter Try.func40, Try.ntmps40
    go_wp2
    refine end_ret rfl (results_tmp2 rfl _ _ _) ?_
    exact ⟨rfl, rfl⟩
  · rw [name_63]
    go_enter Try.func40, Try.ntmps40
    go_wp2
    refine end_ret rfl (results_tmp2 rfl _ _ _) ?_
    exact ⟨rfl, rfl⟩
  · rw [name_64]
    go_enter Try.func40, Try.ntmps40
    go_wp2
    refine end_ret rfl (results_tmp2 rfl _ _ _) ?_
    exact ⟨rfl, rfl⟩
  · rw [name_91]
    go_enter Try.func40, Try.ntmps40
    go_wp2
    refine end_ret rfl (results_tmp2 rfl _ _ _) ?_
    exact ⟨rfl, rfl⟩
  · rw [name_92]
    go_enter Try.func40, Try.ntmps40
    go_wp2
    refine end_ret rfl (results_tmp2 rfl _ _ _) ?_
    exact ⟨rfl, rfl⟩
  · rw [name_93]
    go_enter Try.func40, Try.ntmps40
    go_wp2
    refine end_ret rfl (results_tmp2 rfl _ _ _) ?_
    exact ⟨rfl, rfl⟩
  · rw [name_94]
    go_enter Try.func40, Try.ntmps40
    go_wp2
    refine end_ret rfl (results_tmp2 rfl _ _ _) ?_
    exact ⟨rfl, rfl⟩
  · rw [name_95]
    go_enter Try.func40, Try.ntmps40
    go_wp2
    refine end_ret rfl (results_tmp2 rfl _ _ _) ?_
    exact ⟨rfl, rfl⟩
  · rw [name_96]
    go_enter Try.func40, Try.ntmps40
    go_wp2
    refine end_ret rfl (results_tmp2 rfl _ _ _) ?_
    exact ⟨rfl, rfl⟩
  · rw [name_123]
    go_enter Try.func40, Try.ntmps40
    go_wp2
    refine end_ret rfl (results_tmp2 rfl _ _ _) ?_
    exact ⟨rfl, rfl⟩
  · rw [name_124]
    go_enter Try.func40, Try.ntmps40
    go_wp2
    refine end_ret rfl (results_tmp2 rfl _ _ _) ?_
    exact ⟨rfl, rfl⟩
  · rw [name_125]
    go_enter Try.func40, Try.ntmps40
    go_wp2
    refine end_ret rfl (results_tmp2 rfl _ _ _) ?_
    exact ⟨rfl, rfl⟩
  · rw [name_126]
    go_enter Try.func40, Try.ntmps40
    go_wp2
    refine end_ret rfl (results_tmp2 rfl _ _ _) ?_
    exact ⟨rfl, rfl⟩
set_option maxHeartbeats 2000000 in
theorem later40_none (r : Int) (h : noSign r) (w : World) : Calls Try.prog 40 #[.int .i32 r] w fun e w' => e = .returned (.tuple #[.string (nameV r).1, .int .i64 (nameV r).2]) ∧ w' = w := by
  rw [name_none r h]
  have n58 : ¬ r = 58 := by unfold noSign at h; omega
  have n59 : ¬ r = 59 := by unfold noSign at h; omega
  have n60 : ¬ r = 60 := by unfold noSign at h; omega
  have n61 : ¬ r = 61 := by unfold noSign at h; omega
  have n62 : ¬ r = 62 := by unfold noSign at h; omega
  have n63 : ¬ r = 63 := by unfold noSign at h; omega
  have n64 : ¬ r = 64 := by unfold noSign at h; omega
  have n91 : ¬ r = 91 := by unfold noSign at h; omega
  have n92 : ¬ r = 92 := by unfold noSign at h; omega
  have n93 : ¬ r = 93 := by unfold noSign at h; omega
  have n94 : ¬ r = 94 := by unfold noSign at h; omega
  have n95 : ¬ r = 95 := by unfold noSign at h; omega
  have n96 : ¬ r = 96 := by unfold noSign at h; omega
  have n123 : ¬ r = 123 := by unfold noSign at h; omega
  have n124 : ¬ r = 124 := by unfold noSign at h; omega
  have n125 : ¬ r = 125 := by unfold noSign at h; omega
  have n126 : ¬ r = 126 := by unfold noSign at h; omega
  clear h
  go_enter Try.func40, Try.ntmps40
  go_wp2
  refine end_ret rfl (results_tmp2 rfl _ _ _) ?_
  exact ⟨rfl, rfl⟩
set_option maxHeartbeats 4000000 in
theorem name21_some (r : Int) (h : r = 33 ∨ r = 34 ∨ r = 35 ∨ r = 36 ∨ r = 37 ∨ r = 38 ∨ r = 39 ∨ r = 40 ∨ r = 41 ∨ r = 42 ∨ r = 43 ∨ r = 44 ∨ r = 45 ∨ r = 46 ∨ r = 47 ∨ r = 58 ∨ r = 59 ∨ r = 60 ∨ r = 61 ∨ r = 62 ∨ r = 63 ∨ r = 64 ∨ r = 91 ∨ r = 92 ∨ r = 93 ∨ r = 94 ∨ r = 95 ∨ r = 96 ∨ r = 123 ∨ r = 124 ∨ r = 125 ∨ r = 126) (w : World) : Calls Try.prog 21 #[.int .i32 r] w fun e w' => e = .returned (.tuple #[.string (nameV r).1, .int .i64 (nameV r).2]) ∧ w' = w := by
  rcases h with rfl | rfl | rfl | rfl | rfl | rfl | rfl | rfl | rfl | rfl | rfl | rfl | rfl | rfl | rfl | rfl | rfl | rfl | rfl | rfl | rfl | rfl | rfl | rfl | rfl | rfl | rfl | rfl | rfl | rfl | rfl | rfl
  · rw [name_33]
    go_enter Try.func21, Try.ntmps21
    go_wp2
    refine end_ret rfl (results_tmp2 rfl _ _ _) ?_
    exact ⟨rfl, rfl⟩
  · rw [name_34]
    go_enter Try.func21, Try.ntmps21
    go_wp2
    refine end_ret rfl (results_tmp2 rfl _ _ _) ?_
    exact ⟨rfl, rfl⟩
  · rw [name_35]
    go_enter Try.func21, Try.ntmps21
    go_wp2
    refine end_ret rfl (results_tmp2 rfl _ _ _) ?_
    exact ⟨rfl, rfl⟩
  · rw [name_36]
    go_enter Try.func21, Try.ntmps21
    go_wp2
    refine end_ret rfl (results_tmp2 rfl _ _ _) ?_
    exact ⟨rfl, rfl⟩
  · rw [name_37]
    go_enter Try.func21, Try.ntmps21
    go_wp2
    refine end_ret rfl (results_tmp2 rfl _ _ _) ?_
    exact ⟨rfl, rfl⟩
  · rw [name_38]
    go_enter Try.func21, Try.ntmps21
    go_wp2
    refine end_ret rfl (results_tmp2 rfl _ _ _) ?_
    exact ⟨rfl, rfl⟩
  · rw [name_39]
    go_enter Try.func21, Try.ntmps21
    go_wp2
    refine end_ret rfl (results_tmp2 rfl _ _ _) ?_
    exact ⟨rfl, rfl⟩
  · rw [name_40]
    go_enter Try.func21, Try.ntmps21
    go_wp2
    refine end_ret rfl (results_tmp2 rfl _ _ _) ?_
    exact ⟨rfl, rfl⟩
  · rw [name_41]
    go_enter Try.func21, Try.ntmps21
    go_wp2
    refine end_ret rfl (results_tmp2 rfl _ _ _) ?_
    exact ⟨rfl, rfl⟩
  · rw [name_42]
    go_enter Try.func21, Try.ntmps21
    go_wp2
    refine end_ret rfl (results_tmp2 rfl _ _ _) ?_
    exact ⟨rfl, rfl⟩
  · rw [name_43]
    go_enter Try.func21, Try.ntmps21
    go_wp2
    refine end_ret rfl (results_tmp2 rfl _ _ _) ?_
    exact ⟨rfl, rfl⟩
  · rw [name_44]
    go_enter Try.func21, Try.ntmps21
    go_wp2
    refine end_ret rfl (results_tmp2 rfl _ _ _) ?_
    exact ⟨rfl, rfl⟩
  · rw [name_45]
    go_enter Try.func21, Try.ntmps21
    go_wp2
    refine end_ret rfl (results_tmp2 rfl _ _ _) ?_
    exact ⟨rfl, rfl⟩
  · rw [name_46]
    go_enter Try.func21, Try.ntmps21
    go_wp2
    refine end_ret rfl (results_tmp2 rfl _ _ _) ?_
    exact ⟨rfl, rfl⟩
  · rw [name_47]
    go_enter Try.func21, Try.ntmps21
    go_wp2
    refine end_ret rfl (results_tmp2 rfl _ _ _) ?_
    exact ⟨rfl, rfl⟩
  · go_enter Try.func21, Try.ntmps21
    go_wp2_with (first
    | (go_at_call 40; refine (later40 _ (by decide) _).mono ?_; rintro e w' ⟨rfl, rfl⟩)
    | (refine wrap hs ?_; clear hs; intro w hs)
    | (refine wrapn hs ?_; clear hs; intro w hs)
    | (refine wrapd hs ?_; clear hs; intro w hs))
    refine end_ret rfl (results_tmp2 rfl _ _ _) ?_
    exact ⟨rfl, rfl⟩
  · go_enter Try.func21, Try.ntmps21
    go_wp2_with (first
    | (go_at_call 40; refine (later40 _ (by decide) _).mono ?_; rintro e w' ⟨rfl, rfl⟩)
    | (refine wrap hs ?_; clear hs; intro w hs)
    | (refine wrapn hs ?_; clear hs; intro w hs)
    | (refine wrapd hs ?_; clear hs; intro w hs))
    refine end_ret rfl (results_tmp2 rfl _ _ _) ?_
    exact ⟨rfl, rfl⟩
  · go_enter Try.func21, Try.ntmps21
    go_wp2_with (first
    | (go_at_call 40; refine (later40 _ (by decide) _).mono ?_; rintro e w' ⟨rfl, rfl⟩)
    | (refine wrap hs ?_; clear hs; intro w hs)
    | (refine wrapn hs ?_; clear hs; intro w hs)
    | (refine wrapd hs ?_; clear hs; intro w hs))
    refine end_ret rfl (results_tmp2 rfl _ _ _) ?_
    exact ⟨rfl, rfl⟩
  · go_enter Try.func21, Try.ntmps21
    go_wp2_with (first
    | (go_at_call 40; refine (later40 _ (by decide) _).mono ?_; rintro e w' ⟨rfl, rfl⟩)
    | (refine wrap hs ?_; clear hs; intro w hs)
    | (refine wrapn hs ?_; clear hs; intro w hs)
    | (refine wrapd hs ?_; clear hs; intro w hs))
    refine end_ret rfl (results_tmp2 rfl _ _ _) ?_
    exact ⟨rfl, rfl⟩
  · go_enter Try.func21, Try.ntmps21
    go_wp2_with (first
    | (go_at_call 40; refine (later40 _ (by decide) _).mono ?_; rintro e w' ⟨rfl, rfl⟩)
    | (refine wrap hs ?_; clear hs; intro w hs)
    | (refine wrapn hs ?_; clear hs; intro w hs)
    | (refine wrapd hs ?_; clear hs; intro w hs))
    refine end_ret rfl (results_tmp2 rfl _ _ _) ?_
    exact ⟨rfl, rfl⟩
  · go_enter Try.func21, Try.ntmps21
    go_wp2_with (first
    | (go_at_call 40; refine (later40 _ (by decide) _).mono ?_; rintro e w' ⟨rfl, rfl⟩)
    | (refine wrap hs ?_; clear hs; intro w hs)
    | (refine wrapn hs ?_; clear hs; intro w hs)
    | (refine wrapd hs ?_; clear hs; intro w hs))
    refine end_ret rfl (results_tmp2 rfl _ _ _) ?_
    exact ⟨rfl, rfl⟩
  · go_enter Try.func21, Try.ntmps21
    go_wp2_with (first
    | (go_at_call 40; refine (later40 _ (by decide) _).mono ?_; rintro e w' ⟨rfl, rfl⟩)
    | (refine wrap hs ?_; clear hs; intro w hs)
    | (refine wrapn hs ?_; clear hs; intro w hs)
    | (refine wrapd hs ?_; clear hs; intro w hs))
    refine end_ret rfl (results_tmp2 rfl _ _ _) ?_
    exact ⟨rfl, rfl⟩
  · go_enter Try.func21, Try.ntmps21
    go_wp2_with (first
    | (go_at_call 40; refine (later40 _ (by decide) _).mono ?_; rintro e w' ⟨rfl, rfl⟩)
    | (refine wrap hs ?_; clear hs; intro w hs)
    | (refine wrapn hs ?_; clear hs; intro w hs)
    | (refine wrapd hs ?_; clear hs; intro w hs))
    refine end_ret rfl (results_tmp2 rfl _ _ _) ?_
    exact ⟨rfl, rfl⟩
  · go_enter Try.func21, Try.ntmps21
    go_wp2_with (first
    | (go_at_call 40; refine (later40 _ (by decide) _).mono ?_; rintro e w' ⟨rfl, rfl⟩)
    | (refine wrap hs ?_; clear hs; intro w hs)
    | (refine wrapn hs ?_; clear hs; intro w hs)
    | (refine wrapd hs ?_; clear hs; intro w hs))
    refine end_ret rfl (results_tmp2 rfl _ _ _) ?_
    exact ⟨rfl, rfl⟩
  · go_enter Try.func21, Try.ntmps21
    go_wp2_with (first
    | (go_at_call 40; refine (later40 _ (by decide) _).mono ?_; rintro e w' ⟨rfl, rfl⟩)
    | (refine wrap hs ?_; clear hs; intro w hs)
    | (refine wrapn hs ?_; clear hs; intro w hs)
    | (refine wrapd hs ?_; clear hs; intro w hs))
    refine end_ret rfl (results_tmp2 rfl _ _ _) ?_
    exact ⟨rfl, rfl⟩
  · go_enter Try.func21, Try.ntmps21
    go_wp2_with (first
    | (go_at_call 40; refine (later40 _ (by decide) _).mono ?_; rintro e w' ⟨rfl, rfl⟩)
    | (refine wrap hs ?_; clear hs; intro w hs)
    | (refine wrapn hs ?_; clear hs; intro w hs)
    | (refine wrapd hs ?_; clear hs; intro w hs))
    refine end_ret rfl (results_tmp2 rfl _ _ _) ?_
    exact ⟨rfl, rfl⟩
  · go_enter Try.func21, Try.ntmps21
    go_wp2_with (first
    | (go_at_call 40; refine (later40 _ (by decide) _).mono ?_; rintro e w' ⟨rfl, rfl⟩)
    | (refine wrap hs ?_; clear hs; intro w hs)
    | (refine wrapn hs ?_; clear hs; intro w hs)
    | (refine wrapd hs ?_; clear hs; intro w hs))
    refine end_ret rfl (results_tmp2 rfl _ _ _) ?_
    exact ⟨rfl, rfl⟩
  · go_enter Try.func21, Try.ntmps21
    go_wp2_with (first
    | (go_at_call 40; refine (later40 _ (by decide) _).mono ?_; rintro e w' ⟨rfl, rfl⟩)
    | (refine wrap hs ?_; clear hs; intro w hs)
    | (refine wrapn hs ?_; clear hs; intro w hs)
    | (refine wrapd hs ?_; clear hs; intro w hs))
    refine end_ret rfl (results_tmp2 rfl _ _ _) ?_
    exact ⟨rfl, rfl⟩
  · go_enter Try.func21, Try.ntmps21
    go_wp2_with (first
    | (go_at_call 40; refine (later40 _ (by decide) _).mono ?_; rintro e w' ⟨rfl, rfl⟩)
    | (refine wrap hs ?_; clear hs; intro w hs)
    | (refine wrapn hs ?_; clear hs; intro w hs)
    | (refine wrapd hs ?_; clear hs; intro w hs))
    refine end_ret rfl (results_tmp2 rfl _ _ _) ?_
    exact ⟨rfl, rfl⟩
  · go_enter Try.func21, Try.ntmps21
    go_wp2_with (first
    | (go_at_call 40; refine (later40 _ (by decide) _).mono ?_; rintro e w' ⟨rfl, rfl⟩)
    | (refine wrap hs ?_; clear hs; intro w hs)
    | (refine wrapn hs ?_; clear hs; intro w hs)
    | (refine wrapd hs ?_; clear hs; intro w hs))
    refine end_ret rfl (results_tmp2 rfl _ _ _) ?_
    exact ⟨rfl, rfl⟩
  · go_enter Try.func21, Try.ntmps21
    go_wp2_with (first
    | (go_at_call 40; refine (later40 _ (by decide) _).mono ?_; rintro e w' ⟨rfl, rfl⟩)
    | (refine wrap hs ?_; clear hs; intro w hs)
    | (refine wrapn hs ?_; clear hs; intro w hs)
    | (refine wrapd hs ?_; clear hs; intro w hs))
    refine end_ret rfl (results_tmp2 rfl _ _ _) ?_
    exact ⟨rfl, rfl⟩
  · go_enter Try.func21, Try.ntmps21
    go_wp2_with (first
    | (go_at_call 40; refine (later40 _ (by decide) _).mono ?_; rintro e w' ⟨rfl, rfl⟩)
    | (refine wrap hs ?_; clear hs; intro w hs)
    | (refine wrapn hs ?_; clear hs; intro w hs)
    | (refine wrapd hs ?_; clear hs; intro w hs))
    refine end_ret rfl (results_tmp2 rfl _ _ _) ?_
    exact ⟨rfl, rfl⟩
set_option maxHeartbeats 4000000 in
theorem name21_none (r : Int) (h : noSign r) (w : World) : Calls Try.prog 21 #[.int .i32 r] w fun e w' => e = .returned (.tuple #[.string (nameV r).1, .int .i64 (nameV r).2]) ∧ w' = w := by
  have HN := Lib.hid h
  have n33 : ¬ r = 33 := by unfold noSign at h; omega
  have n34 : ¬ r = 34 := by unfold noSign at h; omega
  have n35 : ¬ r = 35 := by unfold noSign at h; omega
  have n36 : ¬ r = 36 := by unfold noSign at h; omega
  have n37 : ¬ r = 37 := by unfold noSign at h; omega
  have n38 : ¬ r = 38 := by unfold noSign at h; omega
  have n39 : ¬ r = 39 := by unfold noSign at h; omega
  have n40 : ¬ r = 40 := by unfold noSign at h; omega
  have n41 : ¬ r = 41 := by unfold noSign at h; omega
  have n42 : ¬ r = 42 := by unfold noSign at h; omega
  have n43 : ¬ r = 43 := by unfold noSign at h; omega
  have n44 : ¬ r = 44 := by unfold noSign at h; omega
  have n45 : ¬ r = 45 := by unfold noSign at h; omega
  have n46 : ¬ r = 46 := by unfold noSign at h; omega
  have n47 : ¬ r = 47 := by unfold noSign at h; omega
  clear h
  go_enter Try.func21, Try.ntmps21
  go_wp2_with (first
    | (go_at_call 40; refine (later40_none _ HN.out _).mono ?_; rintro e w' ⟨rfl, rfl⟩)
    | (refine wrap hs ?_; clear hs; intro w hs)
    | (refine wrapn hs ?_; clear hs; intro w hs)
    | (refine wrapd hs ?_; clear hs; intro w hs))
  refine end_ret rfl (results_tmp2 rfl _ _ _) ?_
  exact ⟨rfl, rfl⟩
theorem name21 (r : Int) (w : World) : Calls Try.prog 21 #[.int .i32 r] w fun e w' => e = .returned (.tuple #[.string (nameV r).1, .int .i64 (nameV r).2]) ∧ w' = w := by
  by_cases h : noSign r
  · exact name21_none r h w
  · exact name21_some r (by unfold noSign at h; omega) w
end Go.Proofs.Ytjchjdlapacknaa
