/- Law 8: the document's Push. -/
import Derived.Test.YtbaplncifomfnaaL11
namespace Go.Proofs.Ytbaplncifomfnaa
open Go.RowKit Go.Mem Go.Cells Go.Lines
variable {W w : World} {H : List HProp}
theorem own_at0 {T size n c : Nat} {a : Option Addr} {xs : List Value} (h0 : 0 < n) (hs : sat W (own T size (.slice a n c) n xs :: H) w) : n ≤ c ∧ c ≤ maxLen := by
  obtain ⟨g, rfl⟩ := own_ptr h0 hs
  exact hs.own_len
attribute [local irreducible] rowTy oneTy World.setCell World.setCells World.alloc World.drew World.drewN Calls sat cel own blk old wpQuiet wpList cmb cmb1 rwP cls rws wi wh fst_ World.rangeAt lrw lnP stP lsP dsP lvs
set_option maxRecDepth 8000 in
theorem rpush23 {b b2 most m : Nat} {nx id : Int} {L : List LN} {l : List C} (hl : l.length = m) (h0 : 0 < m) (h5 : m ≤ 512) (ok : Ok l) (hid : 1 ≤ id ∧ id < nx) (hm : L.length ≤ most) (hmm : most ≤ 10000) (hs : sat W (dsP b nx most L :: rwP 70 b2 l :: H) w) :
    Calls Try.prog 23 #[.pointer (some ⟨b, 0, none⟩), .int .i64 id, .pointer (some ⟨b2, 0, none⟩)] w fun e w' => e = .returned (.int .i64 0) ∧ sat W (dsP b nx most (push most L (id, l)) :: rwP 70 b2 l :: H) w' := by
  obtain ⟨n, hn⟩ : ∃ n, L.length = n := ⟨_, rfl⟩
  rw [hn] at hm
  obtain ⟨ps, a, c, HO, hs⟩ := ds_open hn hs
  have HLN := Lib.hid hn
  have HLZ : Hid ((lvs ps).flatten.length = n * 2) := Lib.hid (by rw [lvs_size, HO.out.2])
  have H4 := Lib.hid ok.m4
  have HLL := Lib.hid hl
  have g0 : ¬ (m : Int) = 0 := by omega
  have g0' : ((m : Int) == 0) = false := beq_eq_false_iff_ne.2 g0
  have g1 : decide (id < 1) = false := decide_eq_false (by omega)
  have g2 : decide (nx ≤ id) = false := decide_eq_false (by omega)
  obtain ⟨pr, ar, cr, hpr, hs⟩ := rw_open (T := 70) (b := b2) HLL.out (by refine sb_from ?_ hs; repeat constructor : sat W (rwP 70 b2 l :: cel b 74 [.int .i64 nx, .int .i64 most, .slice a n c] :: slP 64 (.slice a n c) n (lvs ps).flatten :: lrw 70 ps :: H) w)
  have HPR : Hid (pr.length = m ∧ pr.map (·.c) = l) := Lib.hid ⟨by rw [← HLL.out, ← hpr, List.length_map], hpr⟩
  clear ok hl hid hn hpr
  go_enter Try.func23, Try.ntmps23
  go_upto_region 3 with (first | ((with_reducible refine isl ?_); first | ((with_reducible apply ld hs.b0); exact rfl; exact rfl; exact rfl; exact rfl; kernel_rfl) | ((with_reducible apply ld hs.b1); exact rfl; exact rfl; exact rfl; exact rfl; kernel_rfl) | ((with_reducible apply ld hs.b2); exact rfl; exact rfl; exact rfl; exact rfl; kernel_rfl) | ((with_reducible apply ld hs.b3); exact rfl; exact rfl; exact rfl; exact rfl; kernel_rfl) | ((with_reducible apply ld hs.b4); exact rfl; exact rfl; exact rfl; exact rfl; kernel_rfl) | ((with_reducible apply st hs.b0); exact rfl; exact rfl; exact rfl; exact rfl; exact rfl; exact rfl; kernel_rfl; exact rfl; clear hs; intro w hs) | ((with_reducible apply st hs.b1); exact rfl; exact rfl; exact rfl; exact rfl; exact rfl; exact rfl; kernel_rfl; exact rfl; clear hs; intro w hs) | ((with_reducible apply st hs.b2); exact rfl; exact rfl; exact rfl; exact rfl; exact rfl; exact rfl; kernel_rfl; exact rfl; clear hs; intro w hs) | ((with_reducible apply st hs.b3); exact rfl; exact rfl; exact rfl; exact rfl; exact rfl; exact rfl; kernel_rfl; exact rfl; clear hs; intro w hs) | ((with_reducible apply st hs.b4); exact rfl; exact rfl; exact rfl; exact rfl; exact rfl; exact rfl; kernel_rfl; exact rfl; clear hs; intro w hs) | ((with_reducible apply stc hs.b0); exact rfl; exact rfl; exact rfl; exact rfl; exact rfl; kernel_rfl; exact rfl; clear hs; intro w hs) | ((with_reducible apply stc hs.b1); exact rfl; exact rfl; exact rfl; exact rfl; exact rfl; kernel_rfl; exact rfl; clear hs; intro w hs) | ((with_reducible apply stc hs.b2); exact rfl; exact rfl; exact rfl; exact rfl; exact rfl; kernel_rfl; exact rfl; clear hs; intro w hs) | ((with_reducible apply stc hs.b3); exact rfl; exact rfl; exact rfl; exact rfl; exact rfl; kernel_rfl; exact rfl; clear hs; intro w hs) | ((with_reducible apply stc hs.b4); exact rfl; exact rfl; exact rfl; exact rfl; exact rfl; kernel_rfl; exact rfl; clear hs; intro w hs) | ((with_reducible refine wrap hs ?_); clear hs; intro w hs) | ((with_reducible refine wrapn hs ?_); clear hs; intro w hs) | ((with_reducible refine wrapd hs ?_); clear hs; intro w hs)))
  have h6 := rw_close HPR.out.1 hs
  rw [HPR.out.2] at h6
  clear hs
  have hs := h6
  clear h6
  have HS : Hid (∀ b3 : Nat, (lvs ps).flatten ++ [.int .i64 id, .pointer (some ⟨b3, 0, none⟩)] = (lvs (ps ++ [⟨id, b3, l⟩])).flatten) := Lib.hid fun b3 => lvs_snoc ps ⟨id, b3, l⟩
  go_upto_region 4 with (first | (first | (apply apx0 hs.b0; exact rfl; exact rfl; exact rfl; exact rfl; exact slty58; (first | exact hs.b0.slP_rds | exact hs.b1.slP_rds | exact hs.b2.slP_rds | exact hs.b3.slP_rds | exact hs.b4.slP_rds | exact hs.b5.slP_rds | exact hs.b6.slP_rds); exact HLZ.out; exact lvs_one; omega; (unfold maxLen; omega); clear hs; intro a5 c5 w hs) | (apply apx0 hs.b1; exact rfl; exact rfl; exact rfl; exact rfl; exact slty58; (first | exact hs.b0.slP_rds | exact hs.b1.slP_rds | exact hs.b2.slP_rds | exact hs.b3.slP_rds | exact hs.b4.slP_rds | exact hs.b5.slP_rds | exact hs.b6.slP_rds); exact HLZ.out; exact lvs_one; omega; (unfold maxLen; omega); clear hs; intro a5 c5 w hs) | (apply apx0 hs.b2; exact rfl; exact rfl; exact rfl; exact rfl; exact slty58; (first | exact hs.b0.slP_rds | exact hs.b1.slP_rds | exact hs.b2.slP_rds | exact hs.b3.slP_rds | exact hs.b4.slP_rds | exact hs.b5.slP_rds | exact hs.b6.slP_rds); exact HLZ.out; exact lvs_one; omega; (unfold maxLen; omega); clear hs; intro a5 c5 w hs)) | (go_at_call 38; refine (rcopy38 HLL.out h0 (by omega) H4.out (by (apply sk_from (hs := hs); repeat constructor))).mono ?_; clear hs; rintro e w ⟨b3, rfl, hs⟩) | (first | ((with_reducible apply app hs.b0); exact rfl; exact rfl; exact rfl; exact rfl; exact slty58; exact rfl; exact rfl; decide; omega; (unfold maxLen; omega); clear hs; intro a9 c9 w hs; rw [HS.out b3] at hs) | ((with_reducible apply app hs.b1); exact rfl; exact rfl; exact rfl; exact rfl; exact slty58; exact rfl; exact rfl; decide; omega; (unfold maxLen; omega); clear hs; intro a9 c9 w hs; rw [HS.out b3] at hs) | ((with_reducible apply app hs.b2); exact rfl; exact rfl; exact rfl; exact rfl; exact slty58; exact rfl; exact rfl; decide; omega; (unfold maxLen; omega); clear hs; intro a9 c9 w hs; rw [HS.out b3] at hs) | ((with_reducible apply app hs.b3); exact rfl; exact rfl; exact rfl; exact rfl; exact slty58; exact rfl; exact rfl; decide; omega; (unfold maxLen; omega); clear hs; intro a9 c9 w hs; rw [HS.out b3] at hs) | ((with_reducible apply app hs.b4); exact rfl; exact rfl; exact rfl; exact rfl; exact slty58; exact rfl; exact rfl; decide; omega; (unfold maxLen; omega); clear hs; intro a9 c9 w hs; rw [HS.out b3] at hs) | ((with_reducible apply app hs.b5); exact rfl; exact rfl; exact rfl; exact rfl; exact slty58; exact rfl; exact rfl; decide; omega; (unfold maxLen; omega); clear hs; intro a9 c9 w hs; rw [HS.out b3] at hs) | ((with_reducible apply app hs.b6); exact rfl; exact rfl; exact rfl; exact rfl; exact slty58; exact rfl; exact rfl; decide; omega; (unfold maxLen; omega); clear hs; intro a9 c9 w hs; rw [HS.out b3] at hs)) | ((with_reducible refine isl ?_); first | ((with_reducible apply ld hs.b0); exact rfl; exact rfl; exact rfl; exact rfl; kernel_rfl) | ((with_reducible apply ld hs.b1); exact rfl; exact rfl; exact rfl; exact rfl; kernel_rfl) | ((with_reducible apply ld hs.b2); exact rfl; exact rfl; exact rfl; exact rfl; kernel_rfl) | ((with_reducible apply ld hs.b3); exact rfl; exact rfl; exact rfl; exact rfl; kernel_rfl) | ((with_reducible apply ld hs.b4); exact rfl; exact rfl; exact rfl; exact rfl; kernel_rfl) | ((with_reducible apply ld hs.b5); exact rfl; exact rfl; exact rfl; exact rfl; kernel_rfl) | ((with_reducible apply ld hs.b6); exact rfl; exact rfl; exact rfl; exact rfl; kernel_rfl) | ((with_reducible apply ld hs.b7); exact rfl; exact rfl; exact rfl; exact rfl; kernel_rfl) | ((with_reducible apply st hs.b0); exact rfl; exact rfl; exact rfl; exact rfl; exact rfl; exact rfl; kernel_rfl; exact rfl; clear hs; intro w hs) | ((with_reducible apply st hs.b1); exact rfl; exact rfl; exact rfl; exact rfl; exact rfl; exact rfl; kernel_rfl; exact rfl; clear hs; intro w hs) | ((with_reducible apply st hs.b2); exact rfl; exact rfl; exact rfl; exact rfl; exact rfl; exact rfl; kernel_rfl; exact rfl; clear hs; intro w hs) | ((with_reducible apply st hs.b3); exact rfl; exact rfl; exact rfl; exact rfl; exact rfl; exact rfl; kernel_rfl; exact rfl; clear hs; intro w hs) | ((with_reducible apply st hs.b4); exact rfl; exact rfl; exact rfl; exact rfl; exact rfl; exact rfl; kernel_rfl; exact rfl; clear hs; intro w hs) | ((with_reducible apply st hs.b5); exact rfl; exact rfl; exact rfl; exact rfl; exact rfl; exact rfl; kernel_rfl; exact rfl; clear hs; intro w hs) | ((with_reducible apply st hs.b6); exact rfl; exact rfl; exact rfl; exact rfl; exact rfl; exact rfl; kernel_rfl; exact rfl; clear hs; intro w hs) | ((with_reducible apply st hs.b7); exact rfl; exact rfl; exact rfl; exact rfl; exact rfl; exact rfl; kernel_rfl; exact rfl; clear hs; intro w hs) | ((with_reducible apply stc hs.b0); exact rfl; exact rfl; exact rfl; exact rfl; exact rfl; kernel_rfl; exact rfl; clear hs; intro w hs) | ((with_reducible apply stc hs.b1); exact rfl; exact rfl; exact rfl; exact rfl; exact rfl; kernel_rfl; exact rfl; clear hs; intro w hs) | ((with_reducible apply stc hs.b2); exact rfl; exact rfl; exact rfl; exact rfl; exact rfl; kernel_rfl; exact rfl; clear hs; intro w hs) | ((with_reducible apply stc hs.b3); exact rfl; exact rfl; exact rfl; exact rfl; exact rfl; kernel_rfl; exact rfl; clear hs; intro w hs) | ((with_reducible apply stc hs.b4); exact rfl; exact rfl; exact rfl; exact rfl; exact rfl; kernel_rfl; exact rfl; clear hs; intro w hs) | ((with_reducible apply stc hs.b5); exact rfl; exact rfl; exact rfl; exact rfl; exact rfl; kernel_rfl; exact rfl; clear hs; intro w hs) | ((with_reducible apply stc hs.b6); exact rfl; exact rfl; exact rfl; exact rfl; exact rfl; kernel_rfl; exact rfl; clear hs; intro w hs) | ((with_reducible apply stc hs.b7); exact rfl; exact rfl; exact rfl; exact rfl; exact rfl; kernel_rfl; exact rfl; clear hs; intro w hs) | ((with_reducible refine wrap hs ?_); clear hs; intro w hs) | ((with_reducible refine wrapn hs ?_); clear hs; intro w hs) | ((with_reducible refine wrapd hs ?_); clear hs; intro w hs)))
  obtain ⟨q1, q2⟩ := own_at0 (by omega) hs.b1
  have hcm : (c9 : Int) ≤ 9223372036854775807 := by unfold maxLen at q2; omega
  clear q2
  have hs1 : sat W (rwP 70 b3 l :: lrw 70 ps :: cel b 74 [.int .i64 nx, .int .i64 most, .slice (some ⟨a9, 0, none⟩) (n + 1) c9] :: own 64 2 (.slice (some ⟨a9, 0, none⟩) (n + 1) c9) (n + 1) (lvs (ps ++ [⟨id, b3, l⟩])).flatten :: rwP 70 b2 l :: H) w := by refine sb_from ?_ hs; repeat constructor
  have hs2 := lrw_snoc (y := ⟨id, b3, l⟩) hs1
  clear hs hs1
  have hs : sat W (cel b 74 [.int .i64 nx, .int .i64 most, .slice (some ⟨a9, 0, none⟩) (n + 1) c9] :: own 64 2 (.slice (some ⟨a9, 0, none⟩) (n + 1) c9) (n + 1) (lvs (ps ++ [⟨id, b3, l⟩])).flatten :: lrw 70 (ps ++ [⟨id, b3, l⟩]) :: rwP 70 b2 l :: H) w := by refine sb_from ?_ hs2; repeat constructor
  clear hs2
  have HL1 : Hid ((ps ++ [(⟨id, b3, l⟩ : PL)]).length = n + 1) := Lib.hid (by rw [List.length_append, HO.out.2]; rfl)
  have HM1 : Hid ((ps ++ [(⟨id, b3, l⟩ : PL)]).map PL.ln = L ++ [(id, l)]) := Lib.hid (by rw [List.map_append, HO.out.1]; rfl)
  generalize ps ++ [(⟨id, b3, l⟩ : PL)] = qs at hs HL1 HM1
  ((try simp only [Act.put, List.setIfInBounds_toArray, List.set_cons_succ, List.set_cons_zero]); refine region_sat hs (by kernel_rfl) (by kernel_rfl) ?_; intro X f hne hf hcl; (repeat ((first | ((with_reducible apply ldq (fun x => (hf x).b0)); exact rfl; exact rfl; exact rfl; exact rfl; kernel_rfl) | ((with_reducible apply ldq (fun x => (hf x).b1)); exact rfl; exact rfl; exact rfl; exact rfl; kernel_rfl) | go_big_quiet_step (fail)); (try simp only [Act.put, List.setIfInBounds_toArray, List.set_cons_succ, List.set_cons_zero]))); refine wpQuiet_nil ?_; clear hcl hf hne hs f X; intro w hs)
  by_cases hc : most < n + 1
  · have g5 : (most : Int) < (n : Int) + 1 := by omega
    have HPU : Hid (push most L (id, l) = (qs.drop 1).map PL.ln) := Lib.hid (by
      unfold push
      rw [if_pos (by rw [List.length_append, HLN.out]; exact hc), List.map_drop, HM1.out])
    have HQ : Hid ((lvs qs).flatten.drop (1 * 2) = (lvs (qs.drop 1)).flatten ∧ (qs.drop 1).length = n) := Lib.hid ⟨by rw [flat_drop _ _ (lvs2 qs), lvs_drop], by rw [List.length_drop, HL1.out]; omega⟩
    clear hc
    go_upto_region 5 with fail
    by_cases hc9 : c9 = 1
    · have hn0 : n = 0 := by omega
      have HN0 := Lib.hid hn0
      clear hn0
      go_wp2_with (first | ((with_reducible refine isl ?_); first | ((with_reducible apply ld hs.b0); exact rfl; exact rfl; exact rfl; exact rfl; kernel_rfl) | ((with_reducible apply ld hs.b1); exact rfl; exact rfl; exact rfl; exact rfl; kernel_rfl) | ((with_reducible apply ld hs.b2); exact rfl; exact rfl; exact rfl; exact rfl; kernel_rfl) | ((with_reducible apply ld hs.b3); exact rfl; exact rfl; exact rfl; exact rfl; kernel_rfl) | ((with_reducible apply st hs.b0); exact rfl; exact rfl; exact rfl; exact rfl; exact rfl; exact rfl; kernel_rfl; exact rfl; clear hs; intro w hs) | ((with_reducible apply st hs.b1); exact rfl; exact rfl; exact rfl; exact rfl; exact rfl; exact rfl; kernel_rfl; exact rfl; clear hs; intro w hs) | ((with_reducible apply st hs.b2); exact rfl; exact rfl; exact rfl; exact rfl; exact rfl; exact rfl; kernel_rfl; exact rfl; clear hs; intro w hs) | ((with_reducible apply st hs.b3); exact rfl; exact rfl; exact rfl; exact rfl; exact rfl; exact rfl; kernel_rfl; exact rfl; clear hs; intro w hs) | ((with_reducible apply stc hs.b0); exact rfl; exact rfl; exact rfl; exact rfl; exact rfl; kernel_rfl; exact rfl; clear hs; intro w hs) | ((with_reducible apply stc hs.b1); exact rfl; exact rfl; exact rfl; exact rfl; exact rfl; kernel_rfl; exact rfl; clear hs; intro w hs) | ((with_reducible apply stc hs.b2); exact rfl; exact rfl; exact rfl; exact rfl; exact rfl; kernel_rfl; exact rfl; clear hs; intro w hs) | ((with_reducible apply stc hs.b3); exact rfl; exact rfl; exact rfl; exact rfl; exact rfl; kernel_rfl; exact rfl; clear hs; intro w hs) | ((with_reducible refine wrap hs ?_); clear hs; intro w hs) | ((with_reducible refine wrapn hs ?_); clear hs; intro w hs) | ((with_reducible refine wrapd hs ?_); clear hs; intro w hs)))
      go_ret
      have h7 := hs.b1.own_slP_none 0 0 (by decide)
      refine ⟨rfl, ?_⟩
      rw [HPU.out]
      have e1 : qs.drop 1 = [] := List.eq_nil_of_length_eq_zero (by rw [HQ.out.2, HN0.out])
      have h8 := lrw_nil (R := 70) h7
      rw [e1]
      refine ds_close (n := 0) (ps := []) (v := .slice (some ⟨a9, 0, none⟩) 0 0) rfl rfl ?_
      have e2 : (lvs []).flatten = [] := by unfold lvs; rfl
      rw [e2]
      have e3 := HN0.out
      have e4 : c9 - 1 = 0 := by omega
      simp only [e3] at h8
      refine sb_from ?_ h8; repeat constructor
    · go_wp2_with (first | ((with_reducible refine isl ?_); first | ((with_reducible apply ld hs.b0); exact rfl; exact rfl; exact rfl; exact rfl; kernel_rfl) | ((with_reducible apply ld hs.b1); exact rfl; exact rfl; exact rfl; exact rfl; kernel_rfl) | ((with_reducible apply ld hs.b2); exact rfl; exact rfl; exact rfl; exact rfl; kernel_rfl) | ((with_reducible apply ld hs.b3); exact rfl; exact rfl; exact rfl; exact rfl; kernel_rfl) | ((with_reducible apply st hs.b0); exact rfl; exact rfl; exact rfl; exact rfl; exact rfl; exact rfl; kernel_rfl; exact rfl; clear hs; intro w hs) | ((with_reducible apply st hs.b1); exact rfl; exact rfl; exact rfl; exact rfl; exact rfl; exact rfl; kernel_rfl; exact rfl; clear hs; intro w hs) | ((with_reducible apply st hs.b2); exact rfl; exact rfl; exact rfl; exact rfl; exact rfl; exact rfl; kernel_rfl; exact rfl; clear hs; intro w hs) | ((with_reducible apply st hs.b3); exact rfl; exact rfl; exact rfl; exact rfl; exact rfl; exact rfl; kernel_rfl; exact rfl; clear hs; intro w hs) | ((with_reducible apply stc hs.b0); exact rfl; exact rfl; exact rfl; exact rfl; exact rfl; kernel_rfl; exact rfl; clear hs; intro w hs) | ((with_reducible apply stc hs.b1); exact rfl; exact rfl; exact rfl; exact rfl; exact rfl; kernel_rfl; exact rfl; clear hs; intro w hs) | ((with_reducible apply stc hs.b2); exact rfl; exact rfl; exact rfl; exact rfl; exact rfl; kernel_rfl; exact rfl; clear hs; intro w hs) | ((with_reducible apply stc hs.b3); exact rfl; exact rfl; exact rfl; exact rfl; exact rfl; kernel_rfl; exact rfl; clear hs; intro w hs) | ((with_reducible refine wrap hs ?_); clear hs; intro w hs) | ((with_reducible refine wrapn hs ?_); clear hs; intro w hs) | ((with_reducible refine wrapd hs ?_); clear hs; intro w hs)))
      go_ret
      have h7 := hs.b1.own_slP_drop (k := 1) (by omega)
      rw [HQ.out.1] at h7
      refine ⟨rfl, ?_⟩
      rw [HPU.out]
      have h8 := lrw_drop 1 (by refine sb_from ?_ h7; repeat constructor : sat W (lrw 70 qs :: cel b 74 [.int .i64 nx, .int .i64 most, .slice (some ⟨a9, 2, none⟩) n (c9 - 1)] :: slP 64 (.slice (some ⟨a9, 1 * 2, none⟩) (n + 1 - 1) (c9 - 1)) (n + 1 - 1) (lvs (qs.drop 1)).flatten :: rwP 70 b2 l :: H) w)
      exact ds_close HQ.out.2 rfl (by refine sb_from ?_ h8; repeat constructor)
  · have g5 : ¬ (most : Int) < (n : Int) + 1 := by omega
    have HPU : Hid (push most L (id, l) = qs.map PL.ln) := Lib.hid (by
      unfold push
      rw [if_neg (by rw [List.length_append, HLN.out]; exact hc), HM1.out])
    clear hc
    go_wp2_with fail
    go_ret
    refine ⟨rfl, ?_⟩
    rw [HPU.out]
    exact ds_close HL1.out rfl (by have h7 := hs.b1.own_slP; refine sb_from ?_ h7; repeat constructor)
theorem rpush23_no {b b2 most m : Nat} {nx id : Int} {L : List LN} {l : List C} (hl : l.length = m) (h0 : 0 < m) (hid : ¬ (1 ≤ id ∧ id < nx)) (hs : sat W (dsP b nx most L :: rwP 70 b2 l :: H) w) :
    Calls Try.prog 23 #[.pointer (some ⟨b, 0, none⟩), .int .i64 id, .pointer (some ⟨b2, 0, none⟩)] w fun e w' => e = .returned (.int .i64 2) ∧ sat W (dsP b nx most L :: rwP 70 b2 l :: H) w' := by
  obtain ⟨n, hn⟩ : ∃ n, L.length = n := ⟨_, rfl⟩
  obtain ⟨ps, a, c, HO, hs⟩ := ds_open hn hs
  have HLL := Lib.hid hl
  have g0 : ¬ (m : Int) = 0 := by omega
  have g0' : ((m : Int) == 0) = false := beq_eq_false_iff_ne.2 g0
  obtain ⟨pr, ar, cr, hpr, hs⟩ := rw_open (T := 70) (b := b2) HLL.out (by refine sb_from ?_ hs; repeat constructor : sat W (rwP 70 b2 l :: cel b 74 [.int .i64 nx, .int .i64 most, .slice a n c] :: slP 64 (.slice a n c) n (lvs ps).flatten :: lrw 70 ps :: H) w)
  have HPR : Hid (pr.length = m ∧ pr.map (·.c) = l) := Lib.hid ⟨by rw [← HLL.out, ← hpr, List.length_map], hpr⟩
  by_cases h1 : id < 1
  · have g1 : decide (id < 1) = true := decide_eq_true h1
    clear hl hid hn hpr
    go_enter Try.func23, Try.ntmps23
    go_wp2_with (first | ((with_reducible refine isl ?_); first | ((with_reducible apply ld hs.b0); exact rfl; exact rfl; exact rfl; exact rfl; kernel_rfl) | ((with_reducible apply ld hs.b1); exact rfl; exact rfl; exact rfl; exact rfl; kernel_rfl) | ((with_reducible apply ld hs.b2); exact rfl; exact rfl; exact rfl; exact rfl; kernel_rfl) | ((with_reducible apply ld hs.b3); exact rfl; exact rfl; exact rfl; exact rfl; kernel_rfl) | ((with_reducible apply ld hs.b4); exact rfl; exact rfl; exact rfl; exact rfl; kernel_rfl) | ((with_reducible apply st hs.b0); exact rfl; exact rfl; exact rfl; exact rfl; exact rfl; exact rfl; kernel_rfl; exact rfl; clear hs; intro w hs) | ((with_reducible apply st hs.b1); exact rfl; exact rfl; exact rfl; exact rfl; exact rfl; exact rfl; kernel_rfl; exact rfl; clear hs; intro w hs) | ((with_reducible apply st hs.b2); exact rfl; exact rfl; exact rfl; exact rfl; exact rfl; exact rfl; kernel_rfl; exact rfl; clear hs; intro w hs) | ((with_reducible apply st hs.b3); exact rfl; exact rfl; exact rfl; exact rfl; exact rfl; exact rfl; kernel_rfl; exact rfl; clear hs; intro w hs) | ((with_reducible apply st hs.b4); exact rfl; exact rfl; exact rfl; exact rfl; exact rfl; exact rfl; kernel_rfl; exact rfl; clear hs; intro w hs) | ((with_reducible apply stc hs.b0); exact rfl; exact rfl; exact rfl; exact rfl; exact rfl; kernel_rfl; exact rfl; clear hs; intro w hs) | ((with_reducible apply stc hs.b1); exact rfl; exact rfl; exact rfl; exact rfl; exact rfl; kernel_rfl; exact rfl; clear hs; intro w hs) | ((with_reducible apply stc hs.b2); exact rfl; exact rfl; exact rfl; exact rfl; exact rfl; kernel_rfl; exact rfl; clear hs; intro w hs) | ((with_reducible apply stc hs.b3); exact rfl; exact rfl; exact rfl; exact rfl; exact rfl; kernel_rfl; exact rfl; clear hs; intro w hs) | ((with_reducible apply stc hs.b4); exact rfl; exact rfl; exact rfl; exact rfl; exact rfl; kernel_rfl; exact rfl; clear hs; intro w hs) | ((with_reducible refine wrap hs ?_); clear hs; intro w hs) | ((with_reducible refine wrapn hs ?_); clear hs; intro w hs) | ((with_reducible refine wrapd hs ?_); clear hs; intro w hs)))
    go_ret
    have h6 := rw_close HPR.out.1 hs
    rw [HPR.out.2] at h6
    exact ⟨rfl, ds_close HO.out.2 HO.out.1 (by refine sb_from ?_ h6; repeat constructor)⟩
  · have g1 : decide (id < 1) = false := decide_eq_false h1
    have g2 : decide (nx ≤ id) = true := decide_eq_true (by omega)
    clear hl hid hn hpr
    go_enter Try.func23, Try.ntmps23
    go_wp2_with (first | ((with_reducible refine isl ?_); first | ((with_reducible apply ld hs.b0); exact rfl; exact rfl; exact rfl; exact rfl; kernel_rfl) | ((with_reducible apply ld hs.b1); exact rfl; exact rfl; exact rfl; exact rfl; kernel_rfl) | ((with_reducible apply ld hs.b2); exact rfl; exact rfl; exact rfl; exact rfl; kernel_rfl) | ((with_reducible apply ld hs.b3); exact rfl; exact rfl; exact rfl; exact rfl; kernel_rfl) | ((with_reducible apply ld hs.b4); exact rfl; exact rfl; exact rfl; exact rfl; kernel_rfl) | ((with_reducible apply st hs.b0); exact rfl; exact rfl; exact rfl; exact rfl; exact rfl; exact rfl; kernel_rfl; exact rfl; clear hs; intro w hs) | ((with_reducible apply st hs.b1); exact rfl; exact rfl; exact rfl; exact rfl; exact rfl; exact rfl; kernel_rfl; exact rfl; clear hs; intro w hs) | ((with_reducible apply st hs.b2); exact rfl; exact rfl; exact rfl; exact rfl; exact rfl; exact rfl; kernel_rfl; exact rfl; clear hs; intro w hs) | ((with_reducible apply st hs.b3); exact rfl; exact rfl; exact rfl; exact rfl; exact rfl; exact rfl; kernel_rfl; exact rfl; clear hs; intro w hs) | ((with_reducible apply st hs.b4); exact rfl; exact rfl; exact rfl; exact rfl; exact rfl; exact rfl; kernel_rfl; exact rfl; clear hs; intro w hs) | ((with_reducible apply stc hs.b0); exact rfl; exact rfl; exact rfl; exact rfl; exact rfl; kernel_rfl; exact rfl; clear hs; intro w hs) | ((with_reducible apply stc hs.b1); exact rfl; exact rfl; exact rfl; exact rfl; exact rfl; kernel_rfl; exact rfl; clear hs; intro w hs) | ((with_reducible apply stc hs.b2); exact rfl; exact rfl; exact rfl; exact rfl; exact rfl; kernel_rfl; exact rfl; clear hs; intro w hs) | ((with_reducible apply stc hs.b3); exact rfl; exact rfl; exact rfl; exact rfl; exact rfl; kernel_rfl; exact rfl; clear hs; intro w hs) | ((with_reducible apply stc hs.b4); exact rfl; exact rfl; exact rfl; exact rfl; exact rfl; kernel_rfl; exact rfl; clear hs; intro w hs) | ((with_reducible refine wrap hs ?_); clear hs; intro w hs) | ((with_reducible refine wrapn hs ?_); clear hs; intro w hs) | ((with_reducible refine wrapd hs ?_); clear hs; intro w hs)))
    go_ret
    have h6 := rw_close HPR.out.1 hs
    rw [HPR.out.2] at h6
    exact ⟨rfl, ds_close HO.out.2 HO.out.1 (by refine sb_from ?_ h6; repeat constructor)⟩
end Go.Proofs.Ytbaplncifomfnaa
