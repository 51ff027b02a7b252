/- Law 6: RowBack. -/
import Derived.Test.YteoeeiinngpogaaV26
namespace Go.Proofs.Yteoeeiinngpogaa
open Go.RowKit Go.Mem Go.Cells
variable {W w : World} {H : List HProp}
theorem one4 : oneTy Try.prog 4 = true := by kernel_rfl
attribute [local irreducible] World.setCell World.setCells World.alloc World.drew World.drewN Calls sat cel own blk old wpQuiet wpList cmb cmb1 rwP cls rws wi wh fst_ World.rangeAt nw
theorem rnew9_1 (hs : sat W H w) : Calls Try.prog 9 #[.int .i64 1] w fun e w' => ∃ b, e = .returned (.pointer (some ⟨b, 0, none⟩)) ∧ sat W (rwP 68 b (List.replicate 1 (bC At.z)) :: H) w' := rnew9 (n := 1) (by decide) hs
theorem back4_no {aS : Option Addr} {nS cS : Nat} {cols k m ga gb gf : Int} (h : ¬ (1 ≤ cols ∧ cols ≤ 512)) (hs : sat W H w) : Calls Try.prog 4 #[.int .i64 cols, .slice aS nS cS, .int .i64 k, .int .i64 m, aV ⟨ga, gb, gf⟩] w fun e w' => e = .returned (.bool true) ∧ sat W H w' := by
  have HH := Lib.hid h
  clear h
  go_enter Try.func4, Try.ntmps4
  go_wp2_with (first | (go_at_call 7; refine (new7_no HH.out hs).mono ?_; clear hs; rintro e w ⟨rfl, hs⟩) | (go_at_call 8; refine (known8 hs).mono ?_; clear hs; rintro e w ⟨rfl, hs⟩) | ((with_reducible refine isl ?_); first | ((with_reducible apply stsw hs.b0); exact rfl; exact rfl; exact rfl; exact rfl; exact row33; exact rfl; exact rfl; exact rfl; clear hs; intro w hs) | ((with_reducible apply ld hs.b0); exact rfl; exact rfl; exact rfl; exact rfl; kernel_rfl) | ((with_reducible apply st hs.b0); exact rfl; exact rfl; exact rfl; exact rfl; exact rfl; exact rfl; kernel_rfl; exact rfl; clear hs; intro w hs) | ((with_reducible apply stc hs.b0); exact rfl; exact rfl; exact rfl; exact rfl; exact rfl; kernel_rfl; exact rfl; clear hs; intro w hs) | ((with_reducible refine wrap hs ?_); clear hs; (first | generalize w.heap.size = z5); intro w hs) | ((with_reducible refine wrap hs ?_); clear hs; intro w hs) | ((with_reducible refine wrapn hs ?_); clear hs; intro w hs) | ((with_reducible refine wrapd hs ?_); clear hs; intro w hs)))
  go_ret
  exact ⟨rfl, hs.drop⟩
theorem back4_long {aS : Option Addr} {nS cS c0 : Nat} {k m ga gb gf : Int} (h0 : 1 ≤ c0) (h1 : c0 ≤ 512) (hl : 60 < nS ∨ 100 < c0) (hs : sat W H w) : Calls Try.prog 4 #[.int .i64 (c0 : Int), .slice aS nS cS, .int .i64 k, .int .i64 m, aV ⟨ga, gb, gf⟩] w fun e w' => e = .returned (.bool true) ∧ sat W H w' := by
  by_cases hl1 : 60 < nS
  · have q1 : decide ((60 : Int) < (nS : Int)) = true := decide_eq_true (by omega)
    clear hl
    go_enter Try.func4, Try.ntmps4
    go_wp2_with (first | (go_at_call 7; refine (new7 h0 h1 hs).mono ?_; clear hs; rintro e w ⟨b, rfl, hs⟩) | (go_at_call 8; refine (known8 hs).mono ?_; clear hs; rintro e w ⟨rfl, hs⟩) | ((with_reducible refine isl ?_); first | ((with_reducible apply stsw hs.b0); exact rfl; exact rfl; exact rfl; exact rfl; exact row33; exact rfl; exact rfl; exact rfl; clear hs; intro w hs) | ((with_reducible apply ld hs.b0); exact rfl; exact rfl; exact rfl; exact rfl; kernel_rfl) | ((with_reducible apply st hs.b0); exact rfl; exact rfl; exact rfl; exact rfl; exact rfl; exact rfl; kernel_rfl; exact rfl; clear hs; intro w hs) | ((with_reducible apply stc hs.b0); exact rfl; exact rfl; exact rfl; exact rfl; exact rfl; kernel_rfl; exact rfl; clear hs; intro w hs) | ((with_reducible refine wrap hs ?_); clear hs; (first | generalize w.heap.size = z5); intro w hs) | ((with_reducible refine wrap hs ?_); clear hs; intro w hs) | ((with_reducible refine wrapn hs ?_); clear hs; intro w hs) | ((with_reducible refine wrapd hs ?_); clear hs; intro w hs)))
    go_ret
    exact ⟨rfl, hs.dropN 2⟩
  · have q1 : decide ((60 : Int) < (nS : Int)) = false := decide_eq_false (by omega)
    have q2 : decide ((100 : Int) < (c0 : Int)) = true := decide_eq_true (by omega)
    clear hl hl1
    go_enter Try.func4, Try.ntmps4
    go_wp2_with (first | (go_at_call 7; refine (new7 h0 h1 hs).mono ?_; clear hs; rintro e w ⟨b, rfl, hs⟩) | (go_at_call 8; refine (known8 hs).mono ?_; clear hs; rintro e w ⟨rfl, hs⟩) | ((with_reducible refine isl ?_); first | ((with_reducible apply stsw hs.b0); exact rfl; exact rfl; exact rfl; exact rfl; exact row33; exact rfl; exact rfl; exact rfl; clear hs; intro w hs) | ((with_reducible apply ld hs.b0); exact rfl; exact rfl; exact rfl; exact rfl; kernel_rfl) | ((with_reducible apply st hs.b0); exact rfl; exact rfl; exact rfl; exact rfl; exact rfl; exact rfl; kernel_rfl; exact rfl; clear hs; intro w hs) | ((with_reducible apply stc hs.b0); exact rfl; exact rfl; exact rfl; exact rfl; exact rfl; kernel_rfl; exact rfl; clear hs; intro w hs) | ((with_reducible refine wrap hs ?_); clear hs; (first | generalize w.heap.size = z5); intro w hs) | ((with_reducible refine wrap hs ?_); clear hs; intro w hs) | ((with_reducible refine wrapn hs ?_); clear hs; intro w hs) | ((with_reducible refine wrapd hs ?_); clear hs; intro w hs)))
    go_ret
    exact ⟨rfl, hs.dropN 2⟩
set_option maxHeartbeats 4000000 in
set_option maxRecDepth 8000 in
theorem back4_go {aS : Option Addr} {nS cS c0 : Nat} {l : List Op} {k m ga gb gf : Int} (h0 : 1 ≤ c0) (h1 : c0 ≤ 100) (hl : nS ≤ 60) (S : SR 8 W H aS nS cS (l.map opL)) (hs : sat W H w) : Calls Try.prog 4 #[.int .i64 (c0 : Int), .slice aS nS cS, .int .i64 k, .int .i64 m, aV ⟨ga, gb, gf⟩] w fun e w' => e = .returned (.bool true) ∧ sat W H w' := by
  have q1 : decide ((60 : Int) < (nS : Int)) = false := decide_eq_false (by omega)
  have q2 : decide ((100 : Int) < (c0 : Int)) = false := decide_eq_false (by omega)
  have hn1 : c0 ≤ 512 := by omega
  have hn0 : 0 < c0 := by omega
  have h1000 : c0 ≤ 1000 := by omega
  have HS := Lib.hid S
  have hmax : (nS : Int) ≤ 9223372036854775807 := by omega
  clear S hl h1
  go_enter Try.func4, Try.ntmps4
  go_wp2_with (first | (go_at_call 7; refine (new7 h0 hn1 hs).mono ?_; clear hs; rintro e w ⟨b, rfl, hs⟩) | (go_at_call 9; refine (rnew9_1 hs).mono ?_; clear hs; rintro e w ⟨b2, rfl, hs⟩) | ((with_reducible refine isl ?_); first | ((with_reducible apply stsw hs.b0); exact rfl; exact rfl; exact rfl; exact rfl; exact row33; exact rfl; exact rfl; exact rfl; clear hs; intro w hs) | ((with_reducible apply ld hs.b0); exact rfl; exact rfl; exact rfl; exact rfl; kernel_rfl) | ((with_reducible apply st hs.b0); exact rfl; exact rfl; exact rfl; exact rfl; exact rfl; exact rfl; kernel_rfl; exact rfl; clear hs; intro w hs) | ((with_reducible apply stc hs.b0); exact rfl; exact rfl; exact rfl; exact rfl; exact rfl; kernel_rfl; exact rfl; clear hs; intro w hs) | ((with_reducible refine wrap hs ?_); clear hs; (first | generalize w.heap.size = z5); intro w hs) | ((with_reducible refine wrap hs ?_); clear hs; intro w hs) | ((with_reducible refine wrapn hs ?_); clear hs; intro w hs) | ((with_reducible refine wrapd hs ?_); clear hs; intro w hs)))
  go_loopw [45] (fun i wx => ∃ (i0 : Nat) (ls ms : List C) (qn : Nat), i0 ≤ nS ∧ i = .int .i64 (i0 : Int) ∧ Hid (ls.length = c0) ∧ Hid (Ok ls) ∧ Hid (nw ls) ∧ Hid (ms.length = qn) ∧ Hid (Ok ms) ∧ 0 < qn ∧ qn ≤ 512 ∧ sat W (rwP 55 b ls :: rwP 68 b2 ms :: cel z5 33 (aC ⟨ga, gb, gf⟩) :: H) wx) (fun i _ => ((nS : Int) - intOf i).toNat)
  case atStart => exact ⟨0, _, _, 1, Nat.zero_le _, rfl, Lib.hid (List.length_replicate ..), Lib.hid (Ok.blanks _ _), Lib.hid (nw_rep _ _), Lib.hid (List.length_replicate ..), Lib.hid (Ok.blanks _ _), by omega, by omega, by refine sb_from ?_ hs; repeat constructor⟩
  case round =>
    clear hs
    obtain ⟨i0, ls, ms, qn, hi, rfl, HN, HOK, HNW, HM, HOKM, hq0, hq1, hs⟩ := hrel
    by_cases hin : i0 < nS
    · obtain ⟨⟨kind, col, q, r, wide, ⟨fg, bg, fl⟩⟩, _, g1, o1, rfl, hcc⟩ := HS.out.getm (hs.dropN 3) hin
      have HCC := Lib.hid hcc
      clear hcc
      have hin2 : (i0 : Int) < (nS : Int) := by omega
      by_cases k6 : kind = 6
      · subst k6
        go_wp2_with (first | ((with_reducible refine isl ?_); first | ((with_reducible apply ldsc (cs := opL ⟨6, col, q, r, wide, ⟨fg, bg, fl⟩⟩)); exact rfl; exact rfl; exact rfl; exact HCC.out _ (hs.dropN 3); exact row35) | ((with_reducible refine wrap hs ?_); clear hs; generalize wr.heap.size = z15; intro w hs) | ((with_reducible apply stsw hs.b0); exact rfl; exact rfl; exact rfl; exact rfl; exact row35; exact rfl; exact rfl; exact rfl; clear hs; intro w hs) | ((with_reducible apply ld hs.b0); exact rfl; exact rfl; exact rfl; exact rfl; kernel_rfl) | ((with_reducible apply ld hs.b1); exact rfl; exact rfl; exact rfl; exact rfl; kernel_rfl) | ((with_reducible apply ld hs.b2); exact rfl; exact rfl; exact rfl; exact rfl; kernel_rfl) | ((with_reducible apply ld hs.b3); exact rfl; exact rfl; exact rfl; exact rfl; kernel_rfl) | ((with_reducible apply st hs.b0); exact rfl; exact rfl; exact rfl; exact rfl; exact rfl; exact rfl; kernel_rfl; exact rfl; clear hs; intro w hs) | ((with_reducible apply st hs.b1); exact rfl; exact rfl; exact rfl; exact rfl; exact rfl; exact rfl; kernel_rfl; exact rfl; clear hs; intro w hs) | ((with_reducible apply st hs.b2); exact rfl; exact rfl; exact rfl; exact rfl; exact rfl; exact rfl; kernel_rfl; exact rfl; clear hs; intro w hs) | ((with_reducible apply st hs.b3); exact rfl; exact rfl; exact rfl; exact rfl; exact rfl; exact rfl; kernel_rfl; exact rfl; clear hs; intro w hs) | ((with_reducible apply stc hs.b0); exact rfl; exact rfl; exact rfl; exact rfl; exact rfl; kernel_rfl; exact rfl; clear hs; intro w hs) | ((with_reducible apply stc hs.b1); exact rfl; exact rfl; exact rfl; exact rfl; exact rfl; kernel_rfl; exact rfl; clear hs; intro w hs) | ((with_reducible apply stc hs.b2); exact rfl; exact rfl; exact rfl; exact rfl; exact rfl; kernel_rfl; exact rfl; clear hs; intro w hs) | ((with_reducible apply stc hs.b3); exact rfl; exact rfl; exact rfl; exact rfl; exact rfl; kernel_rfl; exact rfl; clear hs; intro w hs) | ((with_reducible refine wrap hs ?_); clear hs; intro w hs) | ((with_reducible refine wrapn hs ?_); clear hs; intro w hs) | ((with_reducible refine wrapd hs ?_); clear hs; intro w hs)))
        go_roundw
        case rel => exact ⟨i0 + 1, ls, ms, qn, by omega, by go_num, HN, HOK, HNW, HM, HOKM, hq0, hq1, by refine sb_from ?_ hs; repeat constructor⟩
        case measure => simp [intOf]; omega
      · have qe : (kind == 6) = false := beq_eq_false_iff_ne.2 k6
        have qb : decide (kind = 6) = false := decide_eq_false k6
        have qd : (kind != 6) = true := bne_iff_ne.2 k6
        obtain ⟨L2, hL2⟩ : ∃ L, (doG ls ⟨kind, col, q, r, false, ⟨fg, bg, fl⟩⟩).1 = L := ⟨_, rfl⟩
        have HD := Lib.hid hL2
        have HOK2 : Hid (Ok L2) := Lib.hid (by rw [← hL2]; exact doG_ok HOK.out _)
        have HNW2 : Hid (nw L2) := Lib.hid (by rw [← hL2]; exact nw_do HNW.out _ k6 rfl)
        have HN2 : Hid (L2.length = c0) := Lib.hid (by rw [← hL2, doG_len HOK.out, if_neg (fun h => k6 h.1)]; exact HN.out)
        obtain ⟨M2, hM2⟩ : ∃ L, (doG ms ⟨kind, col, q, r, false, ⟨fg, bg, fl⟩⟩).1 = L := ⟨_, rfl⟩
        have HDM := Lib.hid hM2
        have HOKM2 : Hid (Ok M2) := Lib.hid (by rw [← hM2]; exact doG_ok HOKM.out _)
        obtain ⟨q2, hqq⟩ : ∃ q2, M2.length = q2 := ⟨_, rfl⟩
        have hqm : 0 < q2 ∧ q2 ≤ 512 := by
          rw [← hqq, ← hM2, doG_len HOKM.out]
          split
          · simp only at *; omega
          · rw [HM.out]; omega
        obtain ⟨hq20, hq21⟩ := hqm
        have HM2 := Lib.hid hqq
        clear hM2 hqq
        clear hL2
        go_wp2_with (first | (go_at_call 10; refine (do10 (o := ⟨kind, col, q, r, false, ⟨fg, bg, fl⟩⟩) HN.out hn0 hn1 HOK.out HM.out hq0 hq1 HOKM.out (by apply sk_from (hs := hs); repeat constructor)).mono ?_; clear hs; rintro e w ⟨v, rfl, _, hs⟩; rw [HD.out, HDM.out] at hs) | ((with_reducible refine isl ?_); first | ((with_reducible apply ldsc (cs := opL ⟨kind, col, q, r, wide, ⟨fg, bg, fl⟩⟩)); exact rfl; exact rfl; exact rfl; exact HCC.out _ (hs.dropN 3); exact row35) | ((with_reducible apply stc hs.b0); exact rfl; exact rfl; exact rfl; exact rfl; exact rfl; exact one4; exact rfl; clear hs; intro w hs; replace hs : sat W (cel z15 35 (opL ⟨kind, col, q, r, false, ⟨fg, bg, fl⟩⟩) :: rwP 55 b ls :: rwP 68 b2 ms :: cel z5 33 (aC ⟨ga, gb, gf⟩) :: H) w := hs) | ((with_reducible refine wrap hs ?_); clear hs; generalize wr.heap.size = z15; intro w hs) | ((with_reducible apply stsw hs.b0); exact rfl; exact rfl; exact rfl; exact rfl; exact row35; exact rfl; exact rfl; exact rfl; clear hs; intro w hs) | ((with_reducible apply lds 8 hs.b0); exact rfl; exact rfl; exact rfl; exact row35; exact rfl; exact rfl) | ((with_reducible apply lds 8 hs.b1); exact rfl; exact rfl; exact rfl; exact row35; exact rfl; exact rfl) | ((with_reducible apply lds 8 hs.b2); exact rfl; exact rfl; exact rfl; exact row35; exact rfl; exact rfl) | ((with_reducible apply ld hs.b0); exact rfl; exact rfl; exact rfl; exact rfl; kernel_rfl) | ((with_reducible apply ld hs.b1); exact rfl; exact rfl; exact rfl; exact rfl; kernel_rfl) | ((with_reducible apply ld hs.b2); exact rfl; exact rfl; exact rfl; exact rfl; kernel_rfl) | ((with_reducible apply ld hs.b3); exact rfl; exact rfl; exact rfl; exact rfl; kernel_rfl) | ((with_reducible apply st hs.b0); exact rfl; exact rfl; exact rfl; exact rfl; exact rfl; exact rfl; kernel_rfl; exact rfl; clear hs; intro w hs) | ((with_reducible apply st hs.b1); exact rfl; exact rfl; exact rfl; exact rfl; exact rfl; exact rfl; kernel_rfl; exact rfl; clear hs; intro w hs) | ((with_reducible apply st hs.b2); exact rfl; exact rfl; exact rfl; exact rfl; exact rfl; exact rfl; kernel_rfl; exact rfl; clear hs; intro w hs) | ((with_reducible apply st hs.b3); exact rfl; exact rfl; exact rfl; exact rfl; exact rfl; exact rfl; kernel_rfl; exact rfl; clear hs; intro w hs) | ((with_reducible apply stc hs.b0); exact rfl; exact rfl; exact rfl; exact rfl; exact rfl; kernel_rfl; exact rfl; clear hs; intro w hs) | ((with_reducible apply stc hs.b1); exact rfl; exact rfl; exact rfl; exact rfl; exact rfl; kernel_rfl; exact rfl; clear hs; intro w hs) | ((with_reducible apply stc hs.b2); exact rfl; exact rfl; exact rfl; exact rfl; exact rfl; kernel_rfl; exact rfl; clear hs; intro w hs) | ((with_reducible apply stc hs.b3); exact rfl; exact rfl; exact rfl; exact rfl; exact rfl; kernel_rfl; exact rfl; clear hs; intro w hs) | ((with_reducible refine wrap hs ?_); clear hs; intro w hs) | ((with_reducible refine wrapn hs ?_); clear hs; intro w hs) | ((with_reducible refine wrapd hs ?_); clear hs; intro w hs)))
        go_roundw
        case rel => exact ⟨i0 + 1, L2, M2, q2, by omega, by go_num, HN2, HOK2, HNW2, HM2, HOKM2, hq20, hq21, by refine sb_from ?_ hs; repeat constructor⟩
        case measure => simp [intOf]; omega
    · have hge : ¬ (i0 : Int) < (nS : Int) := by omega
      clear hin
      obtain ⟨c, hc⟩ : ∃ c : Nat, (min (max k 0) (c0 : Int)).toNat = c := ⟨_, rfl⟩
      obtain ⟨j, hj⟩ : ∃ j : Nat, (min (max m 0) ((c0 : Int) - (c : Int))).toNat = j := ⟨_, rfl⟩
      have hcI : min (max k 0) (c0 : Int) = (c : Int) := by omega
      have hjI : min (max m 0) ((c0 : Int) - (c : Int)) = (j : Int) := by omega
      have hcj : c + j ≤ c0 := by omega
      obtain ⟨LI, hLI⟩ : ∃ L, insG ls k m ⟨ga, gb, gf⟩ = L := ⟨_, rfl⟩
      obtain ⟨L3, hL3⟩ : ∃ L, delG LI k m ⟨ga, gb, gf⟩ = L := ⟨_, rfl⟩
      have HI := Lib.hid hLI
      have HDL := Lib.hid hL3
      have HNI : Hid (LI.length = c0) := Lib.hid (by rw [← hLI, insR_len _ _ _ _ HOK.out]; exact HN.out)
      have okI : Ok LI := by rw [← hLI]; exact (insert_eq HOK.out _ _ _).2
      have HN3 : Hid (L3.length = c0) := Lib.hid (by rw [← hL3, delR_len _ _ _ _ okI]; exact HNI.out)
      have HOK3 : Hid (Ok L3) := Lib.hid (by rw [← hL3]; exact (delete_eq okI _ _ _).2)
      obtain ⟨d, hd⟩ : ∃ d : Nat, c0 - j = d := ⟨_, rfl⟩
      have HE3 : Hid (L3 = ls.take d ++ List.replicate j (bC (grC ⟨ga, gb, gf⟩))) := Lib.hid (by
        rw [← hL3, ← hLI, ins_del HNW.out k m _ (c := c) (j := j) (by rw [HN.out]; exact hc) (by rw [HN.out]; exact hj), HN.out, hd])
      have hdI : (c0 : Int) - (j : Int) = (d : Int) := by omega
      have hd2 : d ≤ c0 := by omega
      have HTL : Hid ((ls.take d).length = d) := Lib.hid (by rw [List.length_take, HN.out]; omega)
      have HT3 : Hid (L3.take d = ls.take d) := Lib.hid (by rw [HE3.out, List.take_append_of_le_length (by rw [HTL.out]; exact Nat.le_refl _), List.take_of_length_le (by rw [HTL.out]; exact Nat.le_refl _)])
      have HD3 : Hid (L3.drop d = List.replicate j (bC (grC ⟨ga, gb, gf⟩))) := Lib.hid (by rw [HE3.out]; exact List.drop_left' HTL.out)
      have HM4 := Lib.hid HOK.out.m4
      have HM43 := Lib.hid HOK3.out.m4
      have HM4d : Hid (∀ c ∈ ls.take d, c.comb.length ≤ 1000) := Lib.hid fun c hc => by have := HM4.out c (List.mem_of_mem_take hc); omega
      have HB1 : Hid (decide (∀ c ∈ L3.drop (min (max (c0 : Int) 0) (c0 : Int)).toNat, isB c) = true) := Lib.hid (decide_eq_true (by
        rw [List.drop_eq_nil_of_le (by rw [HN3.out]; omega)]
        intro c hc; simp at hc))
      have HB2 : Hid (decide (∀ c ∈ L3.drop (min (max (d : Int) 0) (c0 : Int)).toNat, isB c) = true) := Lib.hid (decide_eq_true (by
        rw [show (min (max (d : Int) 0) (c0 : Int)).toNat = d from by omega, HD3.out]
        intro c hc
        rw [(List.mem_replicate.1 hc).2]
        exact ⟨rfl, rfl, rfl⟩))
      obtain ⟨kp, hkp⟩ : ∃ x : Int, (if k < 0 then 0 else k) = x := ⟨_, rfl⟩
      obtain ⟨mp, hmp⟩ : ∃ x : Int, (if m < 0 then 0 else m) = x := ⟨_, rfl⟩
      have HX1 : Hid ((if (c0 : Int) < kp then (c0 : Int) else kp) = (c : Int)) := Lib.hid (by
        rw [← hkp]
        by_cases hk : k < 0
        · simp only [if_pos hk]; rw [if_neg (by omega)]; omega
        · simp only [if_neg hk]
          by_cases hk2 : (c0 : Int) < k
          · rw [if_pos hk2]; omega
          · rw [if_neg hk2]; omega)
      have HX2 : Hid ((if (c0 : Int) - (c : Int) < mp then (c0 : Int) - (c : Int) else mp) = (j : Int)) := Lib.hid (by
        rw [← hmp]
        by_cases hk : m < 0
        · simp only [if_pos hk]; rw [if_neg (by omega)]; omega
        · simp only [if_neg hk]
          by_cases hk2 : (c0 : Int) - (c : Int) < m
          · rw [if_pos hk2]; omega
          · rw [if_neg hk2]; omega)
      have HKP := Lib.hid hkp
      have HMP := Lib.hid hmp
      have HCI := Lib.hid hcI
      clear hkp hmp
      have HJI := Lib.hid hjI
      have HDI := Lib.hid hdI
      clear hLI hL3 okI hc hj hcI hjI hd hdI
      go_upto_region 16 with (first | (go_at_call 11; refine (cells11 (l := ls) HN.out hn0 (by omega) HM4.out hs).mono ?_; clear hs; rintro e w ⟨a1, pw, rfl, hs⟩) | (go_at_call 13; refine (insert13 (at_ := ⟨ga, gb, gf⟩) HN.out hn0 h1000 (by apply sk_from (hs := hs); repeat constructor)).mono ?_; clear hs; rintro e w ⟨rfl, hs⟩; rw [HI.out] at hs) | (go_at_call 14; refine (delete14 (at_ := ⟨ga, gb, gf⟩) HNI.out hn0 h1000 (by apply sk_from (hs := hs); repeat constructor)).mono ?_; clear hs; rintro e w ⟨rfl, hs⟩; rw [HDL.out] at hs) | (go_at_call 11; refine (cells11 (l := L3) HN3.out hn0 (by omega) HM43.out hs).mono ?_; clear hs; rintro e w ⟨a2, pn, rfl, hs⟩) | ((with_reducible refine isl ?_); first | ((with_reducible apply lds 3 hs.b0); exact rfl; exact rfl; exact rfl; exact row33; exact rfl; exact rfl) | ((with_reducible apply lds 3 hs.b1); exact rfl; exact rfl; exact rfl; exact row33; exact rfl; exact rfl) | ((with_reducible apply lds 3 hs.b2); exact rfl; exact rfl; exact rfl; exact row33; exact rfl; exact rfl) | ((with_reducible apply lds 3 hs.b3); exact rfl; exact rfl; exact rfl; exact row33; exact rfl; exact rfl) | ((with_reducible apply lds 3 hs.b4); exact rfl; exact rfl; exact rfl; exact row33; exact rfl; exact rfl) | ((with_reducible apply ld hs.b0); exact rfl; exact rfl; exact rfl; exact rfl; kernel_rfl) | ((with_reducible apply ld hs.b1); exact rfl; exact rfl; exact rfl; exact rfl; kernel_rfl) | ((with_reducible apply ld hs.b2); exact rfl; exact rfl; exact rfl; exact rfl; kernel_rfl) | ((with_reducible apply ld hs.b3); exact rfl; exact rfl; exact rfl; exact rfl; kernel_rfl) | ((with_reducible apply ld hs.b4); exact rfl; exact rfl; exact rfl; exact rfl; kernel_rfl) | ((with_reducible apply st hs.b0); exact rfl; exact rfl; exact rfl; exact rfl; exact rfl; exact rfl; kernel_rfl; exact rfl; clear hs; intro w hs) | ((with_reducible apply st hs.b1); exact rfl; exact rfl; exact rfl; exact rfl; exact rfl; exact rfl; kernel_rfl; exact rfl; clear hs; intro w hs) | ((with_reducible apply st hs.b2); exact rfl; exact rfl; exact rfl; exact rfl; exact rfl; exact rfl; kernel_rfl; exact rfl; clear hs; intro w hs) | ((with_reducible apply st hs.b3); exact rfl; exact rfl; exact rfl; exact rfl; exact rfl; exact rfl; kernel_rfl; exact rfl; clear hs; intro w hs) | ((with_reducible apply st hs.b4); exact rfl; exact rfl; exact rfl; exact rfl; exact rfl; exact rfl; kernel_rfl; exact rfl; clear hs; intro w hs) | ((with_reducible apply stc hs.b0); exact rfl; exact rfl; exact rfl; exact rfl; exact rfl; kernel_rfl; exact rfl; clear hs; intro w hs) | ((with_reducible apply stc hs.b1); exact rfl; exact rfl; exact rfl; exact rfl; exact rfl; kernel_rfl; exact rfl; clear hs; intro w hs) | ((with_reducible apply stc hs.b2); exact rfl; exact rfl; exact rfl; exact rfl; exact rfl; kernel_rfl; exact rfl; clear hs; intro w hs) | ((with_reducible apply stc hs.b3); exact rfl; exact rfl; exact rfl; exact rfl; exact rfl; kernel_rfl; exact rfl; clear hs; intro w hs) | ((with_reducible apply stc hs.b4); exact rfl; exact rfl; exact rfl; exact rfl; exact rfl; kernel_rfl; exact rfl; clear hs; intro w hs) | ((with_reducible refine wrap hs ?_); clear hs; intro w hs) | ((with_reducible refine wrapn hs ?_); clear hs; intro w hs) | ((with_reducible refine wrapd hs ?_); clear hs; intro w hs)))
      obtain ⟨ks, hks, hs⟩ := cls_open HN3.out hs
      obtain ⟨gn, rfl⟩ := own_ptr hn0 hs
      obtain ⟨ps, hps, hs⟩ := cls_open HN.out (show sat W (cls (.slice a1 c0 pw) ls :: own 41 6 (.slice (some ⟨gn, 0, none⟩) c0 pn) c0 (rws ks).flatten :: cmb ks :: rwP 55 b L3 :: cel z5 33 (aC ⟨ga, gb, gf⟩) :: H) w by refine sb_from ?_ hs; repeat constructor)
      obtain ⟨gw, rfl⟩ := own_ptr hn0 hs
      replace hs : sat W (own 41 6 (.slice (some ⟨gn, 0, none⟩) c0 pn) c0 (rws ks).flatten :: cmb ks :: own 41 6 (.slice (some ⟨gw, 0, none⟩) c0 pw) c0 (rws ps).flatten :: cmb ps :: rwP 55 b L3 :: cel z5 33 (aC ⟨ga, gb, gf⟩) :: H) w := by refine sb_from ?_ hs; repeat constructor
      have hcn := hs.own_len.1
      have hcw := hs.b2.own_len.1
      have HKS : Hid (ks.length = c0 ∧ ks.map (·.c) = L3) := Lib.hid ⟨by rw [← HN3.out, ← hks, List.length_map], hks⟩
      have HPS : Hid (ps.length = c0 ∧ ps.map (·.c) = ls) := Lib.hid ⟨by rw [← HN.out, ← hps, List.length_map], hps⟩
      have HR1 : Hid (RC W (own 41 6 (.slice (some ⟨gn, 0, none⟩) c0 pn) c0 (rws ks).flatten :: cmb ks :: own 41 6 (.slice (some ⟨gw, 0, none⟩) c0 pw) c0 (rws ps).flatten :: cmb ps :: rwP 55 b L3 :: cel z5 33 (aC ⟨ga, gb, gf⟩) :: H) (some ⟨gn, 0, none⟩) d pn (ls.take d)) := Lib.hid (by
        have h := (RC.mk hs).take hd2
        rwa [hks, HT3.out] at h)
      have HR2 : Hid (RC W (own 41 6 (.slice (some ⟨gn, 0, none⟩) c0 pn) c0 (rws ks).flatten :: cmb ks :: own 41 6 (.slice (some ⟨gw, 0, none⟩) c0 pw) c0 (rws ps).flatten :: cmb ps :: rwP 55 b L3 :: cel z5 33 (aC ⟨ga, gb, gf⟩) :: H) (some ⟨gw, 0, none⟩) d pw (ls.take d)) := Lib.hid (by
        have h := (RC.mk (hs.drop.drop)).take hd2
        rw [hps] at h
        exact RC.mono h fun w' h => h.drop.drop)
      clear hks hps
      go_upto_region 18 with fail
      rw [HKP.out, HMP.out, HX1.out, HX2.out]
      have hdI := HDI.out
      have hd3 : (0 : Int) ≤ (d : Int) := by omega
      refine region_mix [([0, 1, 2, 3, 4, 5, 6, 7, 8, 9, 10, 11, 12, 13, 14, 15], [16])] [17, 18] hs (fun _ h => h) (by kernel_rfl) (by kernel_rfl) (fun _ _ _ _ _ h => h) ?_
      simp only [segs, nths, nth, List.append_nil, List.nil_append, List.cons_append, List.map_cons, List.map_nil]
      refine seg_reads (fun _ h => h) ?_; intro X f hne hf hcl; (try simp only [Act.put, List.setIfInBounds_toArray, List.set_cons_succ, List.set_cons_zero]); (repeat ((first | ((with_reducible apply ldq (fun x => (hf x).b0)); exact rfl; exact rfl; exact rfl; exact rfl; kernel_rfl) | go_big_quiet_step (fail)); (try simp only [Act.put, List.setIfInBounds_toArray, List.set_cons_succ, List.set_cons_zero]))); refine wpQuiet_nil ?_; clear hcl hf hne hs f X; intro w hs
      go_wp2_with (first | (go_at_call 15; refine (same15_yes (l := ls.take d) (by omega) HM4d.out HR1.out HR2.out hs).mono ?_; clear hs; rintro e w ⟨rfl, hs⟩) | ((with_reducible refine isl ?_); first | ((with_reducible refine wrap hs ?_); clear hs; intro w hs) | ((with_reducible refine wrapn hs ?_); clear hs; intro w hs) | ((with_reducible refine wrapd hs ?_); clear hs; intro w hs)))
      (first | (refine seg_on hs (by first | exact fun _ h => h | exact fun _ h => h.drop | exact fun _ h => h.drop.drop | exact fun _ h => h.drop.drop.drop) (fun _ h => h) ?_; clear hs; intro hs) | (refine seg_on hs.made (by first | exact fun _ h => h | exact fun _ h => h.drop | exact fun _ h => h.drop.drop | exact fun _ h => h.drop.drop.drop) (fun _ h => h) ?_; clear hs; intro hs) | (refine seg_on hs.drew (by first | exact fun _ h => h | exact fun _ h => h.drop | exact fun _ h => h.drop.drop | exact fun _ h => h.drop.drop.drop) (fun _ h => h) ?_; clear hs; intro hs) | (refine seg_on hs.drew.made (by first | exact fun _ h => h | exact fun _ h => h.drop | exact fun _ h => h.drop.drop | exact fun _ h => h.drop.drop.drop) (fun _ h => h) ?_; clear hs; intro hs) | (refine seg_on (hs.drewN _) (by first | exact fun _ h => h | exact fun _ h => h.drop | exact fun _ h => h.drop.drop | exact fun _ h => h.drop.drop.drop) (fun _ h => h) ?_; clear hs; intro hs))
      refine seg_last (fun _ h => h) ?_; intro X f hne hf hcl; (try simp only [Act.put, List.setIfInBounds_toArray, List.set_cons_succ, List.set_cons_zero]); (repeat ((first | ((with_reducible apply ldq (fun x => (hf x).b0)); exact rfl; exact rfl; exact rfl; exact rfl; kernel_rfl) | go_big_quiet_step (fail)); (try simp only [Act.put, List.setIfInBounds_toArray, List.set_cons_succ, List.set_cons_zero]))); refine wpQuiet_nil ?_; clear hcl hf hne hs f X; intro w hs
      go_wp2_with fail
      go_loopw [20] (fun i wx => ∃ i0 : Nat, d ≤ i0 ∧ i0 ≤ c0 ∧ i = .int .i64 (i0 : Int) ∧ sat W (own 41 6 (.slice (some ⟨gn, 0, none⟩) c0 pn) c0 (rws ks).flatten :: cmb ks :: own 41 6 (.slice (some ⟨gw, 0, none⟩) c0 pw) c0 (rws ps).flatten :: cmb ps :: rwP 55 b L3 :: cel z5 33 (aC ⟨ga, gb, gf⟩) :: H) wx) (fun i _ => ((c0 : Int) - intOf i).toNat)
      case atStart => exact ⟨d, Nat.le_refl _, hd2, rfl, hs⟩
      case round =>
        clear hs HR1 HR2
        obtain ⟨i1, hi1, hi2, rfl, hs⟩ := hrel
        by_cases hin1 : i1 < c0
        · obtain ⟨x, hx⟩ : ∃ x, ks[i1]? = some x := ⟨_, List.getElem?_eq_getElem (by rw [HKS.out.1]; exact hin1)⟩
          have hcx : x.c = bC (grC ⟨ga, gb, gf⟩) := by
            have h1 : L3[i1]? = some x.c := by rw [← HKS.out.2, List.getElem?_map, hx]; rfl
            have h2 : (L3.drop d)[i1 - d]? = some x.c := by rw [List.getElem?_drop, show d + (i1 - d) = i1 from by omega]; exact h1
            rw [HD3.out] at h2
            exact (List.mem_replicate.1 (List.mem_of_getElem? h2)).2
          have HEQ : Hid (decide (x.c = bC (grC ⟨ga, gb, gf⟩)) = true) := Lib.hid (decide_eq_true hcx)
          have HX4 : Hid (x.c.comb.length ≤ 1000) := Lib.hid (by rw [hcx]; exact Nat.zero_le _)
          have HRX : Hid (∀ w', sat W (own 41 6 (.slice (some ⟨gn, 0, none⟩) c0 pn) c0 (rws ks).flatten :: cmb ks :: own 41 6 (.slice (some ⟨gw, 0, none⟩) c0 pw) c0 (rws ps).flatten :: cmb ps :: rwP 55 b L3 :: cel z5 33 (aC ⟨ga, gb, gf⟩) :: H) w' → Reads w' (pcS x) (runes x.c.comb)) := Lib.hid fun w' h => cmb_reads (List.mem_of_getElem? hx) h.drop
          have HX := Lib.hid (rws_get hx)
          have hin3 : (i1 : Int) < (c0 : Int) := by omega
          clear hx hcx
          go_upto_region 23 with fail
          refine region_mix [([0, 1, 2, 3, 4], [5]), ([], [6])] [7] hs (fun _ h => h) (by kernel_rfl) (by kernel_rfl) (fun _ _ _ _ _ h => h) ?_
          simp only [segs, nths, nth, List.append_nil, List.nil_append, List.cons_append, List.map_cons, List.map_nil]
          refine seg_reads (fun _ h => h) ?_; intro X f hne hf hcl; (try simp only [Act.put, List.setIfInBounds_toArray, List.set_cons_succ, List.set_cons_zero]); (repeat ((first | ((with_reducible apply ldorq (fun x => (hf x).b0)); exact rfl; exact rfl; exact rfl; exact HX.out; exact rws6 _; exact row41) | ((with_reducible apply ldsq (cs := aC ⟨ga, gb, gf⟩) 3 (fun x => (hf x).b5)); exact rfl; exact rfl; exact rfl; exact row33; exact rfl; exact rfl) | ((with_reducible apply ldq (fun x => (hf x).b0)); exact rfl; exact rfl; exact rfl; exact rfl; kernel_rfl) | go_big_quiet_step (fail)); (try simp only [Act.put, List.setIfInBounds_toArray, List.set_cons_succ, List.set_cons_zero]))); refine wpQuiet_nil ?_; clear hcl hf hne hs f X; intro w hs
          go_wp2_with (first | (go_at_call 17; refine (clear17 (a := ⟨ga, gb, gf⟩) hs).mono ?_; clear hs; rintro e w ⟨rfl, hs⟩) | (go_at_call 16; refine (samecell16 (c := x.c) (d := bC (grC ⟨ga, gb, gf⟩)) rfl rfl HX4.out HRX.out (fun _ _ => reads_none) hs).mono ?_; clear hs; rintro e w ⟨rfl, hs⟩; rw [HEQ.out]) | ((with_reducible refine isl ?_); first | ((with_reducible refine wrap hs ?_); clear hs; intro w hs) | ((with_reducible refine wrapn hs ?_); clear hs; intro w hs) | ((with_reducible refine wrapd hs ?_); clear hs; intro w hs)))
          (first | (refine seg_on hs (by first | exact fun _ h => h | exact fun _ h => h.drop | exact fun _ h => h.drop.drop | exact fun _ h => h.drop.drop.drop) (fun _ h => h) ?_; clear hs; intro hs) | (refine seg_on hs.made (by first | exact fun _ h => h | exact fun _ h => h.drop | exact fun _ h => h.drop.drop | exact fun _ h => h.drop.drop.drop) (fun _ h => h) ?_; clear hs; intro hs) | (refine seg_on hs.drew (by first | exact fun _ h => h | exact fun _ h => h.drop | exact fun _ h => h.drop.drop | exact fun _ h => h.drop.drop.drop) (fun _ h => h) ?_; clear hs; intro hs) | (refine seg_on hs.drew.made (by first | exact fun _ h => h | exact fun _ h => h.drop | exact fun _ h => h.drop.drop | exact fun _ h => h.drop.drop.drop) (fun _ h => h) ?_; clear hs; intro hs) | (refine seg_on (hs.drewN _) (by first | exact fun _ h => h | exact fun _ h => h.drop | exact fun _ h => h.drop.drop | exact fun _ h => h.drop.drop.drop) (fun _ h => h) ?_; clear hs; intro hs))
          refine seg_reads (fun _ h => h) ?_; intro X f hne hf hcl; (try simp only [Act.put, List.setIfInBounds_toArray, List.set_cons_succ, List.set_cons_zero]); (repeat ((first | ((with_reducible apply ldorq (fun x => (hf x).b0)); exact rfl; exact rfl; exact rfl; exact HX.out; exact rws6 _; exact row41) | ((with_reducible apply ldsq (cs := aC ⟨ga, gb, gf⟩) 3 (fun x => (hf x).b5)); exact rfl; exact rfl; exact rfl; exact row33; exact rfl; exact rfl) | ((with_reducible apply ldq (fun x => (hf x).b0)); exact rfl; exact rfl; exact rfl; exact rfl; kernel_rfl) | go_big_quiet_step (fail)); (try simp only [Act.put, List.setIfInBounds_toArray, List.set_cons_succ, List.set_cons_zero]))); refine wpQuiet_nil ?_; clear hcl hf hne hs f X; intro w hs
          go_wp2_with (first | (go_at_call 17; refine (clear17 (a := ⟨ga, gb, gf⟩) hs).mono ?_; clear hs; rintro e w ⟨rfl, hs⟩) | (go_at_call 16; refine (samecell16 (c := x.c) (d := bC (grC ⟨ga, gb, gf⟩)) rfl rfl HX4.out HRX.out (fun _ _ => reads_none) hs).mono ?_; clear hs; rintro e w ⟨rfl, hs⟩; rw [HEQ.out]) | ((with_reducible refine isl ?_); first | ((with_reducible refine wrap hs ?_); clear hs; intro w hs) | ((with_reducible refine wrapn hs ?_); clear hs; intro w hs) | ((with_reducible refine wrapd hs ?_); clear hs; intro w hs)))
          (first | (refine seg_on hs (by first | exact fun _ h => h | exact fun _ h => h.drop | exact fun _ h => h.drop.drop | exact fun _ h => h.drop.drop.drop) (fun _ h => h) ?_; clear hs; intro hs) | (refine seg_on hs.made (by first | exact fun _ h => h | exact fun _ h => h.drop | exact fun _ h => h.drop.drop | exact fun _ h => h.drop.drop.drop) (fun _ h => h) ?_; clear hs; intro hs) | (refine seg_on hs.drew (by first | exact fun _ h => h | exact fun _ h => h.drop | exact fun _ h => h.drop.drop | exact fun _ h => h.drop.drop.drop) (fun _ h => h) ?_; clear hs; intro hs) | (refine seg_on hs.drew.made (by first | exact fun _ h => h | exact fun _ h => h.drop | exact fun _ h => h.drop.drop | exact fun _ h => h.drop.drop.drop) (fun _ h => h) ?_; clear hs; intro hs) | (refine seg_on (hs.drewN _) (by first | exact fun _ h => h | exact fun _ h => h.drop | exact fun _ h => h.drop.drop | exact fun _ h => h.drop.drop.drop) (fun _ h => h) ?_; clear hs; intro hs))
          refine seg_last (fun _ h => h) ?_; intro X f hne hf hcl; (try simp only [Act.put, List.setIfInBounds_toArray, List.set_cons_succ, List.set_cons_zero]); (repeat ((first | ((with_reducible apply ldorq (fun x => (hf x).b0)); exact rfl; exact rfl; exact rfl; exact HX.out; exact rws6 _; exact row41) | ((with_reducible apply ldsq (cs := aC ⟨ga, gb, gf⟩) 3 (fun x => (hf x).b5)); exact rfl; exact rfl; exact rfl; exact row33; exact rfl; exact rfl) | ((with_reducible apply ldq (fun x => (hf x).b0)); exact rfl; exact rfl; exact rfl; exact rfl; kernel_rfl) | go_big_quiet_step (fail)); (try simp only [Act.put, List.setIfInBounds_toArray, List.set_cons_succ, List.set_cons_zero]))); refine wpQuiet_nil ?_; clear hcl hf hne hs f X; intro w hs
          go_wp2_with fail
          go_roundw
          case rel => exact ⟨i1 + 1, by omega, by omega, by go_num, hs⟩
          case measure => simp [intOf]; omega
        · have hge1 : ¬ (i1 : Int) < (c0 : Int) := by omega
          clear hin1
          replace hs : sat W (rwP 55 b L3 :: H) wr := by refine sb_from ?_ hs; repeat constructor
          go_wp2_with (first | (go_at_call 18; (first | refine (blank18 (k := (c0 : Int)) HN3.out hn0 h1000 hs).mono ?_ | refine (blank18 (k := (d : Int)) HN3.out hn0 h1000 hs).mono ?_); clear hs; rintro e w ⟨rfl, hs⟩; (first | rw [HB1.out] | rw [HB2.out])) | (go_at_call 8; refine (known8 hs).mono ?_; clear hs; rintro e w ⟨rfl, hs⟩) | ((with_reducible refine isl ?_); first | ((with_reducible refine wrap hs ?_); clear hs; intro w hs) | ((with_reducible refine wrapn hs ?_); clear hs; intro w hs) | ((with_reducible refine wrapd hs ?_); clear hs; intro w hs)))
          go_ret
          exact ⟨rfl, hs.drop⟩
end Go.Proofs.Yteoeeiinngpogaa
